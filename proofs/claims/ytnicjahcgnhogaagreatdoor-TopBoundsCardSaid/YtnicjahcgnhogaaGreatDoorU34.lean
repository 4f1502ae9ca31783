/- Part 35 of the walk: contracts of the program's functions, each for every input. No condition. -/
import Derived.Test.YtnicjahcgnhogaaGreatDoorU33
set_option linter.unusedVariables false
set_option linter.unusedSimpArgs false
set_option maxRecDepth 100000
set_option maxHeartbeats 8000000
namespace Go.Proofs.YtnicjahcgnhogaaGreatDoor
open Go Go.RowKit Go.Calli Go.Dskp Go.Maps
attribute [local irreducible] wpStill wpAnyH wpAnyS wpList Code.wp
theorem Jr(X:Fx)(Y:Yx)(B:Bk)(K:Nat)(hK:K≤470000)(σ:Own)(rb:Nat)(sh:Envp.Sh)(M:Nat×Nat)(f:Fe)(a:Ac)(ha:a.Wf)(w:World)(h:aN X σ w B K f)(hr:eU X Y σ w rb sh M):Calls Tryz.prog 68 #[.pointer (some ⟨rb,0,none⟩),.agg (acA a)] w (Aq X Y B K σ rb f a w):=by
 by_cases h7:a.k=7
 ·exact EO X Y B K hK σ rb sh M f a h7 w h hr
 by_cases h8:a.k=8
 ·exact EN X Y B K hK σ rb sh M f a ha (.inl h8) w h hr
 by_cases h9:a.k=9
 ·exact EN X Y B K hK σ rb sh M f a ha (.inr (.inl h9)) w h hr
 by_cases I:a.k=10
 ·exact EN X Y B K hK σ rb sh M f a ha (.inr (.inr I)) w h hr
 exact EL X Y B K hK σ rb f a h7 h8 h9 I w h
theorem feB_flt{K:Nat}{f:Fe}(h:FeB K f)(a:Ac):FeB (K+1) (lM f a):=by
 have h1:(lM f a).fr=f.fr∧(lM f a).lo=f.lo:=by
  unfold lM
  split
  ·exact⟨rfl,rfl⟩
  ·split
   ·exact⟨rfl,rfl⟩
   ·split
    ·exact⟨rfl,rfl⟩
    ·split<;>exact⟨rfl,rfl⟩
 have h2:=h.f0;have h3:=h.f1;have h4:=h.l0;have h5:=h.l1
 exact⟨by rw[h1.1];exact h2,by rw[h1.1];omega,by rw[h1.2];exact h4,by rw[h1.2];omega⟩
theorem GZ(a:Ac):(Tryz.prog.info? 40).map (·.size)=some (acA a).size:=af
theorem tlA_one(t:Tl)(h1:t.ov.oneCell'=true)(h2:t.lv.oneCell'=true)(h3:t.ev.oneCell'=true):(tlA t).all (·.oneCell')=true:=all_oneCell_toArray (cs:=[.int .i64 t.err,.int .i64 t.n,t.ov,t.lv,t.ev,.int .i64 t.fr,.int .i64 t.rd]) (fun v hv=>by
 simp only[List.mem_cons,List.not_mem_nil,or_false] at hv
 rcases hv with rfl | rfl | rfl | rfl | rfl | rfl | rfl
 ·rfl
 ·rfl
 ·exact h1
 ·exact h2
 ·exact h3
 ·rfl
 ·rfl)
theorem fltT_q(f:Fe)(a:Ac): ∃c n,mg f a=qT c n:=by
 unfold mg
 split
 ·exact⟨_,_,rfl⟩
 ·split
  ·exact⟨_,_,rfl⟩
  ·split
   ·exact⟨_,_,rfl⟩
   ·split<;>exact⟨_,_,rfl⟩
theorem doE_any(X:Fx)(Y:Yx)(B:Bk)(K:Nat)(hK:K≤470000)(σ:Own)(rb:Nat)(s:Rs)(a:Ac)(ha:a.Wf)(h1:a.k≠1)(h2:a.k≠2)(h3:a.k≠3)(h4:a.k≠4)(h5:a.k≠5)(h6:a.k≠6)(J:a.k≠11)(R:a.k≠12)(M:Nat×Nat)(w:World)(h:aN X σ w B K s.f)(hB:FeB K s.f)(hy:YIs X Y B K σ w s.y)(hr:eU X Y σ w rb s.sh M):Calls Tryz.prog 26 #[.pointer (some ⟨rb,0,none⟩),.agg (acA a)] w (DoP X Y B K σ rb s a M w):=by
 have hS:=gJ (X:=X) (Y:=Y) a h hy hr
 obtain⟨c0,n0,hq⟩:=fltT_q s.f a
 have hA:dS B Y a s {s with f:=lM s.f a} (qT c0 n0) [] ⟨[],[]⟩:=by
  unfold dS
  rw[if_neg h6]
  refine⟨rfl,?_⟩
  rw[if_neg h1,if_neg h2,if_neg h3,if_neg h4,if_neg h5,if_neg J,if_neg R]
  exact⟨rfl,hq.symm⟩
 have HS:=MI hS
 have HC:=MI (fun W h hr=>Jr X Y B K hK (aG σ w.heap.size (w.heap.size+2) 3) rb s.sh M s.f a ha W h hr)
 have HT:=MI (fun(W w2 W':World)(σ2:Own)(hS:DoS X Y B K σ rb s a M w W) hE hF hY hk I=>hS.cmd2 (w2:=w2) (W':=W') (σ2:=σ2) (s':={s with f:=lM s.f a}) (feB_flt hB a) hA hE hF hY rfl hk I)
 unfold Aq at HC
 rw[hq] at HC
 have n1:(a.k==1)=false:=by simpa using h1
 have n2:(a.k==2)=false:=by simpa using h2
 have n3:(a.k==3)=false:=by simpa using h3
 have n4:(a.k==4)=false:=by simpa using h4
 have n5:(a.k==5)=false:=by simpa using h5
 have n6:(a.k==6)=false:=by simpa using h6
 have n11:(a.k==11)=false:=by simpa using J
 have n12:(a.k==12)=false:=by simpa using R
 have o:=GZ a
 have U:=tl_info (qT c0 n0)
 have A0:=tlA_one (qT c0 n0) rfl rfl rfl
 clear h hy hr hS hA hq h1 h2 h3 h4 h5 h6 J R
 unfold tlA qT at HS
 go_enter Tryz.func26,Tryz.ntmps26
 go_upto_region 1 with fail
 generalize (w.alloc (.cells (acA a) 40)).alloc (.cells #[(),(),.slice none 0 0,.slice none 0 0,.slice none 0 0,(),()] 37)=W at*
 have b0:W.cell? ⟨w.heap.size,0,none⟩=some (.int .i64 a.k):=(LZ HS.out.box).trans rfl
 have A1:=HS.out.box
 go_wp2_with (first
  | (with_reducible refine MC 40 3 ?_;refine wpList_load_row rfl 40 (.tmp 3) rfl w.heap.size rfl 40 _ (0,0) _ A1 Tryz.underlying40 rfl o ?_)
  | (go_at_call 68;refine(HC.out _ HS.out.fe HS.out.rk).mono ?_;rintro e w2 ⟨σ2,rfl,hE,A2,I⟩;have j:=I.heap HS.out.tl (fun e=>by rw[aX σ 3 aa aa] at e;cases e))
  | (with_reducible refine MF 37 4 9 ?_;refine wpList_store_row rfl 37 (.tmp 4) (.tmp 9) rfl (w.heap.size+1) (tlA (qT c0 n0)) rfl rfl 37 _ j U rfl A0 ?_))
 have A3:=(HS.out.ys.ext hE).keep I (fun k e hl=>by rw[hE k hl,e];decide)
 exact bodyPost_ret (results_cell_row rfl _ _ (w.heap.size+1) 37 _ (0,0) _ rfl (setRow_heap _ _ _ _ _ _ j) Tryz.underlying37 rfl U) rfl (HT.out W w2 _ σ2 HS.out hE A2 (A3.up aa) (I.mono fun k _ e=>.inl e) (aK _ _ _))
end Go.Proofs.YtnicjahcgnhogaaGreatDoor
namespace Go.Proofs.YtnicjahcgnhogaaGreatDoor
open Go Go.RowKit Go.Calli
attribute [local irreducible] wpStill wpAnyH wpAnyS wpList Code.wp
def rkA(p0 p1 p2 p3:Value)(x:Envp.Sh)(tv:Value):Array Value:=#[p0,p1,p2,p3,.int .i64 x.a,.int .i64 x.d,.int .i64 x.s,.int .i64 x.r,tv]
def pJ(a:Ac):Envp.Sh:=⟨a.n,a.n,a.x,a.m⟩
def KeyP(p0 p1 p2 p3 tv:Value)(rb:Nat)(x:Envp.Sh)(a:Ac)(w:World)(e:Ending)(w':World):Prop:=e= .returned (.int .i64 (if Nv.okB (pJ a)=true then 0 else 1))∧w'.heap[rb]? =some (.cells (rkA p0 p1 p2 p3 (if Nv.okB (pJ a)=true then pJ a else x) tv) 49 (0,0))∧ag (fun k=>k=rb) w w'
theorem okB_ok{x:Envp.Sh}(h:Nv.okB x=true):x.Ok:=by
 unfold Nv.okB at h
 simp only[decide_eq_true_eq] at h
 exact h
theorem key_any(p0 p1 p2 p3 tv:Value)(rb:Nat)(x:Envp.Sh)(a:Ac)(w:World)(h:w.heap[rb]? =some (.cells (rkA p0 p1 p2 p3 x tv) 49 (0,0))):Calls Tryz.prog 66 #[.pointer (some ⟨rb,0,none⟩),.agg (acA a)] w (KeyP p0 p1 p2 p3 tv rb x a w):=by
 have j:=ae w (.cells (acA a) 40)
 have A0:=L9 w (.cells (acA a) 40)
 have HR:=MI (fun w=>Nv.xY (pJ a) w)
 unfold Nv.O7 at HR
 have A1:=MI j
 have A5:=MI (cZ h j (L8 h))
 have A2:=L8 h
 have HH:=MI h
 have A6:rb≠w.heap.size:=aa
 obtain⟨b0,b1,b2,b3,b4,b5,b6⟩:=aY A0
 unfold KeyP
 generalize hq:Nv.okB (pJ a)=q at*
 have HQ:=MI hq
 have A3:pJ a=⟨a.n,a.n,a.x,a.m⟩:=rfl
 rw[A3] at HR⊢
 simp only at HR
 obtain⟨ak,av,anm,an,am,ap,ax⟩:=a
 simp only at*
 clear h j A0 A3 hq
 go_enter Tryz.func66,Tryz.ntmps66
 go_upto_region 2 with fail
 have J:=ji A1.out (.cells #[.int .i64 an,.int .i64 an,.int .i64 ax,.int .i64 am] 46)
 have R:((w.alloc (.cells (acA ⟨ak,av,anm,an,am,ap,ax⟩) 40)).alloc (.cells #[.int .i64 an,.int .i64 an,.int .i64 ax,.int .i64 am] 46)).heap[w.heap.size+1]? =some (.cells #[.int .i64 an,.int .i64 an,.int .i64 ax,.int .i64 am] 46 (0,0)):=by
  have h1:=L9 (w.alloc (.cells (acA ⟨ak,av,anm,an,am,ap,ax⟩) 40)) (.cells #[.int .i64 an,.int .i64 an,.int .i64 ax,.int .i64 am] 46)
  simpa using h1
 have o:(Tryz.prog.info? 46).map (·.size)=some (#[.int .i64 an,.int .i64 an,.int .i64 ax,.int .i64 am]:Array Value).size:=af
 have A4:=MI J
 clear J b0 b1 b2 b3 b4 b5 b6 A1 A5
 generalize (w.alloc (.cells (acA ⟨ak,av,anm,an,am,ap,ax⟩) 40)).alloc (.cells #[.int .i64 an,.int .i64 an,.int .i64 ax,.int .i64 am] 46)=W at*
 cases q with
 | false=>
  go_wp2_with (first
   | (with_reducible refine MC 46 5 ?_;refine wpList_load_row rfl 46 (.tmp 5) rfl (w.heap.size+1) rfl 46 _ (0,0) _ R Tryz.underlying46 rfl o ?_)
   | (go_at_call 71;refine(HR.out _).mono ?_;rintro e w2 ⟨rfl,J⟩))
  go_ret
  have U:=bD A4.out J
  exact⟨rfl,cZ HH.out U A2,ag.au U Me⟩
 | true=>
  go_wp2_with (first
   | (with_reducible refine MC 46 5 ?_;refine wpList_load_row rfl 46 (.tmp 5) rfl (w.heap.size+1) rfl 46 _ (0,0) _ R Tryz.underlying46 rfl o ?_)
   | (go_at_call 71;refine(HR.out _).mono ?_;rintro e w2 ⟨rfl,J⟩;have R:=cZ R J (L8 R);have U:=bD A4.out J;have I:=cZ HH.out U A2;have t4:w2.cell? ⟨rb,4,none⟩=some (.int .i64 x.a):=LY I rfl;have t5:w2.cell? ⟨rb,5,none⟩=some (.int .i64 x.d):=LY I rfl;have t6:w2.cell? ⟨rb,6,none⟩=some (.int .i64 x.s):=LY I rfl;have t7:w2.cell? ⟨rb,7,none⟩=some (.int .i64 x.r):=LY I rfl;have f4:=frozen_of_row _ _ 4 _ _ I;have f5:=frozen_of_row _ _ 5 _ _ I;have f6:=frozen_of_row _ _ 6 _ _ I;have f7:=frozen_of_row _ _ 7 _ _ I))
  go_ret
  refine⟨rfl,?_,(((((ag.au (S:=fun k=>k=rb) U Me).setCell (p:=⟨rb,4,none⟩) (.inr rfl) _).setCell (p:=⟨rb,5,none⟩) (.inr rfl) _).setCell (p:=⟨rb,6,none⟩) (.inr rfl) _).setCell (p:=⟨rb,7,none⟩) (.inr rfl) _)⟩
  exact(Mc (Mc (Mc (Mc I)))).trans rfl
theorem DoS.key{X:Fx}{Y:Yx}{B:Bk}{K:Nat}{σ:Own}{rb:Nat}{s:Rs}{a:Ac}{M:Nat×Nat}{w W w2 W':World}(h:DoS X Y B K σ rb s a M w W)(hB:FeB K s.f){c:Int}{sh':Envp.Sh}(A1:sh'.Ok)(ha:dS B Y a s {s with sh:=sh'} (qT c 0) [] ⟨[],[]⟩)(A0: ∀tv,(∃xs:List Value,W.heap[rb]? =some (.cells (rkA (.pointer (some ⟨Y.yb,0,none⟩)) (.pointer (some ⟨X.D.bb,0,none⟩)) (.pointer (some ⟨X.A.b,0,none⟩)) (.pointer (some ⟨X.A.cb,0,none⟩)) s.sh tv) 49 (0,0)))→w2.heap[rb]? =some (.cells (rkA (.pointer (some ⟨Y.yb,0,none⟩)) (.pointer (some ⟨X.D.bb,0,none⟩)) (.pointer (some ⟨X.A.b,0,none⟩)) (.pointer (some ⟨X.A.cb,0,none⟩)) sh' tv) 49 (0,0)))(hk:ag (fun k=>k=rb) W w2)(R:ag (fun k=>k=w.heap.size+1) w2 W'):DoP X Y B K σ rb s a M w (.returned (.agg (tlA (qT c 0)))) W':=by
 have hx:=dA σ w.heap.size (w.heap.size+2) 3
 have h3:aG σ w.heap.size (w.heap.size+2) 3 (w.heap.size+1)=3:=aX σ 3 aa aa
 have U:aG σ w.heap.size (w.heap.size+2) 3 rb=3:=h.rk.own
 have I:ag (fun k=>k=rb∨k=w.heap.size+1) W W':=(hk.mono fun k _ e=>.inl e).andThen R (fun i hi e=>.inr e)
 have j: ∀k,(k=rb∨k=w.heap.size+1)→aG σ w.heap.size (w.heap.size+2) 3 k=3:=fun k e=>e.elim (fun e=>e▸U) (fun e=>e▸h3)
 have o:ag (FK σ rb) w W':=(ag.au h.low Me).andThen I (fun i hi e=>by
  rcases e with e | e
  ·exact .inr e
  ·omega)
 obtain⟨tv,xs,g1,g2,g4⟩:=h.rk0.row
 have A2:=L8 g1
 have A3:W.heap[rb]? =some (.cells (rkA (.pointer (some ⟨Y.yb,0,none⟩)) (.pointer (some ⟨X.D.bb,0,none⟩)) (.pointer (some ⟨X.A.b,0,none⟩)) (.pointer (some ⟨X.A.cb,0,none⟩)) s.sh tv) 49 (0,0)):=cZ g1 h.low A2
 have A4:=A0 tv ⟨xs,A3⟩
 have A5:=R.heap A4 aa
 have A6: ∀k,tv.ownBlock=some k→¬(FK σ rb k):=fun k e he=>by
  obtain⟨cs,J⟩:=ah g2 e
  have:=g4 k e
  rcases he with he | he
  ·unfold FR at he;omega
  ·subst he;exact aI g1 J aq rfl
 refine DoP.quiet ha hx ((h.fe.kept (I.mono fun k _ e=>by rw[j k e];exact Nat.le_refl 3)).up aa) (hB.up aa) ((h.ys.keep I (fun k e _=>by rw[j k e];decide)).up aa) ⟨⟨tv,xs,A5,aB g2 o A6,fun b e=>?_⟩,U,A1⟩ o
 obtain⟨cs,J⟩:=ah g2 e
 exact⟨(hx _ (L8 J)).trans (g4 b e).1,(g4 b e).2⟩
theorem Oi(X:Fx)(Y:Yx)(B:Bk)(K:Nat)(σ:Own)(rb:Nat)(s:Rs)(a:Ac)(o:a.k=11)(M:Nat×Nat)(w:World)(h:aN X σ w B K s.f)(hB:FeB K s.f)(hy:YIs X Y B K σ w s.y)(hr:eU X Y σ w rb s.sh M):Calls Tryz.prog 26 #[.pointer (some ⟨rb,0,none⟩),.agg (acA a)] w (DoP X Y B K σ rb s a M w):=by
 have hS:=gJ (X:=X) (Y:=Y) a h hy hr
 have hA:dS B Y a s {s with sh:=(if Nv.okB (pJ a)=true then pJ a else s.sh)} (qT (if Nv.okB (pJ a)=true then 0 else 1) 0) [] ⟨[],[]⟩:=by
  unfold dS
  rw[if_neg aa]
  refine⟨rfl,?_⟩
  rw[if_neg aa,if_neg aa,if_neg aa,if_neg aa,if_neg aa,if_pos o]
  refine⟨?_,rfl⟩
  show _=(if Nv.okB (pJ a)=true then{s with sh:=pJ a} else s)
  split<;>rfl
 have A0:(if Nv.okB (pJ a)=true then pJ a else s.sh).Ok:=by
  split
  ·rename_i hq;exact okB_ok hq
  ·exact hr.sok
 obtain⟨tv,xs,g1,g2,g4⟩:=hr.row
 have HC:=MI (fun W h=>key_any (.pointer (some ⟨Y.yb,0,none⟩)) (.pointer (some ⟨X.D.bb,0,none⟩)) (.pointer (some ⟨X.A.b,0,none⟩)) (.pointer (some ⟨X.A.cb,0,none⟩)) tv rb s.sh a W h)
 have A1:((w.alloc (.cells (acA a) 40)).alloc (.cells (tlA (qT 0 0)) 37)).heap[rb]? =some (.cells (rkA (.pointer (some ⟨Y.yb,0,none⟩)) (.pointer (some ⟨X.D.bb,0,none⟩)) (.pointer (some ⟨X.A.b,0,none⟩)) (.pointer (some ⟨X.A.cb,0,none⟩)) s.sh tv) 49 (0,0)):=cZ g1 hS.low (L8 g1)
 have HS:=MI hS
 have I:=MI A1
 have HT:=MI (fun(W w2 W':World)(hS:DoS X Y B K σ rb s a M w W) A2 hk J=>hS.key (w2:=w2) (W':=W') hB A0 hA A2 hk J)
 unfold KeyP at HC
 generalize (if Nv.okB (pJ a)=true then(0:Int) else 1)=c0 at*
 generalize (if Nv.okB (pJ a)=true then pJ a else s.sh)=sh' at*
 have A5:=GZ a
 have R:(Tryz.prog.info? 37).map (·.size)=some (#[.int .i64 c0,.int .i64 0,.slice none 0 0,.slice none 0 0,.slice none 0 0,.int .i64 0,.int .i64 0]:Array Value).size:=af
 have A3:(#[.int .i64 c0,(),.slice none 0 0,.slice none 0 0,.slice none 0 0,(),()]:Array Value).all (·.oneCell')=true:=by simp[Value.oneCell']
 unfold tlA qT at HS HT I
 clear h hy hr hS hA A1 g1 g2 g4 A0
 go_enter Tryz.func26,Tryz.ntmps26
 go_upto_region 1 with fail
 generalize (w.alloc (.cells (acA a) 40)).alloc (.cells #[(),(),.slice none 0 0,.slice none 0 0,.slice none 0 0,(),()] 37)=W at*
 have b0:W.cell? ⟨w.heap.size,0,none⟩=some (.int .i64 11):=(LZ HS.out.box).trans (by rw[←o];rfl)
 have A6:=HS.out.box
 go_wp2_with (first
  | (with_reducible refine MC 40 3 ?_;refine wpList_load_row rfl 40 (.tmp 3) rfl w.heap.size rfl 40 _ (0,0) _ A6 Tryz.underlying40 rfl A5 ?_)
  | (go_at_call 66;refine(HC.out _ I.out).mono ?_;rintro e w2 ⟨rfl,A4,J⟩;have U:=J.heap HS.out.tl (fun e=>aI I.out HS.out.tl aq e.symm);obtain⟨q0,q1,q2,q3,q4,q5,q6⟩:=aY U;have z0:=frozen_of_row _ _ 0 _ _ U;have j:(w2.setCell ⟨w.heap.size+1,0,none⟩ (.int .i64 c0)).heap[w.heap.size+1]? =some (.cells #[.int .i64 c0,(),.slice none 0 0,.slice none 0 0,.slice none 0 0,(),()] 37 (0,0)):=(Mc U).trans rfl)
  | (with_reducible refine MC 37 4 ?_;refine wpList_load_row rfl 37 (.tmp 4) rfl (w.heap.size+1) rfl 37 _ (0,0) _ j Tryz.underlying37 rfl R ?_)
  | (with_reducible refine MF 37 4 106 ?_;refine wpList_store_row rfl 37 (.tmp 4) (.tmp 106) rfl (w.heap.size+1) _ rfl rfl 37 _ j R rfl A3 ?_))
 refine bodyPost_ret (results_cell_row rfl _ _ (w.heap.size+1) 37 _ (0,0) _ rfl (setRow_heap _ _ _ _ _ _ j) Tryz.underlying37 rfl R) rfl (HT.out _ w2 _ HS.out (fun tv' ht=>?_) J ((aA w2 (w.heap.size+1) 0 _).trans (aK _ _ _)))
 obtain⟨-,ht⟩:=ht
 rw[I.out] at ht
 have:tv=tv':=by
  simp only[Option.some.injEq,Obj.cells.injEq,rkA] at ht
  simpa using ht
 rw[←this]
 exact A4
theorem DoS.ren{X:Fx}{Y:Yx}{B:Bk}{K:Nat}{σ σ2:Own}{rb:Nat}{s s':Rs}{a:Ac}{M:Nat×Nat}{w W w2 W':World}(h:DoS X Y B K σ rb s a M w W){L:Nat}(hL:L=K+1+16*Y.n*dM a)(hB:FeB L s'.f){t:Tl}{O:List (Int×Int)}{r:Rp}(ha:dS B Y a s s' t O r)(hE:Ext (aG σ w.heap.size (w.heap.size+2) 3) σ2 W.heap.size)(hF:aN X σ2 w2 B L s'.f)(hY:YIs X Y B L σ2 w2 s'.y)(o:s'.sh=s.sh){oo:Option Addr}{oc:Nat}(ht:t.ov= .slice oo O.length oc)(hO:bP stV 2 (0,0) w2 oo O.length O)(J: ∀p,oo=some p→σ2 p.block=3∧W.heap.size≤p.block)(hk:ag (FR (aG σ w.heap.size (w.heap.size+2) 3)) W w2)(I:ag (fun k=>k=w.heap.size+1) w2 W'):DoP X Y B K σ rb s a M w (.returned (.agg (tlA t))) W':=by
 have hx:=dA σ w.heap.size (w.heap.size+2) 3
 have hs:=h.low.size
 have A0:=L8 h.tl
 have R:=hx.trans hE hs
 have h3:σ2 (w.heap.size+1)=3:=(hE _ A0).trans (aX σ 3 aa aa)
 have U:ag (FR σ) w W':=((ag.au h.low Me).andThen hk (S:=FR σ) (fun i hi e=>by
  unfold FR at e⊢
  rw[hx i hi] at e
  exact e)).andThen I (S:=FR σ) (fun i hi e=>aa)
 have j:=(h.rk0.ext R).keep U (fun k e hl=>by rw[R k hl];unfold FR at e;omega)
 rw[←o] at j
 subst hL
 exact⟨s',t,O,r,σ2,rfl,ha,R,hF.kept (I.mono fun k _ e=>by rw[e,h3];exact Nat.le_refl 3),hB,hY.keep I (fun k e _=>by rw[e,h3];decide),j,⟨oo,oc,ht,hO.kept I (fun p hp e=>by have:=(J p hp).2;omega),fun p hp=>⟨(J p hp).1,by have:=(J p hp).2;omega⟩⟩,U.mono fun k _ e=>.inl e⟩
theorem AL{w:World}{b:Nat}{v0 v1 v2 v3 v4 v5 v6:Value}(h:w.heap[b]? =some (.cells #[v0,v1,v2,v3,v4,v5,v6] 37 (0,0)))(u0 u2 u3 u4 u5 u6:Value):((((((w.setCell ⟨b,2,none⟩ u2).setCell ⟨b,3,none⟩ u3).setCell ⟨b,4,none⟩ u4).setCell ⟨b,5,none⟩ u5).setCell ⟨b,6,none⟩ u6).setCell ⟨b,0,none⟩ u0).heap[b]? =some (.cells #[u0,v1,u2,u3,u4,u5,u6] 37 (0,0)):=by
 have a2:(w.setCell ⟨b,2,none⟩ u2).heap[b]? =some (.cells #[v0,v1,u2,v3,v4,v5,v6] 37 (0,0)):=(Mc h).trans rfl
 generalize w.setCell ⟨b,2,none⟩ u2=w2 at*
 have a3:(w2.setCell ⟨b,3,none⟩ u3).heap[b]? =some (.cells #[v0,v1,u2,u3,v4,v5,v6] 37 (0,0)):=(Mc a2).trans rfl
 generalize w2.setCell ⟨b,3,none⟩ u3=w3 at*
 have a4:(w3.setCell ⟨b,4,none⟩ u4).heap[b]? =some (.cells #[v0,v1,u2,u3,u4,v5,v6] 37 (0,0)):=(Mc a3).trans rfl
 generalize w3.setCell ⟨b,4,none⟩ u4=w4 at*
 have a5:(w4.setCell ⟨b,5,none⟩ u5).heap[b]? =some (.cells #[v0,v1,u2,u3,u4,u5,v6] 37 (0,0)):=(Mc a4).trans rfl
 generalize w4.setCell ⟨b,5,none⟩ u5=w5 at*
 have a6:(w5.setCell ⟨b,6,none⟩ u6).heap[b]? =some (.cells #[v0,v1,u2,u3,u4,u5,u6] 37 (0,0)):=(Mc a5).trans rfl
 generalize w5.setCell ⟨b,6,none⟩ u6=w6 at*
 exact(Mc a6).trans rfl
theorem uJ(w:World)(b:Nat)(u0 u2 u3 u4 u5 u6:Value)(cs:Array Value):ag (fun k=>k=b) w (((((((w.setCell ⟨b,2,none⟩ u2).setCell ⟨b,3,none⟩ u3).setCell ⟨b,4,none⟩ u4).setCell ⟨b,5,none⟩ u5).setCell ⟨b,6,none⟩ u6).setCell ⟨b,0,none⟩ u0).setRow b cs):=((((((aA w b 2 u2).trans (aA _ b 3 u3)).trans (aA _ b 4 u4)).trans (aA _ b 5 u5)).trans (aA _ b 6 u6)).trans (aA _ b 0 u0)).trans (aK _ _ _)
theorem do6_err(X:Fx)(Y:Yx)(B:Bk)(K:Nat)(σ:Own)(rb:Nat)(s:Rs)(a:Ac)(A0:a.k=6)(hn:a.n<0∨256<a.n)(M:Nat×Nat)(w:World)(h:aN X σ w B K s.f)(hB:FeB K s.f)(hy:YIs X Y B K σ w s.y)(hr:eU X Y σ w rb s.sh M):Calls Tryz.prog 26 #[.pointer (some ⟨rb,0,none⟩),.agg (acA a)] w (DoP X Y B K σ rb s a M w):=by
 have hS:=gJ (X:=X) (Y:=Y) a h hy hr
 have hA:dS B Y a s s (qT 5 0) [] ⟨[],[]⟩:=by
  unfold dS
  rw[if_pos A0]
  exact .inl ⟨hn,rfl,rfl,rfl⟩
 have HS:=MI hS
 have HC:=MI (fun W h1 h2=>ren_err X Y B K (aG σ w.heap.size (w.heap.size+2) 3) s.f s.y a.n hn W h1 h2)
 have HT:=MI (fun(W w2 W':World)(hS:DoS X Y B K σ rb s a M w W) hF hY hk U=>hS.cmd2 (w2:=w2) (W':=W') (s':=s) (hB.up aa) hA (Ext.refl _ _) hF hY rfl hk U)
 clear h hy hr hS hA hn
 obtain⟨ak,av,anm,an,am,ap,ax⟩:=a
 simp only at*
 subst A0
 unfold lG at HC
 unfold tlA qT at HT
 unfold acA tlA qT at HS
 unfold acA
 simp only at*
 go_enter Tryz.func26,Tryz.ntmps26
 go_upto_region 1 with fail
 generalize (w.alloc (.cells #[.int .i64 6,.int .i64 av,.string anm,.int .i64 an,.int .i64 am,.int .i64 ap,.int .i64 ax] 40)).alloc (.cells #[(),(),.slice none 0 0,.slice none 0 0,.slice none 0 0,(),()] 37)=W at*
 obtain⟨b0,b1,b2,b3,b4,b5,b6⟩:=aY HS.out.box
 have I:=MI HS.out.drew
 obtain⟨⟨r0,r1,r2,r3⟩,r4,r5,r6,r7⟩:=I.out.rk.cells
 have j:(Tryz.prog.info? 37).map (·.size)=some (#[.int .i64 5,.int .i64 0,.slice none 0 0,.slice none 0 0,.slice none 0 0,.int .i64 0,.int .i64 0]:Array Value).size:=af
 have A1:(#[.int .i64 5,(),.slice none 0 0,.slice none 0 0,.slice none 0 0,(),()]:Array Value).all (·.oneCell')=true:=by simp[Value.oneCell']
 go_upto_region 14 with fail
 go_region_law (go_simp;go_at_call 15;refine(HC.out _ I.out.fe I.out.ys).mono ?_;rintro e w2 ⟨rfl,R⟩;have U:ag (FR (aG σ w.heap.size (w.heap.size+2) 3)) W.drew w2:=ag.au R Me;have J:=cZ I.out.tl R (L8 I.out.tl);have A2:=(I.out.fe.aj R).up (L:=K+1) aa;have A3:=(I.out.ys.aj R).up (L:=K+1) aa;obtain⟨q0,q1,q2,q3,q4,q5,q6⟩:=aY J;have z0:=frozen_of_row _ _ 0 _ _ J;have z2:=frozen_of_row _ _ 2 _ _ J;have z3:=frozen_of_row _ _ 3 _ _ J;have z4:=frozen_of_row _ _ 4 _ _ J;have z5:=frozen_of_row _ _ 5 _ _ J;have z6:=frozen_of_row _ _ 6 _ _ J;have o:=AL J (.int .i64 5) (.slice none 0 0) (.slice none 0 0) (.slice none 0 0) (.int .i64 0) (.int .i64 0))
 all_goals go_wp2_with (first
  | (with_reducible refine MC 37 4 ?_;refine wpList_load_row rfl 37 (.tmp 4) rfl (w.heap.size+1) rfl 37 _ (0,0) _ o Tryz.underlying37 rfl j ?_)
  | (with_reducible refine MF 37 4 106 ?_;refine wpList_store_row rfl 37 (.tmp 4) (.tmp 106) rfl (w.heap.size+1) _ rfl rfl 37 _ o j rfl A1 ?_))
 all_goals exact bodyPost_ret (results_cell_row rfl _ _ (w.heap.size+1) 37 _ (0,0) _ rfl (setRow_heap _ _ _ _ _ _ o) Tryz.underlying37 rfl j) rfl (HT.out _ w2 _ I.out A2 A3 U (uJ _ _ _ _ _ _ _ _ _))
theorem do6_any(X:Fx)(Y:Yx)(B:Bk)(K:Nat)(hK:K≤400000)(A5:Y.n≤16)(σ:Own)(rb:Nat)(s:Rs)(a:Ac)(U:a.k=6)(n:Nat)(A2:a.n=(n:Int))(hn:n≤256)(M:Nat×Nat)(w:World)(h:aN X σ w B K s.f)(hB:FeB K s.f)(hy:YIs X Y B K σ w s.y)(hr:eU X Y σ w rb s.sh M):Calls Tryz.prog 26 #[.pointer (some ⟨rb,0,none⟩),.agg (acA a)] w (DoP X Y B K σ rb s a M w):=by
 have hS:=gJ (X:=X) (Y:=Y) a h hy hr
 have A3:dM a=n:=by unfold dM;rw[if_pos ⟨U,aa,aa⟩];omega
 have hA:Hid (∀(f':Fe)(y':Ye)(t:Tl)(O:List (Int×Int))(r:Rp),RenT B Y.n s ⟨f',y',s.sh⟩ n t O r→dS B Y a s ⟨f',y',s.sh⟩ t O r):=fun f' y' t O r hh=>by
  unfold dS
  rw[if_pos U]
  exact .inr ⟨aa,aa,by rw[A2,Int.toNat_natCast];exact hh⟩
 have HS:=MI hS
 have HC:=MI (fun W h1 h2=>uY X Y B K A5 (aG σ w.heap.size (w.heap.size+2) 3) s.f hB s.y n hn aa W h1 h2)
 unfold RenP at HC
 have HT:Hid (∀(W w2 W':World)(σ2:Own)(f':Fe)(y':Ye)(r:Rp)(O:List (Int×Int))(oo lo eo:Option Addr)(oc lc ec:Nat),DoS X Y B K σ rb s a M w W→O.length=n→uq B Y.n s.f s.y n f' y' r O→Ext (aG σ w.heap.size (w.heap.size+2) 3) σ2 W.heap.size→aN X σ2 w2 B (K+16*Y.n*n) f'→FeB (K+16*Y.n*n) f'→YIs X Y B (K+16*Y.n*n) σ2 w2 y'→bP stV 2 (0,0) w2 oo O.length O→(∀p,oo=some p→σ2 p.block=3∧W.heap.size≤p.block)→ag (FR (aG σ w.heap.size (w.heap.size+2) 3)) W w2→ag (fun k=>k=w.heap.size+1) w2 W'→DoP X Y B K σ rb s a M w (.returned (.agg #[(),(),.slice oo O.length oc,.slice lo r.lost.length lc,.slice eo r.ended.length ec,.int .i64 (f'.fr - s.f.fr),.int .i64 (f'.c.d.r - s.f.c.d.r)])) W'):=fun W w2 W' σ2 f' y' r O oo lo eo oc lc ec hS hl hR hE hF j hY hO o hk R=>hS.ren (L:=K+1+16*Y.n*n) (t:=⟨0,0,.slice oo O.length oc,.slice lo r.lost.length lc,.slice eo r.ended.length ec,f'.fr - s.f.fr,f'.c.d.r - s.f.c.d.r⟩) (s':=⟨f',y',s.sh⟩) (by rw[A3]) (j.up aa) (hA.out f' y' _ O r ⟨hR,hl,rfl,rfl,rfl,⟨oo,oc,rfl⟩,⟨lo,lc,rfl⟩,⟨eo,ec,rfl⟩,rfl,rfl⟩) hE (hF.up aa) (hY.up aa) rfl rfl hO o hk R
 clear h hy hr hS hA A3
 obtain⟨ak,av,anm,an,am,ap,ax⟩:=a
 simp only at*
 subst U
 subst A2
 unfold acA tlA qT at HS
 unfold acA
 simp only at*
 go_enter Tryz.func26,Tryz.ntmps26
 go_upto_region 1 with fail
 generalize (w.alloc (.cells #[.int .i64 6,.int .i64 av,.string anm,.int .i64 (n:Int),.int .i64 am,.int .i64 ap,.int .i64 ax] 40)).alloc (.cells #[(),(),.slice none 0 0,.slice none 0 0,.slice none 0 0,(),()] 37)=W at*
 obtain⟨b0,b1,b2,b3,b4,b5,b6⟩:=aY HS.out.box
 have J:=MI HS.out.drew
 obtain⟨⟨r0,r1,r2,r3⟩,r4,r5,r6,r7⟩:=J.out.rk.cells
 go_upto_region 14 with fail
 go_region_law (go_simp;go_at_call 15;refine(HC.out _ J.out.fe J.out.ys).mono ?_;rintro e w2 ⟨f',y',r,O,oo,lo,eo,oc,lc,ec,σ2,rfl,A4,hR,hE,hF,j,hY,hO,o,R⟩;have A7:=MI A4;clear A4;have I:=R.heap J.out.tl (fun e=>by unfold FR at e;rw[aX σ 3 aa aa] at e;omega);obtain⟨q0,q1,q2,q3,q4,q5,q6⟩:=aY I;have z0:=frozen_of_row _ _ 0 _ _ I;have z2:=frozen_of_row _ _ 2 _ _ I;have z3:=frozen_of_row _ _ 3 _ _ I;have z4:=frozen_of_row _ _ 4 _ _ I;have z5:=frozen_of_row _ _ 5 _ _ I;have z6:=frozen_of_row _ _ 6 _ _ I;have A0:=AL I (.int .i64 0) (.slice oo O.length oc) (.slice lo r.lost.length lc) (.slice eo r.ended.length ec) (.int .i64 (f'.fr - s.f.fr)) (.int .i64 (f'.c.d.r - s.f.c.d.r));have A1:(Tryz.prog.info? 37).map (·.size)=some (#[.int .i64 0,.int .i64 0,.slice oo O.length oc,.slice lo r.lost.length lc,.slice eo r.ended.length ec,.int .i64 (f'.fr - s.f.fr),.int .i64 (f'.c.d.r - s.f.c.d.r)]:Array Value).size:=af;have A6:(#[(),(),.slice oo O.length oc,.slice lo r.lost.length lc,.slice eo r.ended.length ec,.int .i64 (f'.fr - s.f.fr),.int .i64 (f'.c.d.r - s.f.c.d.r)]:Array Value).all (·.oneCell')=true:=(by simp[Value.oneCell']))
 all_goals go_wp2_with (first
  | (with_reducible refine MC 37 4 ?_;refine wpList_load_row rfl 37 (.tmp 4) rfl (w.heap.size+1) rfl 37 _ (0,0) _ A0 Tryz.underlying37 rfl A1 ?_)
  | (with_reducible refine MF 37 4 106 ?_;refine wpList_store_row rfl 37 (.tmp 4) (.tmp 106) rfl (w.heap.size+1) _ rfl rfl 37 _ A0 A1 rfl A6 ?_))
 all_goals exact bodyPost_ret (results_cell_row rfl _ _ (w.heap.size+1) 37 _ (0,0) _ rfl (setRow_heap _ _ _ _ _ _ A0) Tryz.underlying37 rfl A1) rfl (HT.out _ w2 _ σ2 f' y' r O oo lo eo oc lc ec J.out A7.out hR hE hF j hY hO o R (uJ _ _ _ _ _ _ _ _ _))
theorem do_all(X:Fx)(Y:Yx)(B:Bk)(K:Nat)(hK:K≤400000)(R:Y.n≤16)(σ:Own)(rb:Nat)(s:Rs)(a:Ac)(ha:a.Wf)(U:s.y.count+1≤4294967296)(M:Nat×Nat)(w:World)(h:aN X σ w B K s.f)(hB:FeB K s.f)(hy:YIs X Y B K σ w s.y)(hr:eU X Y σ w rb s.sh M):Calls Tryz.prog 26 #[.pointer (some ⟨rb,0,none⟩),.agg (acA a)] w (DoP X Y B K σ rb s a M w):=by
 by_cases h1:a.k=1
 ·cases hf:fG B.dir a.nm with
  | false=>exact do1_no X Y B K σ rb s a h1 hf M w h hB hy hr
  | true=>exact do1_yes X Y B K σ rb s a h1 hf U M w h hB hy hr
 by_cases h2:a.k=2
 ·exact Pi X Y B K σ rb s a (.inl h2) M w h hB hy hr
 by_cases h3:a.k=3
 ·exact Pi X Y B K σ rb s a (.inr (.inl h3)) M w h hB hy hr
 by_cases h4:a.k=4
 ·exact Pi X Y B K σ rb s a (.inr (.inr (.inl h4))) M w h hB hy hr
 by_cases h5:a.k=5
 ·exact Pi X Y B K σ rb s a (.inr (.inr (.inr (.inl h5)))) M w h hB hy hr
 by_cases h6:a.k=6
 ·by_cases hn:a.n<0∨256<a.n
  ·exact do6_err X Y B K σ rb s a h6 hn M w h hB hy hr
  ·exact do6_any X Y B K hK R σ rb s a h6 a.n.toNat aa aa M w h hB hy hr
 by_cases I:a.k=11
 ·exact Oi X Y B K σ rb s a I M w h hB hy hr
 by_cases J:a.k=12
 ·exact Pi X Y B K σ rb s a (.inr (.inr (.inr (.inr J)))) M w h hB hy hr
 exact doE_any X Y B K aa σ rb s a ha h1 h2 h3 h4 h5 h6 I J M w h hB hy hr
theorem rV(X:Fx)(Y:Yx)(w:World)(rb:Nat)(sh:Envp.Sh)(h:RkC X Y w rb sh):Calls Tryz.prog 24 #[.pointer (some ⟨rb,0,none⟩)] w (fun e w'=>e= .returned (.bool false)∧w=w'):=by
 obtain⟨⟨h0,h1,-,-⟩,-⟩:=h
 go_enter Tryz.func24,Tryz.ntmps24
 go_wp2_with fail
 go_ret
 exact⟨rfl,rfl⟩
theorem Ah{B:Bk}{Y:Yx}{a:Ac}{s s':Rs}{t:Tl}{O:List (Int×Int)}{r:Rp}(h:dS B Y a s s' t O r): ∃e n o1 n1 c1 o2 n2 c2 o3 n3 c3 fr rd,t=⟨e,n,.slice o1 n1 c1,.slice o2 n2 c2,.slice o3 n3 c3,fr,rd⟩:=by
 have hq: ∀x y:Int,t=qT x y→∃e n o1 n1 c1 o2 n2 c2 o3 n3 c3 fr rd,t=(⟨e,n,.slice o1 n1 c1,.slice o2 n2 c2,.slice o3 n3 c3,fr,rd⟩:Tl):=fun x y e=>⟨x,y,none,0,0,none,0,0,none,0,0,0,0,e⟩
 unfold dS at h
 split at h
 ·rcases h with⟨-,-,e,-⟩ | ⟨-,-,h⟩
  ·exact hq _ _ e
  ·obtain⟨-,-,-,h1,h2,⟨oo,oc,h3⟩,⟨lo,lc,h4⟩,⟨eo,ec,h5⟩,-,-⟩:=h
   obtain⟨te,tn,tov,tlv,tev,tf,tr⟩:=t
   simp only at*
   subst h3 h4 h5
   exact⟨_,_,_,_,_,_,_,_,_,_,_,_,_,rfl⟩
 ·obtain⟨-,h⟩:=h
  split at h
  ·rcases h with⟨-,-,e⟩ | ⟨-,-,-,-,e⟩<;>exact hq _ _ e
  split at h
  ·exact hq _ _ h.2
  split at h
  ·exact hq _ _ h.2
  split at h
  ·exact hq _ _ h.2
  split at h
  ·exact hq _ _ h.2
  split at h
  ·exact hq _ _ h.2
  split at h
  ·exact hq _ _ h.2
  ·have h2:=h.2
   unfold mg at h2
   split at h2
   ·exact hq _ _ h2
   split at h2
   ·exact hq _ _ h2
   split at h2
   ·exact hq _ _ h2
   split at h2
   ·exact hq _ _ h2
   ·exact hq _ _ h2
def FD(σ:Own)(w:World)(rb k:Nat):Prop:=FR σ k∨k=rb∨(σ k=3∧∃cs,w.heap[k]? =some (.cells cs 37 (0,0)))
def RDoP(X:Fx)(Y:Yx)(B:Bk)(K:Nat)(σ:Own)(rb:Nat)(s:Rs)(a:Ac)(m:Nat)(w:World)(e:Ending)(w':World):Prop:=∃(s':Rs)(t:Tl)(O:List (Int×Int))(r:Rp)(σ':Own),e= .returned (.agg (tlA t))∧dS B Y a s s' t O r∧Ext σ σ' w.heap.size∧aN X σ' w' B (K+1+16*Y.n*dM a) s'.f∧FeB (K+1+16*Y.n*dM a) s'.f∧YIs X Y B (K+1+16*Y.n*dM a) σ' w' s'.y∧eU X Y σ' w' rb s'.sh (m+1,w'.heap.size)∧(∃oo oc,t.ov= .slice oo O.length oc∧bP stV 2 (0,0) w' oo O.length O∧∀p,oo=some p→σ' p.block=3∧w.heap.size≤p.block)∧ag (FD σ w rb) w w'
theorem rdo_fin{X:Fx}{Y:Yx}{B:Bk}{K L:Nat}{σ σ2:Own}{rb:Nat}{s s':Rs}{a:Ac}{m:Nat}{w W w2 w3 w4:World}{t:Tl}{O:List (Int×Int)}{r:Rp}(hL:L=K+1+16*Y.n*dM a)(hW:Below w.heap.size w W)(B3:W.heap.size=w.heap.size+3)(A2:eU X Y σ w rb s.sh (m,w.heap.size))(ha:dS B Y a s s' t O r)(hE:Ext (aG σ w.heap.size (w.heap.size+3) 3) σ2 W.heap.size)(hF:aN X σ2 w2 B L s'.f)(hB:FeB L s'.f)(hY:YIs X Y B L σ2 w2 s'.y)(hR:eU X Y σ2 w2 rb s'.sh (m,w.heap.size)){oo:Option Addr}{oc:Nat}(ho:t.ov= .slice oo O.length oc)(hO:bP stV 2 (0,0) w2 oo O.length O)(I: ∀p,oo=some p→σ2 p.block=3∧W.heap.size≤p.block)(hk:ag (FK (aG σ w.heap.size (w.heap.size+3) 3) rb) W w2)(J:ag (fun k=>k=w.heap.size+2) w2 w3)(A1:LogP X Y σ2 rb s'.sh (m,w.heap.size) w3 (.returned (.tuple #[])) w4):RDoP X Y B K σ rb s a m w (.returned (.agg (tlA t))) w4:=by
 obtain⟨-,A3,R⟩:=A1
 have hx:=dA σ w.heap.size (w.heap.size+3) 3
 have h3:σ2 (w.heap.size+2)=3:=(hE _ aa).trans (aX σ 3 aa aa)
 have B4:rb<w.heap.size:=by obtain⟨tv,xs,g1,-,-⟩:=A2.row;exact L8 g1
 have j:Ext σ σ2 w.heap.size:=fun k hk=>(hE k aa).trans (hx k hk)
 have B1:=J.size
 have B2:=hk.size
 have U:ag (fun k=>3=σ2 k) w3 w4:=R.mono fun k _ e=>by
  rcases e with e | e
  ·rw[e];exact hR.own.symm
  ·exact e.2.1.symm
 have A4:Ext σ2 (aG σ2 w3.heap.size w4.heap.size 3) w3.heap.size:=dA _ _ _ _
 have A5:=hF.kept (J.mono fun k _ e=>by rw[e,h3];exact Nat.le_refl 3)
 have A6:=A5.aG (U.mono fun k _ e=>by rw[←e];exact Nat.le_refl 3) 3
 have A7:=hY.keep J (fun k e _=>by rw[e,h3];decide)
 have A8:=(A7.ext A4).keep U (fun k e hl=>by rw[dW σ2 3 hl,←e];decide)
 have A9:Ext σ (aG σ2 w3.heap.size w4.heap.size 3) w.heap.size:=fun k hk=>(dW σ2 3 aa).trans (j k hk)
 have o:ag (fun k=>FR σ k∨k=rb) w w3:=((ag.au hW Me).andThen hk (S:=fun k=>FR σ k∨k=rb) (fun i hi e=>by
  rcases e with e | e
  ·unfold FR at e⊢
   rw[hx i hi] at e
   exact .inl e
  ·exact .inr e)).andThen J (S:=fun k=>FR σ k∨k=rb) (fun i hi e=>aa)
 subst hL
 refine⟨s',t,O,r,aG σ2 w3.heap.size w4.heap.size 3,rfl,ha,A9,A6,hB,A8,A3,⟨oo,oc,ho,(hO.kept J (fun p hp e=>by have:=(I p hp).2;omega)).kept R (fun p hp e=>by
  have:=(I p hp).2
  rcases e with e | e
  ·omega
  ·have:=e.1
   simp only at this
   omega),fun p hp=>⟨?_,by have:=(I p hp).2;omega⟩⟩,(o.mono fun k _ e=>e.elim .inl (fun e=>.inr (.inl e))).andThen R (fun i hi e=>?_)⟩
 ·by_cases hl:p.block<w3.heap.size
  ·rw[dW σ2 3 hl]
   exact(I p hp).1
  ·unfold aG
   split
   ·rfl
   ·exact(I p hp).1
 ·rcases e with e | ⟨-,e,cs,B0⟩
  ·exact .inr (.inl e)
  ·by_cases A0:i=rb
   ·exact .inr (.inl A0)
   ·rw[j i hi] at e
    refine .inr (.inr ⟨e,cs,?_⟩)
    rw[←o.block i hi (fun h=>by
     rcases h with h | h
     ·unfold FR at h;omega
     ·exact A0 h)]
    exact B0
theorem one_of{w:World}{b T:Nat}{v:Value}(h:w.heap[b]? =some (.cells #[v] T (0,0))):w.cell? ⟨b,0,none⟩=some v:=LY h rfl
structure RDS(X:Fx)(Y:Yx)(B:Bk)(K:Nat)(σ:Own)(rb:Nat)(s:Rs)(a:Ac)(m:Nat)(w W:World):Prop where
 fe:aN X (aG σ w.heap.size (w.heap.size+3) 3) W B K s.f
 ys:YIs X Y B K (aG σ w.heap.size (w.heap.size+3) 3) W s.y
 rk:eU X Y (aG σ w.heap.size (w.heap.size+3) 3) W rb s.sh (m,w.heap.size)
 box:W.heap[w.heap.size]? =some (.cells #[.pointer (some ⟨rb,0,none⟩)] 26 (0,0))
 act:W.heap[w.heap.size+1]? =some (.cells (acA a) 40 (0,0))
 tl:W.heap[w.heap.size+2]? =some (.cells (tlA (qT 0 0)) 37 (0,0))
 low:Below w.heap.size w W
 size:W.heap.size=w.heap.size+3
 rk0:eU X Y σ w rb s.sh (m,w.heap.size)
theorem IA{X:Fx}{Y:Yx}{B:Bk}{K:Nat}{σ:Own}{rb:Nat}{s:Rs}(a:Ac){m β:Nat}{w:World}(h:aN X σ w B K s.f)(hy:YIs X Y B K σ w s.y)(hr:eU X Y σ w rb s.sh (m,β)):RDS X Y B K σ rb s a m w (((w.alloc (.cells #[.pointer (some ⟨rb,0,none⟩)] 26)).alloc (.cells (acA a) 40)).alloc (.cells (tlA (qT 0 0)) 37)):=by
 have R:=ae w (.cells #[.pointer (some ⟨rb,0,none⟩)] 26)
 have U:=ji R (.cells (acA a) 40)
 have I:=ji U (.cells (tlA (qT 0 0)) 37)
 have hx:=dA σ w.heap.size (w.heap.size+3) 3
 have h7:=h.aG (ag.au (S:=fun k=>3≤σ k) I Me) 3
 have J:=mP hr
 have e1:=L9 (w.alloc (.cells #[.pointer (some ⟨rb,0,none⟩)] 26)) (.cells (acA a) 40)
 have e2:=L9 ((w.alloc (.cells #[.pointer (some ⟨rb,0,none⟩)] 26)).alloc (.cells (acA a) 40)) (.cells (tlA (qT 0 0)) 37)
 refine⟨by simpa using h7,(hy.ext hx).aj I,(J.ext hx).aj I,(heap_alloc_old _ _ (by simp;omega)).trans ((heap_alloc_old _ _ ar).trans (L9 w _)),(heap_alloc_old _ _ ar).trans (by simpa using e1),by simpa using e2,I,ar,J⟩
theorem F7(X:Fx)(Y:Yx)(B:Bk)(K:Nat)(hK:K≤400000)(A7:Y.n≤16)(σ:Own)(rb:Nat)(s:Rs)(a:Ac)(ha:a.Wf)(B0:s.y.count+1≤4294967296)(m β:Nat)(hm:m+1≤1000000)(w:World)(h:aN X σ w B K s.f)(hB:FeB K s.f)(hy:YIs X Y B K σ w s.y)(hr:eU X Y σ w rb s.sh (m,β)):Calls Tryz.prog 8 #[.pointer (some ⟨rb,0,none⟩),.agg (acA a)] w (RDoP X Y B K σ rb s a m w):=by
 have hS:=MI (IA a h hy hr)
 have HC:=MI (fun W h1 h2 h3=>do_all X Y B K hK A7 (aG σ w.heap.size (w.heap.size+3) 3) rb s a ha B0 (m,w.heap.size) W h1 hB h2 h3)
 unfold DoP at HC
 have B8: ∀(fn:Fn)(first cap:Array Value)(w:World),(Instr.makeFunc fn first cap).run Tryz.prog w= .ok (.func fn first cap) w:=fun _ _ _ _=>rfl
 have HN:=MI (fun W h=>rV X Y W rb s.sh h)
 have HT:Hid (∀(W w2 w3 w4:World)(σ2:Own)(s':Rs)(t:Tl)(O:List (Int×Int))(r:Rp)(oo:Option Addr)(oc:Nat),RDS X Y B K σ rb s a m w W→dS B Y a s s' t O r→Ext (aG σ w.heap.size (w.heap.size+3) 3) σ2 W.heap.size→aN X σ2 w2 B (K+1+16*Y.n*dM a) s'.f→FeB (K+1+16*Y.n*dM a) s'.f→YIs X Y B (K+1+16*Y.n*dM a) σ2 w2 s'.y→eU X Y σ2 w2 rb s'.sh (m,w.heap.size)→t.ov= .slice oo O.length oc→bP stV 2 (0,0) w2 oo O.length O→(∀p,oo=some p→σ2 p.block=3∧W.heap.size≤p.block)→ag (FK (aG σ w.heap.size (w.heap.size+3) 3) rb) W w2→ag (fun k=>k=w.heap.size+2) w2 w3→LogP X Y σ2 rb s'.sh (m,w.heap.size) w3 (.returned (.tuple #[])) w4→RDoP X Y B K σ rb s a m w (.returned (.agg (tlA t))) w4):=fun W w2 w3 w4 σ2 s' t O r oo oc hS h1 h2 h3 h4 h5 h6 h7 h8 h9 B1 B2 B3=>rdo_fin rfl hS.low hS.size hS.rk0 h1 h2 h3 h4 h5 h6 h7 h8 h9 B1 B2 B3
 clear h hB hy hr
 unfold acA tlA qT at hS
 unfold acA at HC
 unfold acA
 simp only at hS
 go_enter_defers Tryz.func8,Tryz.ntmps8
 go_upto_region 1 with fail
 generalize ((w.alloc (.cells #[.pointer (some ⟨rb,0,none⟩)] 26)).alloc (.cells #[.int .i64 a.k,.int .i64 a.v,.string a.nm,.int .i64 a.n,.int .i64 a.m,.int .i64 a.p,.int .i64 a.x] 40)).alloc (.cells #[(),(),.slice none 0 0,.slice none 0 0,.slice none 0 0,(),()] 37)=W at*
 obtain⟨b0,b1,b2,b3,b4,b5,b6⟩:=aY hS.out.act
 have c0:=one_of hS.out.box
 have R:rb<w.heap.size:=by
  obtain⟨tv,xs,g1,-,-⟩:=hS.out.rk0.row
  exact L8 g1
 have A4: ∀k,w.heap.size≤k→k<w.heap.size+3→¬FK (aG σ w.heap.size (w.heap.size+3) 3) rb k:=fun k h1 h2 e=>by
  rcases e with e | e
  ·unfold FR at e
   rw[aX σ 3 h1 h2] at e
   omega
  ·omega
 have A8:=MI R
 have U:=MI A4
 clear R A4
 go_wp2_with (first
  | (go_at_call 24;refine(HN.out _ hS.out.rk.cells).mono ?_;rintro e w' ⟨rfl,rfl⟩)
  | (go_at_call 26;refine(HC.out _ hS.out.fe hS.out.ys hS.out.rk).mono ?_;rintro e w2 ⟨s',t,O,r,σ2,rfl,hA,hE,hF,B4,hY,hR,⟨oo,oc,A5,hO,B5⟩,hk⟩;obtain⟨e0,n0,o1,n1,c1,o2,n2,c2,o3,n3,c3,fr,rd,ht⟩:=Ah hA;have HA:=MI hA;have B6:=MI A5;have j:=MI hk;clear hA A5 hk;subst ht;unfold tlA;dsimp only;have o:=j.out.heap hS.out.tl (U.out _ aa aa);have A1:=j.out.heap hS.out.box (U.out _ Me aa);have A6:(Tryz.prog.info? 37).map (·.size)=some (#[.int .i64 e0,.int .i64 n0,.slice o1 n1 c1,.slice o2 n2 c2,.slice o3 n3 c3,.int .i64 fr,.int .i64 rd]:Array Value).size:=af;have A9:(#[.int .i64 e0,.int .i64 n0,.slice o1 n1 c1,.slice o2 n2 c2,.slice o3 n3 c3,.int .i64 fr,.int .i64 rd]:Array Value).all (·.oneCell')=true:=(by simp[Value.oneCell']))
  | (with_reducible refine MF 37 4 11 ?_;refine wpList_store_row rfl 37 (.tmp 4) (.tmp 11) rfl (w.heap.size+2) _ rfl rfl 37 _ o A6 rfl A9 ?_))
 refine leaves_cons (f:=25) (args:=#[.pointer (some ⟨w.heap.size,0,none⟩),.pointer (some ⟨w.heap.size+2,0,none⟩)]) ar (by simp[go_sem]) ?_
 have J:=setRow_heap w2 (w.heap.size+2) _ #[.int .i64 e0,.int .i64 n0,.slice o1 n1 c1,.slice o2 n2 c2,.slice o3 n3 c3,.int .i64 fr,.int .i64 rd] _ _ o
 have A0:=aK w2 (w.heap.size+2) #[.int .i64 e0,.int .i64 n0,.slice o1 n1 c1,.slice o2 n2 c2,.slice o3 n3 c3,.int .i64 fr,.int .i64 rd]
 have A2:=A0.heap A1 aa
 have R:=A8.out
 have B7:=hR.keepN A0 (fun k e=>by subst e;exact⟨aa,by show w.heap.size≤_;omega⟩)
 generalize w2.setRow (w.heap.size+2) #[.int .i64 e0,.int .i64 n0,.slice o1 n1 c1,.slice o2 n2 c2,.slice o3 n3 c3,.int .i64 fr,.int .i64 rd]=w3 at*
 refine(log_any X Y σ2 rb s'.sh (m,w.heap.size) hm (.int .i64 e0) (.int .i64 n0) (.slice o1 n1 c1) (.slice o2 n2 c2) (.slice o3 n3 c3) (.int .i64 fr) (.int .i64 rd) (by simp[Value.oneCell']) w.heap.size (w.heap.size+2) w3 .returning A2 J B7).mono ?_
 rintro e u' w4 ⟨rfl,I⟩
 have he:=I.1
 subst he
 have A3:=I.2.2.heap J (fun e=>by
  rcases e with e | e
  ·omega
  ·have:=e.1
   simp only at this
   omega)
 exact⟨_,results_cell_row rfl _ _ (w.heap.size+2) 37 _ (0,0) _ rfl A3 Tryz.underlying37 rfl A6,HT.out _ w2 w3 w4 σ2 s' ⟨e0,n0,.slice o1 n1 c1,.slice o2 n2 c2,.slice o3 n3 c3,fr,rd⟩ O r oo oc hS.out HA.out hE hF B4 hY hR B6.out hO B5 j.out A0 I⟩
end Go.Proofs.YtnicjahcgnhogaaGreatDoor

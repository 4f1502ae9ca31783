/- Part 35 of the walk: contracts of the program's functions, each for every input. No condition. -/
import Derived.Test.YtnicjahcgnhogaaGreatDoorQ33
set_option linter.unusedVariables false
set_option linter.unusedSimpArgs false
set_option maxRecDepth 100000
set_option maxHeartbeats 8000000
namespace Go.Proofs.YtnicjahcgnhogaaGreatDoor
open Go Go.RowKit Go.Calli Go.Dskp Go.Maps
attribute [local irreducible] wpStill wpAnyH wpAnyS wpList Code.wp
theorem GU(X:Fx)(Y:Yx)(B:Bk)(K:Nat)(hK:K≤470000)(σ:Own)(rb:Nat)(sh:Envp.Sh)(M:Nat×Nat)(f:Fe)(a:Ac)(ha:a.Wf)(w:World)(h:aK X σ w B K f)(hr:dZ X Y σ w rb sh M):Calls Tryz.prog 68 #[.pointer (some ⟨rb,0,none⟩),.agg (acA a)] w (yQ X Y B K σ rb f a w):=by
 by_cases h7:a.k=7
 ·exact Dv X Y B K hK σ rb sh M f a h7 w h hr
 by_cases h8:a.k=8
 ·exact Du X Y B K hK σ rb sh M f a ha h8 w h hr
 by_cases h9:a.k=9
 ·exact Dt X Y B K hK σ rb sh M f a ha h9 w h hr
 by_cases h10:a.k=10
 ·exact Am X Y B K hK σ rb sh M f a ha h10 w h hr
 exact Dq X Y B K hK σ rb f a h7 h8 h9 h10 w h
theorem feB_flt{K:Nat}{f:Fe}(h:FeB K f)(a:Ac):FeB (K+1) (lU f a):=by
 have h1:(lU f a).fr=f.fr∧(lU f a).lo=f.lo:=by
  unfold lU
  split
  ·exact⟨rfl,rfl⟩
  ·split
   ·exact⟨rfl,rfl⟩
   ·split
    ·exact⟨rfl,rfl⟩
    ·split<;>exact⟨rfl,rfl⟩
 have h2:=h.f0;have h3:=h.f1;have h4:=h.l0;have h5:=h.l1
 exact⟨by rw[h1.1];exact h2,by rw[h1.1];omega,by rw[h1.2];exact h4,by rw[h1.2];omega⟩
theorem EN(a:Ac):(Tryz.prog.info? 40).map (·.size)=some (acA a).size:=by kernel_rfl
theorem tlA_one(t:Tl)(h1:t.ov.oneCell'=true)(h2:t.lv.oneCell'=true)(h3:t.ev.oneCell'=true):(tlA t).all (·.oneCell')=true:=all_oneCell_toArray (cs:=[.int .i64 t.err,.int .i64 t.n,t.ov,t.lv,t.ev,.int .i64 t.fr,.int .i64 t.rd]) (fun v hv=>by
 simp only[List.mem_cons,List.not_mem_nil,or_false] at hv
 rcases hv with rfl | rfl | rfl | rfl | rfl | rfl | rfl
 ·rfl
 ·rfl
 ·exact h1
 ·exact h2
 ·exact h3
 ·rfl
 ·rfl)
theorem fltT_q(f:Fe)(a:Ac): ∃c n,lT f a=qT c n:=by
 unfold lT
 split
 ·exact⟨_,_,rfl⟩
 ·split
  ·exact⟨_,_,rfl⟩
  ·split
   ·exact⟨_,_,rfl⟩
   ·split<;>exact⟨_,_,rfl⟩
theorem doE_any(X:Fx)(Y:Yx)(B:Bk)(K:Nat)(hK:K≤470000)(σ:Own)(rb:Nat)(s:Rs)(a:Ac)(ha:a.Wf)(h1:a.k≠1)(h2:a.k≠2)(h3:a.k≠3)(h4:a.k≠4)(h5:a.k≠5)(h6:a.k≠6)(h11:a.k≠11)(h12:a.k≠12)(M:Nat×Nat)(w:World)(h:aK X σ w B K s.f)(hB:FeB K s.f)(hy:YIs X Y B K σ w s.y)(hr:dZ X Y σ w rb s.sh M):Calls Tryz.prog 26 #[.pointer (some ⟨rb,0,none⟩),.agg (acA a)] w (DoP X Y B K σ rb s a M w):=by
 have hS:=gp (X:=X) (Y:=Y) a h hy hr
 obtain⟨c0,n0,hq⟩:=fltT_q s.f a
 have hA:dY B Y a s {s with f:=lU s.f a} (qT c0 n0) [] ⟨[],[]⟩:=by
  unfold dY
  rw[if_neg h6]
  refine⟨rfl,?_⟩
  rw[if_neg h1,if_neg h2,if_neg h3,if_neg h4,if_neg h5,if_neg h11,if_neg h12]
  exact⟨rfl,hq.symm⟩
 have HS:=MI hS
 have HC:=MI (fun W h hr=>GU X Y B K hK (aA σ w.heap.size (w.heap.size+2) 3) rb s.sh M s.f a ha W h hr)
 have HT:=MI (fun(W w2 W':World)(σ2:Own)(hS:DoS X Y B K σ rb s a M w W) hE hF hY hk hk2=>hS.cmd2 (w2:=w2) (W':=W') (σ2:=σ2) (s':={s with f:=lU s.f a}) (feB_flt hB a) hA hE hF hY rfl hk hk2)
 unfold yQ at HC
 rw[hq] at HC
 have n1:(a.k==1)=false:=by simpa using h1
 have n2:(a.k==2)=false:=by simpa using h2
 have n3:(a.k==3)=false:=by simpa using h3
 have n4:(a.k==4)=false:=by simpa using h4
 have n5:(a.k==5)=false:=by simpa using h5
 have n6:(a.k==6)=false:=by simpa using h6
 have n11:(a.k==11)=false:=by simpa using h11
 have n12:(a.k==12)=false:=by simpa using h12
 have hai:=EN a
 have hti:=tl_info (qT c0 n0)
 have hto:=tlA_one (qT c0 n0) rfl rfl rfl
 clear h hy hr hS hA hq h1 h2 h3 h4 h5 h6 h11 h12
 unfold tlA qT at HS
 go_enter Tryz.func26,Tryz.ntmps26
 go_upto_region 1 with fail
 generalize (w.alloc (.cells (acA a) 40)).alloc (.cells #[(),(),.slice none 0 0,.slice none 0 0,.slice none 0 0,(),()] 37)=W at*
 have b0:W.cell? ⟨w.heap.size,0,none⟩=some (.int .i64 a.k):=(LZ HS.out.box).trans rfl
 have hbx:=HS.out.box
 go_wp2_with (first
  | (with_reducible refine MC 40 3 ?_;refine wpList_load_row rfl 40 (.tmp 3) rfl w.heap.size rfl 40 _ (0,0) _ hbx Tryz.underlying40 rfl hai ?_)
  | (go_at_call 68;refine(HC.out _ HS.out.fe HS.out.rk).mono ?_;rintro e w2 ⟨σ2,rfl,hE,hF2,hk2⟩;have hr2:=hk2.heap HS.out.tl (fun e=>by rw[aT σ 3 (by omega) (by omega)] at e;cases e))
  | (with_reducible refine MF 37 4 9 ?_;refine wpList_store_row rfl 37 (.tmp 4) (.tmp 9) rfl (w.heap.size+1) (tlA (qT c0 n0)) rfl rfl 37 _ hr2 hti rfl hto ?_))
 have hY2:=(HS.out.ys.ext hE).keep hk2 (fun k e hl=>by rw[hE k hl,e];decide)
 exact bodyPost_ret (results_cell_row rfl _ _ (w.heap.size+1) 37 _ (0,0) _ rfl (setRow_heap _ _ _ _ _ _ hr2) Tryz.underlying37 rfl hti) rfl (HT.out W w2 _ σ2 HS.out hE hF2 (hY2.up (by omega)) (hk2.mono fun k _ e=>.inl e) (aJ _ _ _))
end Go.Proofs.YtnicjahcgnhogaaGreatDoor
namespace Go.Proofs.YtnicjahcgnhogaaGreatDoor
open Go Go.RowKit Go.Calli
attribute [local irreducible] wpStill wpAnyH wpAnyS wpList Code.wp
def rkA(p0 p1 p2 p3:Value)(x:Envp.Sh)(tv:Value):Array Value:=#[p0,p1,p2,p3,.int .i64 x.a,.int .i64 x.d,.int .i64 x.s,.int .i64 x.r,tv]
def oD(a:Ac):Envp.Sh:=⟨a.n,a.n,a.x,a.m⟩
def KeyP(p0 p1 p2 p3 tv:Value)(rb:Nat)(x:Envp.Sh)(a:Ac)(w:World)(e:Ending)(w':World):Prop:=e= .returned (.int .i64 (if Nv.okB (oD a)=true then 0 else 1))∧w'.heap[rb]? =some (.cells (rkA p0 p1 p2 p3 (if Nv.okB (oD a)=true then oD a else x) tv) 49 (0,0))∧af (fun k=>k=rb) w w'
theorem okB_ok{x:Envp.Sh}(h:Nv.okB x=true):x.Ok:=by
 unfold Nv.okB at h
 simp only[decide_eq_true_eq] at h
 exact h
theorem key_any(p0 p1 p2 p3 tv:Value)(rb:Nat)(x:Envp.Sh)(a:Ac)(w:World)(h:w.heap[rb]? =some (.cells (rkA p0 p1 p2 p3 x tv) 49 (0,0))):Calls Tryz.prog 66 #[.pointer (some ⟨rb,0,none⟩),.agg (acA a)] w (KeyP p0 p1 p2 p3 tv rb x a w):=by
 have hb1:=ae w (.cells (acA a) 40)
 have hz1:=L9 w (.cells (acA a) 40)
 have HR:=MI (fun w=>Nv.wI (oD a) w)
 unfold Nv.LG at HR
 have HB1:=MI hb1
 have hrw:=MI (bT h hb1 (L8 h))
 have hrl:=L8 h
 have HH:=MI h
 have hne:rb≠w.heap.size:=by omega
 obtain⟨b0,b1,b2,b3,b4,b5,b6⟩:=aQ hz1
 unfold KeyP
 generalize hq:Nv.okB (oD a)=q at*
 have HQ:=MI hq
 have hsa:oD a=⟨a.n,a.n,a.x,a.m⟩:=rfl
 rw[hsa] at HR⊢
 simp only at HR
 obtain⟨ak,av,anm,an,am,ap,ax⟩:=a
 simp only at*
 clear h hb1 hz1 hsa hq
 go_enter Tryz.func66,Tryz.ntmps66
 go_upto_region 2 with fail
 have hb2:=iR HB1.out (.cells #[.int .i64 an,.int .i64 an,.int .i64 ax,.int .i64 am] 46)
 have hz2:((w.alloc (.cells (acA ⟨ak,av,anm,an,am,ap,ax⟩) 40)).alloc (.cells #[.int .i64 an,.int .i64 an,.int .i64 ax,.int .i64 am] 46)).heap[w.heap.size+1]? =some (.cells #[.int .i64 an,.int .i64 an,.int .i64 ax,.int .i64 am] 46 (0,0)):=by
  have h1:=L9 (w.alloc (.cells (acA ⟨ak,av,anm,an,am,ap,ax⟩) 40)) (.cells #[.int .i64 an,.int .i64 an,.int .i64 ax,.int .i64 am] 46)
  simpa using h1
 have hinf:(Tryz.prog.info? 46).map (·.size)=some (#[.int .i64 an,.int .i64 an,.int .i64 ax,.int .i64 am]:Array Value).size:=by kernel_rfl
 have HB2:=MI hb2
 clear hb2 b0 b1 b2 b3 b4 b5 b6 HB1 hrw
 generalize (w.alloc (.cells (acA ⟨ak,av,anm,an,am,ap,ax⟩) 40)).alloc (.cells #[.int .i64 an,.int .i64 an,.int .i64 ax,.int .i64 am] 46)=W at*
 cases q with
 | false=>
  go_wp2_with (first
   | (with_reducible refine MC 46 5 ?_;refine wpList_load_row rfl 46 (.tmp 5) rfl (w.heap.size+1) rfl 46 _ (0,0) _ hz2 Tryz.underlying46 rfl hinf ?_)
   | (go_at_call 71;refine(HR.out _).mono ?_;rintro e w2 ⟨rfl,hb2⟩))
  go_ret
  have hbw:=bW HB2.out hb2
  exact⟨rfl,bT HH.out hbw hrl,af.au hbw Me⟩
 | true=>
  go_wp2_with (first
   | (with_reducible refine MC 46 5 ?_;refine wpList_load_row rfl 46 (.tmp 5) rfl (w.heap.size+1) rfl 46 _ (0,0) _ hz2 Tryz.underlying46 rfl hinf ?_)
   | (go_at_call 71;refine(HR.out _).mono ?_;rintro e w2 ⟨rfl,hb2⟩;have hz2:=bT hz2 hb2 (L8 hz2);have hbw:=bW HB2.out hb2;have hr2:=bT HH.out hbw hrl;have t4:w2.cell? ⟨rb,4,none⟩=some (.int .i64 x.a):=LY hr2 rfl;have t5:w2.cell? ⟨rb,5,none⟩=some (.int .i64 x.d):=LY hr2 rfl;have t6:w2.cell? ⟨rb,6,none⟩=some (.int .i64 x.s):=LY hr2 rfl;have t7:w2.cell? ⟨rb,7,none⟩=some (.int .i64 x.r):=LY hr2 rfl;have f4:=frozen_of_row _ _ 4 _ _ hr2;have f5:=frozen_of_row _ _ 5 _ _ hr2;have f6:=frozen_of_row _ _ 6 _ _ hr2;have f7:=frozen_of_row _ _ 7 _ _ hr2))
  go_ret
  refine⟨rfl,?_,(((((af.au (S:=fun k=>k=rb) hbw Me).setCell (p:=⟨rb,4,none⟩) (.inr rfl) _).setCell (p:=⟨rb,5,none⟩) (.inr rfl) _).setCell (p:=⟨rb,6,none⟩) (.inr rfl) _).setCell (p:=⟨rb,7,none⟩) (.inr rfl) _)⟩
  exact(Mc (Mc (Mc (Mc hr2)))).trans rfl
theorem DoS.key{X:Fx}{Y:Yx}{B:Bk}{K:Nat}{σ:Own}{rb:Nat}{s:Rs}{a:Ac}{M:Nat×Nat}{w W w2 W':World}(h:DoS X Y B K σ rb s a M w W)(hB:FeB K s.f){c:Int}{sh':Envp.Sh}(hso:sh'.Ok)(ha:dY B Y a s {s with sh:=sh'} (qT c 0) [] ⟨[],[]⟩)(hrow: ∀tv,(∃xs:List Value,W.heap[rb]? =some (.cells (rkA (.pointer (some ⟨Y.yb,0,none⟩)) (.pointer (some ⟨X.D.bb,0,none⟩)) (.pointer (some ⟨X.A.b,0,none⟩)) (.pointer (some ⟨X.A.cb,0,none⟩)) s.sh tv) 49 (0,0)))→w2.heap[rb]? =some (.cells (rkA (.pointer (some ⟨Y.yb,0,none⟩)) (.pointer (some ⟨X.D.bb,0,none⟩)) (.pointer (some ⟨X.A.b,0,none⟩)) (.pointer (some ⟨X.A.cb,0,none⟩)) sh' tv) 49 (0,0)))(hk:af (fun k=>k=rb) W w2)(hk2:af (fun k=>k=w.heap.size+1) w2 W'):DoP X Y B K σ rb s a M w (.returned (.agg (tlA (qT c 0)))) W':=by
 have hx:=bZ σ w.heap.size (w.heap.size+2) 3
 have h3:aA σ w.heap.size (w.heap.size+2) 3 (w.heap.size+1)=3:=aT σ 3 (by omega) (by omega)
 have hr3:aA σ w.heap.size (w.heap.size+2) 3 rb=3:=h.rk.own
 have hk3:af (fun k=>k=rb∨k=w.heap.size+1) W W':=(hk.mono fun k _ e=>.inl e).andThen hk2 (fun i hi e=>.inr e)
 have h33: ∀k,(k=rb∨k=w.heap.size+1)→aA σ w.heap.size (w.heap.size+2) 3 k=3:=fun k e=>e.elim (fun e=>e▸hr3) (fun e=>e▸h3)
 have hkW:af (FK σ rb) w W':=(af.au h.low Me).andThen hk3 (fun i hi e=>by
  rcases e with e | e
  ·exact .inr e
  ·omega)
 obtain⟨tv,xs,g1,g2,g4⟩:=h.rk0.row
 have hrl:=L8 g1
 have hW1:W.heap[rb]? =some (.cells (rkA (.pointer (some ⟨Y.yb,0,none⟩)) (.pointer (some ⟨X.D.bb,0,none⟩)) (.pointer (some ⟨X.A.b,0,none⟩)) (.pointer (some ⟨X.A.cb,0,none⟩)) s.sh tv) 49 (0,0)):=bT g1 h.low hrl
 have hW2:=hrow tv ⟨xs,hW1⟩
 have hW3:=hk2.heap hW2 (by omega)
 have hne: ∀k,tv.ownBlock=some k→¬(FK σ rb k):=fun k e he=>by
  obtain⟨cs,hcs⟩:=ag g2 e
  have:=g4 k e
  rcases he with he | he
  ·unfold FR at he;omega
  ·subst he;exact aF g1 hcs (by decide) rfl
 refine DoP.quiet ha hx ((h.fe.kept (hk3.mono fun k _ e=>by rw[h33 k e];exact Nat.le_refl 3)).up (by omega)) (hB.up (by omega)) ((h.ys.keep hk3 (fun k e _=>by rw[h33 k e];decide)).up (by omega)) ⟨⟨tv,xs,hW3,ay g2 hkW hne,fun b e=>?_⟩,hr3,hso⟩ hkW
 obtain⟨cs,hcs⟩:=ag g2 e
 exact⟨(hx _ (L8 hcs)).trans (g4 b e).1,(g4 b e).2⟩
theorem KF(X:Fx)(Y:Yx)(B:Bk)(K:Nat)(σ:Own)(rb:Nat)(s:Rs)(a:Ac)(hk1:a.k=11)(M:Nat×Nat)(w:World)(h:aK X σ w B K s.f)(hB:FeB K s.f)(hy:YIs X Y B K σ w s.y)(hr:dZ X Y σ w rb s.sh M):Calls Tryz.prog 26 #[.pointer (some ⟨rb,0,none⟩),.agg (acA a)] w (DoP X Y B K σ rb s a M w):=by
 have hS:=gp (X:=X) (Y:=Y) a h hy hr
 have hA:dY B Y a s {s with sh:=(if Nv.okB (oD a)=true then oD a else s.sh)} (qT (if Nv.okB (oD a)=true then 0 else 1) 0) [] ⟨[],[]⟩:=by
  unfold dY
  rw[if_neg (by omega)]
  refine⟨rfl,?_⟩
  rw[if_neg (by omega),if_neg (by omega),if_neg (by omega),if_neg (by omega),if_neg (by omega),if_pos hk1]
  refine⟨?_,rfl⟩
  show _=(if Nv.okB (oD a)=true then{s with sh:=oD a} else s)
  split<;>rfl
 have hso:(if Nv.okB (oD a)=true then oD a else s.sh).Ok:=by
  split
  ·rename_i hq;exact okB_ok hq
  ·exact hr.sok
 obtain⟨tv,xs,g1,g2,g4⟩:=hr.row
 have HC:=MI (fun W h=>key_any (.pointer (some ⟨Y.yb,0,none⟩)) (.pointer (some ⟨X.D.bb,0,none⟩)) (.pointer (some ⟨X.A.b,0,none⟩)) (.pointer (some ⟨X.A.cb,0,none⟩)) tv rb s.sh a W h)
 have hW1:((w.alloc (.cells (acA a) 40)).alloc (.cells (tlA (qT 0 0)) 37)).heap[rb]? =some (.cells (rkA (.pointer (some ⟨Y.yb,0,none⟩)) (.pointer (some ⟨X.D.bb,0,none⟩)) (.pointer (some ⟨X.A.b,0,none⟩)) (.pointer (some ⟨X.A.cb,0,none⟩)) s.sh tv) 49 (0,0)):=bT g1 hS.low (L8 g1)
 have HS:=MI hS
 have HW1:=MI hW1
 have HT:=MI (fun(W w2 W':World)(hS:DoS X Y B K σ rb s a M w W) hrow hk hk2=>hS.key (w2:=w2) (W':=W') hB hso hA hrow hk hk2)
 unfold KeyP at HC
 generalize (if Nv.okB (oD a)=true then(0:Int) else 1)=c0 at*
 generalize (if Nv.okB (oD a)=true then oD a else s.sh)=sh' at*
 have hai:=EN a
 have hsz:(Tryz.prog.info? 37).map (·.size)=some (#[.int .i64 c0,.int .i64 0,.slice none 0 0,.slice none 0 0,.slice none 0 0,.int .i64 0,.int .i64 0]:Array Value).size:=by kernel_rfl
 have hone:(#[.int .i64 c0,(),.slice none 0 0,.slice none 0 0,.slice none 0 0,(),()]:Array Value).all (·.oneCell')=true:=by simp[Value.oneCell']
 unfold tlA qT at HS HT HW1
 clear h hy hr hS hA hW1 g1 g2 g4 hso
 go_enter Tryz.func26,Tryz.ntmps26
 go_upto_region 1 with fail
 generalize (w.alloc (.cells (acA a) 40)).alloc (.cells #[(),(),.slice none 0 0,.slice none 0 0,.slice none 0 0,(),()] 37)=W at*
 have b0:W.cell? ⟨w.heap.size,0,none⟩=some (.int .i64 11):=(LZ HS.out.box).trans (by rw[←hk1];rfl)
 have hbx:=HS.out.box
 go_wp2_with (first
  | (with_reducible refine MC 40 3 ?_;refine wpList_load_row rfl 40 (.tmp 3) rfl w.heap.size rfl 40 _ (0,0) _ hbx Tryz.underlying40 rfl hai ?_)
  | (go_at_call 66;refine(HC.out _ HW1.out).mono ?_;rintro e w2 ⟨rfl,hrw2,hk2⟩;have hr2:=hk2.heap HS.out.tl (fun e=>aF HW1.out HS.out.tl (by decide) e.symm);obtain⟨q0,q1,q2,q3,q4,q5,q6⟩:=aQ hr2;have z0:=frozen_of_row _ _ 0 _ _ hr2;have hr9:(w2.setCell ⟨w.heap.size+1,0,none⟩ (.int .i64 c0)).heap[w.heap.size+1]? =some (.cells #[.int .i64 c0,(),.slice none 0 0,.slice none 0 0,.slice none 0 0,(),()] 37 (0,0)):=(Mc hr2).trans rfl)
  | (with_reducible refine MC 37 4 ?_;refine wpList_load_row rfl 37 (.tmp 4) rfl (w.heap.size+1) rfl 37 _ (0,0) _ hr9 Tryz.underlying37 rfl hsz ?_)
  | (with_reducible refine MF 37 4 106 ?_;refine wpList_store_row rfl 37 (.tmp 4) (.tmp 106) rfl (w.heap.size+1) _ rfl rfl 37 _ hr9 hsz rfl hone ?_))
 refine bodyPost_ret (results_cell_row rfl _ _ (w.heap.size+1) 37 _ (0,0) _ rfl (setRow_heap _ _ _ _ _ _ hr9) Tryz.underlying37 rfl hsz) rfl (HT.out _ w2 _ HS.out (fun tv' ht=>?_) hk2 ((aC w2 (w.heap.size+1) 0 _).trans (aJ _ _ _)))
 obtain⟨-,ht⟩:=ht
 rw[HW1.out] at ht
 have:tv=tv':=by
  simp only[Option.some.injEq,Obj.cells.injEq,rkA] at ht
  simpa using ht
 rw[←this]
 exact hrw2
theorem DoS.ren{X:Fx}{Y:Yx}{B:Bk}{K:Nat}{σ σ2:Own}{rb:Nat}{s s':Rs}{a:Ac}{M:Nat×Nat}{w W w2 W':World}(h:DoS X Y B K σ rb s a M w W){L:Nat}(hL:L=K+1+16*Y.n*df a)(hB:FeB L s'.f){t:Tl}{O:List (Int×Int)}{r:Rp}(ha:dY B Y a s s' t O r)(hE:Ext (aA σ w.heap.size (w.heap.size+2) 3) σ2 W.heap.size)(hF:aK X σ2 w2 B L s'.f)(hY:YIs X Y B L σ2 w2 s'.y)(hsh:s'.sh=s.sh){oo:Option Addr}{oc:Nat}(ht:t.ov= .slice oo O.length oc)(hO:bH stV 2 (0,0) w2 oo O.length O)(hoo: ∀p,oo=some p→σ2 p.block=3∧W.heap.size≤p.block)(hk:af (FR (aA σ w.heap.size (w.heap.size+2) 3)) W w2)(hk2:af (fun k=>k=w.heap.size+1) w2 W'):DoP X Y B K σ rb s a M w (.returned (.agg (tlA t))) W':=by
 have hx:=bZ σ w.heap.size (w.heap.size+2) 3
 have hs:=h.low.size
 have htl:=L8 h.tl
 have hx2:=hx.trans hE hs
 have h3:σ2 (w.heap.size+1)=3:=(hE _ htl).trans (aT σ 3 (by omega) (by omega))
 have hkW:af (FR σ) w W':=((af.au h.low Me).andThen hk (S:=FR σ) (fun i hi e=>by
  unfold FR at e⊢
  rw[hx i hi] at e
  exact e)).andThen hk2 (S:=FR σ) (fun i hi e=>by omega)
 have hR2:=(h.rk0.ext hx2).keep hkW (fun k e hl=>by rw[hx2 k hl];unfold FR at e;omega)
 rw[←hsh] at hR2
 subst hL
 exact⟨s',t,O,r,σ2,rfl,ha,hx2,hF.kept (hk2.mono fun k _ e=>by rw[e,h3];exact Nat.le_refl 3),hB,hY.keep hk2 (fun k e _=>by rw[e,h3];decide),hR2,⟨oo,oc,ht,hO.kept hk2 (fun p hp e=>by have:=(hoo p hp).2;omega),fun p hp=>⟨(hoo p hp).1,by have:=(hoo p hp).2;omega⟩⟩,hkW.mono fun k _ e=>.inl e⟩
theorem yX{w:World}{b:Nat}{v0 v1 v2 v3 v4 v5 v6:Value}(h:w.heap[b]? =some (.cells #[v0,v1,v2,v3,v4,v5,v6] 37 (0,0)))(u0 u2 u3 u4 u5 u6:Value):((((((w.setCell ⟨b,2,none⟩ u2).setCell ⟨b,3,none⟩ u3).setCell ⟨b,4,none⟩ u4).setCell ⟨b,5,none⟩ u5).setCell ⟨b,6,none⟩ u6).setCell ⟨b,0,none⟩ u0).heap[b]? =some (.cells #[u0,v1,u2,u3,u4,u5,u6] 37 (0,0)):=by
 have a2:(w.setCell ⟨b,2,none⟩ u2).heap[b]? =some (.cells #[v0,v1,u2,v3,v4,v5,v6] 37 (0,0)):=(Mc h).trans rfl
 generalize w.setCell ⟨b,2,none⟩ u2=w2 at*
 have a3:(w2.setCell ⟨b,3,none⟩ u3).heap[b]? =some (.cells #[v0,v1,u2,u3,v4,v5,v6] 37 (0,0)):=(Mc a2).trans rfl
 generalize w2.setCell ⟨b,3,none⟩ u3=w3 at*
 have a4:(w3.setCell ⟨b,4,none⟩ u4).heap[b]? =some (.cells #[v0,v1,u2,u3,u4,v5,v6] 37 (0,0)):=(Mc a3).trans rfl
 generalize w3.setCell ⟨b,4,none⟩ u4=w4 at*
 have a5:(w4.setCell ⟨b,5,none⟩ u5).heap[b]? =some (.cells #[v0,v1,u2,u3,u4,u5,v6] 37 (0,0)):=(Mc a4).trans rfl
 generalize w4.setCell ⟨b,5,none⟩ u5=w5 at*
 have a6:(w5.setCell ⟨b,6,none⟩ u6).heap[b]? =some (.cells #[v0,v1,u2,u3,u4,u5,u6] 37 (0,0)):=(Mc a5).trans rfl
 generalize w5.setCell ⟨b,6,none⟩ u6=w6 at*
 exact(Mc a6).trans rfl
theorem sZ(w:World)(b:Nat)(u0 u2 u3 u4 u5 u6:Value)(cs:Array Value):af (fun k=>k=b) w (((((((w.setCell ⟨b,2,none⟩ u2).setCell ⟨b,3,none⟩ u3).setCell ⟨b,4,none⟩ u4).setCell ⟨b,5,none⟩ u5).setCell ⟨b,6,none⟩ u6).setCell ⟨b,0,none⟩ u0).setRow b cs):=((((((aC w b 2 u2).trans (aC _ b 3 u3)).trans (aC _ b 4 u4)).trans (aC _ b 5 u5)).trans (aC _ b 6 u6)).trans (aC _ b 0 u0)).trans (aJ _ _ _)
theorem do6_err(X:Fx)(Y:Yx)(B:Bk)(K:Nat)(σ:Own)(rb:Nat)(s:Rs)(a:Ac)(hk1:a.k=6)(hn:a.n<0∨256<a.n)(M:Nat×Nat)(w:World)(h:aK X σ w B K s.f)(hB:FeB K s.f)(hy:YIs X Y B K σ w s.y)(hr:dZ X Y σ w rb s.sh M):Calls Tryz.prog 26 #[.pointer (some ⟨rb,0,none⟩),.agg (acA a)] w (DoP X Y B K σ rb s a M w):=by
 have hS:=gp (X:=X) (Y:=Y) a h hy hr
 have hA:dY B Y a s s (qT 5 0) [] ⟨[],[]⟩:=by
  unfold dY
  rw[if_pos hk1]
  exact .inl ⟨hn,rfl,rfl,rfl⟩
 have HS:=MI hS
 have HC:=MI (fun W h1 h2=>ren_err X Y B K (aA σ w.heap.size (w.heap.size+2) 3) s.f s.y a.n hn W h1 h2)
 have HT:=MI (fun(W w2 W':World)(hS:DoS X Y B K σ rb s a M w W) hF hY hk hk2=>hS.cmd2 (w2:=w2) (W':=W') (s':=s) (hB.up (by omega)) hA (Ext.refl _ _) hF hY rfl hk hk2)
 clear h hy hr hS hA hn
 obtain⟨ak,av,anm,an,am,ap,ax⟩:=a
 simp only at*
 subst hk1
 unfold kP at HC
 unfold tlA qT at HT
 unfold acA tlA qT at HS
 unfold acA
 simp only at*
 go_enter Tryz.func26,Tryz.ntmps26
 go_upto_region 1 with fail
 generalize (w.alloc (.cells #[.int .i64 6,.int .i64 av,.string anm,.int .i64 an,.int .i64 am,.int .i64 ap,.int .i64 ax] 40)).alloc (.cells #[(),(),.slice none 0 0,.slice none 0 0,.slice none 0 0,(),()] 37)=W at*
 obtain⟨b0,b1,b2,b3,b4,b5,b6⟩:=aQ HS.out.box
 have HSd:=MI HS.out.drew
 obtain⟨⟨r0,r1,r2,r3⟩,r4,r5,r6,r7⟩:=HSd.out.rk.cells
 have hsz:(Tryz.prog.info? 37).map (·.size)=some (#[.int .i64 5,.int .i64 0,.slice none 0 0,.slice none 0 0,.slice none 0 0,.int .i64 0,.int .i64 0]:Array Value).size:=by kernel_rfl
 have hone:(#[.int .i64 5,(),.slice none 0 0,.slice none 0 0,.slice none 0 0,(),()]:Array Value).all (·.oneCell')=true:=by simp[Value.oneCell']
 go_upto_region 14 with fail
 go_region_law (go_simp;go_at_call 15;refine(HC.out _ HSd.out.fe HSd.out.ys).mono ?_;rintro e w2 ⟨rfl,hb2⟩;have hk2:af (FR (aA σ w.heap.size (w.heap.size+2) 3)) W.drew w2:=af.au hb2 Me;have hr2:=bT HSd.out.tl hb2 (L8 HSd.out.tl);have hF2:=(HSd.out.fe.ah hb2).up (L:=K+1) (by omega);have hY2:=(HSd.out.ys.ah hb2).up (L:=K+1) (by omega);obtain⟨q0,q1,q2,q3,q4,q5,q6⟩:=aQ hr2;have z0:=frozen_of_row _ _ 0 _ _ hr2;have z2:=frozen_of_row _ _ 2 _ _ hr2;have z3:=frozen_of_row _ _ 3 _ _ hr2;have z4:=frozen_of_row _ _ 4 _ _ hr2;have z5:=frozen_of_row _ _ 5 _ _ hr2;have z6:=frozen_of_row _ _ 6 _ _ hr2;have hr9:=yX hr2 (.int .i64 5) (.slice none 0 0) (.slice none 0 0) (.slice none 0 0) (.int .i64 0) (.int .i64 0))
 all_goals go_wp2_with (first
  | (with_reducible refine MC 37 4 ?_;refine wpList_load_row rfl 37 (.tmp 4) rfl (w.heap.size+1) rfl 37 _ (0,0) _ hr9 Tryz.underlying37 rfl hsz ?_)
  | (with_reducible refine MF 37 4 106 ?_;refine wpList_store_row rfl 37 (.tmp 4) (.tmp 106) rfl (w.heap.size+1) _ rfl rfl 37 _ hr9 hsz rfl hone ?_))
 all_goals exact bodyPost_ret (results_cell_row rfl _ _ (w.heap.size+1) 37 _ (0,0) _ rfl (setRow_heap _ _ _ _ _ _ hr9) Tryz.underlying37 rfl hsz) rfl (HT.out _ w2 _ HSd.out hF2 hY2 hk2 (sZ _ _ _ _ _ _ _ _ _))
theorem do6_any(X:Fx)(Y:Yx)(B:Bk)(K:Nat)(hK:K≤400000)(hn16:Y.n≤16)(σ:Own)(rb:Nat)(s:Rs)(a:Ac)(hk1:a.k=6)(n:Nat)(han:a.n=(n:Int))(hn:n≤256)(M:Nat×Nat)(w:World)(h:aK X σ w B K s.f)(hB:FeB K s.f)(hy:YIs X Y B K σ w s.y)(hr:dZ X Y σ w rb s.sh M):Calls Tryz.prog 26 #[.pointer (some ⟨rb,0,none⟩),.agg (acA a)] w (DoP X Y B K σ rb s a M w):=by
 have hS:=gp (X:=X) (Y:=Y) a h hy hr
 have hrn:df a=n:=by unfold df;rw[if_pos ⟨hk1,by omega,by omega⟩];omega
 have hA:Hid (∀(f':Fe)(y':Ye)(t:Tl)(O:List (Int×Int))(r:Rp),RenT B Y.n s ⟨f',y',s.sh⟩ n t O r→dY B Y a s ⟨f',y',s.sh⟩ t O r):=fun f' y' t O r hh=>by
  unfold dY
  rw[if_pos hk1]
  exact .inr ⟨by omega,by omega,by rw[han,Int.toNat_natCast];exact hh⟩
 have HS:=MI hS
 have HC:=MI (fun W h1 h2=>BV X Y B K hn16 (aA σ w.heap.size (w.heap.size+2) 3) s.f hB s.y n hn (by omega) W h1 h2)
 unfold RenP at HC
 have HT:Hid (∀(W w2 W':World)(σ2:Own)(f':Fe)(y':Ye)(r:Rp)(O:List (Int×Int))(oo lo eo:Option Addr)(oc lc ec:Nat),DoS X Y B K σ rb s a M w W→O.length=n→A8 B Y.n s.f s.y n f' y' r O→Ext (aA σ w.heap.size (w.heap.size+2) 3) σ2 W.heap.size→aK X σ2 w2 B (K+16*Y.n*n) f'→FeB (K+16*Y.n*n) f'→YIs X Y B (K+16*Y.n*n) σ2 w2 y'→bH stV 2 (0,0) w2 oo O.length O→(∀p,oo=some p→σ2 p.block=3∧W.heap.size≤p.block)→af (FR (aA σ w.heap.size (w.heap.size+2) 3)) W w2→af (fun k=>k=w.heap.size+1) w2 W'→DoP X Y B K σ rb s a M w (.returned (.agg #[(),(),.slice oo O.length oc,.slice lo r.lost.length lc,.slice eo r.ended.length ec,.int .i64 (f'.fr - s.f.fr),.int .i64 (f'.c.d.r - s.f.c.d.r)])) W'):=fun W w2 W' σ2 f' y' r O oo lo eo oc lc ec hS hl hR hE hF hB2 hY hO hoo hk hk2=>hS.ren (L:=K+1+16*Y.n*n) (t:=⟨0,0,.slice oo O.length oc,.slice lo r.lost.length lc,.slice eo r.ended.length ec,f'.fr - s.f.fr,f'.c.d.r - s.f.c.d.r⟩) (s':=⟨f',y',s.sh⟩) (by rw[hrn]) (hB2.up (by omega)) (hA.out f' y' _ O r ⟨hR,hl,rfl,rfl,rfl,⟨oo,oc,rfl⟩,⟨lo,lc,rfl⟩,⟨eo,ec,rfl⟩,rfl,rfl⟩) hE (hF.up (by omega)) (hY.up (by omega)) rfl rfl hO hoo hk hk2
 clear h hy hr hS hA hrn
 obtain⟨ak,av,anm,an,am,ap,ax⟩:=a
 simp only at*
 subst hk1
 subst han
 unfold acA tlA qT at HS
 unfold acA
 simp only at*
 go_enter Tryz.func26,Tryz.ntmps26
 go_upto_region 1 with fail
 generalize (w.alloc (.cells #[.int .i64 6,.int .i64 av,.string anm,.int .i64 (n:Int),.int .i64 am,.int .i64 ap,.int .i64 ax] 40)).alloc (.cells #[(),(),.slice none 0 0,.slice none 0 0,.slice none 0 0,(),()] 37)=W at*
 obtain⟨b0,b1,b2,b3,b4,b5,b6⟩:=aQ HS.out.box
 have HSd:=MI HS.out.drew
 obtain⟨⟨r0,r1,r2,r3⟩,r4,r5,r6,r7⟩:=HSd.out.rk.cells
 go_upto_region 14 with fail
 go_region_law (go_simp;go_at_call 15;refine(HC.out _ HSd.out.fe HSd.out.ys).mono ?_;rintro e w2 ⟨f',y',r,O,oo,lo,eo,oc,lc,ec,σ2,rfl,hOl,hR,hE,hF,hB2,hY,hO,hoo,hk2⟩;have HOl:=MI hOl;clear hOl;have hr2:=hk2.heap HSd.out.tl (fun e=>by unfold FR at e;rw[aT σ 3 (by omega) (by omega)] at e;omega);obtain⟨q0,q1,q2,q3,q4,q5,q6⟩:=aQ hr2;have z0:=frozen_of_row _ _ 0 _ _ hr2;have z2:=frozen_of_row _ _ 2 _ _ hr2;have z3:=frozen_of_row _ _ 3 _ _ hr2;have z4:=frozen_of_row _ _ 4 _ _ hr2;have z5:=frozen_of_row _ _ 5 _ _ hr2;have z6:=frozen_of_row _ _ 6 _ _ hr2;have hr9:=yX hr2 (.int .i64 0) (.slice oo O.length oc) (.slice lo r.lost.length lc) (.slice eo r.ended.length ec) (.int .i64 (f'.fr - s.f.fr)) (.int .i64 (f'.c.d.r - s.f.c.d.r));have hsz:(Tryz.prog.info? 37).map (·.size)=some (#[.int .i64 0,.int .i64 0,.slice oo O.length oc,.slice lo r.lost.length lc,.slice eo r.ended.length ec,.int .i64 (f'.fr - s.f.fr),.int .i64 (f'.c.d.r - s.f.c.d.r)]:Array Value).size:=(by kernel_rfl);have hone:(#[(),(),.slice oo O.length oc,.slice lo r.lost.length lc,.slice eo r.ended.length ec,.int .i64 (f'.fr - s.f.fr),.int .i64 (f'.c.d.r - s.f.c.d.r)]:Array Value).all (·.oneCell')=true:=(by simp[Value.oneCell']))
 all_goals go_wp2_with (first
  | (with_reducible refine MC 37 4 ?_;refine wpList_load_row rfl 37 (.tmp 4) rfl (w.heap.size+1) rfl 37 _ (0,0) _ hr9 Tryz.underlying37 rfl hsz ?_)
  | (with_reducible refine MF 37 4 106 ?_;refine wpList_store_row rfl 37 (.tmp 4) (.tmp 106) rfl (w.heap.size+1) _ rfl rfl 37 _ hr9 hsz rfl hone ?_))
 all_goals exact bodyPost_ret (results_cell_row rfl _ _ (w.heap.size+1) 37 _ (0,0) _ rfl (setRow_heap _ _ _ _ _ _ hr9) Tryz.underlying37 rfl hsz) rfl (HT.out _ w2 _ σ2 f' y' r O oo lo eo oc lc ec HSd.out HOl.out hR hE hF hB2 hY hO hoo hk2 (sZ _ _ _ _ _ _ _ _ _))
theorem do_all(X:Fx)(Y:Yx)(B:Bk)(K:Nat)(hK:K≤400000)(hn16:Y.n≤16)(σ:Own)(rb:Nat)(s:Rs)(a:Ac)(ha:a.Wf)(hct:s.y.count+1≤4294967296)(M:Nat×Nat)(w:World)(h:aK X σ w B K s.f)(hB:FeB K s.f)(hy:YIs X Y B K σ w s.y)(hr:dZ X Y σ w rb s.sh M):Calls Tryz.prog 26 #[.pointer (some ⟨rb,0,none⟩),.agg (acA a)] w (DoP X Y B K σ rb s a M w):=by
 by_cases h1:a.k=1
 ·cases hf:fM B.dir a.nm with
  | false=>exact do1_no X Y B K σ rb s a h1 hf M w h hB hy hr
  | true=>exact do1_yes X Y B K σ rb s a h1 hf hct M w h hB hy hr
 by_cases h2:a.k=2
 ·exact do2_any X Y B K σ rb s a h2 M w h hB hy hr
 by_cases h3:a.k=3
 ·exact do3_any X Y B K σ rb s a h3 M w h hB hy hr
 by_cases h4:a.k=4
 ·exact do4_any X Y B K σ rb s a h4 M w h hB hy hr
 by_cases h5:a.k=5
 ·exact do5_any X Y B K σ rb s a h5 M w h hB hy hr
 by_cases h6:a.k=6
 ·by_cases hn:a.n<0∨256<a.n
  ·exact do6_err X Y B K σ rb s a h6 hn M w h hB hy hr
  ·exact do6_any X Y B K hK hn16 σ rb s a h6 a.n.toNat (by omega) (by omega) M w h hB hy hr
 by_cases h11:a.k=11
 ·exact KF X Y B K σ rb s a h11 M w h hB hy hr
 by_cases h12:a.k=12
 ·exact KE X Y B K σ rb s a h12 M w h hB hy hr
 exact doE_any X Y B K (by omega) σ rb s a ha h1 h2 h3 h4 h5 h6 h11 h12 M w h hB hy hr
theorem wG(X:Fx)(Y:Yx)(w:World)(rb:Nat)(sh:Envp.Sh)(h:RkC X Y w rb sh):Calls Tryz.prog 24 #[.pointer (some ⟨rb,0,none⟩)] w (fun e w'=>e= .returned (.bool false)∧w=w'):=by
 obtain⟨⟨h0,h1,-,-⟩,-⟩:=h
 go_enter Tryz.func24,Tryz.ntmps24
 go_wp2_with fail
 go_ret
 exact⟨rfl,rfl⟩
theorem sO{B:Bk}{Y:Yx}{a:Ac}{s s':Rs}{t:Tl}{O:List (Int×Int)}{r:Rp}(h:dY B Y a s s' t O r): ∃e n o1 n1 c1 o2 n2 c2 o3 n3 c3 fr rd,t=⟨e,n,.slice o1 n1 c1,.slice o2 n2 c2,.slice o3 n3 c3,fr,rd⟩:=by
 have hq: ∀x y:Int,t=qT x y→∃e n o1 n1 c1 o2 n2 c2 o3 n3 c3 fr rd,t=(⟨e,n,.slice o1 n1 c1,.slice o2 n2 c2,.slice o3 n3 c3,fr,rd⟩:Tl):=fun x y e=>⟨x,y,none,0,0,none,0,0,none,0,0,0,0,e⟩
 unfold dY at h
 split at h
 ·rcases h with⟨-,-,e,-⟩ | ⟨-,-,h⟩
  ·exact hq _ _ e
  ·obtain⟨-,-,-,h1,h2,⟨oo,oc,h3⟩,⟨lo,lc,h4⟩,⟨eo,ec,h5⟩,-,-⟩:=h
   obtain⟨te,tn,tov,tlv,tev,tf,tr⟩:=t
   simp only at*
   subst h3 h4 h5
   exact⟨_,_,_,_,_,_,_,_,_,_,_,_,_,rfl⟩
 ·obtain⟨-,h⟩:=h
  split at h
  ·rcases h with⟨-,-,e⟩ | ⟨-,-,-,-,e⟩<;>exact hq _ _ e
  split at h
  ·exact hq _ _ h.2
  split at h
  ·exact hq _ _ h.2
  split at h
  ·exact hq _ _ h.2
  split at h
  ·exact hq _ _ h.2
  split at h
  ·exact hq _ _ h.2
  split at h
  ·exact hq _ _ h.2
  ·have h2:=h.2
   unfold lT at h2
   split at h2
   ·exact hq _ _ h2
   split at h2
   ·exact hq _ _ h2
   split at h2
   ·exact hq _ _ h2
   split at h2
   ·exact hq _ _ h2
   ·exact hq _ _ h2
def FD(σ:Own)(w:World)(rb k:Nat):Prop:=FR σ k∨k=rb∨(σ k=3∧∃cs,w.heap[k]? =some (.cells cs 37 (0,0)))
def RDoP(X:Fx)(Y:Yx)(B:Bk)(K:Nat)(σ:Own)(rb:Nat)(s:Rs)(a:Ac)(m:Nat)(w:World)(e:Ending)(w':World):Prop:=∃(s':Rs)(t:Tl)(O:List (Int×Int))(r:Rp)(σ':Own),e= .returned (.agg (tlA t))∧dY B Y a s s' t O r∧Ext σ σ' w.heap.size∧aK X σ' w' B (K+1+16*Y.n*df a) s'.f∧FeB (K+1+16*Y.n*df a) s'.f∧YIs X Y B (K+1+16*Y.n*df a) σ' w' s'.y∧dZ X Y σ' w' rb s'.sh (m+1,w'.heap.size)∧(∃oo oc,t.ov= .slice oo O.length oc∧bH stV 2 (0,0) w' oo O.length O∧∀p,oo=some p→σ' p.block=3∧w.heap.size≤p.block)∧af (FD σ w rb) w w'
theorem rdo_fin{X:Fx}{Y:Yx}{B:Bk}{K L:Nat}{σ σ2:Own}{rb:Nat}{s s':Rs}{a:Ac}{m:Nat}{w W w2 w3 w4:World}{t:Tl}{O:List (Int×Int)}{r:Rp}(hL:L=K+1+16*Y.n*df a)(hW:Below w.heap.size w W)(hWs:W.heap.size=w.heap.size+3)(hr0:dZ X Y σ w rb s.sh (m,w.heap.size))(ha:dY B Y a s s' t O r)(hE:Ext (aA σ w.heap.size (w.heap.size+3) 3) σ2 W.heap.size)(hF:aK X σ2 w2 B L s'.f)(hB:FeB L s'.f)(hY:YIs X Y B L σ2 w2 s'.y)(hR:dZ X Y σ2 w2 rb s'.sh (m,w.heap.size)){oo:Option Addr}{oc:Nat}(ho:t.ov= .slice oo O.length oc)(hO:bH stV 2 (0,0) w2 oo O.length O)(hoo: ∀p,oo=some p→σ2 p.block=3∧W.heap.size≤p.block)(hk:af (FK (aA σ w.heap.size (w.heap.size+3) 3) rb) W w2)(hk2:af (fun k=>k=w.heap.size+2) w2 w3)(hlog:LogP X Y σ2 rb s'.sh (m,w.heap.size) w3 (.returned (.tuple #[])) w4):RDoP X Y B K σ rb s a m w (.returned (.agg (tlA t))) w4:=by
 obtain⟨-,hR4,hk4⟩:=hlog
 have hx:=bZ σ w.heap.size (w.heap.size+3) 3
 have h3:σ2 (w.heap.size+2)=3:=(hE _ (by omega)).trans (aT σ 3 (by omega) (by omega))
 have hrl:rb<w.heap.size:=by obtain⟨tv,xs,g1,-,-⟩:=hr0.row;exact L8 g1
 have hx2:Ext σ σ2 w.heap.size:=fun k hk=>(hE k (by omega)).trans (hx k hk)
 have hw23:=hk2.size
 have hw12:=hk.size
 have hk4':af (fun k=>3=σ2 k) w3 w4:=hk4.mono fun k _ e=>by
  rcases e with e | e
  ·rw[e];exact hR.own.symm
  ·exact e.2.1.symm
 have hx4:Ext σ2 (aA σ2 w3.heap.size w4.heap.size 3) w3.heap.size:=bZ _ _ _ _
 have hF3:=hF.kept (hk2.mono fun k _ e=>by rw[e,h3];exact Nat.le_refl 3)
 have hF4:=hF3.aA (hk4'.mono fun k _ e=>by rw[←e];exact Nat.le_refl 3) 3
 have hY3:=hY.keep hk2 (fun k e _=>by rw[e,h3];decide)
 have hY4:=(hY3.ext hx4).keep hk4' (fun k e hl=>by rw[dP σ2 3 hl,←e];decide)
 have hxx:Ext σ (aA σ2 w3.heap.size w4.heap.size 3) w.heap.size:=fun k hk=>(dP σ2 3 (by omega)).trans (hx2 k hk)
 have hk3:af (fun k=>FR σ k∨k=rb) w w3:=((af.au hW Me).andThen hk (S:=fun k=>FR σ k∨k=rb) (fun i hi e=>by
  rcases e with e | e
  ·unfold FR at e⊢
   rw[hx i hi] at e
   exact .inl e
  ·exact .inr e)).andThen hk2 (S:=fun k=>FR σ k∨k=rb) (fun i hi e=>by omega)
 subst hL
 refine⟨s',t,O,r,aA σ2 w3.heap.size w4.heap.size 3,rfl,ha,hxx,hF4,hB,hY4,hR4,⟨oo,oc,ho,(hO.kept hk2 (fun p hp e=>by have:=(hoo p hp).2;omega)).kept hk4 (fun p hp e=>by
  have:=(hoo p hp).2
  rcases e with e | e
  ·omega
  ·have:=e.1
   simp only at this
   omega),fun p hp=>⟨?_,by have:=(hoo p hp).2;omega⟩⟩,(hk3.mono fun k _ e=>e.elim .inl (fun e=>.inr (.inl e))).andThen hk4 (fun i hi e=>?_)⟩
 ·by_cases hl:p.block<w3.heap.size
  ·rw[dP σ2 3 hl]
   exact(hoo p hp).1
  ·unfold aA
   split
   ·rfl
   ·exact(hoo p hp).1
 ·rcases e with e | ⟨-,e,cs,hcs⟩
  ·exact .inr (.inl e)
  ·by_cases hrb:i=rb
   ·exact .inr (.inl hrb)
   ·rw[hx2 i hi] at e
    refine .inr (.inr ⟨e,cs,?_⟩)
    rw[←hk3.block i hi (fun h=>by
     rcases h with h | h
     ·unfold FR at h;omega
     ·exact hrb h)]
    exact hcs
theorem one_of{w:World}{b T:Nat}{v:Value}(h:w.heap[b]? =some (.cells #[v] T (0,0))):w.cell? ⟨b,0,none⟩=some v:=LY h rfl
structure RDS(X:Fx)(Y:Yx)(B:Bk)(K:Nat)(σ:Own)(rb:Nat)(s:Rs)(a:Ac)(m:Nat)(w W:World):Prop where
 fe:aK X (aA σ w.heap.size (w.heap.size+3) 3) W B K s.f
 ys:YIs X Y B K (aA σ w.heap.size (w.heap.size+3) 3) W s.y
 rk:dZ X Y (aA σ w.heap.size (w.heap.size+3) 3) W rb s.sh (m,w.heap.size)
 box:W.heap[w.heap.size]? =some (.cells #[.pointer (some ⟨rb,0,none⟩)] 26 (0,0))
 act:W.heap[w.heap.size+1]? =some (.cells (acA a) 40 (0,0))
 tl:W.heap[w.heap.size+2]? =some (.cells (tlA (qT 0 0)) 37 (0,0))
 low:Below w.heap.size w W
 size:W.heap.size=w.heap.size+3
 rk0:dZ X Y σ w rb s.sh (m,w.heap.size)
theorem FU{X:Fx}{Y:Yx}{B:Bk}{K:Nat}{σ:Own}{rb:Nat}{s:Rs}(a:Ac){m β:Nat}{w:World}(h:aK X σ w B K s.f)(hy:YIs X Y B K σ w s.y)(hr:dZ X Y σ w rb s.sh (m,β)):RDS X Y B K σ rb s a m w (((w.alloc (.cells #[.pointer (some ⟨rb,0,none⟩)] 26)).alloc (.cells (acA a) 40)).alloc (.cells (tlA (qT 0 0)) 37)):=by
 have hb1:=ae w (.cells #[.pointer (some ⟨rb,0,none⟩)] 26)
 have hb2:=iR hb1 (.cells (acA a) 40)
 have hb3:=iR hb2 (.cells (tlA (qT 0 0)) 37)
 have hx:=bZ σ w.heap.size (w.heap.size+3) 3
 have h7:=h.aA (af.au (S:=fun k=>3≤σ k) hb3 Me) 3
 have hr2:=nC hr
 have e1:=L9 (w.alloc (.cells #[.pointer (some ⟨rb,0,none⟩)] 26)) (.cells (acA a) 40)
 have e2:=L9 ((w.alloc (.cells #[.pointer (some ⟨rb,0,none⟩)] 26)).alloc (.cells (acA a) 40)) (.cells (tlA (qT 0 0)) 37)
 refine⟨by simpa using h7,(hy.ext hx).ah hb3,(hr2.ext hx).ah hb3,(heap_alloc_old _ _ (by simp;omega)).trans ((heap_alloc_old _ _ (by simp)).trans (L9 w _)),(heap_alloc_old _ _ (by simp)).trans (by simpa using e1),by simpa using e2,hb3,by simp,hr2⟩
theorem yf(X:Fx)(Y:Yx)(B:Bk)(K:Nat)(hK:K≤400000)(hn16:Y.n≤16)(σ:Own)(rb:Nat)(s:Rs)(a:Ac)(ha:a.Wf)(hct:s.y.count+1≤4294967296)(m β:Nat)(hm:m+1≤1000000)(w:World)(h:aK X σ w B K s.f)(hB:FeB K s.f)(hy:YIs X Y B K σ w s.y)(hr:dZ X Y σ w rb s.sh (m,β)):Calls Tryz.prog 8 #[.pointer (some ⟨rb,0,none⟩),.agg (acA a)] w (RDoP X Y B K σ rb s a m w):=by
 have hS:=MI (FU a h hy hr)
 have HC:=MI (fun W h1 h2 h3=>do_all X Y B K hK hn16 (aA σ w.heap.size (w.heap.size+3) 3) rb s a ha hct (m,w.heap.size) W h1 hB h2 h3)
 unfold DoP at HC
 have hmf: ∀(fn:Fn)(first cap:Array Value)(w:World),(Instr.makeFunc fn first cap).run Tryz.prog w= .ok (.func fn first cap) w:=fun _ _ _ _=>rfl
 have HN:=MI (fun W h=>wG X Y W rb s.sh h)
 have HT:Hid (∀(W w2 w3 w4:World)(σ2:Own)(s':Rs)(t:Tl)(O:List (Int×Int))(r:Rp)(oo:Option Addr)(oc:Nat),RDS X Y B K σ rb s a m w W→dY B Y a s s' t O r→Ext (aA σ w.heap.size (w.heap.size+3) 3) σ2 W.heap.size→aK X σ2 w2 B (K+1+16*Y.n*df a) s'.f→FeB (K+1+16*Y.n*df a) s'.f→YIs X Y B (K+1+16*Y.n*df a) σ2 w2 s'.y→dZ X Y σ2 w2 rb s'.sh (m,w.heap.size)→t.ov= .slice oo O.length oc→bH stV 2 (0,0) w2 oo O.length O→(∀p,oo=some p→σ2 p.block=3∧W.heap.size≤p.block)→af (FK (aA σ w.heap.size (w.heap.size+3) 3) rb) W w2→af (fun k=>k=w.heap.size+2) w2 w3→LogP X Y σ2 rb s'.sh (m,w.heap.size) w3 (.returned (.tuple #[])) w4→RDoP X Y B K σ rb s a m w (.returned (.agg (tlA t))) w4):=fun W w2 w3 w4 σ2 s' t O r oo oc hS h1 h2 h3 h4 h5 h6 h7 h8 h9 h10 h11 h12=>rdo_fin rfl hS.low hS.size hS.rk0 h1 h2 h3 h4 h5 h6 h7 h8 h9 h10 h11 h12
 clear h hB hy hr
 unfold acA tlA qT at hS
 unfold acA at HC
 unfold acA
 simp only at hS
 go_enter_defers Tryz.func8,Tryz.ntmps8
 go_upto_region 1 with fail
 generalize ((w.alloc (.cells #[.pointer (some ⟨rb,0,none⟩)] 26)).alloc (.cells #[.int .i64 a.k,.int .i64 a.v,.string a.nm,.int .i64 a.n,.int .i64 a.m,.int .i64 a.p,.int .i64 a.x] 40)).alloc (.cells #[(),(),.slice none 0 0,.slice none 0 0,.slice none 0 0,(),()] 37)=W at*
 obtain⟨b0,b1,b2,b3,b4,b5,b6⟩:=aQ hS.out.act
 have c0:=one_of hS.out.box
 have hrl:rb<w.heap.size:=by
  obtain⟨tv,xs,g1,-,-⟩:=hS.out.rk0.row
  exact L8 g1
 have hnk: ∀k,w.heap.size≤k→k<w.heap.size+3→¬FK (aA σ w.heap.size (w.heap.size+3) 3) rb k:=fun k h1 h2 e=>by
  rcases e with e | e
  ·unfold FR at e
   rw[aT σ 3 h1 h2] at e
   omega
  ·omega
 have Hhrl:=MI hrl
 have Hhnk:=MI hnk
 clear hrl hnk
 go_wp2_with (first
  | (go_at_call 24;refine(HN.out _ hS.out.rk.cells).mono ?_;rintro e w' ⟨rfl,rfl⟩)
  | (go_at_call 26;refine(HC.out _ hS.out.fe hS.out.ys hS.out.rk).mono ?_;rintro e w2 ⟨s',t,O,r,σ2,rfl,hA,hE,hF,hB2,hY,hR,⟨oo,oc,hov,hO,hoo⟩,hk⟩;obtain⟨e0,n0,o1,n1,c1,o2,n2,c2,o3,n3,c3,fr,rd,ht⟩:=sO hA;have HA:=MI hA;have Hov:=MI hov;have HHk:=MI hk;clear hA hov hk;subst ht;unfold tlA;dsimp only;have htl2:=HHk.out.heap hS.out.tl (Hhnk.out _ (by omega) (by omega));have hbox2:=HHk.out.heap hS.out.box (Hhnk.out _ Me (by omega));have hsz:(Tryz.prog.info? 37).map (·.size)=some (#[.int .i64 e0,.int .i64 n0,.slice o1 n1 c1,.slice o2 n2 c2,.slice o3 n3 c3,.int .i64 fr,.int .i64 rd]:Array Value).size:=(by kernel_rfl);have hone:(#[.int .i64 e0,.int .i64 n0,.slice o1 n1 c1,.slice o2 n2 c2,.slice o3 n3 c3,.int .i64 fr,.int .i64 rd]:Array Value).all (·.oneCell')=true:=(by simp[Value.oneCell']))
  | (with_reducible refine MF 37 4 11 ?_;refine wpList_store_row rfl 37 (.tmp 4) (.tmp 11) rfl (w.heap.size+2) _ rfl rfl 37 _ htl2 hsz rfl hone ?_))
 refine leaves_cons (f:=25) (args:=#[.pointer (some ⟨w.heap.size,0,none⟩),.pointer (some ⟨w.heap.size+2,0,none⟩)]) (by simp) (by simp[go_sem]) ?_
 have hrow3:=setRow_heap w2 (w.heap.size+2) _ #[.int .i64 e0,.int .i64 n0,.slice o1 n1 c1,.slice o2 n2 c2,.slice o3 n3 c3,.int .i64 fr,.int .i64 rd] _ _ htl2
 have hk3:=aJ w2 (w.heap.size+2) #[.int .i64 e0,.int .i64 n0,.slice o1 n1 c1,.slice o2 n2 c2,.slice o3 n3 c3,.int .i64 fr,.int .i64 rd]
 have hbox3:=hk3.heap hbox2 (by omega)
 have hrl:=Hhrl.out
 have hR3:=hR.keepN hk3 (fun k e=>by subst e;exact⟨by omega,by show w.heap.size≤_;omega⟩)
 generalize w2.setRow (w.heap.size+2) #[.int .i64 e0,.int .i64 n0,.slice o1 n1 c1,.slice o2 n2 c2,.slice o3 n3 c3,.int .i64 fr,.int .i64 rd]=w3 at*
 refine(log_any X Y σ2 rb s'.sh (m,w.heap.size) hm (.int .i64 e0) (.int .i64 n0) (.slice o1 n1 c1) (.slice o2 n2 c2) (.slice o3 n3 c3) (.int .i64 fr) (.int .i64 rd) (by simp[Value.oneCell']) w.heap.size (w.heap.size+2) w3 .returning hbox3 hrow3 hR3).mono ?_
 rintro e u' w4 ⟨rfl,hlog⟩
 have he:=hlog.1
 subst he
 have hrow4:=hlog.2.2.heap hrow3 (fun e=>by
  rcases e with e | e
  ·omega
  ·have:=e.1
   simp only at this
   omega)
 exact⟨_,results_cell_row rfl _ _ (w.heap.size+2) 37 _ (0,0) _ rfl hrow4 Tryz.underlying37 rfl hsz,HT.out _ w2 w3 w4 σ2 s' ⟨e0,n0,.slice o1 n1 c1,.slice o2 n2 c2,.slice o3 n3 c3,fr,rd⟩ O r oo oc hS.out HA.out hE hF hB2 hY hR Hov.out hO hoo HHk.out hk3 hlog⟩
end Go.Proofs.YtnicjahcgnhogaaGreatDoor

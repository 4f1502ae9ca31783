/- Part 34 of the walk: contracts of the program's functions, each for every input. No condition. -/
import Derived.Test.YtnicjahcgnhogaaGreatDoorU32
set_option linter.unusedVariables false
set_option linter.unusedSimpArgs false
set_option maxRecDepth 100000
set_option maxHeartbeats 8000000
namespace Go.Proofs.YtnicjahcgnhogaaGreatDoor
open Go Go.RowKit Go.Calli Go.Dskp Go.Maps
attribute [local irreducible] wpStill wpAnyH wpAnyS wpList Code.wp
theorem aY{w:World}{b T:Nat}{v0 v1 v2 v3 v4 v5 v6:Value}(h:w.heap[b]? =some (.cells #[v0,v1,v2,v3,v4,v5,v6] T (0,0))):w.cell? ⟨b,0,none⟩=some v0∧w.cell? ⟨b,1,none⟩=some v1∧w.cell? ⟨b,2,none⟩=some v2∧w.cell? ⟨b,3,none⟩=some v3∧w.cell? ⟨b,4,none⟩=some v4∧w.cell? ⟨b,5,none⟩=some v5∧w.cell? ⟨b,6,none⟩=some v6:=
 ⟨LY h rfl,LY h rfl,LY h rfl,LY h rfl,LY h rfl,LY h rfl,LY h rfl⟩
theorem tl_info(t:Tl):(Tryz.prog.info? 37).map (·.size)=some (tlA t).size:=af
def Aq(X:Fx)(Y:Yx)(B:Bk)(K:Nat)(σ:Own)(rb:Nat)(f:Fe)(a:Ac)(w:World)(e:Ending)(w':World):Prop:=∃σ',e= .returned (.agg (tlA (mg f a)))∧Ext σ σ' w.heap.size∧aN X σ' w' B (K+1) (lM f a)∧ag (fun k=>σ k=0) w w'
structure FlS(X:Fx)(B:Bk)(K:Nat)(σ:Own)(f:Fe)(a:Ac)(w W:World)(t:Tl):Prop where
 fe:aN X (aG σ w.heap.size (w.heap.size+2) 3) W B K f
 box:W.heap[w.heap.size]? =some (.cells (acA a) 40 (0,0))
 tl:W.heap[w.heap.size+1]? =some (.cells (tlA t) 37 (0,0))
 k:ag (fun k=>σ k=0) w W
theorem FlS.fin{X:Fx}{Y:Yx}{B:Bk}{K:Nat}{σ:Own}{rb:Nat}{f f':Fe}{a:Ac}{w W W':World}{t t':Tl}(h:FlS X B K σ f a w W t)(hF:aN X (aG σ w.heap.size (w.heap.size+2) 3) W' B (K+1) f')(hk:ag (fun k=>aG σ w.heap.size (w.heap.size+2) 3 k=0∨w.heap.size≤k) W W')(ef:lM f a=f')(et:mg f a=t'):Aq X Y B K σ rb f a w (.returned (.agg (tlA t'))) W':=by
 have hx:=dA σ w.heap.size (w.heap.size+2) 3
 refine⟨_,by rw[et],hx,by rw[ef];exact hF,h.k.andThen hk (fun i hi e=>?_)⟩
 rw[hx i hi] at e
 rcases e with e | e
 ·exact e
 ·omega
theorem kX{X:Fx}{B:Bk}{K:Nat}{σ:Own}{f:Fe}(a:Ac){w:World}(h:aN X σ w B K f):FlS X B K σ f a w ((w.alloc (.cells (acA a) 40)).alloc (.cells (tlA (qT 0 0)) 37)) (qT 0 0):=by
 have J:=ae w (.cells (acA a) 40)
 have I:=ji J (.cells (tlA (qT 0 0)) 37)
 have h7:=h.aG (ag.au (S:=fun k=>3≤σ k) I Me) 3
 refine⟨by simpa using h7,(heap_alloc_old _ _ ar).trans (L9 w _),?_,ag.au I Me⟩
 have h1:=L9 (w.alloc (.cells (acA a) 40)) (.cells (tlA (qT 0 0)) 37)
 simpa using h1
theorem FlS.tail{X:Fx}{Y:Yx}{B:Bk}{K:Nat}{σ:Own}{rb:Nat}{f f':Fe}{a:Ac}{w W w2 W':World}{t t':Tl}(h:FlS X B K σ f a w W t)(hF:aN X (aG σ w.heap.size (w.heap.size+2) 3) w2 B (K+1) f')(hk:ag (fun k=>aG σ w.heap.size (w.heap.size+2) 3 k=0) W w2)(I:ag (fun k=>k=w.heap.size+1) w2 W')(ef:lM f a=f')(et:mg f a=t'):Aq X Y B K σ rb f a w (.returned (.agg (tlA t'))) W':=
 h.fin (hF.kept (I.mono fun k _ e=>by rw[e,aX σ 3 aa aa];exact Nat.le_refl 3)) ((hk.mono fun k _ e=>.inl e).andThen I (fun i hi e=>.inr aa)) ef et
def RkC(X:Fx)(Y:Yx)(w:World)(rb:Nat)(sh:Envp.Sh):Prop:=(w.cell? ⟨rb,0,none⟩=some (.pointer (some ⟨Y.yb,0,none⟩))∧w.cell? ⟨rb,1,none⟩=some (.pointer (some ⟨X.D.bb,0,none⟩))∧w.cell? ⟨rb,2,none⟩=some (.pointer (some ⟨X.A.b,0,none⟩))∧w.cell? ⟨rb,3,none⟩=some (.pointer (some ⟨X.A.cb,0,none⟩)))∧w.cell? ⟨rb,4,none⟩=some (.int .i64 sh.a)∧w.cell? ⟨rb,5,none⟩=some (.int .i64 sh.d)∧w.cell? ⟨rb,6,none⟩=some (.int .i64 sh.s)∧w.cell? ⟨rb,7,none⟩=some (.int .i64 sh.r)
theorem eU.cells{X:Fx}{Y:Yx}{σ:Own}{w:World}{rb:Nat}{sh:Envp.Sh}{m:Nat×Nat}(h:eU X Y σ w rb sh m):RkC X Y w rb sh:=by
 obtain⟨tv,xs,h1,-,-⟩:=h.row
 exact⟨⟨LY h1 rfl,LY h1 rfl,LY h1 rfl,LY h1 rfl⟩,LY h1 rfl,LY h1 rfl,LY h1 rfl,LY h1 rfl⟩
theorem EN(X:Fx)(Y:Yx)(B:Bk)(K:Nat)(hK:K≤470000)(σ:Own)(rb:Nat)(sh:Envp.Sh)(M:Nat×Nat)(f:Fe)(a:Ac)(ha:a.Wf)(h0:a.k=8∨a.k=9∨a.k=10)(w:World)(h:aN X σ w B K f)(hr:eU X Y σ w rb sh M):Calls Tryz.prog 68 #[.pointer (some ⟨rb,0,none⟩),.agg (acA a)] w (Aq X Y B K σ rb f a w):=by
 have hS:=kX a h
 have A5:=ae w (.cells (acA a) 40)
 have A6:=ji A5 (.cells (tlA (qT 0 0)) 37)
 obtain⟨⟨c0,c1,c2,c3⟩,-⟩:=(hr.aj A6).cells
 have B9:=bounds_i64 ha.m
 have I:=h.lim.ok
 have B8:=h.lim.mx
 rcases h0 with h8 | h8 | h8
 rotate_right
 focus
  have eF:lM f a={f with c:={f.c with d:=hlS f.c.d a.n,mx:=f.c.mx+1}}:=by unfold lM;rw[if_neg aa,if_neg aa,if_neg aa,if_pos h8]
  have eT:mg f a=qT (flE f.c.d a.n) 0:=by unfold mg;rw[if_neg aa,if_neg aa,if_neg aa,if_pos h8]
  have U:(hlS f.c.d a.n).img=f.c.d.img:=by unfold hlS;split<;>rfl
  have j:(hlS f.c.d a.n).r=f.c.d.r:=by unfold hlS;split<;>rfl
  have o:=hlS_ok I a.n
  have J:=MI (fun m (hm:m≤f.c.mx)=>Cch.NI X.A.b X.A.mb X.A.ib X.A.kap m f.c.d I a.n ha.n)
  unfold Cch.pF at J
  generalize hlS f.c.d a.n=d' at*
  generalize flE f.c.d a.n=fe' at*
 rotate_right
 focus
  have eF:lM f a={f with c:={f.c with d:=spS f.c.d a.n a.m (a.x%256),mx:=f.c.mx+1}}:=by unfold lM;rw[if_neg aa,if_neg aa,if_pos h8]
  have eT:mg f a=qT (spE f.c.d a.n a.m) 0:=by unfold mg;rw[if_neg aa,if_neg aa,if_pos h8]
  have U:(spS f.c.d a.n a.m (a.x%256)).img=f.c.d.img:=by unfold spS;split;rfl;split<;>rfl
  have j:(spS f.c.d a.n a.m (a.x%256)).r=f.c.d.r:=by unfold spS;split;rfl;split<;>rfl
  have o:=spS_ok I a.n a.m (a.x%256) aa aa
  have J:=MI (fun m (hm:m≤f.c.mx)=>Cch.Ic X.A.b X.A.mb X.A.ib X.A.kap m f.c.d I aa a.n a.m (a.x%256) ha.n)
  unfold Cch.pF at J
  generalize spS f.c.d a.n a.m (a.x%256)=d' at*
  generalize spE f.c.d a.n a.m=fe' at*
 rotate_right
 focus
  have eF:lM f a={f with c:={f.c with d:=flS f.c.d a.n a.m,mx:=f.c.mx+1}}:=by unfold lM;rw[if_neg aa,if_pos h8]
  have eT:mg f a=qT (flE f.c.d a.n) 0:=by unfold mg;rw[if_neg aa,if_pos h8]
  have U:(flS f.c.d a.n a.m).img=f.c.d.img:=by unfold flS;split<;>rfl
  have j:(flS f.c.d a.n a.m).r=f.c.d.r:=by unfold flS;split<;>rfl
  have o:=flS_ok I a.n a.m aa
  have J:=MI (fun m (hm:m≤f.c.mx)=>Cch.qU X.A.b X.A.mb X.A.ib X.A.kap m f.c.d I aa a.n a.m ha.n)
  unfold Cch.pF at J
  generalize flS f.c.d a.n a.m=d' at*
  generalize flE f.c.d a.n=fe' at*
 all_goals
  have HS:=MI hS
  have HT:=MI (fun w2 W' hF hk R=>hS.tail (Y:=Y) (rb:=rb) (w2:=w2) (W':=W') hF hk R eF eT)
  clear A5 A6 hr h hS eF eT
  obtain⟨ak,av,anm,an,am,ap,ax⟩:=a
  simp only at*
  subst h8
  unfold acA tlA qT at*
  simp only at*
  go_enter Tryz.func68,Tryz.ntmps68
  go_upto_region 1 with fail
  generalize (w.alloc (.cells #[.int .i64 _,.int .i64 av,.string anm,.int .i64 an,.int .i64 am,.int .i64 ap,.int .i64 ax] 40)).alloc (.cells #[(),(),.slice none 0 0,.slice none 0 0,.slice none 0 0,(),()] 37)=W at*
  obtain⟨b0,b1,b2,b3,b4,b5,b6⟩:=aY HS.out.box
  have hd:W.drew.heap=W.heap:=rfl
  have A0:aN X (aG σ w.heap.size (w.heap.size+2) 3) W.drew B K f:=HS.out.fe.aj MB.drew
  have B0:=MI A0
  obtain⟨m,hm,hD⟩:=A0.ca.dsk
  have HC:=MI (J.out m hm W.drew hD)
  have A7:W.drew.heap[w.heap.size+1]? =some (.cells #[(),(),.slice none 0 0,.slice none 0 0,.slice none 0 0,(),()] 37 (0,0)):=HS.out.tl
  have B1:=MI A7
  have s0:=A0.s0
  have A1: ∀k,(k=X.A.b∨k=X.A.mb)→aG σ w.heap.size (w.heap.size+2) 3 k=0:=fun k e=>e.elim (fun e=>e▸s0 _ (.inr (.inr (.inl rfl)))) (fun e=>e▸s0 _ (.inr (.inr (.inr rfl))))
  have A8:¬(w.heap.size+1=X.A.b∨w.heap.size+1=X.A.mb):=fun e=>by have h1:=A1 _ e;rw[aX σ 3 aa aa] at h1;cases h1
  have B2:=MI A1
  have B3:=MI A8
  clear A0 hD A7 s0 A1 A8 hd
  have A2:(Tryz.prog.info? 37).map (·.size)=some (#[.int .i64 fe',.int .i64 0,.slice none 0 0,.slice none 0 0,.slice none 0 0,.int .i64 0,.int .i64 0]:Array Value).size:=af
  have A9:(#[.int .i64 fe',(),.slice none 0 0,.slice none 0 0,.slice none 0 0,(),()]:Array Value).all (·.oneCell')=true:=by simp[Value.oneCell']
  have C0:IntKind.u8.wrap ax=ax%256:=IntKind.wrap_u8 ax
 rotate_right
 focus go_upto_region 11 with fail
 rotate_right
 focus go_upto_region 9 with fail
 rotate_right
 focus go_upto_region 7 with fail
 all_goals
  go_region_law (go_simp;(first | go_at_call 102 | go_at_call 103 | go_at_call 104);refine HC.out.mono ?_;rintro e w2 ⟨rfl,⟨m',B4,B5⟩,R⟩;have A3:=R.heap B1.out B3.out;have B6:=wH B0.out hm o U j B4 B5 R;have B7:ag (fun k=>aG σ w.heap.size (w.heap.size+2) 3 k=0) W w2:=((ag.refl _ W).drew).andThen R (fun i hi e=>B2.out i e);obtain⟨q0,q1,q2,q3,q4,q5,q6⟩:=aY A3;have z0:=frozen_of_row _ _ 0 _ _ A3;have A4:(w2.setCell ⟨w.heap.size+1,0,none⟩ (.int .i64 fe')).heap[w.heap.size+1]? =some (.cells #[.int .i64 fe',(),.slice none 0 0,.slice none 0 0,.slice none 0 0,(),()] 37 (0,0)):=(Mc A3).trans rfl)
  all_goals go_wp2_with (first
   | (with_reducible refine MC 37 4 ?_;refine wpList_load_row rfl 37 (.tmp 4) rfl (w.heap.size+1) rfl 37 _ (0,0) _ A4 Tryz.underlying37 rfl A2 ?_)
   | (with_reducible refine MF 37 4 55 ?_;refine wpList_store_row rfl 37 (.tmp 4) (.tmp 55) rfl (w.heap.size+1) _ rfl rfl 37 _ A4 A2 rfl A9 ?_))
  all_goals exact bodyPost_ret (results_cell_row rfl _ _ (w.heap.size+1) 37 _ (0,0) _ rfl (setRow_heap _ _ _ _ _ _ A4) Tryz.underlying37 rfl A2) rfl (HT.out w2 _ B6 B7 ((aA w2 (w.heap.size+1) 0 _).trans (aK _ _ _)))
theorem EO(X:Fx)(Y:Yx)(B:Bk)(K:Nat)(hK:K≤470000)(σ:Own)(rb:Nat)(sh:Envp.Sh)(M:Nat×Nat)(f:Fe)(a:Ac)(h8:a.k=7)(w:World)(h:aN X σ w B K f)(hr:eU X Y σ w rb sh M):Calls Tryz.prog 68 #[.pointer (some ⟨rb,0,none⟩),.agg (acA a)] w (Aq X Y B K σ rb f a w):=by
 have hS:=kX a h
 have A5:=ae w (.cells (acA a) 40)
 have A6:=ji A5 (.cells (tlA (qT 0 0)) 37)
 obtain⟨⟨c0,c1,c2,c3⟩,-⟩:=(hr.aj A6).cells
 have eF:lM f a={f with c:=Cch.evC f.c a.n}:=by unfold lM;rw[if_pos h8]
 have eT:mg f a=qT 0 (if Cch.evB f.c a.n then 1 else 0):=by unfold mg;rw[if_pos h8]
 have HS:=MI hS
 have HT:=MI (fun w2 W' hF hk R=>hS.tail (Y:=Y) (rb:=rb) (w2:=w2) (W':=W') hF hk R eF eT)
 clear A5 A6 hr h hS eF eT
 obtain⟨ak,av,anm,an,am,ap,ax⟩:=a
 simp only at*
 subst h8
 unfold acA tlA qT at*
 simp only at*
 go_enter Tryz.func68,Tryz.ntmps68
 go_upto_region 1 with fail
 generalize (w.alloc (.cells #[.int .i64 7,.int .i64 av,.string anm,.int .i64 an,.int .i64 am,.int .i64 ap,.int .i64 ax] 40)).alloc (.cells #[(),(),.slice none 0 0,.slice none 0 0,.slice none 0 0,(),()] 37)=W at*
 obtain⟨b0,b1,b2,b3,b4,b5,b6⟩:=aY HS.out.box
 have U:aN X (aG σ w.heap.size (w.heap.size+2) 3) W.drew B K f:=HS.out.fe.aj MB.drew
 have A1:=MI U
 have A7:Calls Tryz.prog 101 #[.pointer (some ⟨X.A.cb,0,none⟩),.int .i64 an] W.drew (Cch.Fp (X.ad (aG σ w.heap.size (w.heap.size+2) 3)) X.n (.bool (Cch.evB f.c an)) (Cch.evC f.c an) W.drew):=Cch.Js (X.ad (aG σ w.heap.size (w.heap.size+2) 3)) X.n U.n1 f.c an W.drew U.ca
 have HC:=MI A7
 unfold Cch.Fp at HC
 have A8:W.drew.heap[w.heap.size+1]? =some (.cells #[(),(),.slice none 0 0,.slice none 0 0,.slice none 0 0,(),()] 37 (0,0)):=HS.out.tl
 have A2:=MI A8
 have A9:=MI U.s0
 have A3:Hid (¬(X.ad (aG σ w.heap.size (w.heap.size+2) 3)).S (w.heap.size+1)):=fun e=>by have h1:=A9.out _ e;rw[aX σ 3 aa aa] at h1;cases h1
 clear U A8 A7
 generalize Cch.evB f.c an=q at*
 generalize B0:Cch.evC f.c an=c' at*
 go_upto_region 4 with fail
 go_cut [16] (fun v16 wx=>v16= .bool q∧wx.heap[w.heap.size+1]? =some (.cells #[(),(),.slice none 0 0,.slice none 0 0,.slice none 0 0,(),()] 37 (0,0))∧aN X (aG σ w.heap.size (w.heap.size+2) 3) wx B (K+1) {f with c:=c'}∧ag (fun k=>aG σ w.heap.size (w.heap.size+2) 3 k=0) W wx)
 case first=>
  go_region_law (go_simp;go_at_call 101;refine HC.out.mono ?_;rintro e w2 ⟨rfl,B1,R⟩;have I:=R.heap A2.out A3.out;have j:=Oa A1.out an (by rw[B0];exact B1) R;have A0:ag (fun k=>aG σ w.heap.size (w.heap.size+2) 3 k=0) W w2:=((ag.refl _ W).drew).andThen R (fun i hi e=>A9.out i e))
  all_goals go_wp2_with fail
  all_goals go_meet
  all_goals exact⟨rfl,I,by rw[B0] at j;exact j,A0⟩
 case rest=>
  obtain⟨rfl,I,j,A0⟩:=hcut
  obtain⟨w2,rfl⟩: ∃w',w'=wc:=⟨_,rfl⟩
  cases q with
  | false=>
   have J:(Tryz.prog.info? 37).map (·.size)=some (#[.int .i64 0,.int .i64 0,.slice none 0 0,.slice none 0 0,.slice none 0 0,.int .i64 0,.int .i64 0]:Array Value).size:=af
   have o:(#[(),(),.slice none 0 0,.slice none 0 0,.slice none 0 0,(),()]:Array Value).all (·.oneCell')=true:=by simp[Value.oneCell']
   clear A1 HC A2 A3 HS
   go_wp2_with (first
    | (with_reducible refine MC 37 4 ?_;refine wpList_load_row rfl 37 (.tmp 4) rfl (w.heap.size+1) rfl 37 _ (0,0) _ I Tryz.underlying37 rfl J ?_)
    | (with_reducible refine MF 37 4 55 ?_;refine wpList_store_row rfl 37 (.tmp 4) (.tmp 55) rfl (w.heap.size+1) _ rfl rfl 37 _ I J rfl o ?_))
   exact bodyPost_ret (results_cell_row rfl _ _ (w.heap.size+1) 37 _ (0,0) _ rfl (setRow_heap _ _ _ _ _ _ I) Tryz.underlying37 rfl J) rfl (HT.out w2 _ j A0 (aK _ _ _))
  | true=>
   have J:(Tryz.prog.info? 37).map (·.size)=some (#[.int .i64 0,.int .i64 1,.slice none 0 0,.slice none 0 0,.slice none 0 0,.int .i64 0,.int .i64 0]:Array Value).size:=af
   have o:(#[(),.int .i64 1,.slice none 0 0,.slice none 0 0,.slice none 0 0,(),()]:Array Value).all (·.oneCell')=true:=by simp[Value.oneCell']
   have A4:(w2.setCell ⟨w.heap.size+1,1,none⟩ (.int .i64 1)).heap[w.heap.size+1]? =some (.cells #[(),.int .i64 1,.slice none 0 0,.slice none 0 0,.slice none 0 0,(),()] 37 (0,0)):=(Mc I).trans rfl
   obtain⟨q0,q1,q2,q3,q4,q5,q6⟩:=aY I
   have z1:=frozen_of_row _ _ 1 _ _ I
   clear A1 HC A2 A3 HS
   go_wp2_with (first
    | (with_reducible refine MC 37 4 ?_;refine wpList_load_row rfl 37 (.tmp 4) rfl (w.heap.size+1) rfl 37 _ (0,0) _ A4 Tryz.underlying37 rfl J ?_)
    | (with_reducible refine MF 37 4 55 ?_;refine wpList_store_row rfl 37 (.tmp 4) (.tmp 55) rfl (w.heap.size+1) _ rfl rfl 37 _ A4 J rfl o ?_))
   exact bodyPost_ret (results_cell_row rfl _ _ (w.heap.size+1) 37 _ (0,0) _ rfl (setRow_heap _ _ _ _ _ _ A4) Tryz.underlying37 rfl J) rfl (HT.out w2 _ j A0 ((aA w2 (w.heap.size+1) 1 _).trans (aK _ _ _)))
theorem EL(X:Fx)(Y:Yx)(B:Bk)(K:Nat)(hK:K≤470000)(σ:Own)(rb:Nat)(f:Fe)(a:Ac)(h7:a.k≠7)(h8:a.k≠8)(h9:a.k≠9)(I:a.k≠10)(w:World)(h:aN X σ w B K f):Calls Tryz.prog 68 #[.pointer (some ⟨rb,0,none⟩),.agg (acA a)] w (Aq X Y B K σ rb f a w):=by
 have hS:=kX a h
 have eF:lM f a=f:=by unfold lM;rw[if_neg h7,if_neg h8,if_neg h9,if_neg I]
 have eT:mg f a=qT 1 0:=by unfold mg;rw[if_neg h7,if_neg h8,if_neg h9,if_neg I]
 have HS:=MI hS
 have HT:=MI (fun w2 W' hF hk o=>hS.tail (Y:=Y) (rb:=rb) (w2:=w2) (W':=W') hF hk o eF eT)
 have n7:(a.k==7)=false:=by simpa using h7
 have n8:(a.k==8)=false:=by simpa using h8
 have n9:(a.k==9)=false:=by simpa using h9
 have n10:(a.k==10)=false:=by simpa using I
 clear h hS eF eT h7 h8 h9 I
 obtain⟨ak,av,anm,an,am,ap,ax⟩:=a
 simp only at*
 unfold acA tlA qT at*
 simp only at*
 go_enter Tryz.func68,Tryz.ntmps68
 go_upto_region 1 with fail
 generalize (w.alloc (.cells #[.int .i64 ak,.int .i64 av,.string anm,.int .i64 an,.int .i64 am,.int .i64 ap,.int .i64 ax] 40)).alloc (.cells #[(),(),.slice none 0 0,.slice none 0 0,.slice none 0 0,(),()] 37)=W at*
 obtain⟨b0,-⟩:=aY HS.out.box
 have J:=HS.out.tl
 have A0:=MI (HS.out.fe.up (L:=K+1) aa)
 have R:(Tryz.prog.info? 37).map (·.size)=some (#[.int .i64 1,.int .i64 0,.slice none 0 0,.slice none 0 0,.slice none 0 0,.int .i64 0,.int .i64 0]:Array Value).size:=af
 have j:(#[.int .i64 1,(),.slice none 0 0,.slice none 0 0,.slice none 0 0,(),()]:Array Value).all (·.oneCell')=true:=by simp[Value.oneCell']
 have U:(W.setCell ⟨w.heap.size+1,0,none⟩ (.int .i64 1)).heap[w.heap.size+1]? =some (.cells #[.int .i64 1,(),.slice none 0 0,.slice none 0 0,.slice none 0 0,(),()] 37 (0,0)):=(Mc J).trans rfl
 obtain⟨q0,q1,q2,q3,q4,q5,q6⟩:=aY J
 have z0:=frozen_of_row _ _ 0 _ _ J
 clear HS
 go_wp2_with (first
  | (with_reducible refine MC 37 4 ?_;refine wpList_load_row rfl 37 (.tmp 4) rfl (w.heap.size+1) rfl 37 _ (0,0) _ U Tryz.underlying37 rfl R ?_)
  | (with_reducible refine MF 37 4 55 ?_;refine wpList_store_row rfl 37 (.tmp 4) (.tmp 55) rfl (w.heap.size+1) _ rfl rfl 37 _ U R rfl j ?_))
 exact bodyPost_ret (results_cell_row rfl _ _ (w.heap.size+1) 37 _ (0,0) _ rfl (setRow_heap _ _ _ _ _ _ U) Tryz.underlying37 rfl R) rfl (HT.out W _ A0.out (ag.refl _ _) ((aA W (w.heap.size+1) 0 _).trans (aK _ _ _)))
end Go.Proofs.YtnicjahcgnhogaaGreatDoor
namespace Go.Proofs.YtnicjahcgnhogaaGreatDoor
open Go Go.RowKit Go.Calli
attribute [local irreducible] wpStill wpAnyH wpAnyS wpList Code.wp
def dM(a:Ac):Nat:=if a.k=6∧0≤a.n∧a.n≤256 then a.n.toNat else 0
def FK(σ:Own)(rb k:Nat):Prop:=FR σ k∨k=rb
def DoP(X:Fx)(Y:Yx)(B:Bk)(K:Nat)(σ:Own)(rb:Nat)(s:Rs)(a:Ac)(M:Nat×Nat)(w:World)(e:Ending)(w':World):Prop:=∃(s':Rs)(t:Tl)(O:List (Int×Int))(r:Rp)(σ':Own),e= .returned (.agg (tlA t))∧dS B Y a s s' t O r∧Ext σ σ' w.heap.size∧aN X σ' w' B (K+1+16*Y.n*dM a) s'.f∧FeB (K+1+16*Y.n*dM a) s'.f∧YIs X Y B (K+1+16*Y.n*dM a) σ' w' s'.y∧eU X Y σ' w' rb s'.sh M∧(∃oo oc,t.ov= .slice oo O.length oc∧bP stV 2 (0,0) w' oo O.length O∧∀p,oo=some p→σ' p.block=3∧w.heap.size≤p.block)∧ag (FK σ rb) w w'
theorem DoP.quiet{X:Fx}{Y:Yx}{B:Bk}{K:Nat}{σ:Own}{rb:Nat}{s s':Rs}{a:Ac}{M:Nat×Nat}{w w':World}{err n:Int}(ha:dS B Y a s s' (qT err n) [] ⟨[],[]⟩){σ':Own}(hx:Ext σ σ' w.heap.size)(hF:aN X σ' w' B (K+1) s'.f)(hB:FeB (K+1) s'.f)(hY:YIs X Y B (K+1) σ' w' s'.y)(hR:eU X Y σ' w' rb s'.sh M)(hk:ag (FK σ rb) w w'):DoP X Y B K σ rb s a M w (.returned (.agg (tlA (qT err n)))) w':=
 ⟨s',qT err n,[],⟨[],[]⟩,σ',rfl,ha,hx,hF.up aa,hB.up aa,hY.up aa,hR,⟨none,0,rfl,bP.nil _ _ _ _ _,fun p hp=>by cases hp⟩,hk⟩
structure DoS(X:Fx)(Y:Yx)(B:Bk)(K:Nat)(σ:Own)(rb:Nat)(s:Rs)(a:Ac)(M:Nat×Nat)(w W:World):Prop where
 fe:aN X (aG σ w.heap.size (w.heap.size+2) 3) W B K s.f
 ys:YIs X Y B K (aG σ w.heap.size (w.heap.size+2) 3) W s.y
 rk:eU X Y (aG σ w.heap.size (w.heap.size+2) 3) W rb s.sh M
 box:W.heap[w.heap.size]? =some (.cells (acA a) 40 (0,0))
 tl:W.heap[w.heap.size+1]? =some (.cells (tlA (qT 0 0)) 37 (0,0))
 low:Below w.heap.size w W
 rk0:eU X Y σ w rb s.sh M
theorem gJ{X:Fx}{Y:Yx}{B:Bk}{K:Nat}{σ:Own}{rb:Nat}{s:Rs}(a:Ac){M:Nat×Nat}{w:World}(h:aN X σ w B K s.f)(hy:YIs X Y B K σ w s.y)(hr:eU X Y σ w rb s.sh M):DoS X Y B K σ rb s a M w ((w.alloc (.cells (acA a) 40)).alloc (.cells (tlA (qT 0 0)) 37)):=by
 have J:=ae w (.cells (acA a) 40)
 have I:=ji J (.cells (tlA (qT 0 0)) 37)
 have hS:=kX a h
 have hx:=dA σ w.heap.size (w.heap.size+2) 3
 exact⟨hS.fe,(hy.ext hx).aj I,(hr.ext hx).aj I,hS.box,hS.tl,I,hr⟩
theorem DoS.drew{X:Fx}{Y:Yx}{B:Bk}{K:Nat}{σ:Own}{rb:Nat}{s:Rs}{a:Ac}{M:Nat×Nat}{w W:World}(h:DoS X Y B K σ rb s a M w W):DoS X Y B K σ rb s a M w W.drew:=
 have hb:=(Below.refl W.heap.size W).drew
 ⟨h.fe.aj hb,h.ys.aj hb,h.rk.aj hb,h.box,h.tl,h.low.drew,h.rk0⟩
theorem DoS.cmd{X:Fx}{Y:Yx}{B:Bk}{K:Nat}{σ:Own}{rb:Nat}{s:Rs}{a:Ac}{M:Nat×Nat}{w W w2 W':World}(h:DoS X Y B K σ rb s a M w W)(hB:FeB K s.f){c:Int}{y':Ye}(ha:dS B Y a s {s with y:=y'} (qT c 0) [] ⟨[],[]⟩)(hF:aN X (aG σ w.heap.size (w.heap.size+2) 3) w2 B K s.f)(hY:YIs X Y B K (aG σ w.heap.size (w.heap.size+2) 3) w2 y')(hk:ag (FO (aG σ w.heap.size (w.heap.size+2) 3)) W w2)(I:ag (fun k=>k=w.heap.size+1) w2 W'):DoP X Y B K σ rb s a M w (.returned (.agg (tlA (qT c 0)))) W':=by
 have hx:=dA σ w.heap.size (w.heap.size+2) 3
 have h3:aG σ w.heap.size (w.heap.size+2) 3 (w.heap.size+1)=3:=aX σ 3 aa aa
 have J:ag (FR σ) w W':=((ag.au h.low Me).andThen hk (S:=FR σ) (fun i hi e=>by
  unfold FO at e
  rw[hx i hi] at e
  unfold FR
  omega)).andThen I (S:=FR σ) (fun i hi e=>aa)
 have R:=(h.rk0.ext hx).keep J (fun k e hl=>by rw[hx k hl];unfold FR at e;omega)
 exact DoP.quiet ha hx ((hF.kept (I.mono fun k _ e=>by rw[e,h3];exact Nat.le_refl 3)).up aa) (hB.up aa) ((hY.keep I (fun k e _=>by rw[e,h3];decide)).up aa) R (J.mono fun k _ e=>.inl e)
theorem info37:(Tryz.prog.info? 37).map (fun i=>(i.zero,i.size,i.bytes))=some (some (.agg #[(),(),.slice none 0 0,.slice none 0 0,.slice none 0 0,(),()]),7,104):=af
theorem mP{X:Fx}{Y:Yx}{σ:Own}{w:World}{rb:Nat}{sh:Envp.Sh}{m:Nat×Nat}(h:eU X Y σ w rb sh m):eU X Y σ w rb sh (m.1,w.heap.size):=by
 obtain⟨tv,xs,h1,h2,h3⟩:=h.row
 exact⟨⟨tv,xs,h1,h2,fun b e=>by
  obtain⟨cs,I⟩:=ah h2 e
  exact⟨(h3 b e).1,L8 I⟩⟩,h.own,h.sok⟩
theorem eU.keepN{X:Fx}{Y:Yx}{σ:Own}{w w':World}{rb:Nat}{sh:Envp.Sh}{m:Nat×Nat}(h:eU X Y σ w rb sh m){S:Nat→Prop}(hk:ag S w w')(hS: ∀k,S k→k≠rb∧m.2≤k):eU X Y σ w' rb sh m:=by
 obtain⟨tv,xs,h1,h2,h3⟩:=h.row
 exact⟨⟨tv,xs,hk.heap h1 (fun e=>(hS _ e).1 rfl),aB h2 hk (fun k e hs=>by have:=(hS k hs).2;have:=(h3 k e).2;omega),h3⟩,h.own,h.sok⟩
def LogP(X:Fx)(Y:Yx)(σ:Own)(rb:Nat)(sh:Envp.Sh)(M:Nat×Nat)(W:World)(e:Ending)(w':World):Prop:=e= .returned (.tuple #[])∧eU X Y (aG σ W.heap.size w'.heap.size 3) w' rb sh (M.1+1,w'.heap.size)∧ag (fun k=>k=rb∨(k<M.2∧σ k=3∧∃cs,W.heap[k]? =some (.cells cs 37 (0,0)))) W w'
theorem log_any(X:Fx)(Y:Yx)(σ:Own)(rb:Nat)(sh:Envp.Sh)(M:Nat×Nat)(hM:M.1+1≤1000000)(v0 v1 v2 v3 v4 v5 v6:Value)(hv: ∀u ∈ ([v0,v1,v2,v3,v4,v5,v6]:List Value),u.oneCell'=true)(b1 b3:Nat)(W:World)(u:FrameMode)(h1:W.heap[b1]? =some (.cells #[.pointer (some ⟨rb,0,none⟩)] 26 (0,0)))(h3:W.heap[b3]? =some (.cells #[v0,v1,v2,v3,v4,v5,v6] 37 (0,0)))(hr:eU X Y σ W rb sh M):CallsD Tryz.prog 25 #[.pointer (some ⟨b1,0,none⟩),.pointer (some ⟨b3,0,none⟩)] u W (fun e u' w'=>u'=u∧LogP X Y σ rb sh M W e w'):=by
 obtain⟨tv,xs,g1,g2,g4⟩:=hr.row
 have A1:=hr.own
 have A2:=hr.sok
 have A4:W.drew.ownsRow 0 37 7 tv M.1 xs:=g2
 obtain⟨v',w7,B0,U,J,j⟩:=fV (P:=Tryz.prog) W.drew 47 47 37 7 Tryz.underlying47 info37 rfl aq 0 tv M.1 xs A4 [v0,v1,v2,v3,v4,v5,v6] rfl hv aa aE (Nat.zero_le _)
 obtain⟨so,sc,rfl⟩:=dh U
 have A5:W.cell? ⟨b1,0,none⟩=some (.pointer (some ⟨rb,0,none⟩)):=LY h1 rfl
 have B1:=cO (o:=.cells #[v0,v1,v2,v3,v4,v5,v6] 37) A5
 have C0:(W.alloc (.cells #[v0,v1,v2,v3,v4,v5,v6] 37)).drew.cell? ⟨b1,0,none⟩=_:=B1
 have B2:W.drew.cell? ⟨b1,0,none⟩=_:=A5
 have C1:=cO (o:=.cells #[v0,v1,v2,v3,v4,v5,v6] 37) B2
 have h8:W.cell? ⟨rb,8,none⟩=some tv:=LY g1 rfl
 have B4:=cO (o:=.cells #[v0,v1,v2,v3,v4,v5,v6] 37) h8
 have C2:(W.alloc (.cells #[v0,v1,v2,v3,v4,v5,v6] 37)).drew.cell? ⟨rb,8,none⟩=_:=B4
 have B5:W.drew.cell? ⟨rb,8,none⟩=_:=h8
 have C3:=cO (o:=.cells #[v0,v1,v2,v3,v4,v5,v6] 37) B5
 obtain⟨a0,a1,a2,a3,a4,a5,a6⟩:=aY h3
 have A6:W.drew.heap[b3]? =some (.cells #[v0,v1,v2,v3,v4,v5,v6] 37 (0,0)):=h3
 obtain⟨d0,d1,d2,d3,d4,d5,d6⟩:=aY A6
 have R: ∀k,tv.ownBlock=some k→k≠rb:=fun k e=>by
  obtain⟨cs,I⟩:=ah g2 e
  exact fun e2=>aI g1 I aq e2.symm
 have A3: ∀k,tv.ownBlock=some k→k≠b1:=fun k e=>by
  obtain⟨cs,I⟩:=ah g2 e
  exact fun e2=>aI h1 I aq e2.symm
 have g1d:W.drew.heap[rb]? =_:=g1
 have A7:W.drew.heap[b1]? =_:=h1
 have A0:=J.heap g1d (fun e=>R _ e rfl)
 have A8:=J.heap A7 (fun e=>A3 _ e rfl)
 have C4:w7.cell? ⟨b1,0,none⟩=some (.pointer (some ⟨rb,0,none⟩)):=LY A8 rfl
 have C5:w7.cell? ⟨rb,8,none⟩=some tv:=LY A0 rfl
 have z8:=frozen_of_row _ _ 8 _ _ A0
 have HT:Hid (∀z,z= .slice so (M.1+1) sc→LogP X Y σ rb sh M W (.returned (.tuple #[])) (w7.setCell ⟨rb,8,none⟩ z)):=fun z hz=>by
  rw[←hz] at U j
  have B6:=J.size
  have B7:=(heap_setCell_same _ _ 8 _ _ z A0).trans rfl
  have B8:=L8 g1
  have A9:=aB U (aA w7 rb 8 z) (fun k e hs=>by
   rcases j k e with h5 | h5
   ·exact R k h5 hs
   ·have h6:W.heap.size≤k:=h5
    subst hs
    omega)
  have C6:W.heap.size≤(w7.setCell ⟨rb,8,none⟩ z).heap.size:=Nat.le_trans B6 (aA w7 rb 8 z).size
  refine⟨rfl,⟨⟨z,_,B7,A9,fun b e=>?_⟩,(dW σ 3 B8).trans A1,A2⟩,?_⟩
  ·obtain⟨cs,I⟩:=ah A9 e
   refine⟨?_,L8 I⟩
   rcases j b e with h5 | h5
   ·obtain⟨cs2,B3⟩:=ah g2 h5
    rw[dW σ 3 (L8 B3)]
    exact(g4 b h5).1
   ·exact aX σ 3 h5 (L8 I)
  ·have B9:ag (fun k=>tv.ownBlock=some k) W w7:=(ag.au (S:=fun k=>tv.ownBlock=some k) (Below.refl W.heap.size W).drew Me).andThen J (fun i _ e=>e)
   exact((B9.mono fun k _ e=>.inr (by
    obtain⟨cs,I⟩:=ah g2 e
    exact⟨(g4 k e).2,(g4 k e).1,cs,I⟩)).trans ((aA w7 rb 8 z).mono fun k _ e=>.inl e))
 clear A4 U J j g1 g2 g4 R A3 A0 A8 g1d A7 A6 h1 h3 hr A1 A2
 go_enter_d Tryz.func25,Tryz.ntmps25
 go_region_law (refine iQ rfl (.tmp 6) (.tmp 8) 47 47 rfl rfl rfl B0 ?_)
 all_goals go_wp2_with fail
 all_goals (go_end0;exact HT.out _ rfl)
theorem Pi(X:Fx)(Y:Yx)(B:Bk)(K:Nat)(σ:Own)(rb:Nat)(s:Rs)(a:Ac)(A2:a.k=2∨a.k=3∨a.k=4∨a.k=5∨a.k=12)(M:Nat×Nat)(w:World)(h:aN X σ w B K s.f)(hB:FeB K s.f)(hy:YIs X Y B K σ w s.y)(hr:eU X Y σ w rb s.sh M):Calls Tryz.prog 26 #[.pointer (some ⟨rb,0,none⟩),.agg (acA a)] w (DoP X Y B K σ rb s a M w):=by
 have hS:=gJ (X:=X) (Y:=Y) a h hy hr
 obtain⟨R,hR⟩: ∃R,(a.k=2∧iP Y s.y a.v=R)∨(a.k=3∧dn Y s.y a.v (fun p=>((dL p.v a.n).1,{p with v:=(dL p.v a.n).2}))=R)∨(a.k=4∧dn Y s.y a.v (fun p=>((dK p.v a.p).1,{p with v:=(dK p.v a.p).2}))=R)∨(a.k=5∧dn Y s.y a.v (lL a.n a.m)=R)∨(a.k=12∧dn Y s.y a.v (fun p=>(0,{p with sl:=Envp.rel p.sl}))=R):=by
  rcases A2 with k | k | k | k | k
  ·exact⟨_,.inl ⟨k,rfl⟩⟩
  ·exact⟨_,.inr (.inl ⟨k,rfl⟩)⟩
  ·exact⟨_,.inr (.inr (.inl ⟨k,rfl⟩))⟩
  ·exact⟨_,.inr (.inr (.inr (.inl ⟨k,rfl⟩)))⟩
  ·exact⟨_,.inr (.inr (.inr (.inr (⟨k,rfl⟩))))⟩
 have hA:dS B Y a s {s with y:=R.2} (qT R.1 0) [] ⟨[],[]⟩:=by
  rcases hR with⟨k,rfl⟩ | ⟨k,rfl⟩ | ⟨k,rfl⟩ | ⟨k,rfl⟩ | ⟨k,rfl⟩
  all_goals
   unfold dS
   rw[if_neg aa]
   refine⟨rfl,?_⟩
   repeat rw[if_neg aa]
   rw[if_pos k]
   exact⟨rfl,rfl⟩
 rcases hR with⟨I,e⟩ | ⟨I,e⟩ | ⟨I,e⟩ | ⟨I,e⟩ | ⟨I,e⟩
 rotate_right
 focus have HC:=Bc X Y B K (aG σ w.heap.size (w.heap.size+2) 3) s.f s.y a.v
 rotate_right
 focus have HC:=Dx X Y B K (aG σ w.heap.size (w.heap.size+2) 3) s.f s.y a.v a.n a.m
 rotate_right
 focus have HC:=IK X Y B K (aG σ w.heap.size (w.heap.size+2) 3) s.f s.y a.v a.p
 rotate_right
 focus have HC:=Lc X Y B K (aG σ w.heap.size (w.heap.size+2) 3) s.f s.y a.v a.n
 rotate_right
 focus have HC:=KF X Y B K (aG σ w.heap.size (w.heap.size+2) 3) s.f s.y a.v
 all_goals
  have HS:=MI hS
  have HT:=MI (fun(W w2 W':World)(hS:DoS X Y B K σ rb s a M w W) hF hY hk U=>hS.cmd (w2:=w2) (W':=W') hB hA hF hY hk U)
  unfold qp at HC
  rw[e] at HC
  clear e
  replace HC:=MI HC
  clear h hy hr hS hA
  obtain⟨ak,av,anm,an,am,ap,ax⟩:=a
  simp only at*
  subst I
  obtain⟨c0,y1⟩:=R
  simp only at*
  unfold tlA qT at HT
  unfold acA tlA qT at HS
  unfold acA
  simp only at*
  go_enter Tryz.func26,Tryz.ntmps26
  go_upto_region 1 with fail
  generalize (w.alloc (.cells #[.int .i64 _,.int .i64 av,.string anm,.int .i64 an,.int .i64 am,.int .i64 ap,.int .i64 ax] 40)).alloc (.cells #[(),(),.slice none 0 0,.slice none 0 0,.slice none 0 0,(),()] 37)=W at*
  obtain⟨b0,b1,b2,b3,b4,b5,b6⟩:=aY HS.out.box
  have J:=MI HS.out.drew
  obtain⟨⟨r0,r1,r2,r3⟩,-⟩:=J.out.rk.cells
  have j:(Tryz.prog.info? 37).map (·.size)=some (#[.int .i64 c0,.int .i64 0,.slice none 0 0,.slice none 0 0,.slice none 0 0,.int .i64 0,.int .i64 0]:Array Value).size:=af
  have A1:(#[.int .i64 c0,(),.slice none 0 0,.slice none 0 0,.slice none 0 0,(),()]:Array Value).all (·.oneCell')=true:=by simp[Value.oneCell']
 rotate_right
 focus go_upto_region 18 with fail
 rotate_right
 focus go_upto_region 12 with fail
 rotate_right
 focus go_upto_region 10 with fail
 rotate_right
 focus go_upto_region 8 with fail
 rotate_right
 focus go_upto_region 6 with fail
 all_goals
  go_region_law (go_simp;(first | go_at_call 62 | go_at_call 63 | go_at_call 64 | go_at_call 65 | go_at_call 67);refine(HC.out _ J.out.fe J.out.ys).mono ?_;rintro e w2 ⟨rfl,A3,A4,U⟩;have o:=U.heap J.out.tl (fun e=>by unfold FO at e;rw[aX σ 3 aa aa] at e;omega);obtain⟨q0,q1,q2,q3,q4,q5,q6⟩:=aY o;have z0:=frozen_of_row _ _ 0 _ _ o;have A0:(w2.setCell ⟨w.heap.size+1,0,none⟩ (.int .i64 c0)).heap[w.heap.size+1]? =some (.cells #[.int .i64 c0,(),.slice none 0 0,.slice none 0 0,.slice none 0 0,(),()] 37 (0,0)):=(Mc o).trans rfl)
  all_goals go_wp2_with (first
   | (with_reducible refine MC 37 4 ?_;refine wpList_load_row rfl 37 (.tmp 4) rfl (w.heap.size+1) rfl 37 _ (0,0) _ A0 Tryz.underlying37 rfl j ?_)
   | (with_reducible refine MF 37 4 106 ?_;refine wpList_store_row rfl 37 (.tmp 4) (.tmp 106) rfl (w.heap.size+1) _ rfl rfl 37 _ A0 j rfl A1 ?_))
  all_goals exact bodyPost_ret (results_cell_row rfl _ _ (w.heap.size+1) 37 _ (0,0) _ rfl (setRow_heap _ _ _ _ _ _ A0) Tryz.underlying37 rfl j) rfl (HT.out _ w2 _ J.out A3 A4 U ((aA w2 (w.heap.size+1) 0 _).trans (aK _ _ _)))
theorem DoS.cmd2{X:Fx}{Y:Yx}{B:Bk}{K:Nat}{σ σ2:Own}{rb:Nat}{s s':Rs}{a:Ac}{M:Nat×Nat}{w W w2 W':World}(h:DoS X Y B K σ rb s a M w W)(hB:FeB (K+1) s'.f){c n:Int}(ha:dS B Y a s s' (qT c n) [] ⟨[],[]⟩)(hE:Ext (aG σ w.heap.size (w.heap.size+2) 3) σ2 W.heap.size)(hF:aN X σ2 w2 B (K+1) s'.f)(hY:YIs X Y B (K+1) σ2 w2 s'.y)(j:s'.sh=s.sh)(hk:ag (FR (aG σ w.heap.size (w.heap.size+2) 3)) W w2)(I:ag (fun k=>k=w.heap.size+1) w2 W'):DoP X Y B K σ rb s a M w (.returned (.agg (tlA (qT c n)))) W':=by
 have hx:=dA σ w.heap.size (w.heap.size+2) 3
 have hs:=h.low.size
 have J:=hx.trans hE hs
 have h3:σ2 (w.heap.size+1)=3:=(hE _ (L8 h.tl)).trans (aX σ 3 aa aa)
 have R:ag (FR σ) w W':=((ag.au h.low Me).andThen hk (S:=FR σ) (fun i hi e=>by
  unfold FR at e⊢
  rw[hx i hi] at e
  exact e)).andThen I (S:=FR σ) (fun i hi e=>aa)
 have U:=(h.rk0.ext J).keep R (fun k e hl=>by rw[J k hl];unfold FR at e;omega)
 rw[←j] at U
 exact DoP.quiet ha J (hF.kept (I.mono fun k _ e=>by rw[e,h3];exact Nat.le_refl 3)) hB (hY.keep I (fun k e _=>by rw[e,h3];decide)) U (R.mono fun k _ e=>.inl e)
theorem do1_no(X:Fx)(Y:Yx)(B:Bk)(K:Nat)(σ:Own)(rb:Nat)(s:Rs)(a:Ac)(A1:a.k=1)(J:fG B.dir a.nm=false)(M:Nat×Nat)(w:World)(h:aN X σ w B K s.f)(hB:FeB K s.f)(hy:YIs X Y B K σ w s.y)(hr:eU X Y σ w rb s.sh M):Calls Tryz.prog 26 #[.pointer (some ⟨rb,0,none⟩),.agg (acA a)] w (DoP X Y B K σ rb s a M w):=by
 have hS:=gJ (X:=X) (Y:=Y) a h hy hr
 have hA:dS B Y a s s (qT 7 0) [] ⟨[],[]⟩:=by
  unfold dS
  rw[if_neg aa]
  refine⟨rfl,?_⟩
  rw[if_pos A1]
  exact .inl ⟨J,rfl,rfl⟩
 have HS:=MI hS
 have HC:Hid (∀W,aN X (aG σ w.heap.size (w.heap.size+2) 3) W B K s.f→YIs X Y B K (aG σ w.heap.size (w.heap.size+2) 3) W s.y→Calls Tryz.prog 13 #[.pointer (some ⟨Y.yb,0,none⟩),.string a.nm,.agg #[.int .i64 s.sh.a,.int .i64 s.sh.d,.int .i64 s.sh.s,.int .i64 s.sh.r]] W (fun e w'=>e= .returned (.tuple #[(),.int .i64 7])∧Below W.heap.size W w')):=fun W h1 h2=>(KL X Y B K _ s.f s.y a.nm s.sh J W h1 h2).mono fun e w' hh=>by
  rcases hh with⟨_,h3,h4⟩ | ⟨h3,_⟩
  ·exact⟨h3,h4⟩
  ·rw[J] at h3;cases h3
 have HT:=MI (fun(W w2 W':World)(hS:DoS X Y B K σ rb s a M w W) hF hY hk j=>hS.cmd2 (w2:=w2) (W':=W') (s':=s) (hB.up aa) hA (Ext.refl _ _) hF hY rfl hk j)
 clear h hy hr hS hA J
 obtain⟨ak,av,anm,an,am,ap,ax⟩:=a
 simp only at*
 subst A1
 unfold tlA qT at HT
 unfold acA tlA qT at HS
 unfold acA
 simp only at*
 go_enter Tryz.func26,Tryz.ntmps26
 go_upto_region 1 with fail
 generalize (w.alloc (.cells #[.int .i64 1,.int .i64 av,.string anm,.int .i64 an,.int .i64 am,.int .i64 ap,.int .i64 ax] 40)).alloc (.cells #[(),(),.slice none 0 0,.slice none 0 0,.slice none 0 0,(),()] 37)=W at*
 obtain⟨b0,b1,b2,b3,b4,b5,b6⟩:=aY HS.out.box
 have I:=MI HS.out.drew
 obtain⟨⟨r0,r1,r2,r3⟩,r4,r5,r6,r7⟩:=I.out.rk.cells
 have o:(Tryz.prog.info? 37).map (·.size)=some (#[.int .i64 7,.int .i64 0,.slice none 0 0,.slice none 0 0,.slice none 0 0,.int .i64 0,.int .i64 0]:Array Value).size:=af
 have A2:(#[.int .i64 7,(),.slice none 0 0,.slice none 0 0,.slice none 0 0,(),()]:Array Value).all (·.oneCell')=true:=by simp[Value.oneCell']
 go_upto_region 4 with fail
 go_region_law (go_simp;go_at_call 13;refine(HC.out _ I.out.fe I.out.ys).mono ?_;rintro e w2 ⟨rfl,R⟩;have j:ag (FR (aG σ w.heap.size (w.heap.size+2) 3)) W.drew w2:=ag.au R Me;have U:=cZ I.out.tl R (L8 I.out.tl);have A3:=(I.out.fe.aj R).up (L:=K+1) aa;have A4:=(I.out.ys.aj R).up (L:=K+1) aa;obtain⟨q0,q1,q2,q3,q4,q5,q6⟩:=aY U;have z0:=frozen_of_row _ _ 0 _ _ U;have z1:=frozen_of_row _ _ 1 _ _ U;have A0:((w2.setCell ⟨w.heap.size+1,1,none⟩ (.int .i64 0)).setCell ⟨w.heap.size+1,0,none⟩ (.int .i64 7)).heap[w.heap.size+1]? =some (.cells #[.int .i64 7,(),.slice none 0 0,.slice none 0 0,.slice none 0 0,(),()] 37 (0,0)):=(Mc (Mc U)).trans rfl)
 all_goals go_wp2_with (first
  | (with_reducible refine MC 37 4 ?_;refine wpList_load_row rfl 37 (.tmp 4) rfl (w.heap.size+1) rfl 37 _ (0,0) _ A0 Tryz.underlying37 rfl o ?_)
  | (with_reducible refine MF 37 4 106 ?_;refine wpList_store_row rfl 37 (.tmp 4) (.tmp 106) rfl (w.heap.size+1) _ rfl rfl 37 _ A0 o rfl A2 ?_))
 all_goals exact bodyPost_ret (results_cell_row rfl _ _ (w.heap.size+1) 37 _ (0,0) _ rfl (setRow_heap _ _ _ _ _ _ A0) Tryz.underlying37 rfl o) rfl (HT.out _ w2 _ I.out A3 A4 j (((aA w2 (w.heap.size+1) 1 _).trans (aA _ (w.heap.size+1) 0 _)).trans (aK _ _ _)))
theorem do1_yes(X:Fx)(Y:Yx)(B:Bk)(K:Nat)(σ:Own)(rb:Nat)(s:Rs)(a:Ac)(A0:a.k=1)(J:fG B.dir a.nm=true)(A4:s.y.count+1≤4294967296)(M:Nat×Nat)(w:World)(h:aN X σ w B K s.f)(hB:FeB K s.f)(hy:YIs X Y B K σ w s.y)(hr:eU X Y σ w rb s.sh M):Calls Tryz.prog 26 #[.pointer (some ⟨rb,0,none⟩),.agg (acA a)] w (DoP X Y B K σ rb s a M w):=by
 have hS:=gJ (X:=X) (Y:=Y) a h hy hr
 have hA:Hid (∀P:Px,P.V.i=eH B.dir a.nm→dS B Y a s {s with y:=⟨s.y.ps.set (gy Y s.y) (some (P,mQ (B.dir.getD (eH B.dir a.nm) m0) s.sh (s.y.count+1))),s.y.count+1⟩} (qT 0 (gy Y s.y:Int)) [] ⟨[],[]⟩):=fun P hP=>by
  unfold dS
  rw[if_neg aa]
  refine⟨rfl,?_⟩
  rw[if_pos A0]
  exact .inr ⟨J,P,hP,rfl,rfl⟩
 have HS:=MI hS
 have A2:=hr.sok
 have HC:Hid (∀W,aN X (aG σ w.heap.size (w.heap.size+2) 3) W B K s.f→YIs X Y B K (aG σ w.heap.size (w.heap.size+2) 3) W s.y→Calls Tryz.prog 13 #[.pointer (some ⟨Y.yb,0,none⟩),.string a.nm,.agg #[.int .i64 s.sh.a,.int .i64 s.sh.d,.int .i64 s.sh.s,.int .i64 s.sh.r]] W (fun e w'=>∃P σ',e= .returned (.tuple #[.int .i64 (gy Y s.y:Int),()])∧P.V.i=eH B.dir a.nm∧Ext (aG σ w.heap.size (w.heap.size+2) 3) σ' W.heap.size∧aN X σ' w' B K s.f∧YIs X Y B K σ' w' ⟨s.y.ps.set (gy Y s.y) (some (P,mQ (B.dir.getD (eH B.dir a.nm) m0) s.sh (s.y.count+1))),s.y.count+1⟩∧ag (FO (aG σ w.heap.size (w.heap.size+2) 3)) W w')):=fun W h1 h2=>(xQ X Y B K _ s.f s.y a.nm s.sh A2 A4 J W h1 h2).mono fun e w' hh=>by
  rcases hh with⟨h3,_⟩ | ⟨_,h4⟩
  ·rw[J] at h3;cases h3
  ·exact h4
 have HT:=MI (fun(W w2 W':World)(P:Px)(σ2:Own)(hS:DoS X Y B K σ rb s a M w W) hP hE hF hY hk U=>hS.cmd2 (w2:=w2) (W':=W') (σ2:=σ2) (s':={s with y:=⟨s.y.ps.set (gy Y s.y) (some (P,mQ (B.dir.getD (eH B.dir a.nm) m0) s.sh (s.y.count+1))),s.y.count+1⟩}) (hB.up aa) (hA.out P hP) hE hF hY rfl hk U)
 clear h hy hr hS hA J
 obtain⟨ak,av,anm,an,am,ap,ax⟩:=a
 simp only at*
 subst A0
 generalize eH B.dir anm=fz at*
 generalize gy Y s.y=rm at*
 unfold tlA qT at HT
 unfold acA tlA qT at HS
 unfold acA
 simp only at*
 go_enter Tryz.func26,Tryz.ntmps26
 go_upto_region 1 with fail
 generalize (w.alloc (.cells #[.int .i64 1,.int .i64 av,.string anm,.int .i64 an,.int .i64 am,.int .i64 ap,.int .i64 ax] 40)).alloc (.cells #[(),(),.slice none 0 0,.slice none 0 0,.slice none 0 0,(),()] 37)=W at*
 obtain⟨b0,b1,b2,b3,b4,b5,b6⟩:=aY HS.out.box
 have I:=MI HS.out.drew
 obtain⟨⟨r0,r1,r2,r3⟩,r4,r5,r6,r7⟩:=I.out.rk.cells
 have j:(Tryz.prog.info? 37).map (·.size)=some (#[.int .i64 0,.int .i64 rm,.slice none 0 0,.slice none 0 0,.slice none 0 0,.int .i64 0,.int .i64 0]:Array Value).size:=af
 have A3:(#[(),.int .i64 rm,.slice none 0 0,.slice none 0 0,.slice none 0 0,(),()]:Array Value).all (·.oneCell')=true:=by simp[Value.oneCell']
 go_upto_region 4 with fail
 go_region_law (go_simp;go_at_call 13;refine(HC.out _ I.out.fe I.out.ys).mono ?_;rintro e w2 ⟨P,σ2,rfl,hP,hE,hF,hY,A1⟩;have U:ag (FR (aG σ w.heap.size (w.heap.size+2) 3)) W.drew w2:=A1.mono (fun k _ e=>.inr (.inr e));have R:=A1.heap I.out.tl (fun e=>by unfold FO at e;rw[aX σ 3 aa aa] at e;omega);have A5:=hF.up (L:=K+1) aa;have A6:=hY.up (L:=K+1) aa;obtain⟨q0,q1,q2,q3,q4,q5,q6⟩:=aY R;have z0:=frozen_of_row _ _ 0 _ _ R;have z1:=frozen_of_row _ _ 1 _ _ R;have o:((w2.setCell ⟨w.heap.size+1,1,none⟩ (.int .i64 rm)).setCell ⟨w.heap.size+1,0,none⟩ (.int .i64 0)).heap[w.heap.size+1]? =some (.cells #[(),.int .i64 rm,.slice none 0 0,.slice none 0 0,.slice none 0 0,(),()] 37 (0,0)):=(Mc (Mc R)).trans rfl)
 all_goals go_wp2_with (first
  | (with_reducible refine MC 37 4 ?_;refine wpList_load_row rfl 37 (.tmp 4) rfl (w.heap.size+1) rfl 37 _ (0,0) _ o Tryz.underlying37 rfl j ?_)
  | (with_reducible refine MF 37 4 106 ?_;refine wpList_store_row rfl 37 (.tmp 4) (.tmp 106) rfl (w.heap.size+1) _ rfl rfl 37 _ o j rfl A3 ?_))
 all_goals exact bodyPost_ret (results_cell_row rfl _ _ (w.heap.size+1) 37 _ (0,0) _ rfl (setRow_heap _ _ _ _ _ _ o) Tryz.underlying37 rfl j) rfl (HT.out _ w2 _ P σ2 I.out hP hE A5 A6 U (((aA w2 (w.heap.size+1) 1 _).trans (aA _ (w.heap.size+1) 0 _)).trans (aK _ _ _)))
end Go.Proofs.YtnicjahcgnhogaaGreatDoor

/- Part 34 of the walk: contracts of the program's functions, each for every input. No condition. -/
import Derived.Test.YtnicjahcgnhogaaGreatDoorQ32
import Derived.Test.YtnicjahcgnhogaaGreatDoorQ29
import Derived.Test.YtnicjahcgnhogaaGreatDoorQ26
set_option linter.unusedVariables false
set_option linter.unusedSimpArgs false
set_option maxRecDepth 100000
set_option maxHeartbeats 8000000
namespace Go.Proofs.YtnicjahcgnhogaaGreatDoor
open Go Go.RowKit Go.Calli
attribute [local irreducible] wpStill wpAnyH wpAnyS wpList Code.wp
def df(a:Ac):Nat:=if a.k=6∧0≤a.n∧a.n≤256 then a.n.toNat else 0
def FK(σ:Own)(rb k:Nat):Prop:=FR σ k∨k=rb
def DoP(X:Fx)(Y:Yx)(B:Bk)(K:Nat)(σ:Own)(rb:Nat)(s:Rs)(a:Ac)(M:Nat×Nat)(w:World)(e:Ending)(w':World):Prop:=∃(s':Rs)(t:Tl)(O:List (Int×Int))(r:Rp)(σ':Own),e= .returned (.agg (tlA t))∧dY B Y a s s' t O r∧Ext σ σ' w.heap.size∧aK X σ' w' B (K+1+16*Y.n*df a) s'.f∧FeB (K+1+16*Y.n*df a) s'.f∧YIs X Y B (K+1+16*Y.n*df a) σ' w' s'.y∧dZ X Y σ' w' rb s'.sh M∧(∃oo oc,t.ov= .slice oo O.length oc∧bH stV 2 (0,0) w' oo O.length O∧∀p,oo=some p→σ' p.block=3∧w.heap.size≤p.block)∧af (FK σ rb) w w'
theorem DoP.quiet{X:Fx}{Y:Yx}{B:Bk}{K:Nat}{σ:Own}{rb:Nat}{s s':Rs}{a:Ac}{M:Nat×Nat}{w w':World}{err n:Int}(ha:dY B Y a s s' (qT err n) [] ⟨[],[]⟩){σ':Own}(hx:Ext σ σ' w.heap.size)(hF:aK X σ' w' B (K+1) s'.f)(hB:FeB (K+1) s'.f)(hY:YIs X Y B (K+1) σ' w' s'.y)(hR:dZ X Y σ' w' rb s'.sh M)(hk:af (FK σ rb) w w'):DoP X Y B K σ rb s a M w (.returned (.agg (tlA (qT err n)))) w':=
 ⟨s',qT err n,[],⟨[],[]⟩,σ',rfl,ha,hx,hF.up (by omega),hB.up (by omega),hY.up (by omega),hR,⟨none,0,rfl,bH.nil _ _ _ _ _,fun p hp=>by cases hp⟩,hk⟩
structure DoS(X:Fx)(Y:Yx)(B:Bk)(K:Nat)(σ:Own)(rb:Nat)(s:Rs)(a:Ac)(M:Nat×Nat)(w W:World):Prop where
 fe:aK X (aA σ w.heap.size (w.heap.size+2) 3) W B K s.f
 ys:YIs X Y B K (aA σ w.heap.size (w.heap.size+2) 3) W s.y
 rk:dZ X Y (aA σ w.heap.size (w.heap.size+2) 3) W rb s.sh M
 box:W.heap[w.heap.size]? =some (.cells (acA a) 40 (0,0))
 tl:W.heap[w.heap.size+1]? =some (.cells (tlA (qT 0 0)) 37 (0,0))
 low:Below w.heap.size w W
 rk0:dZ X Y σ w rb s.sh M
theorem gp{X:Fx}{Y:Yx}{B:Bk}{K:Nat}{σ:Own}{rb:Nat}{s:Rs}(a:Ac){M:Nat×Nat}{w:World}(h:aK X σ w B K s.f)(hy:YIs X Y B K σ w s.y)(hr:dZ X Y σ w rb s.sh M):DoS X Y B K σ rb s a M w ((w.alloc (.cells (acA a) 40)).alloc (.cells (tlA (qT 0 0)) 37)):=by
 have hb1:=ae w (.cells (acA a) 40)
 have hb2:=iR hb1 (.cells (tlA (qT 0 0)) 37)
 have hS:=kC a h
 have hx:=bZ σ w.heap.size (w.heap.size+2) 3
 exact⟨hS.fe,(hy.ext hx).ah hb2,(hr.ext hx).ah hb2,hS.box,hS.tl,hb2,hr⟩
theorem DoS.drew{X:Fx}{Y:Yx}{B:Bk}{K:Nat}{σ:Own}{rb:Nat}{s:Rs}{a:Ac}{M:Nat×Nat}{w W:World}(h:DoS X Y B K σ rb s a M w W):DoS X Y B K σ rb s a M w W.drew:=
 have hb:=(Below.refl W.heap.size W).drew
 ⟨h.fe.ah hb,h.ys.ah hb,h.rk.ah hb,h.box,h.tl,h.low.drew,h.rk0⟩
theorem DoS.cmd{X:Fx}{Y:Yx}{B:Bk}{K:Nat}{σ:Own}{rb:Nat}{s:Rs}{a:Ac}{M:Nat×Nat}{w W w2 W':World}(h:DoS X Y B K σ rb s a M w W)(hB:FeB K s.f){c:Int}{y':Ye}(ha:dY B Y a s {s with y:=y'} (qT c 0) [] ⟨[],[]⟩)(hF:aK X (aA σ w.heap.size (w.heap.size+2) 3) w2 B K s.f)(hY:YIs X Y B K (aA σ w.heap.size (w.heap.size+2) 3) w2 y')(hk:af (FO (aA σ w.heap.size (w.heap.size+2) 3)) W w2)(hk2:af (fun k=>k=w.heap.size+1) w2 W'):DoP X Y B K σ rb s a M w (.returned (.agg (tlA (qT c 0)))) W':=by
 have hx:=bZ σ w.heap.size (w.heap.size+2) 3
 have h3:aA σ w.heap.size (w.heap.size+2) 3 (w.heap.size+1)=3:=aT σ 3 (by omega) (by omega)
 have hkW:af (FR σ) w W':=((af.au h.low Me).andThen hk (S:=FR σ) (fun i hi e=>by
  unfold FO at e
  rw[hx i hi] at e
  unfold FR
  omega)).andThen hk2 (S:=FR σ) (fun i hi e=>by omega)
 have hR2:=(h.rk0.ext hx).keep hkW (fun k e hl=>by rw[hx k hl];unfold FR at e;omega)
 exact DoP.quiet ha hx ((hF.kept (hk2.mono fun k _ e=>by rw[e,h3];exact Nat.le_refl 3)).up (by omega)) (hB.up (by omega)) ((hY.keep hk2 (fun k e _=>by rw[e,h3];decide)).up (by omega)) hR2 (hkW.mono fun k _ e=>.inl e)
theorem info37:(Tryz.prog.info? 37).map (fun i=>(i.zero,i.size,i.bytes))=some (some (.agg #[(),(),.slice none 0 0,.slice none 0 0,.slice none 0 0,(),()]),7,104):=by kernel_rfl
theorem nC{X:Fx}{Y:Yx}{σ:Own}{w:World}{rb:Nat}{sh:Envp.Sh}{m:Nat×Nat}(h:dZ X Y σ w rb sh m):dZ X Y σ w rb sh (m.1,w.heap.size):=by
 obtain⟨tv,xs,h1,h2,h3⟩:=h.row
 exact⟨⟨tv,xs,h1,h2,fun b e=>by
  obtain⟨cs,hcs⟩:=ag h2 e
  exact⟨(h3 b e).1,L8 hcs⟩⟩,h.own,h.sok⟩
theorem dZ.keepN{X:Fx}{Y:Yx}{σ:Own}{w w':World}{rb:Nat}{sh:Envp.Sh}{m:Nat×Nat}(h:dZ X Y σ w rb sh m){S:Nat→Prop}(hk:af S w w')(hS: ∀k,S k→k≠rb∧m.2≤k):dZ X Y σ w' rb sh m:=by
 obtain⟨tv,xs,h1,h2,h3⟩:=h.row
 exact⟨⟨tv,xs,hk.heap h1 (fun e=>(hS _ e).1 rfl),ay h2 hk (fun k e hs=>by have:=(hS k hs).2;have:=(h3 k e).2;omega),h3⟩,h.own,h.sok⟩
def LogP(X:Fx)(Y:Yx)(σ:Own)(rb:Nat)(sh:Envp.Sh)(M:Nat×Nat)(W:World)(e:Ending)(w':World):Prop:=e= .returned (.tuple #[])∧dZ X Y (aA σ W.heap.size w'.heap.size 3) w' rb sh (M.1+1,w'.heap.size)∧af (fun k=>k=rb∨(k<M.2∧σ k=3∧∃cs,W.heap[k]? =some (.cells cs 37 (0,0)))) W w'
theorem log_any(X:Fx)(Y:Yx)(σ:Own)(rb:Nat)(sh:Envp.Sh)(M:Nat×Nat)(hM:M.1+1≤1000000)(v0 v1 v2 v3 v4 v5 v6:Value)(hv: ∀u ∈ ([v0,v1,v2,v3,v4,v5,v6]:List Value),u.oneCell'=true)(b1 b3:Nat)(W:World)(u:FrameMode)(h1:W.heap[b1]? =some (.cells #[.pointer (some ⟨rb,0,none⟩)] 26 (0,0)))(h3:W.heap[b3]? =some (.cells #[v0,v1,v2,v3,v4,v5,v6] 37 (0,0)))(hr:dZ X Y σ W rb sh M):CallsD Tryz.prog 25 #[.pointer (some ⟨b1,0,none⟩),.pointer (some ⟨b3,0,none⟩)] u W (fun e u' w'=>u'=u∧LogP X Y σ rb sh M W e w'):=by
 obtain⟨tv,xs,g1,g2,g4⟩:=hr.row
 have hown:=hr.own
 have hsok:=hr.sok
 have HO7:W.drew.ownsRow 0 37 7 tv M.1 xs:=g2
 obtain⟨v',w7,hrun,hO8,hk8,hp8⟩:=fE (P:=Tryz.prog) W.drew 47 47 37 7 Tryz.underlying47 info37 rfl (by decide) 0 tv M.1 xs HO7 [v0,v1,v2,v3,v4,v5,v6] rfl hv (by omega) (by unfold maxLen;omega) (Nat.zero_le _)
 obtain⟨so,sc,rfl⟩:=bV hO8
 have hb1:W.cell? ⟨b1,0,none⟩=some (.pointer (some ⟨rb,0,none⟩)):=LY h1 rfl
 have hb1':=bM (o:=.cells #[v0,v1,v2,v3,v4,v5,v6] 37) hb1
 have hb1'':(W.alloc (.cells #[v0,v1,v2,v3,v4,v5,v6] 37)).drew.cell? ⟨b1,0,none⟩=_:=hb1'
 have hb1d:W.drew.cell? ⟨b1,0,none⟩=_:=hb1
 have hb1e:=bM (o:=.cells #[v0,v1,v2,v3,v4,v5,v6] 37) hb1d
 have h8:W.cell? ⟨rb,8,none⟩=some tv:=LY g1 rfl
 have h8':=bM (o:=.cells #[v0,v1,v2,v3,v4,v5,v6] 37) h8
 have h8'':(W.alloc (.cells #[v0,v1,v2,v3,v4,v5,v6] 37)).drew.cell? ⟨rb,8,none⟩=_:=h8'
 have h8d:W.drew.cell? ⟨rb,8,none⟩=_:=h8
 have h8e:=bM (o:=.cells #[v0,v1,v2,v3,v4,v5,v6] 37) h8d
 obtain⟨a0,a1,a2,a3,a4,a5,a6⟩:=aQ h3
 have h3d:W.drew.heap[b3]? =some (.cells #[v0,v1,v2,v3,v4,v5,v6] 37 (0,0)):=h3
 obtain⟨d0,d1,d2,d3,d4,d5,d6⟩:=aQ h3d
 have hne8: ∀k,tv.ownBlock=some k→k≠rb:=fun k e=>by
  obtain⟨cs,hcs⟩:=ag g2 e
  exact fun e2=>aF g1 hcs (by decide) e2.symm
 have hne1: ∀k,tv.ownBlock=some k→k≠b1:=fun k e=>by
  obtain⟨cs,hcs⟩:=ag g2 e
  exact fun e2=>aF h1 hcs (by decide) e2.symm
 have g1d:W.drew.heap[rb]? =_:=g1
 have h1d:W.drew.heap[b1]? =_:=h1
 have hx8:=hk8.heap g1d (fun e=>hne8 _ e rfl)
 have hx1:=hk8.heap h1d (fun e=>hne1 _ e rfl)
 have hc1:w7.cell? ⟨b1,0,none⟩=some (.pointer (some ⟨rb,0,none⟩)):=LY hx1 rfl
 have hc8:w7.cell? ⟨rb,8,none⟩=some tv:=LY hx8 rfl
 have z8:=frozen_of_row _ _ 8 _ _ hx8
 have HT:Hid (∀z,z= .slice so (M.1+1) sc→LogP X Y σ rb sh M W (.returned (.tuple #[])) (w7.setCell ⟨rb,8,none⟩ z)):=fun z hz=>by
  rw[←hz] at hO8 hp8
  have hs7:=hk8.size
  have hxr:=(heap_setCell_same _ _ 8 _ _ z hx8).trans rfl
  have hrl:=L8 g1
  have hO9:=ay hO8 (aC w7 rb 8 z) (fun k e hs=>by
   rcases hp8 k e with h5 | h5
   ·exact hne8 k h5 hs
   ·have h6:W.heap.size≤k:=h5
    subst hs
    omega)
  have hsz:W.heap.size≤(w7.setCell ⟨rb,8,none⟩ z).heap.size:=Nat.le_trans hs7 (aC w7 rb 8 z).size
  refine⟨rfl,⟨⟨z,_,hxr,hO9,fun b e=>?_⟩,(dP σ 3 hrl).trans hown,hsok⟩,?_⟩
  ·obtain⟨cs,hcs⟩:=ag hO9 e
   refine⟨?_,L8 hcs⟩
   rcases hp8 b e with h5 | h5
   ·obtain⟨cs2,hcs2⟩:=ag g2 h5
    rw[dP σ 3 (L8 hcs2)]
    exact(g4 b h5).1
   ·exact aT σ 3 h5 (L8 hcs)
  ·have hk9:af (fun k=>tv.ownBlock=some k) W w7:=(af.au (S:=fun k=>tv.ownBlock=some k) (Below.refl W.heap.size W).drew Me).andThen hk8 (fun i _ e=>e)
   exact((hk9.mono fun k _ e=>.inr (by
    obtain⟨cs,hcs⟩:=ag g2 e
    exact⟨(g4 k e).2,(g4 k e).1,cs,hcs⟩)).trans ((aC w7 rb 8 z).mono fun k _ e=>.inl e))
 clear HO7 hO8 hk8 hp8 g1 g2 g4 hne8 hne1 hx8 hx1 g1d h1d h3d h1 h3 hr hown hsok
 go_enter_d Tryz.func25,Tryz.ntmps25
 go_region_law (refine iD rfl (.tmp 6) (.tmp 8) 47 47 rfl rfl rfl hrun ?_)
 all_goals go_wp2_with fail
 all_goals (go_end0;exact HT.out _ rfl)
theorem do2_any(X:Fx)(Y:Yx)(B:Bk)(K:Nat)(σ:Own)(rb:Nat)(s:Rs)(a:Ac)(hk1:a.k=2)(M:Nat×Nat)(w:World)(h:aK X σ w B K s.f)(hB:FeB K s.f)(hy:YIs X Y B K σ w s.y)(hr:dZ X Y σ w rb s.sh M):Calls Tryz.prog 26 #[.pointer (some ⟨rb,0,none⟩),.agg (acA a)] w (DoP X Y B K σ rb s a M w):=by
 have hS:=gp (X:=X) (Y:=Y) a h hy hr
 have hA:dY B Y a s {s with y:=(iT Y s.y a.v).2} (qT (iT Y s.y a.v).1 0) [] ⟨[],[]⟩:=by
  unfold dY
  rw[if_neg (by omega)]
  refine⟨rfl,?_⟩
  rw[if_neg (by omega),if_pos hk1]
  exact⟨rfl,rfl⟩
 have HS:=MI hS
 have HC:=MI (fun W h hy=>IE X Y B K (aA σ w.heap.size (w.heap.size+2) 3) s.f s.y a.v W h hy)
 have HT:=MI (fun(W w2 W':World)(hS:DoS X Y B K σ rb s a M w W) hF hY hk hk2=>hS.cmd (w2:=w2) (W':=W') hB hA hF hY hk hk2)
 unfold o9 at HC
 clear h hy hr hS hA
 obtain⟨ak,av,anm,an,am,ap,ax⟩:=a
 simp only at*
 subst hk1
 generalize iT Y s.y av=R at*
 obtain⟨c0,y1⟩:=R
 simp only at*
 unfold tlA qT at HT
 unfold acA tlA qT at HS
 unfold acA
 simp only at*
 go_enter Tryz.func26,Tryz.ntmps26
 go_upto_region 1 with fail
 generalize (w.alloc (.cells #[.int .i64 2,.int .i64 av,.string anm,.int .i64 an,.int .i64 am,.int .i64 ap,.int .i64 ax] 40)).alloc (.cells #[(),(),.slice none 0 0,.slice none 0 0,.slice none 0 0,(),()] 37)=W at*
 obtain⟨b0,b1,b2,b3,b4,b5,b6⟩:=aQ HS.out.box
 have HSd:=MI HS.out.drew
 obtain⟨⟨r0,r1,r2,r3⟩,-⟩:=HSd.out.rk.cells
 have hsz:(Tryz.prog.info? 37).map (·.size)=some (#[.int .i64 c0,.int .i64 0,.slice none 0 0,.slice none 0 0,.slice none 0 0,.int .i64 0,.int .i64 0]:Array Value).size:=by kernel_rfl
 have hone:(#[.int .i64 c0,(),.slice none 0 0,.slice none 0 0,.slice none 0 0,(),()]:Array Value).all (·.oneCell')=true:=by simp[Value.oneCell']
 go_upto_region 6 with fail
 go_region_law (go_simp;go_at_call 62;refine(HC.out _ HSd.out.fe HSd.out.ys).mono ?_;rintro e w2 ⟨rfl,hF2,hY2,hk2⟩;have hr2:=hk2.heap HSd.out.tl (fun e=>by unfold FO at e;rw[aT σ 3 (by omega) (by omega)] at e;omega);obtain⟨q0,q1,q2,q3,q4,q5,q6⟩:=aQ hr2;have z0:=frozen_of_row _ _ 0 _ _ hr2;have hr9:(w2.setCell ⟨w.heap.size+1,0,none⟩ (.int .i64 c0)).heap[w.heap.size+1]? =some (.cells #[.int .i64 c0,(),.slice none 0 0,.slice none 0 0,.slice none 0 0,(),()] 37 (0,0)):=(Mc hr2).trans rfl)
 all_goals go_wp2_with (first
  | (with_reducible refine MC 37 4 ?_;refine wpList_load_row rfl 37 (.tmp 4) rfl (w.heap.size+1) rfl 37 _ (0,0) _ hr9 Tryz.underlying37 rfl hsz ?_)
  | (with_reducible refine MF 37 4 106 ?_;refine wpList_store_row rfl 37 (.tmp 4) (.tmp 106) rfl (w.heap.size+1) _ rfl rfl 37 _ hr9 hsz rfl hone ?_))
 all_goals exact bodyPost_ret (results_cell_row rfl _ _ (w.heap.size+1) 37 _ (0,0) _ rfl (setRow_heap _ _ _ _ _ _ hr9) Tryz.underlying37 rfl hsz) rfl (HT.out _ w2 _ HSd.out hF2 hY2 hk2 ((aC w2 (w.heap.size+1) 0 _).trans (aJ _ _ _)))
theorem do3_any(X:Fx)(Y:Yx)(B:Bk)(K:Nat)(σ:Own)(rb:Nat)(s:Rs)(a:Ac)(hk1:a.k=3)(M:Nat×Nat)(w:World)(h:aK X σ w B K s.f)(hB:FeB K s.f)(hy:YIs X Y B K σ w s.y)(hr:dZ X Y σ w rb s.sh M):Calls Tryz.prog 26 #[.pointer (some ⟨rb,0,none⟩),.agg (acA a)] w (DoP X Y B K σ rb s a M w):=by
 have hS:=gp (X:=X) (Y:=Y) a h hy hr
 have hA:dY B Y a s {s with y:=(cZ Y s.y a.v (fun p=>((dJ p.v a.n).1,{p with v:=(dJ p.v a.n).2}))).2} (qT (cZ Y s.y a.v (fun p=>((dJ p.v a.n).1,{p with v:=(dJ p.v a.n).2}))).1 0) [] ⟨[],[]⟩:=by
  unfold dY
  rw[if_neg (by omega)]
  refine⟨rfl,?_⟩
  rw[if_neg (by omega),if_neg (by omega),if_pos hk1]
  exact⟨rfl,rfl⟩
 have HS:=MI hS
 have HC:=MI (fun W h hy=>I4 X Y B K (aA σ w.heap.size (w.heap.size+2) 3) s.f s.y a.v a.n W h hy)
 have HT:=MI (fun(W w2 W':World)(hS:DoS X Y B K σ rb s a M w W) hF hY hk hk2=>hS.cmd (w2:=w2) (W':=W') hB hA hF hY hk hk2)
 unfold o9 at HC
 clear h hy hr hS hA
 obtain⟨ak,av,anm,an,am,ap,ax⟩:=a
 simp only at*
 subst hk1
 generalize cZ Y s.y av (fun p=>((dJ p.v an).1,{p with v:=(dJ p.v an).2}))=R at*
 obtain⟨c0,y1⟩:=R
 simp only at*
 unfold tlA qT at HT
 unfold acA tlA qT at HS
 unfold acA
 simp only at*
 go_enter Tryz.func26,Tryz.ntmps26
 go_upto_region 1 with fail
 generalize (w.alloc (.cells #[.int .i64 3,.int .i64 av,.string anm,.int .i64 an,.int .i64 am,.int .i64 ap,.int .i64 ax] 40)).alloc (.cells #[(),(),.slice none 0 0,.slice none 0 0,.slice none 0 0,(),()] 37)=W at*
 obtain⟨b0,b1,b2,b3,b4,b5,b6⟩:=aQ HS.out.box
 have HSd:=MI HS.out.drew
 obtain⟨⟨r0,r1,r2,r3⟩,-⟩:=HSd.out.rk.cells
 have hsz:(Tryz.prog.info? 37).map (·.size)=some (#[.int .i64 c0,.int .i64 0,.slice none 0 0,.slice none 0 0,.slice none 0 0,.int .i64 0,.int .i64 0]:Array Value).size:=by kernel_rfl
 have hone:(#[.int .i64 c0,(),.slice none 0 0,.slice none 0 0,.slice none 0 0,(),()]:Array Value).all (·.oneCell')=true:=by simp[Value.oneCell']
 go_upto_region 8 with fail
 go_region_law (go_simp;go_at_call 63;refine(HC.out _ HSd.out.fe HSd.out.ys).mono ?_;rintro e w2 ⟨rfl,hF2,hY2,hk2⟩;have hr2:=hk2.heap HSd.out.tl (fun e=>by unfold FO at e;rw[aT σ 3 (by omega) (by omega)] at e;omega);obtain⟨q0,q1,q2,q3,q4,q5,q6⟩:=aQ hr2;have z0:=frozen_of_row _ _ 0 _ _ hr2;have hr9:(w2.setCell ⟨w.heap.size+1,0,none⟩ (.int .i64 c0)).heap[w.heap.size+1]? =some (.cells #[.int .i64 c0,(),.slice none 0 0,.slice none 0 0,.slice none 0 0,(),()] 37 (0,0)):=(Mc hr2).trans rfl)
 all_goals go_wp2_with (first
  | (with_reducible refine MC 37 4 ?_;refine wpList_load_row rfl 37 (.tmp 4) rfl (w.heap.size+1) rfl 37 _ (0,0) _ hr9 Tryz.underlying37 rfl hsz ?_)
  | (with_reducible refine MF 37 4 106 ?_;refine wpList_store_row rfl 37 (.tmp 4) (.tmp 106) rfl (w.heap.size+1) _ rfl rfl 37 _ hr9 hsz rfl hone ?_))
 all_goals exact bodyPost_ret (results_cell_row rfl _ _ (w.heap.size+1) 37 _ (0,0) _ rfl (setRow_heap _ _ _ _ _ _ hr9) Tryz.underlying37 rfl hsz) rfl (HT.out _ w2 _ HSd.out hF2 hY2 hk2 ((aC w2 (w.heap.size+1) 0 _).trans (aJ _ _ _)))
theorem do4_any(X:Fx)(Y:Yx)(B:Bk)(K:Nat)(σ:Own)(rb:Nat)(s:Rs)(a:Ac)(hk1:a.k=4)(M:Nat×Nat)(w:World)(h:aK X σ w B K s.f)(hB:FeB K s.f)(hy:YIs X Y B K σ w s.y)(hr:dZ X Y σ w rb s.sh M):Calls Tryz.prog 26 #[.pointer (some ⟨rb,0,none⟩),.agg (acA a)] w (DoP X Y B K σ rb s a M w):=by
 have hS:=gp (X:=X) (Y:=Y) a h hy hr
 have hA:dY B Y a s {s with y:=(cZ Y s.y a.v (fun p=>((dI p.v a.p).1,{p with v:=(dI p.v a.p).2}))).2} (qT (cZ Y s.y a.v (fun p=>((dI p.v a.p).1,{p with v:=(dI p.v a.p).2}))).1 0) [] ⟨[],[]⟩:=by
  unfold dY
  rw[if_neg (by omega)]
  refine⟨rfl,?_⟩
  rw[if_neg (by omega),if_neg (by omega),if_neg (by omega),if_pos hk1]
  exact⟨rfl,rfl⟩
 have HS:=MI hS
 have HC:=MI (fun W h hy=>Gf X Y B K (aA σ w.heap.size (w.heap.size+2) 3) s.f s.y a.v a.p W h hy)
 have HT:=MI (fun(W w2 W':World)(hS:DoS X Y B K σ rb s a M w W) hF hY hk hk2=>hS.cmd (w2:=w2) (W':=W') hB hA hF hY hk hk2)
 unfold o9 at HC
 clear h hy hr hS hA
 obtain⟨ak,av,anm,an,am,ap,ax⟩:=a
 simp only at*
 subst hk1
 generalize cZ Y s.y av (fun p=>((dI p.v ap).1,{p with v:=(dI p.v ap).2}))=R at*
 obtain⟨c0,y1⟩:=R
 simp only at*
 unfold tlA qT at HT
 unfold acA tlA qT at HS
 unfold acA
 simp only at*
 go_enter Tryz.func26,Tryz.ntmps26
 go_upto_region 1 with fail
 generalize (w.alloc (.cells #[.int .i64 4,.int .i64 av,.string anm,.int .i64 an,.int .i64 am,.int .i64 ap,.int .i64 ax] 40)).alloc (.cells #[(),(),.slice none 0 0,.slice none 0 0,.slice none 0 0,(),()] 37)=W at*
 obtain⟨b0,b1,b2,b3,b4,b5,b6⟩:=aQ HS.out.box
 have HSd:=MI HS.out.drew
 obtain⟨⟨r0,r1,r2,r3⟩,-⟩:=HSd.out.rk.cells
 have hsz:(Tryz.prog.info? 37).map (·.size)=some (#[.int .i64 c0,.int .i64 0,.slice none 0 0,.slice none 0 0,.slice none 0 0,.int .i64 0,.int .i64 0]:Array Value).size:=by kernel_rfl
 have hone:(#[.int .i64 c0,(),.slice none 0 0,.slice none 0 0,.slice none 0 0,(),()]:Array Value).all (·.oneCell')=true:=by simp[Value.oneCell']
 go_upto_region 10 with fail
 go_region_law (go_simp;go_at_call 64;refine(HC.out _ HSd.out.fe HSd.out.ys).mono ?_;rintro e w2 ⟨rfl,hF2,hY2,hk2⟩;have hr2:=hk2.heap HSd.out.tl (fun e=>by unfold FO at e;rw[aT σ 3 (by omega) (by omega)] at e;omega);obtain⟨q0,q1,q2,q3,q4,q5,q6⟩:=aQ hr2;have z0:=frozen_of_row _ _ 0 _ _ hr2;have hr9:(w2.setCell ⟨w.heap.size+1,0,none⟩ (.int .i64 c0)).heap[w.heap.size+1]? =some (.cells #[.int .i64 c0,(),.slice none 0 0,.slice none 0 0,.slice none 0 0,(),()] 37 (0,0)):=(Mc hr2).trans rfl)
 all_goals go_wp2_with (first
  | (with_reducible refine MC 37 4 ?_;refine wpList_load_row rfl 37 (.tmp 4) rfl (w.heap.size+1) rfl 37 _ (0,0) _ hr9 Tryz.underlying37 rfl hsz ?_)
  | (with_reducible refine MF 37 4 106 ?_;refine wpList_store_row rfl 37 (.tmp 4) (.tmp 106) rfl (w.heap.size+1) _ rfl rfl 37 _ hr9 hsz rfl hone ?_))
 all_goals exact bodyPost_ret (results_cell_row rfl _ _ (w.heap.size+1) 37 _ (0,0) _ rfl (setRow_heap _ _ _ _ _ _ hr9) Tryz.underlying37 rfl hsz) rfl (HT.out _ w2 _ HSd.out hF2 hY2 hk2 ((aC w2 (w.heap.size+1) 0 _).trans (aJ _ _ _)))
theorem do5_any(X:Fx)(Y:Yx)(B:Bk)(K:Nat)(σ:Own)(rb:Nat)(s:Rs)(a:Ac)(hk1:a.k=5)(M:Nat×Nat)(w:World)(h:aK X σ w B K s.f)(hB:FeB K s.f)(hy:YIs X Y B K σ w s.y)(hr:dZ X Y σ w rb s.sh M):Calls Tryz.prog 26 #[.pointer (some ⟨rb,0,none⟩),.agg (acA a)] w (DoP X Y B K σ rb s a M w):=by
 have hS:=gp (X:=X) (Y:=Y) a h hy hr
 have hA:dY B Y a s {s with y:=(cZ Y s.y a.v (kZ a.n a.m)).2} (qT (cZ Y s.y a.v (kZ a.n a.m)).1 0) [] ⟨[],[]⟩:=by
  unfold dY
  rw[if_neg (by omega)]
  refine⟨rfl,?_⟩
  rw[if_neg (by omega),if_neg (by omega),if_neg (by omega),if_neg (by omega),if_pos hk1]
  exact⟨rfl,rfl⟩
 have HS:=MI hS
 have HC:=MI (fun W h hy=>Bq X Y B K (aA σ w.heap.size (w.heap.size+2) 3) s.f s.y a.v a.n a.m W h hy)
 have HT:=MI (fun(W w2 W':World)(hS:DoS X Y B K σ rb s a M w W) hF hY hk hk2=>hS.cmd (w2:=w2) (W':=W') hB hA hF hY hk hk2)
 unfold o9 at HC
 clear h hy hr hS hA
 obtain⟨ak,av,anm,an,am,ap,ax⟩:=a
 simp only at*
 subst hk1
 generalize cZ Y s.y av (kZ an am)=R at*
 obtain⟨c0,y1⟩:=R
 simp only at*
 unfold tlA qT at HT
 unfold acA tlA qT at HS
 unfold acA
 simp only at*
 go_enter Tryz.func26,Tryz.ntmps26
 go_upto_region 1 with fail
 generalize (w.alloc (.cells #[.int .i64 5,.int .i64 av,.string anm,.int .i64 an,.int .i64 am,.int .i64 ap,.int .i64 ax] 40)).alloc (.cells #[(),(),.slice none 0 0,.slice none 0 0,.slice none 0 0,(),()] 37)=W at*
 obtain⟨b0,b1,b2,b3,b4,b5,b6⟩:=aQ HS.out.box
 have HSd:=MI HS.out.drew
 obtain⟨⟨r0,r1,r2,r3⟩,-⟩:=HSd.out.rk.cells
 have hsz:(Tryz.prog.info? 37).map (·.size)=some (#[.int .i64 c0,.int .i64 0,.slice none 0 0,.slice none 0 0,.slice none 0 0,.int .i64 0,.int .i64 0]:Array Value).size:=by kernel_rfl
 have hone:(#[.int .i64 c0,(),.slice none 0 0,.slice none 0 0,.slice none 0 0,(),()]:Array Value).all (·.oneCell')=true:=by simp[Value.oneCell']
 go_upto_region 12 with fail
 go_region_law (go_simp;go_at_call 65;refine(HC.out _ HSd.out.fe HSd.out.ys).mono ?_;rintro e w2 ⟨rfl,hF2,hY2,hk2⟩;have hr2:=hk2.heap HSd.out.tl (fun e=>by unfold FO at e;rw[aT σ 3 (by omega) (by omega)] at e;omega);obtain⟨q0,q1,q2,q3,q4,q5,q6⟩:=aQ hr2;have z0:=frozen_of_row _ _ 0 _ _ hr2;have hr9:(w2.setCell ⟨w.heap.size+1,0,none⟩ (.int .i64 c0)).heap[w.heap.size+1]? =some (.cells #[.int .i64 c0,(),.slice none 0 0,.slice none 0 0,.slice none 0 0,(),()] 37 (0,0)):=(Mc hr2).trans rfl)
 all_goals go_wp2_with (first
  | (with_reducible refine MC 37 4 ?_;refine wpList_load_row rfl 37 (.tmp 4) rfl (w.heap.size+1) rfl 37 _ (0,0) _ hr9 Tryz.underlying37 rfl hsz ?_)
  | (with_reducible refine MF 37 4 106 ?_;refine wpList_store_row rfl 37 (.tmp 4) (.tmp 106) rfl (w.heap.size+1) _ rfl rfl 37 _ hr9 hsz rfl hone ?_))
 all_goals exact bodyPost_ret (results_cell_row rfl _ _ (w.heap.size+1) 37 _ (0,0) _ rfl (setRow_heap _ _ _ _ _ _ hr9) Tryz.underlying37 rfl hsz) rfl (HT.out _ w2 _ HSd.out hF2 hY2 hk2 ((aC w2 (w.heap.size+1) 0 _).trans (aJ _ _ _)))
theorem KE(X:Fx)(Y:Yx)(B:Bk)(K:Nat)(σ:Own)(rb:Nat)(s:Rs)(a:Ac)(hk1:a.k=12)(M:Nat×Nat)(w:World)(h:aK X σ w B K s.f)(hB:FeB K s.f)(hy:YIs X Y B K σ w s.y)(hr:dZ X Y σ w rb s.sh M):Calls Tryz.prog 26 #[.pointer (some ⟨rb,0,none⟩),.agg (acA a)] w (DoP X Y B K σ rb s a M w):=by
 have hS:=gp (X:=X) (Y:=Y) a h hy hr
 have hA:dY B Y a s {s with y:=(cZ Y s.y a.v (fun p=>(0,{p with sl:=Envp.rel p.sl}))).2} (qT (cZ Y s.y a.v (fun p=>(0,{p with sl:=Envp.rel p.sl}))).1 0) [] ⟨[],[]⟩:=by
  unfold dY
  rw[if_neg (by omega)]
  refine⟨rfl,?_⟩
  rw[if_neg (by omega),if_neg (by omega),if_neg (by omega),if_neg (by omega),if_neg (by omega),if_neg (by omega),if_pos hk1]
  exact⟨rfl,rfl⟩
 have HS:=MI hS
 have HC:=MI (fun W h hy=>zx X Y B K (aA σ w.heap.size (w.heap.size+2) 3) s.f s.y a.v W h hy)
 have HT:=MI (fun(W w2 W':World)(hS:DoS X Y B K σ rb s a M w W) hF hY hk hk2=>hS.cmd (w2:=w2) (W':=W') hB hA hF hY hk hk2)
 unfold o9 at HC
 clear h hy hr hS hA
 obtain⟨ak,av,anm,an,am,ap,ax⟩:=a
 simp only at*
 subst hk1
 generalize cZ Y s.y av (fun p=>(0,{p with sl:=Envp.rel p.sl}))=R at*
 obtain⟨c0,y1⟩:=R
 simp only at*
 unfold tlA qT at HT
 unfold acA tlA qT at HS
 unfold acA
 simp only at*
 go_enter Tryz.func26,Tryz.ntmps26
 go_upto_region 1 with fail
 generalize (w.alloc (.cells #[.int .i64 12,.int .i64 av,.string anm,.int .i64 an,.int .i64 am,.int .i64 ap,.int .i64 ax] 40)).alloc (.cells #[(),(),.slice none 0 0,.slice none 0 0,.slice none 0 0,(),()] 37)=W at*
 obtain⟨b0,b1,b2,b3,b4,b5,b6⟩:=aQ HS.out.box
 have HSd:=MI HS.out.drew
 obtain⟨⟨r0,r1,r2,r3⟩,-⟩:=HSd.out.rk.cells
 have hsz:(Tryz.prog.info? 37).map (·.size)=some (#[.int .i64 c0,.int .i64 0,.slice none 0 0,.slice none 0 0,.slice none 0 0,.int .i64 0,.int .i64 0]:Array Value).size:=by kernel_rfl
 have hone:(#[.int .i64 c0,(),.slice none 0 0,.slice none 0 0,.slice none 0 0,(),()]:Array Value).all (·.oneCell')=true:=by simp[Value.oneCell']
 go_upto_region 18 with fail
 go_region_law (go_simp;go_at_call 67;refine(HC.out _ HSd.out.fe HSd.out.ys).mono ?_;rintro e w2 ⟨rfl,hF2,hY2,hk2⟩;have hr2:=hk2.heap HSd.out.tl (fun e=>by unfold FO at e;rw[aT σ 3 (by omega) (by omega)] at e;omega);obtain⟨q0,q1,q2,q3,q4,q5,q6⟩:=aQ hr2;have z0:=frozen_of_row _ _ 0 _ _ hr2;have hr9:(w2.setCell ⟨w.heap.size+1,0,none⟩ (.int .i64 c0)).heap[w.heap.size+1]? =some (.cells #[.int .i64 c0,(),.slice none 0 0,.slice none 0 0,.slice none 0 0,(),()] 37 (0,0)):=(Mc hr2).trans rfl)
 all_goals go_wp2_with (first
  | (with_reducible refine MC 37 4 ?_;refine wpList_load_row rfl 37 (.tmp 4) rfl (w.heap.size+1) rfl 37 _ (0,0) _ hr9 Tryz.underlying37 rfl hsz ?_)
  | (with_reducible refine MF 37 4 106 ?_;refine wpList_store_row rfl 37 (.tmp 4) (.tmp 106) rfl (w.heap.size+1) _ rfl rfl 37 _ hr9 hsz rfl hone ?_))
 all_goals exact bodyPost_ret (results_cell_row rfl _ _ (w.heap.size+1) 37 _ (0,0) _ rfl (setRow_heap _ _ _ _ _ _ hr9) Tryz.underlying37 rfl hsz) rfl (HT.out _ w2 _ HSd.out hF2 hY2 hk2 ((aC w2 (w.heap.size+1) 0 _).trans (aJ _ _ _)))
theorem DoS.cmd2{X:Fx}{Y:Yx}{B:Bk}{K:Nat}{σ σ2:Own}{rb:Nat}{s s':Rs}{a:Ac}{M:Nat×Nat}{w W w2 W':World}(h:DoS X Y B K σ rb s a M w W)(hB:FeB (K+1) s'.f){c n:Int}(ha:dY B Y a s s' (qT c n) [] ⟨[],[]⟩)(hE:Ext (aA σ w.heap.size (w.heap.size+2) 3) σ2 W.heap.size)(hF:aK X σ2 w2 B (K+1) s'.f)(hY:YIs X Y B (K+1) σ2 w2 s'.y)(hsh:s'.sh=s.sh)(hk:af (FR (aA σ w.heap.size (w.heap.size+2) 3)) W w2)(hk2:af (fun k=>k=w.heap.size+1) w2 W'):DoP X Y B K σ rb s a M w (.returned (.agg (tlA (qT c n)))) W':=by
 have hx:=bZ σ w.heap.size (w.heap.size+2) 3
 have hs:=h.low.size
 have hx2:=hx.trans hE hs
 have h3:σ2 (w.heap.size+1)=3:=(hE _ (L8 h.tl)).trans (aT σ 3 (by omega) (by omega))
 have hkW:af (FR σ) w W':=((af.au h.low Me).andThen hk (S:=FR σ) (fun i hi e=>by
  unfold FR at e⊢
  rw[hx i hi] at e
  exact e)).andThen hk2 (S:=FR σ) (fun i hi e=>by omega)
 have hR2:=(h.rk0.ext hx2).keep hkW (fun k e hl=>by rw[hx2 k hl];unfold FR at e;omega)
 rw[←hsh] at hR2
 exact DoP.quiet ha hx2 (hF.kept (hk2.mono fun k _ e=>by rw[e,h3];exact Nat.le_refl 3)) hB (hY.keep hk2 (fun k e _=>by rw[e,h3];decide)) hR2 (hkW.mono fun k _ e=>.inl e)
theorem do1_no(X:Fx)(Y:Yx)(B:Bk)(K:Nat)(σ:Own)(rb:Nat)(s:Rs)(a:Ac)(hk1:a.k=1)(hfd:fM B.dir a.nm=false)(M:Nat×Nat)(w:World)(h:aK X σ w B K s.f)(hB:FeB K s.f)(hy:YIs X Y B K σ w s.y)(hr:dZ X Y σ w rb s.sh M):Calls Tryz.prog 26 #[.pointer (some ⟨rb,0,none⟩),.agg (acA a)] w (DoP X Y B K σ rb s a M w):=by
 have hS:=gp (X:=X) (Y:=Y) a h hy hr
 have hA:dY B Y a s s (qT 7 0) [] ⟨[],[]⟩:=by
  unfold dY
  rw[if_neg (by omega)]
  refine⟨rfl,?_⟩
  rw[if_pos hk1]
  exact .inl ⟨hfd,rfl,rfl⟩
 have HS:=MI hS
 have HC:Hid (∀W,aK X (aA σ w.heap.size (w.heap.size+2) 3) W B K s.f→YIs X Y B K (aA σ w.heap.size (w.heap.size+2) 3) W s.y→Calls Tryz.prog 13 #[.pointer (some ⟨Y.yb,0,none⟩),.string a.nm,.agg #[.int .i64 s.sh.a,.int .i64 s.sh.d,.int .i64 s.sh.s,.int .i64 s.sh.r]] W (fun e w'=>e= .returned (.tuple #[(),.int .i64 7])∧Below W.heap.size W w')):=fun W h1 h2=>(IL X Y B K _ s.f s.y a.nm s.sh hfd W h1 h2).mono fun e w' hh=>by
  rcases hh with⟨_,h3,h4⟩ | ⟨h3,_⟩
  ·exact⟨h3,h4⟩
  ·rw[hfd] at h3;cases h3
 have HT:=MI (fun(W w2 W':World)(hS:DoS X Y B K σ rb s a M w W) hF hY hk hk2=>hS.cmd2 (w2:=w2) (W':=W') (s':=s) (hB.up (by omega)) hA (Ext.refl _ _) hF hY rfl hk hk2)
 clear h hy hr hS hA hfd
 obtain⟨ak,av,anm,an,am,ap,ax⟩:=a
 simp only at*
 subst hk1
 unfold tlA qT at HT
 unfold acA tlA qT at HS
 unfold acA
 simp only at*
 go_enter Tryz.func26,Tryz.ntmps26
 go_upto_region 1 with fail
 generalize (w.alloc (.cells #[.int .i64 1,.int .i64 av,.string anm,.int .i64 an,.int .i64 am,.int .i64 ap,.int .i64 ax] 40)).alloc (.cells #[(),(),.slice none 0 0,.slice none 0 0,.slice none 0 0,(),()] 37)=W at*
 obtain⟨b0,b1,b2,b3,b4,b5,b6⟩:=aQ HS.out.box
 have HSd:=MI HS.out.drew
 obtain⟨⟨r0,r1,r2,r3⟩,r4,r5,r6,r7⟩:=HSd.out.rk.cells
 have hsz:(Tryz.prog.info? 37).map (·.size)=some (#[.int .i64 7,.int .i64 0,.slice none 0 0,.slice none 0 0,.slice none 0 0,.int .i64 0,.int .i64 0]:Array Value).size:=by kernel_rfl
 have hone:(#[.int .i64 7,(),.slice none 0 0,.slice none 0 0,.slice none 0 0,(),()]:Array Value).all (·.oneCell')=true:=by simp[Value.oneCell']
 go_upto_region 4 with fail
 go_region_law (go_simp;go_at_call 13;refine(HC.out _ HSd.out.fe HSd.out.ys).mono ?_;rintro e w2 ⟨rfl,hb2⟩;have hk2:af (FR (aA σ w.heap.size (w.heap.size+2) 3)) W.drew w2:=af.au hb2 Me;have hr2:=bT HSd.out.tl hb2 (L8 HSd.out.tl);have hF2:=(HSd.out.fe.ah hb2).up (L:=K+1) (by omega);have hY2:=(HSd.out.ys.ah hb2).up (L:=K+1) (by omega);obtain⟨q0,q1,q2,q3,q4,q5,q6⟩:=aQ hr2;have z0:=frozen_of_row _ _ 0 _ _ hr2;have z1:=frozen_of_row _ _ 1 _ _ hr2;have hr9:((w2.setCell ⟨w.heap.size+1,1,none⟩ (.int .i64 0)).setCell ⟨w.heap.size+1,0,none⟩ (.int .i64 7)).heap[w.heap.size+1]? =some (.cells #[.int .i64 7,(),.slice none 0 0,.slice none 0 0,.slice none 0 0,(),()] 37 (0,0)):=(Mc (Mc hr2)).trans rfl)
 all_goals go_wp2_with (first
  | (with_reducible refine MC 37 4 ?_;refine wpList_load_row rfl 37 (.tmp 4) rfl (w.heap.size+1) rfl 37 _ (0,0) _ hr9 Tryz.underlying37 rfl hsz ?_)
  | (with_reducible refine MF 37 4 106 ?_;refine wpList_store_row rfl 37 (.tmp 4) (.tmp 106) rfl (w.heap.size+1) _ rfl rfl 37 _ hr9 hsz rfl hone ?_))
 all_goals exact bodyPost_ret (results_cell_row rfl _ _ (w.heap.size+1) 37 _ (0,0) _ rfl (setRow_heap _ _ _ _ _ _ hr9) Tryz.underlying37 rfl hsz) rfl (HT.out _ w2 _ HSd.out hF2 hY2 hk2 (((aC w2 (w.heap.size+1) 1 _).trans (aC _ (w.heap.size+1) 0 _)).trans (aJ _ _ _)))
theorem do1_yes(X:Fx)(Y:Yx)(B:Bk)(K:Nat)(σ:Own)(rb:Nat)(s:Rs)(a:Ac)(hk1:a.k=1)(hfd:fM B.dir a.nm=true)(hct:s.y.count+1≤4294967296)(M:Nat×Nat)(w:World)(h:aK X σ w B K s.f)(hB:FeB K s.f)(hy:YIs X Y B K σ w s.y)(hr:dZ X Y σ w rb s.sh M):Calls Tryz.prog 26 #[.pointer (some ⟨rb,0,none⟩),.agg (acA a)] w (DoP X Y B K σ rb s a M w):=by
 have hS:=gp (X:=X) (Y:=Y) a h hy hr
 have hA:Hid (∀P:Px,P.V.i=gm B.dir a.nm→dY B Y a s {s with y:=⟨s.y.ps.set (gI Y s.y) (some (P,pJ (B.dir.getD (gm B.dir a.nm) m0) s.sh (s.y.count+1))),s.y.count+1⟩} (qT 0 (gI Y s.y:Int)) [] ⟨[],[]⟩):=fun P hP=>by
  unfold dY
  rw[if_neg (by omega)]
  refine⟨rfl,?_⟩
  rw[if_pos hk1]
  exact .inr ⟨hfd,P,hP,rfl,rfl⟩
 have HS:=MI hS
 have hsok:=hr.sok
 have HC:Hid (∀W,aK X (aA σ w.heap.size (w.heap.size+2) 3) W B K s.f→YIs X Y B K (aA σ w.heap.size (w.heap.size+2) 3) W s.y→Calls Tryz.prog 13 #[.pointer (some ⟨Y.yb,0,none⟩),.string a.nm,.agg #[.int .i64 s.sh.a,.int .i64 s.sh.d,.int .i64 s.sh.s,.int .i64 s.sh.r]] W (fun e w'=>∃P σ',e= .returned (.tuple #[.int .i64 (gI Y s.y:Int),()])∧P.V.i=gm B.dir a.nm∧Ext (aA σ w.heap.size (w.heap.size+2) 3) σ' W.heap.size∧aK X σ' w' B K s.f∧YIs X Y B K σ' w' ⟨s.y.ps.set (gI Y s.y) (some (P,pJ (B.dir.getD (gm B.dir a.nm) m0) s.sh (s.y.count+1))),s.y.count+1⟩∧af (FO (aA σ w.heap.size (w.heap.size+2) 3)) W w')):=fun W h1 h2=>(Fg X Y B K _ s.f s.y a.nm s.sh hsok hct hfd W h1 h2).mono fun e w' hh=>by
  rcases hh with⟨h3,_⟩ | ⟨_,h4⟩
  ·rw[hfd] at h3;cases h3
  ·exact h4
 have HT:=MI (fun(W w2 W':World)(P:Px)(σ2:Own)(hS:DoS X Y B K σ rb s a M w W) hP hE hF hY hk hk2=>hS.cmd2 (w2:=w2) (W':=W') (σ2:=σ2) (s':={s with y:=⟨s.y.ps.set (gI Y s.y) (some (P,pJ (B.dir.getD (gm B.dir a.nm) m0) s.sh (s.y.count+1))),s.y.count+1⟩}) (hB.up (by omega)) (hA.out P hP) hE hF hY rfl hk hk2)
 clear h hy hr hS hA hfd
 obtain⟨ak,av,anm,an,am,ap,ax⟩:=a
 simp only at*
 subst hk1
 generalize gm B.dir anm=fz at*
 generalize gI Y s.y=rm at*
 unfold tlA qT at HT
 unfold acA tlA qT at HS
 unfold acA
 simp only at*
 go_enter Tryz.func26,Tryz.ntmps26
 go_upto_region 1 with fail
 generalize (w.alloc (.cells #[.int .i64 1,.int .i64 av,.string anm,.int .i64 an,.int .i64 am,.int .i64 ap,.int .i64 ax] 40)).alloc (.cells #[(),(),.slice none 0 0,.slice none 0 0,.slice none 0 0,(),()] 37)=W at*
 obtain⟨b0,b1,b2,b3,b4,b5,b6⟩:=aQ HS.out.box
 have HSd:=MI HS.out.drew
 obtain⟨⟨r0,r1,r2,r3⟩,r4,r5,r6,r7⟩:=HSd.out.rk.cells
 have hsz:(Tryz.prog.info? 37).map (·.size)=some (#[.int .i64 0,.int .i64 rm,.slice none 0 0,.slice none 0 0,.slice none 0 0,.int .i64 0,.int .i64 0]:Array Value).size:=by kernel_rfl
 have hone:(#[(),.int .i64 rm,.slice none 0 0,.slice none 0 0,.slice none 0 0,(),()]:Array Value).all (·.oneCell')=true:=by simp[Value.oneCell']
 go_upto_region 4 with fail
 go_region_law (go_simp;go_at_call 13;refine(HC.out _ HSd.out.fe HSd.out.ys).mono ?_;rintro e w2 ⟨P,σ2,rfl,hP,hE,hF,hY,hkO⟩;have hk2:af (FR (aA σ w.heap.size (w.heap.size+2) 3)) W.drew w2:=hkO.mono (fun k _ e=>.inr (.inr e));have hr2:=hkO.heap HSd.out.tl (fun e=>by unfold FO at e;rw[aT σ 3 (by omega) (by omega)] at e;omega);have hF2:=hF.up (L:=K+1) (by omega);have hY2:=hY.up (L:=K+1) (by omega);obtain⟨q0,q1,q2,q3,q4,q5,q6⟩:=aQ hr2;have z0:=frozen_of_row _ _ 0 _ _ hr2;have z1:=frozen_of_row _ _ 1 _ _ hr2;have hr9:((w2.setCell ⟨w.heap.size+1,1,none⟩ (.int .i64 rm)).setCell ⟨w.heap.size+1,0,none⟩ (.int .i64 0)).heap[w.heap.size+1]? =some (.cells #[(),.int .i64 rm,.slice none 0 0,.slice none 0 0,.slice none 0 0,(),()] 37 (0,0)):=(Mc (Mc hr2)).trans rfl)
 all_goals go_wp2_with (first
  | (with_reducible refine MC 37 4 ?_;refine wpList_load_row rfl 37 (.tmp 4) rfl (w.heap.size+1) rfl 37 _ (0,0) _ hr9 Tryz.underlying37 rfl hsz ?_)
  | (with_reducible refine MF 37 4 106 ?_;refine wpList_store_row rfl 37 (.tmp 4) (.tmp 106) rfl (w.heap.size+1) _ rfl rfl 37 _ hr9 hsz rfl hone ?_))
 all_goals exact bodyPost_ret (results_cell_row rfl _ _ (w.heap.size+1) 37 _ (0,0) _ rfl (setRow_heap _ _ _ _ _ _ hr9) Tryz.underlying37 rfl hsz) rfl (HT.out _ w2 _ P σ2 HSd.out hP hE hF2 hY2 hk2 (((aC w2 (w.heap.size+1) 1 _).trans (aC _ (w.heap.size+1) 0 _)).trans (aJ _ _ _)))
end Go.Proofs.YtnicjahcgnhogaaGreatDoor

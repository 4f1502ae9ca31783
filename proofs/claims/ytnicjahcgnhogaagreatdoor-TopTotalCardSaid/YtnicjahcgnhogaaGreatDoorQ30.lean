/- Part 31 of the walk: contracts of the program's functions, each for every input. No condition. -/
import Derived.Test.YtnicjahcgnhogaaGreatDoorQ29
import Derived.Test.YtnicjahcgnhogaaGreatDoorQ18
set_option linter.unusedVariables false
set_option linter.unusedSimpArgs false
set_option maxRecDepth 100000
set_option maxHeartbeats 8000000
namespace Go.Proofs.YtnicjahcgnhogaaGreatDoor
open Go Go.RowKit Go.Calli
attribute [local irreducible] wpStill wpAnyH wpAnyS wpList Code.wp
def stV(x:Int×Int):List Value:=[.int .i64 x.1,.int .i64 x.2]
theorem xX(x:Int×Int):(stV x).length=2:=rfl
theorem JU:(Tryz.prog.info? 81).map (fun i=>(i.zero,i.size,i.bytes))=some (some (.agg #[(),()]),2,16):=by kernel_rfl
def kP:Array Value:=#[.slice none 0 0,.slice none 0 0,.slice none 0 0,(),()]
def A8(B:Bk)(n:Nat)(f:Fe)(y:Ye):Nat→Fe→Ye→Rp→List (Int×Int)→Prop
 | 0,f',y',r',O=>f'=f∧y'=y∧r'=⟨[],[]⟩∧O=[]
 | k+1,f',y',r',O'=>∃f1 y1 r1 O l m,A8 B n f y k f1 y1 r1 O∧OneR B n f1 f' y1 y' r1 r' l m∧O'=O++[(l,m)]
structure RnS(X:Fx)(Y:Yx)(B:Bk)(K:Nat)(σ:Own)(w:World)(wr:World)(σ':Own)(f':Fe)(y':Ye)(r':Rp)(O:List (Int×Int))(ov lv ev:Value):Prop where
 ext:Ext σ σ' w.heap.size
 fe:aK X σ' wr B K f'
 fb:FeB K f'
 ys:YIs X Y B K σ' wr y'
 rp:oI σ' wr (w.heap.size+1) ov lv ev 0 0 r'
 out:wr.ownsRow 0 81 2 ov O.length (O.flatMap stV)
 oo: ∀b,ov.ownBlock=some b→σ' b=3
 res:wr.heap[w.heap.size]? =some (.cells kP 35 (0,0))
 ro:σ' w.heap.size=3
 k:af (FR σ) w wr
 n0: ∀k,ov.ownBlock=some k→w.heap.size≤k
 n1: ∀k,lv.ownBlock=some k→w.heap.size≤k
 n2: ∀k,ev.ownBlock=some k→w.heap.size≤k
theorem wM{w w':World}{B e size n:Nat}{v:Value}{xs:List Value}(h:w.ownsRow B e size v n xs)(hb:Below w.heap.size w w'):w'.ownsRow B e size v n xs:=ay (S:=fun _=>False) h (af.au hb Me) (fun _ _ e=>e)
theorem RnS.drew{X:Fx}{Y:Yx}{B:Bk}{K:Nat}{σ:Own}{w:World}{wr:World}{σ':Own}{f':Fe}{y':Ye}{r':Rp}{O:List (Int×Int)}{ov lv ev:Value}(h:RnS X Y B K σ w wr σ' f' y' r' O ov lv ev):RnS X Y B K σ w wr.drew σ' f' y' r' O ov lv ev:=
 have hb:=(Below.refl wr.heap.size wr).drew
 ⟨h.ext,h.fe.ah hb,h.fb,h.ys.ah hb,h.rp.ah hb,wM h.out hb,h.oo,h.res,h.ro,h.k.drew,h.n0,h.n1,h.n2⟩
theorem RnS.drewN{X:Fx}{Y:Yx}{B:Bk}{K:Nat}{σ:Own}{w:World}{wr:World}{σ':Own}{f':Fe}{y':Ye}{r':Rp}{O:List (Int×Int)}{ov lv ev:Value}(h:RnS X Y B K σ w wr σ' f' y' r' O ov lv ev)(m:Nat):RnS X Y B K σ w (wr.drewN m) σ' f' y' r' O ov lv ev:=
 have hb:Below wr.heap.size wr (wr.drewN m):=below_drewN MB m
 ⟨h.ext,h.fe.ah hb,h.fb,h.ys.ah hb,h.rp.ah hb,wM h.out hb,h.oo,h.res,h.ro,h.k.drewN m,h.n0,h.n1,h.n2⟩
theorem RnS.one{X:Fx}{Y:Yx}{B:Bk}{K:Nat}{σ:Own}{w:World}{wr:World}{σ':Own}{f':Fe}{y':Ye}{r':Rp}{O:List (Int×Int)}{ov lv ev:Value}(h:RnS X Y B K σ w wr σ' f' y' r' O ov lv ev){w2:World}{σ2:Own}{f2:Fe}{y2:Ye}{r2:Rp}{lv2 ev2:Value}{L:Nat}(hE:Ext σ' σ2 wr.heap.size)(hF:aK X σ2 w2 B L f2)(hB:FeB L f2)(hY:YIs X Y B L σ2 w2 y2)(hR:oI σ2 w2 (w.heap.size+1) ov lv2 ev2 0 0 r2)(hK:af (FG σ' (w.heap.size+1) lv ev) wr w2)(hl: ∀k,lv2.ownBlock=some k→lv.ownBlock=some k∨wr.heap.size≤k)(he: ∀k,ev2.ownBlock=some k→ev.ownBlock=some k∨wr.heap.size≤k):RnS X Y B L σ w w2 σ2 f2 y2 r2 O ov lv2 ev2:=by
 have hs:=h.k.size
 have hrl:=L8 h.res
 have nt: ∀k cs t,wr.heap[k]? =some (.cells cs t (0,0))→σ' k=3→k≠w.heap.size+1→t≠215→t≠3→¬FG σ' (w.heap.size+1) lv ev k:=fun k cs t hc h3 hn h1 h2 e=>by
  unfold FG FR at e
  rcases e with e | e | e | e
  ·omega
  ·exact hn e
  ·obtain⟨ds,hds⟩:=ag h.rp.lost e
   exact aF hc hds h1 rfl
  ·obtain⟨ds,hds⟩:=ag h.rp.ended e
   exact aF hc hds h2 rfl
 refine⟨h.ext.trans hE hs,hF,hB,hY,hR,ay h.out hK (fun k e=>?_),fun b e=>?_,hK.heap h.res (nt _ _ _ h.res h.ro (by omega) (by decide) (by decide)),(hE _ hrl).trans h.ro,h.k.andThen hK (fun k hk e=>?_),h.n0,fun k e=>?_,fun k e=>?_⟩
 ·obtain⟨cs,hcs⟩:=ag h.out e
  exact nt k cs 81 hcs (h.oo k e) (fun e2=>by subst e2;exact aF h.rp.row hcs (by decide) rfl) (by decide) (by decide)
 ·obtain⟨cs,hcs⟩:=ag h.out e
  exact(hE _ (L8 hcs)).trans (h.oo b e)
 ·have h1:=h.ext k hk
  unfold FG at e
  rcases e with e | e | e | e
  ·unfold FR at e⊢;omega
  ·omega
  ·have:=h.n1 k e;omega
  ·have:=h.n2 k e;omega
 ·rcases hl k e with h1 | h1
  ·exact h.n1 k h1
  ·omega
 ·rcases he k e with h1 | h1
  ·exact h.n2 k h1
  ·omega
theorem RnS.lay{X:Fx}{Y:Yx}{B:Bk}{K:Nat}{σ:Own}{w:World}{wr:World}{σ':Own}{f':Fe}{y':Ye}{r':Rp}{O:List (Int×Int)}{ov lv ev:Value}(h:RnS X Y B K σ w wr σ' f' y' r' O ov lv ev){w3:World}{v':Value}{a b:Int}(ho:w3.ownsRow 0 81 2 v' (O.length+1) (O.flatMap stV++stV (a,b)))(hk:af (fun k=>ov.ownBlock=some k) wr w3)(hn: ∀k,v'.ownBlock=some k→ov.ownBlock=some k∨wr.heap.size≤k):RnS X Y B K σ w (w3.setCell ⟨w.heap.size+1,0,none⟩ v') (aA σ' wr.heap.size w3.heap.size 3) f' y' r' (O++[(a,b)]) v' lv ev:=by
 have hs:=h.k.size
 have hs2:=hk.size
 have hrl:=L8 h.res
 have hbl:=L8 h.rp.row
 have hx:=bZ σ' wr.heap.size w3.heap.size 3
 have k1:af (fun k=>k=w.heap.size+1) w3 (w3.setCell ⟨w.heap.size+1,0,none⟩ v'):=aC _ _ _ _
 have k7:af (fun k=>ov.ownBlock=some k∨k=w.heap.size+1) wr (w3.setCell ⟨w.heap.size+1,0,none⟩ v'):=(hk.mono fun k _ e=>.inl e).setCell (p:=⟨w.heap.size+1,0,none⟩) (.inr (.inr rfl)) _
 have h3: ∀k,(ov.ownBlock=some k∨k=w.heap.size+1)→σ' k=3:=fun k e=>e.elim (h.oo k) (fun e=>e▸h.rp.own)
 have nt: ∀k cs t,wr.heap[k]? =some (.cells cs t (0,0))→t≠81→k≠w.heap.size+1→¬(ov.ownBlock=some k∨k=w.heap.size+1):=fun k cs t hc h1 h2 e=>by
  rcases e with e | e
  ·obtain⟨ds,hds⟩:=ag h.out e
   exact aF hc hds h1 rfl
  ·exact h2 e
 have hr3:w3.heap[w.heap.size+1]? =some (.cells #[ov,lv,ev,(),()] 35 (0,0)):=hk.heap h.rp.row (fun e=>by
  obtain⟨ds,hds⟩:=ag h.out e
  exact aF h.rp.row hds (by decide) rfl)
 refine⟨h.ext.trans hx hs,?_,h.fb,(h.ys.ext hx).keep k7 (fun k e hl=>by rw[hx k hl,h3 k e];decide),⟨(Mc hr3).trans rfl,(hx _ hbl).trans h.rp.own,ay h.rp.lost k7 (fun k e=>?_),ay h.rp.ended k7 (fun k e=>?_),fun b e=>?_,fun b e=>?_⟩,?_,fun b e=>?_,k7.heap h.res (nt _ _ _ h.res (by decide) (by omega)),(hx _ hrl).trans h.ro,h.k.andThen k7 (fun k hk2 e=>?_),fun k e=>?_,h.n1,h.n2⟩
 ·have h7:=h.fe.aA (k7.mono fun k _ e=>by rw[h3 k e];exact Nat.le_refl 3) 3
  rw[show(w3.setCell ⟨w.heap.size+1,0,none⟩ v').heap.size=w3.heap.size by simp] at h7
  exact h7
 ·obtain⟨cs,hcs⟩:=ag h.rp.lost e
  exact nt k cs 215 hcs (by decide) (fun e2=>by subst e2;exact aF h.rp.row hcs (by decide) rfl)
 ·obtain⟨cs,hcs⟩:=ag h.rp.ended e
  exact nt k cs 3 hcs (by decide) (fun e2=>by subst e2;exact aF h.rp.row hcs (by decide) rfl)
 ·obtain⟨cs,hcs⟩:=ag h.rp.lost e
  exact(hx _ (L8 hcs)).trans (h.rp.lo b e)
 ·obtain⟨cs,hcs⟩:=ag h.rp.ended e
  exact(hx _ (L8 hcs)).trans (h.rp.eo b e)
 ·have h5:=ay ho k1 (fun k e hs=>by
   obtain⟨cs,hcs⟩:=ag ho e
   subst hs
   exact aF hr3 hcs (by decide) rfl)
  simpa[List.flatMap_append] using h5
 ·obtain⟨cs,hcs⟩:=ag ho e
  rcases Nat.lt_or_ge b wr.heap.size with hl | hl
  ·rw[dP σ' 3 hl]
   rcases hn b e with h1 | h1
   ·exact h.oo b h1
   ·omega
  ·exact aT σ' 3 hl (L8 hcs)
 ·rcases e with e | e
  ·have:=h.n0 k e;omega
  ·omega
 ·rcases hn k e with h1 | h1
  ·exact h.n0 k h1
  ·omega
theorem RnS.fin{X:Fx}{Y:Yx}{B:Bk}{K:Nat}{σ:Own}{w:World}{wr:World}{σ':Own}{f':Fe}{y':Ye}{r':Rp}{O:List (Int×Int)}{oo:Option Addr}{n oc:Nat}{lv ev:Value}(h:RnS X Y B K σ w wr σ' f' y' r' O (.slice oo n oc) lv ev){w':World}(hk:af (fun k=>k=w.heap.size∨k=w.heap.size+1) wr w'):aK X σ' w' B K f'∧YIs X Y B K σ' w' y'∧bH stV 2 (0,0) w' oo O.length O∧af (FR σ) w w':=by
 have h3: ∀k,(k=w.heap.size∨k=w.heap.size+1)→σ' k=3:=fun k e=>e.elim (fun e=>e▸h.ro) (fun e=>e▸h.rp.own)
 refine⟨h.fe.kept (hk.mono fun k _ e=>by rw[h3 k e];exact Nat.le_refl 3),h.ys.keep hk (fun k e _=>by rw[h3 k e];decide),?_,h.k.andThen hk (fun i hi e=>by omega)⟩
 obtain⟨ao,cap,hv,-,hr,hb⟩:=jO (0,0) xX (by decide) h.out
 cases hv
 refine hr.kept hk (fun a ha e=>?_)
 have hob:=(hb a ha).2.2.2
 obtain⟨cs,hcs⟩:=ag h.out hob
 rcases e with e | e
 ·exact aF h.res hcs (by decide) e.symm
 ·exact aF h.rp.row hcs (by decide) e.symm
theorem ES:(Tryz.prog.info? 35).map (·.size)=some 5:=by kernel_rfl
theorem vV:(Tryz.prog.info? 35).map (·.size)=some kP.size:=by kernel_rfl
theorem jJ{w:World}{b o g n:Nat}{v u:Value}(hne:b≠g)(h:w.cell? ⟨b,o,none⟩=some v):(w.setCell ⟨g,n,none⟩ u).drew.cell? ⟨b,o,none⟩=some v:=(aC w g n u).cell h hne
theorem nM{w:World}{b o g n m:Nat}{v u t:Value}(hne:b≠g)(h:w.cell? ⟨b,o,none⟩=some v):((w.setCell ⟨g,n,none⟩ u).setCell ⟨g,m,none⟩ t).drew.cell? ⟨b,o,none⟩=some v:=(aC _ g m t).cell ((aC w g n u).cell h hne) hne
def RenP(X:Fx)(Y:Yx)(B:Bk)(K:Nat)(σ:Own)(f:Fe)(y:Ye)(n:Nat)(w:World)(e:Ending)(w':World):Prop:=∃(f':Fe)(y':Ye)(r':Rp)(O:List (Int×Int))(oo lo eo:Option Addr)(oc lc ec:Nat)(σ':Own),e= .returned (.tuple #[.agg #[.slice oo O.length oc,.slice lo r'.lost.length lc,.slice eo r'.ended.length ec,.int .i64 (f'.fr - f.fr),.int .i64 (f'.c.d.r - f.c.d.r)],()])∧O.length=n∧A8 B Y.n f y n f' y' r' O∧Ext σ σ' w.heap.size∧aK X σ' w' B (K+16*Y.n*n) f'∧FeB (K+16*Y.n*n) f'∧YIs X Y B (K+16*Y.n*n) σ' w' y'∧bH stV 2 (0,0) w' oo O.length O∧(∀a,oo=some a→σ' a.block=3∧w.heap.size≤a.block)∧af (FR σ) w w'
theorem ren_err(X:Fx)(Y:Yx)(B:Bk)(K:Nat)(σ:Own)(f:Fe)(y:Ye)(n:Int)(hn:n<0∨256<n)(w:World)(h:aK X σ w B K f)(hy:YIs X Y B K σ w y):Calls Tryz.prog 15 #[.pointer (some ⟨Y.yb,0,none⟩),.int .i64 n] w (fun e w'=>e= .returned (.tuple #[.agg kP,.int .i64 5])∧Below w.heap.size w w'):=by
 have hb:=ae w (.cells kP 35)
 have HN:=MI (iM X Y B K σ y _ (hy.ah hb))
 have hz:=L9 w (.cells kP 35)
 have hzi:=vV
 have HB:=MI hb
 clear h hy hb
 unfold kP at*
 by_cases h1:n<0
 ·clear hn
  go_enter Tryz.func15,Tryz.ntmps15
  go_wp2_with (first
   | (go_at_call 27;refine HN.out.mono ?_;rintro e w' ⟨rfl,rfl⟩)
   | (with_reducible refine MF 35 4 20 ?_;refine wpList_store_row rfl 35 (.tmp 4) (.tmp 20) rfl _ _ rfl rfl 35 _ hz hzi rfl (by simp[Value.oneCell']) ?_))
  exact bodyPost_ret (results_cell_tmp (fn:=Tryz.f15) (p:=4) (q:=5) (ty:=35) rfl _ _ _ _ _ _ _ rfl (setRow_heap _ _ _ _ _ _ hz) Tryz.underlying35 rfl hzi) rfl ⟨rfl,below_setRow HB.out Me _⟩
 ·have h2:256<n:=by omega
  clear hn
  go_enter Tryz.func15,Tryz.ntmps15
  go_wp2_with (first
   | (go_at_call 27;refine HN.out.mono ?_;rintro e w' ⟨rfl,rfl⟩)
   | (with_reducible refine MF 35 4 20 ?_;refine wpList_store_row rfl 35 (.tmp 4) (.tmp 20) rfl _ _ rfl rfl 35 _ hz hzi rfl (by simp[Value.oneCell']) ?_))
  exact bodyPost_ret (results_cell_tmp (fn:=Tryz.f15) (p:=4) (q:=5) (ty:=35) rfl _ _ _ _ _ _ _ rfl (setRow_heap _ _ _ _ _ _ hz) Tryz.underlying35 rfl hzi) rfl ⟨rfl,below_setRow HB.out Me _⟩
theorem BV(X:Fx)(Y:Yx)(B:Bk)(K:Nat)(hn16:Y.n≤16)(σ:Own)(f:Fe)(hf:FeB K f)(y:Ye)(n:Nat)(hn:n≤256)(hK:K+256*n≤470000)(w:World)(h:aK X σ w B K f)(hy:YIs X Y B K σ w y):Calls Tryz.prog 15 #[.pointer (some ⟨Y.yb,0,none⟩),.int .i64 n] w (RenP X Y B K σ f y n w):=by
 have hb:=ae w (.cells kP 35)
 have hb2:=iR hb (.cells kP 35)
 have HN:=MI (iM X Y B K σ y _ (hy.ah hb))
 have hz:=L9 w (.cells kP 35)
 have hz2:((w.alloc (.cells kP 35)).alloc (.cells kP 35)).heap[w.heap.size+1]? =some (.cells kP 35 (0,0)):=by
  have h1:=L9 (w.alloc (.cells kP 35)) (.cells kP 35)
  simpa using h1
 have hz1:((w.alloc (.cells kP 35)).alloc (.cells kP 35)).heap[w.heap.size]? =some (.cells kP 35 (0,0)):=(heap_alloc_old _ _ (by simp)).trans hz
 have hzi:=vV
 have hx:=bZ σ w.heap.size (w.heap.size+2) 3
 have HS0:Hid (RnS X Y B K σ w ((w.alloc (.cells kP 35)).alloc (.cells kP 35)) (aA σ w.heap.size (w.heap.size+2) 3) f y ⟨[],[]⟩ [] (.slice none 0 0) (.slice none 0 0) (.slice none 0 0)):=by
  refine⟨hx,?_,hf,(hy.ext hx).ah hb2,⟨hz2,aT σ 3 (by omega) (by omega),World.ownsRow_nil _ _ _ _,World.ownsRow_nil _ _ _ _,(fun b e=>by cases e),(fun b e=>by cases e)⟩,World.ownsRow_nil _ _ _ _,(fun b e=>by cases e),hz1,aT σ 3 (by omega) (by omega),af.au hb2 Me,(fun b e=>by cases e),(fun b e=>by cases e),(fun b e=>by cases e)⟩
  have h7:=h.aA (af.au (S:=fun k=>3≤σ k) hb2 Me) 3
  simpa using h7
 have h0lim:=MI h.lim
 have t1:¬(n:Int)<0:=by omega
 have t2:¬(256:Int)<(n:Int):=by omega
 clear h hy hb hb2 hz hz2 hz1 hx
 unfold kP at*
 go_enter Tryz.func15,Tryz.ntmps15
 go_upto_region 6 with(go_at_call 27;refine HN.out.mono ?_;rintro e w' ⟨rfl,rfl⟩)
 generalize (w.alloc (.cells #[.slice none 0 0,.slice none 0 0,.slice none 0 0,(),()] 35)).alloc (.cells #[.slice none 0 0,.slice none 0 0,.slice none 0 0,(),()] 35)=W at*
 have HFr:=MI (fun m=>xq (nK X (aA σ w.heap.size (w.heap.size+2) 3) B K f (W.drewN m) (HS0.out.fe.ah (below_drewN MB m))))
 have HCd:=MI (fun m=>xq (rq X (aA σ w.heap.size (w.heap.size+2) 3) B K f (W.drewN m) (HS0.out.fe.ah (below_drewN MB m))))
 have HDr:=MI (fun m=>xq (o7 X (aA σ w.heap.size (w.heap.size+2) 3) B K f (W.drewN m) (HS0.out.fe.ah (below_drewN MB m))))
 obtain⟨c0,c1,c2⟩:=HS0.out.ys.cells
 obtain⟨d0,d1,d2,d3,-⟩:=jI HS0.out.fe.row
 go_quiet (first
  | (go_at_call 36;exact Calls.quiet_of_same (HFr.out _))
  | (go_at_call 37;exact Calls.quiet_of_same (HCd.out _))
  | (go_at_call 38;exact Calls.quiet_of_same (HDr.out _)))
 clear HFr HCd HDr HN c0 c1 c2 d0 d1 d2 d3
 go_wp2_with fail
 have hmn:=Nat.mul_le_mul (show 16*Y.n≤256 by omega) (Nat.le_refl n)
 go_loopw [36] (fun v36 wr=>∃(j:Nat)(σ':Own)(f':Fe)(y':Ye)(r':Rp)(O:List (Int×Int))(ov lv ev:Value),j≤n∧v36= .int .i64 (j:Int)∧RnS X Y B (K+16*Y.n*j) σ w wr σ' f' y' r' O ov lv ev∧A8 B Y.n f y j f' y' r' O∧O.length=j∧r'.lost.length≤16000000*j∧r'.ended.length≤16*j) (fun v36 _=>n - aG v36)
 case atStart=>exact⟨0,_,_,_,_,_,_,_,_,by omega,rfl,HS0.out.drewN _,⟨rfl,rfl,rfl,rfl⟩,rfl,by simp,by simp⟩
 case round=>
  clear HS0
  obtain⟨j,σ',f',y',r',O,ov,lv,ev,hj,rfl,hS,hR,hOl,hll,hel⟩:=hrel
  by_cases hlt:j<n
  ·have hlt2:(j:Int)<(n:Int):=by omega
   have hmj:=Nat.mul_le_mul (show 16*Y.n≤256 by omega) hj
   have hmj2:16*Y.n*(j+1)=16*Y.n*j+16*Y.n:=Nat.mul_succ _ _
   have hQ1:K+16*Y.n*j≤470000:=by omega
   have HQ2:Hid (K+16*Y.n*j+16*Y.n=K+16*Y.n*(j+1)):=by show _=_;omega
   clear hmn hmj hmj2
   generalize hQ:K+16*Y.n*j=Q at*
   have HSd:=MI hS.drew
   have HO:=MI (one_any X Y B Q hQ1 hn16 σ' f' hS.fb y' r' (by omega) (by omega) (w.heap.size+1) ov lv ev wr.drew HSd.out.fe HSd.out.ys HSd.out.rp)
   unfold OneP at HO
   obtain⟨b0,-⟩:=bf HSd.out.rp.row
   have HR:=MI hR
   have HOl:=MI hOl
   have hob:O.length≤256:=by omega
   clear hS hR hQ hOl
   have HRR:Hid (∀f2 y2 r2 l m,OneR B Y.n f' f2 y' y2 r' r2 l m→A8 B Y.n f y (j+1) f2 y2 r2 (O++[(l,m)])):=fun f2 y2 r2 l m h1=>⟨f',y',r',O,l,m,HR.out,h1,rfl⟩
   go_upto_region 9 with fail
   go_region_law (first
    | (refine iD rfl (.tmp 39) (.tmp 42) 31 31 rfl rfl rfl hrun ?_)
    | (go_simp;go_at_call 39;refine HO.out.mono ?_;rintro e w2 ⟨l,m,f2,y2,r2,lv2,ev2,σ2,rfl,hOR,hE,hF,hB,hY,hRp,hKp,hl2,he2,hll2,hel2⟩;have hS2:=HSd.out.one hE hF hB hY hRp hKp hl2 he2;obtain⟨v',w3,hrun,ho3,hk3,hp3⟩:=fE (P:=Tryz.prog) w2 31 31 81 2 Tryz.underlying31 JU rfl (by decide) 0 ov O.length _ hS2.out (stV (l,m)) rfl (fun u hu=>by simp only[stV,List.mem_cons,List.not_mem_nil,or_false] at hu;rcases hu with rfl | rfl<;>rfl) (by omega) (by unfold maxLen;omega) (Nat.zero_le _);obtain⟨so,sc,rfl⟩:=bV ho3;have b0:=(bf hS2.rp.row).1;have b1:=bM (o:=.cells #[.int .i64 l,.int .i64 m] 81) b0;have hr3:=hk3.heap hS2.rp.row (fun e=>by obtain⟨ds,hds⟩:=ag hS2.out e;exact aF hS2.rp.row hds (by decide) rfl);have b2:=(bf hr3).1;have z0:=frozen_of_row _ _ 0 _ _ hr3))
   all_goals go_wp2_with fail
   all_goals refine⟨⟨j+1,_,_,_,_,_,_,_,_,by omega,by go_num,by rw[←HQ2.out];exact hS2.lay ho3 hk3 hp3,HRR.out _ _ _ _ _ hOR,by simp[HOl.out],by omega,by omega⟩,?_⟩
   all_goals (simp[aG];omega)
  ·obtain rfl:j=n:=by omega
   have hnl:¬(j:Int)<(j:Int):=by omega
   have HR:=MI hR
   have HOl:=MI hOl
   obtain⟨oo,oc,hov⟩:=bV hS.out
   obtain⟨lo,lc,hlv⟩:=bV hS.rp.lost
   obtain⟨eo,ec,hev⟩:=bV hS.rp.ended
   subst hov
   subst hlv
   subst hev
   have HSd:=MI hS.drew
   obtain⟨c0,c1,c2⟩:=HSd.out.ys.cells
   obtain⟨d0,d1,d2,d3,-⟩:=jI HSd.out.fe.row
   have g3:=frozen_of_row _ _ 3 _ _ HSd.out.rp.row
   have g4:=frozen_of_row _ _ 4 _ _ HSd.out.rp.row
   obtain⟨b0,b1,b2,b3,b4⟩:=bf HSd.out.rp.row
   have HS:=MI hS
   clear hS hR hOl
   have hfb:=hf
   have hfc:=HSd.out.fb
   have hw1:IntKind.i64.wrap (f'.fr - f.fr)=f'.fr - f.fr:=IntWalk.i64_in _ (by have:=hf.f0;have:=hf.f1;have:=HSd.out.fb.f0;have:=HSd.out.fb.f1;omega)
   have hl1:=HSd.out.fe.lim
   have hl0:=h0lim
   have hw2:IntKind.i64.wrap (f'.c.d.r - f.c.d.r)=f'.c.d.r - f.c.d.r:=IntWalk.i64_in _ (by have:=hl1.ok.2.1;have:=hl1.r;have:=hl0.out.ok.2.1;have:=hl0.out.r;have hmj:=Nat.mul_le_mul (show 16*Y.n≤256 by omega) (Nat.le_refl j);omega)
   clear hl1 hl0 h0lim
   have HFd:=MI (fun c v=>(HS.out.fe.kept ((aC wr (w.heap.size+1) c v).mono fun k _ e=>by rw[e,HSd.out.rp.own];exact Nat.le_refl 3)).ah MB.drew)
   have c0w:wr.cell? ⟨Y.yb,0,none⟩=some (.pointer (some ⟨X.fb,0,none⟩)):=c0
   have d0w:wr.cell? ⟨X.fb,0,none⟩=some (.pointer (some ⟨X.A.cb,0,none⟩)):=d0
   have hne1:Y.yb≠w.heap.size+1:=fun e=>by have h1:=HSd.out.ys.o1;rw[e,HSd.out.rp.own] at h1;omega
   have hne2:X.fb≠w.heap.size+1:=fun e=>by have h1:=HSd.out.fe.tf;rw[e,HSd.out.rp.own] at h1;omega
   have hrow:=HSd.out.rp.row
   have hrow3:(wr.setCell ⟨w.heap.size+1,3,none⟩ (.int .i64 (f'.fr - f.fr))).drew.heap[w.heap.size+1]? =some (.cells #[.slice oo O.length oc,.slice lo r'.lost.length lc,.slice eo r'.ended.length ec,.int .i64 (f'.fr - f.fr),()] 35 (0,0)):=Mc HS.out.rp.row
   have e4:=(bf hrow3).2.2.2.2
   have h4:=frozen_of_row _ _ 4 _ _ hrow3
   clear hfb hfc c1 c2 d1 d2 d3 b0 b1 b2 hmn hlt hnl t1 t2
   go_upto_region 11 with fail
   go_cut [] (fun wx=>wx.heap[w.heap.size+1]? =some (.cells #[.slice oo O.length oc,.slice lo r'.lost.length lc,.slice eo r'.ended.length ec,.int .i64 (f'.fr - f.fr),.int .i64 (f'.c.d.r - f.c.d.r)] 35 (0,0))∧af (fun k=>k=w.heap.size+1) wr wx)
   case first=>
    go_region_held3 (fun w'=>w'.cell? ⟨Y.yb,0,none⟩=some (.pointer (some ⟨X.fb,0,none⟩))∧w'.cell? ⟨X.fb,0,none⟩=some (.pointer (some ⟨X.A.cb,0,none⟩))) (first | exact⟨jJ hne1 c0w,jJ hne2 d0w⟩ | exact⟨nM hne1 c0w,nM hne2 d0w⟩ | go_keep) ((first
     | (go_at_call 36;first | ((with_reducible refine(nK X σ' B _ f' _ HSd.out.fe).mono ?_);rintro e w' ⟨rfl,rfl⟩) | ((with_reducible refine(nK X σ' B _ f' _ (HFd.out _ _)).mono ?_);rintro e w' ⟨rfl,rfl⟩))
     | (go_at_call 37;first | ((with_reducible refine(rq X σ' B _ f' _ HSd.out.fe).mono ?_);rintro e w' ⟨rfl,rfl⟩) | ((with_reducible refine(rq X σ' B _ f' _ (HFd.out _ _)).mono ?_);rintro e w' ⟨rfl,rfl⟩))
     | (go_at_call 38;first | ((with_reducible refine(o7 X σ' B _ f' _ HSd.out.fe).mono ?_);rintro e w' ⟨rfl,rfl⟩) | ((with_reducible refine(o7 X σ' B _ f' _ (HFd.out _ _)).mono ?_);rintro e w' ⟨rfl,rfl⟩))))
    all_goals go_wp2_with fail
    all_goals go_meet
    all_goals exact⟨Mc (Mc HS.out.rp.row),(((af.refl (fun k=>k=w.heap.size+1) wr).setCell (p:=⟨w.heap.size+1,3,none⟩) (.inr rfl) _).setCell (p:=⟨w.heap.size+1,4,none⟩) (.inr rfl) _).drew⟩
   case rest=>
    obtain⟨hrw,hkw⟩:=hcut
    obtain⟨W7,rfl⟩: ∃w',w'=wc:=⟨_,rfl⟩
    have hz7:W7.heap[w.heap.size]? =some (.cells kP 35 (0,0)):=hkw.heap HS.out.res (by omega)
    unfold kP at hz7
    have⟨hFz,hYz,hOz⟩:=HS.out.fin (w':=W7.setRow w.heap.size #[.slice oo O.length oc,.slice lo r'.lost.length lc,.slice eo r'.ended.length ec,.int .i64 (f'.fr - f.fr),.int .i64 (f'.c.d.r - f.c.d.r)]) ((hkw.mono fun k _ e=>.inr e).andThen (aJ W7 w.heap.size _) (fun i _ e=>.inl e))
    have HFz:=MI hFz
    have HYz:=MI hYz
    have HOz:=MI hOz.1
    have HKz:=MI hOz.2
    clear hFz hYz hOz c0 d0 g3 g4 b3 b4 hw1 hw2 HFd c0w d0w hne1 hne2 hrow hrow3 e4 h4
    have hsz5:(Tryz.prog.info? 35).map (·.size)=some (#[.slice oo O.length oc,.slice lo r'.lost.length lc,.slice eo r'.ended.length ec,.int .i64 (f'.fr - f.fr),.int .i64 (f'.c.d.r - f.c.d.r)]:Array Value).size:=by kernel_rfl
    have hold5:(#[Value.slice none 0 0,.slice none 0 0,.slice none 0 0,(),()]:Array Value).size=(#[.slice oo O.length oc,.slice lo r'.lost.length lc,.slice eo r'.ended.length ec,.int .i64 (f'.fr - f.fr),.int .i64 (f'.c.d.r - f.c.d.r)]:Array Value).size:=rfl
    have hone5:(#[.slice oo O.length oc,.slice lo r'.lost.length lc,.slice eo r'.ended.length ec,.int .i64 (f'.fr - f.fr),.int .i64 (f'.c.d.r - f.c.d.r)]:Array Value).all (·.oneCell')=true:=by simp[Value.oneCell']
    go_wp2_with (first
     | (with_reducible refine MC 35 6 ?_;refine wpList_load_row rfl 35 (.tmp 6) rfl _ rfl 35 _ (0,0) _ hrw Tryz.underlying35 rfl hsz5 ?_)
     | (with_reducible refine MF 35 4 66 ?_;refine wpList_store_row rfl 35 (.tmp 4) (.tmp 66) rfl _ _ rfl rfl 35 _ hz7 hsz5 hold5 hone5 ?_))
    exact bodyPost_ret (results_cell_tmp (fn:=Tryz.f15) (p:=4) (q:=5) (ty:=35) rfl _ _ _ _ _ _ _ rfl (setRow_heap _ _ _ #[.slice oo O.length oc,.slice lo r'.lost.length lc,.slice eo r'.ended.length ec,.int .i64 (f'.fr - f.fr),.int .i64 (f'.c.d.r - f.c.d.r)] _ _ hz7) Tryz.underlying35 rfl ES) rfl ⟨f',y',r',O,oo,lo,eo,oc,lc,ec,σ',rfl,HOl.out,HR.out,HS.out.ext,HFz.out,HS.out.fb,HYz.out,HOz.out,fun a ha=>⟨HS.out.oo _ (by rw[ha];rfl),HS.out.n0 _ (by rw[ha];rfl)⟩,HKz.out⟩
theorem YIs.start{X:Fx}{Y:Yx}{B:Bk}{K:Nat}{σ σ':Own}{w w':World}{y:Ye}(h:YIs X Y B K σ w y)(hk:af (fun k=>k=Y.yb∨k=Y.sb) w w')(hrow:w'.heap[Y.yb]? =some (.cells #[.pointer (some ⟨X.fb,0,none⟩),.slice (some ⟨Y.sb,0,none⟩) Y.n Y.n,.int .i64 (y.count+1)] 85 (0,0))){r:Nat}(hr:r<Y.n){P:Px}{p:Pt}(hsl:w'.heap[Y.sb]? =some (.cells ((y.ps.set r (some (P,p))).map oG).toArray 98 (0,0)))(he:Ext σ σ' w.heap.size)(hT:P.V.T=10+4*r)(hp:iO X P B K σ' w' p)(hc:y.count+1≤4294967296):YIs X Y B K σ' w' ⟨y.ps.set r (some (P,p)),y.count+1⟩:=by
 have h0:=h.c0
 have hlt:r<y.ps.length:=by rw[h.len];exact hr
 refine⟨hrow,hsl,by rw[List.length_set];exact h.len,h.n1,h.n2,(he _ (L8 h.row)).trans h.o1,(he _ (L8 h.sl)).trans h.o2,fun i Q q hq=>?_,by show 0≤y.count+1;omega,hc⟩
 by_cases hi:r=i
 ·subst hi
  have e3:(y.ps.set r (some (P,p))).getD r none=some (P,p):=iW _ hlt _
  rw[e3] at hq
  obtain⟨rfl,rfl⟩:=Prod.mk.inj (Option.some.inj hq)
  exact⟨hT,hp⟩
 ·have e3:(y.ps.set r (some (P,p))).getD i none=y.ps.getD i none:=getD_set_ne _ hi _
  rw[e3] at hq
  obtain⟨h1,h2⟩:=h.pt i Q q hq
  refine⟨h1,(h2.ext he).keep hk (fun k hs hl=>?_)⟩
  have e1:=h.o1
  have e2:=h.o2
  rw[he k hl]
  rcases hs with rfl | rfl<;>omega
def pJ(m:Mt)(sh:Envp.Sh)(c:Int):Pt:=⟨vo0 m,List.replicate m.ch u0,sh,(0,0),256,256,c⟩
def DU(X:Fx)(Y:Yx)(B:Bk)(K:Nat)(σ:Own)(f:Fe)(y:Ye)(nm:ByteArray)(sh:Envp.Sh)(w:World)(e:Ending)(w':World):Prop:=
 (fM B.dir nm=false∧e= .returned (.tuple #[(),.int .i64 7])∧Below w.heap.size w w')∨
 (fM B.dir nm=true∧∃P σ',e= .returned (.tuple #[.int .i64 (gI Y y:Int),()])∧P.V.i=gm B.dir nm∧Ext σ σ' w.heap.size∧aK X σ' w' B K f∧YIs X Y B K σ' w' ⟨y.ps.set (gI Y y) (some (P,pJ (B.dir.getD (gm B.dir nm) m0) sh (y.count+1))),y.count+1⟩∧af (FO σ) w w')
theorem IL(X:Fx)(Y:Yx)(B:Bk)(K:Nat)(σ:Own)(f:Fe)(y:Ye)(nm:ByteArray)(sh:Envp.Sh)(hf:fM B.dir nm=false)(w:World)(h:aK X σ w B K f)(hy:YIs X Y B K σ w y):Calls Tryz.prog 13 #[.pointer (some ⟨Y.yb,0,none⟩),.string nm,.agg #[.int .i64 sh.a,.int .i64 sh.d,.int .i64 sh.s,.int .i64 sh.r]] w (DU X Y B K σ f y nm sh w):=by
 have hb:=ae w (.cells #[.int .i64 sh.a,.int .i64 sh.d,.int .i64 sh.s,.int .i64 sh.r] 46)
 have HN:=MI (iM X Y B K σ y _ (hy.ah hb))
 have HBk:=MI (jf X σ B K f _ (h.ah hb))
 have HFi:=MI (xH X.D B nm _ (h.ah hb).bk)
 obtain⟨c0,c1,c2⟩:=(hy.ah hb).cells
 have HB:=MI hb
 have HF:=MI hf
 unfold BsP at HFi
 rw[hf] at HFi
 clear h hy hb hf c1 c2
 generalize gm B.dir nm=fz at*
 go_enter Tryz.func13,Tryz.ntmps13
 go_wp2_with (first
  | (go_at_call 27;refine HN.out.mono ?_;rintro e w' ⟨rfl,rfl⟩)
  | (go_at_call 32;refine HBk.out.mono ?_;rintro e w' ⟨rfl,rfl⟩)
  | (go_at_call 11;refine HFi.out.mono ?_;rintro e w' ⟨rfl,hb2⟩))
 go_ret2
 exact .inl ⟨HF.out,rfl,bW HB.out hb2⟩
structure StN(X:Fx)(Y:Yx)(B:Bk)(K:Nat)(σ:Own)(f:Fe)(y:Ye)(sh:Envp.Sh)(i T:Nat)(w:World)(vb eb:Nat)(w3:World)(V:Vx)(σ2:Own):Prop where
 vi:V.i=i
 vb:V.vb=vb
 vT:V.T=T
 ext:Ext σ σ2 w.heap.size
 fe:aK X σ2 w3 B K f
 vo:fJ X V B K σ2 w3 (vo0 (B.dir.getD i m0)) (List.replicate (B.dir.getD i m0).ch u0)
 ev:Nv.Sx 145 w3 eb sh (0,0)
 eo:σ2 eb=T+3
 low:Below w.heap.size w w3
theorem stn_mk{X:Fx}{Y:Yx}{B:Bk}{K:Nat}{σ:Own}{f:Fe}{y:Ye}{sh:Envp.Sh}{i T:Nat}(hT:10≤T){w w2 w3:World}(h:aK X σ w B K f)(hi:i<B.dir.length)(hb2:Below w.heap.size w w2){eb:Nat}(he:w.heap.size≤eb)(hs:Nv.Sx 145 w2 eb sh (0,0)){vb:Nat}{cs:List Nat}{cv:Value}(hvb:w2.heap.size≤vb)(hr:VnR X i (B.dir.getD i m0) vb w2 (B.dir.getD i m0).ch cs cv w3): ∃V σ2,StN X Y B K σ f y sh i T w vb eb w3 V σ2:=by
 have hx:=bZ σ w.heap.size w2.heap.size (T+3)
 have h2:=h.aA (af.au (S:=fun k=>3≤σ k) hb2 Me) (T+3)
 obtain⟨σ2,hE,hF,hV⟩:=hr.DY h2 hi hvb T hT
 have hl:=L8 hs
 refine⟨⟨vb,i,cs,T⟩,σ2,rfl,rfl,rfl,hx.trans hE hb2.size,hF,hV,?_,(hE _ hl).trans (aT σ _ he hl),hb2.trans (hr.low.mono hb2.size)⟩
 exact bT hs hr.low hl
theorem stn_end{X:Fx}{Y:Yx}{B:Bk}{K:Nat}{σ:Own}{f:Fe}{y:Ye}{nm:ByteArray}{sh:Envp.Sh}(hok:sh.Ok){w w3 W':World}{vb eb pb:Nat}{V:Vx}{σ2:Own}(hN:StN X Y B K σ f y sh (gm B.dir nm) (10+4*gI Y y) w vb eb w3 V σ2)(hy:YIs X Y B K σ w y)(hcount:y.count+1≤4294967296)(hf:fM B.dir nm=true)(hk:af (fun k=>k=Y.yb∨k=Y.sb) w3 W')(hyb:W'.heap[Y.yb]? =some (.cells #[.pointer (some ⟨X.fb,0,none⟩),.slice (some ⟨Y.sb,0,none⟩) Y.n Y.n,.int .i64 (y.count+1)] 85 (0,0)))(hsb:W'.heap[Y.sb]? =some (.cells ((y.ps.map oG).toArray.setIfInBounds (gI Y y) (.pointer (some ⟨pb,0,none⟩))) 98 (0,0)))(hp0:w3.heap.size≤pb)(hpb:W'.heap[pb]? =some (.cells #[.pointer (some ⟨vb,0,none⟩),.pointer (some ⟨eb,0,none⟩),.int .i64 256,.int .i64 256,.int .i64 (y.count+1)] 100 (0,0))){v:Value}(hv:v= .tuple #[.int .i64 (gI Y y:Int),()]):DU X Y B K σ f y nm sh w (.returned v) W':=by
 have hr:gI Y y<Y.n:=zt y Y.n Y.n 0 0 (by omega) hy.n1
 have hyl:=hN.low
 have hsz:=hN.low.size
 have hx:=eH σ2 (b:=pb) (n:=w3.heap.size) (10+4*gI Y y+3) hp0
 have e1:σ2 Y.yb=4:=(hN.ext _ (L8 hy.row)).trans hy.o1
 have e2:σ2 Y.sb=5:=(hN.ext _ (L8 hy.sl)).trans hy.o2
 have h45: ∀k,(k=Y.yb∨k=Y.sb)→σ2 k=4∨σ2 k=5:=fun k e=>by
  rcases e with rfl | rfl
  ·exact .inl e1
  ·exact .inr e2
 have hel:=L8 hN.ev
 refine .inr ⟨hf,⟨pb,eb,V⟩,fD σ2 pb (10+4*gI Y y+3),by rw[hv],hN.vi,hN.ext.trans hx hsz,hN.fe.own (hk.mono fun k _ e=>by have:=h45 k e;omega) hx (fun k hn=>?_),?_,?_⟩
 ·by_cases hkp:k=pb
  ·rw[hkp];exact L8 hpb
  ·rw[jF σ2 _ hkp] at hn
   exact Nat.lt_of_lt_of_le (hN.fe.rU k hn) hk.size
 ·refine hy.start (σ':=fD σ2 pb (10+4*gI Y y+3)) ((af.au hN.low Me).andThen hk (fun _ _ e=>e)) hyb hr (P:=⟨pb,eb,V⟩) ?_ (hN.ext.trans hx hsz) hN.vT ?_ hcount
  ·rw[hsb,List.map_set]
   simp[oG]
  ·refine⟨?_,(hN.vo.ext hx).keep hk (fun k e hl=>?_),hk.heap hN.ev (fun e=>?_),hok,?_,?_,?_⟩
   ·rw[←hN.vb] at hpb;exact hpb
   ·have h1:=h45 k e
    have h2:=hN.vo.t
    rw[hx k hl]
    omega
   ·have h1:=h45 _ e
    rw[hN.eo] at h1
    omega
   ·show(0:Int)≤0∧(0:Int)≤4∧(0:Int)≤0∧(0:Int)≤16777216
    decide
   ·show fD σ2 pb _ pb=V.T+3
    rw[dG,hN.vT]
   ·show fD σ2 pb _ eb=V.T+3
    rw[hx _ hel,hN.eo,hN.vT]
 ·refine((af.au hN.low Me).andThen hk (fun k _ e=>e)).mono (fun k hkl e=>?_)
  unfold FO
  have h1:=h45 k e
  have h2:=hN.ext k hkl
  omega
theorem Fg(X:Fx)(Y:Yx)(B:Bk)(K:Nat)(σ:Own)(f:Fe)(y:Ye)(nm:ByteArray)(sh:Envp.Sh)(hok:sh.Ok)(hcount:y.count+1≤4294967296)(hf:fM B.dir nm=true)(w:World)(h:aK X σ w B K f)(hy:YIs X Y B K σ w y):Calls Tryz.prog 13 #[.pointer (some ⟨Y.yb,0,none⟩),.string nm,.agg #[.int .i64 sh.a,.int .i64 sh.d,.int .i64 sh.s,.int .i64 sh.r]] w (DU X Y B K σ f y nm sh w):=by
 have hb:=ae w (.cells #[.int .i64 sh.a,.int .i64 sh.d,.int .i64 sh.s,.int .i64 sh.r] 46)
 have hz:=L9 w (.cells #[.int .i64 sh.a,.int .i64 sh.d,.int .i64 sh.s,.int .i64 sh.r] 46)
 have HN:=MI (iM X Y B K σ y _ (hy.ah hb))
 have HBk:=MI (jf X σ B K f _ (h.ah hb))
 have HFi:=MI (xH X.D B nm _ (h.ah hb).bk)
 obtain⟨c0,c1,c2⟩:=(hy.ah hb).cells
 have hfl:=Kt hf
 have hinf:(Tryz.prog.info? 46).map (·.size)=some (#[Value.int .i64 sh.a,.int .i64 sh.d,.int .i64 sh.s,.int .i64 sh.r]:Array Value).size:=by kernel_rfl
 have HB:=MI hb
 have HF:=MI hf
 have HH:=MI h
 have HY:=MI hy
 have HNw:=MI (fun w=>Nv.new_yes sh hok w)
 have HVn:=MI (fun w h=>vG X σ B K f (gm B.dir nm) hfl w h)
 unfold BsP at HFi
 unfold Nv.qB at HNw
 rw[hf] at HFi
 clear h hy hb hf c1 c2
 obtain⟨fz,hfz⟩: ∃fz,fz=gm B.dir nm:=⟨_,rfl⟩
 rw[←hfz] at HFi HVn hfl
 have HFz:=MI hfz
 clear hfz
 go_enter Tryz.func13,Tryz.ntmps13
 go_upto_region 12 with(first
  | (go_at_call 27;refine HN.out.mono ?_;rintro e w' ⟨rfl,rfl⟩)
  | (go_at_call 32;refine HBk.out.mono ?_;rintro e w' ⟨rfl,rfl⟩)
  | (go_at_call 11;refine HFi.out.mono ?_;rintro e w1 ⟨rfl,hb1⟩;have HB1:=MI (bW HB.out hb1);have c0:=(hb1.cell (World.block_lt_of_cell? _ _ c0)).trans c0;have hz:=bT hz hb1 (L8 hz))
  | (with_reducible refine MC 46 5 ?_;refine wpList_load_row rfl 46 (.tmp 5) rfl _ rfl 46 _ (0,0) _ hz Tryz.underlying46 rfl hinf ?_)
  | (go_at_call 33;refine(HNw.out _).mono ?_;rintro e w2 ⟨eb,rfl,heb,hs2,hb2⟩;have HB2:=MI (bW HB1.out hb2);have c0:=(hb2.cell (World.block_lt_of_cell? _ _ c0)).trans c0)
  | (go_at_call 34;refine(HVn.out _ (HH.out.ah HB2.out)).mono ?_;rintro e w3 ⟨vb,cs,cv,rfl,hvb,hvn⟩))
 rw[HFz.out] at hvn hfl
 have hr:gI Y y<Y.n:=zt y Y.n Y.n 0 0 (by omega) HY.out.n1
 obtain⟨V,σ2,hN⟩:=stn_mk (Y:=Y) (y:=y) (T:=10+4*gI Y y) (by omega) HH.out hfl HB2.out (Nat.le_trans HB1.out.size heb) hs2 hvb hvn
 have hyw:=HY.out.ah hN.low
 have HR:=MI (Jd X Y B K σ y w3 hyw)
 have HEnd:=MI (fun W' pb hk hyb hsb hp0 hpb v hv=>stn_end (pb:=pb) (W':=W') hok hN HY.out hcount HF.out hk hyb hsb hp0 hpb (v:=v) hv)
 have hc0:=hyw.c0
 have hyr:=MI hyw.row
 have hsl:=MI hyw.sl
 clear hvn hs2 hb1 hb2 hN hyw HN HBk HFi HNw HVn HB HB1 HB2 c0 hz hvb heb hfl HFz
 unfold Qt at HR
 generalize gI Y y=r at*
 obtain⟨c0,c1,c2⟩:=dB hyr.out
 have g2:=frozen_of_row _ _ 2 _ _ hyr.out
 go_upto_region 14 with(go_at_call 35;refine HR.out.mono ?_;rintro e w4 ⟨rfl,m,rfl⟩)
 have hne:Y.yb≠Y.sb:=fun e=>by have h1:=HY.out.o1;have h2:=HY.out.o2;rw[e] at h1;omega
 have hk4:af (fun k=>k=Y.yb) w3 ((w3.drewN m).setCell ⟨Y.yb,2,none⟩ (.int .i64 (y.count+1))):=((af.refl (fun k=>k=Y.yb) w3).drewN m).setCell (p:=⟨Y.yb,2,none⟩) (.inr rfl) _
 have hy4:((w3.drewN m).setCell ⟨Y.yb,2,none⟩ (.int .i64 (y.count+1))).heap[Y.yb]? =some (.cells #[.pointer (some ⟨X.fb,0,none⟩),.slice (some ⟨Y.sb,0,none⟩) Y.n Y.n,.int .i64 (y.count+1)] 85 (0,0)):=Mc hyr.out
 have hs4:=hk4.heap hsl.out (Ne.symm hne)
 have HK4:=MI hk4
 have hsz4:w3.heap.size=((w3.drewN m).setCell ⟨Y.yb,2,none⟩ (.int .i64 (y.count+1))).heap.size:=by simp
 have HSz4:=MI hsz4
 clear hk4 hsz4 c0 c1 c2 g2
 generalize (w3.drewN m).setCell ⟨Y.yb,2,none⟩ (.int .i64 (y.count+1))=W4 at*
 obtain⟨c0,c1,c2⟩:=dB hy4
 have hlen:r<(y.ps.map oG).toArray.size:=by simp[HY.out.len,hr]
 have hrn:(r:Int)<(Y.n:Int):=by omega
 have hs5:=(heap_alloc_old W4 (.cells #[.pointer (some ⟨vb,0,none⟩),.pointer (some ⟨eb,0,none⟩),.int .i64 256,.int .i64 256,.int .i64 (y.count+1)] 100) (L8 hs4)).trans hs4
 have d1:(W4.alloc (.cells #[.pointer (some ⟨vb,0,none⟩),.pointer (some ⟨eb,0,none⟩),.int .i64 256,.int .i64 256,.int .i64 (y.count+1)] 100)).cell? ⟨Y.sb,r,none⟩=some ((y.ps.map oG).toArray[r]):=by
  refine(LZ hs5).trans ?_
  simp[HY.out.len,hr]
 have g1:=frozen_of_row _ _ r _ _ hs5
 generalize (y.ps.map oG).toArray[r]=ov at*
 go_region_held3 (fun w'=>w'.cell? ⟨Y.yb,1,none⟩=some (.slice (some ⟨Y.sb,0,none⟩) Y.n Y.n)∧w'.cell? ⟨Y.yb,2,none⟩=some (.int .i64 (y.count+1))) (first | exact⟨bM c1,bM c2⟩ | exact⟨jJ hne (bM c1),jJ hne (bM c2)⟩ | go_keep) (fail)
 all_goals go_wp2_with fail
 all_goals go_ret2
 all_goals refine HEnd.out _ W4.heap.size ?_ ?_ ?_ (by rw[HSz4.out];exact Nat.le_refl _) ?_ _ rfl
 ·exact((HK4.out.mono fun k _ e=>.inl e).alloc _ |>.setCell (p:=⟨Y.sb,r,none⟩) (.inr (.inr rfl)) _).drew
 ·exact(aC _ Y.sb r _).heap ((heap_alloc_old W4 _ (L8 hy4)).trans hy4) hne
 ·exact Mc hs5
 ·exact(aC _ Y.sb r _).heap (L9 W4 _) (fun e=>by have:=L8 hs4;omega)
end Go.Proofs.YtnicjahcgnhogaaGreatDoor

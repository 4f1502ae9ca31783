/- Part 28 of the walk: contracts of the program's functions, each for every input. No condition. -/
import Derived.Test.YtnicjahcgnhogaaGreatDoorU26
set_option linter.unusedVariables false
set_option linter.unusedSimpArgs false
set_option maxRecDepth 100000
set_option maxHeartbeats 8000000
namespace Go.Proofs.YtnicjahcgnhogaaGreatDoor
open Go Go.RowKit Go.Calli
attribute [local irreducible] wpStill wpAnyH wpAnyS wpList Code.wp
theorem RnS.fin{X:Fx}{Y:Yx}{B:Bk}{K:Nat}{σ:Own}{w:World}{wr:World}{σ':Own}{f':Fe}{y':Ye}{r':Rp}{O:List (Int×Int)}{oo:Option Addr}{n oc:Nat}{lv ev:Value}(h:RnS X Y B K σ w wr σ' f' y' r' O (.slice oo n oc) lv ev){w':World}(hk:ag (fun k=>k=w.heap.size∨k=w.heap.size+1) wr w'):aN X σ' w' B K f'∧YIs X Y B K σ' w' y'∧bP stV 2 (0,0) w' oo O.length O∧ag (FR σ) w w':=by
 have h3: ∀k,(k=w.heap.size∨k=w.heap.size+1)→σ' k=3:=fun k e=>e.elim (fun e=>e▸h.ro) (fun e=>e▸h.rp.own)
 refine⟨h.fe.kept (hk.mono fun k _ e=>by rw[h3 k e];exact Nat.le_refl 3),h.ys.keep hk (fun k e _=>by rw[h3 k e];decide),?_,h.k.andThen hk (fun i hi e=>aa)⟩
 obtain⟨ao,cap,hv,-,hr,hb⟩:=jG (0,0) zA aq h.out
 cases hv
 refine hr.kept hk (fun a ha e=>?_)
 have J:=(hb a ha).2.2.2
 obtain⟨cs,I⟩:=ah h.out J
 rcases e with e | e
 ·exact aI h.res I aq e.symm
 ·exact aI h.rp.row I aq e.symm
theorem Hg:(Tryz.prog.info? 35).map (·.size)=some 5:=af
theorem xE:(Tryz.prog.info? 35).map (·.size)=some lG.size:=af
theorem kC{w:World}{b o g n:Nat}{v u:Value}(I:b≠g)(h:w.cell? ⟨b,o,none⟩=some v):(w.setCell ⟨g,n,none⟩ u).drew.cell? ⟨b,o,none⟩=some v:=(aA w g n u).cell h I
theorem oL{w:World}{b o g n m:Nat}{v u t:Value}(I:b≠g)(h:w.cell? ⟨b,o,none⟩=some v):((w.setCell ⟨g,n,none⟩ u).setCell ⟨g,m,none⟩ t).drew.cell? ⟨b,o,none⟩=some v:=(aA _ g m t).cell ((aA w g n u).cell h I) I
def RenP(X:Fx)(Y:Yx)(B:Bk)(K:Nat)(σ:Own)(f:Fe)(y:Ye)(n:Nat)(w:World)(e:Ending)(w':World):Prop:=∃(f':Fe)(y':Ye)(r':Rp)(O:List (Int×Int))(oo lo eo:Option Addr)(oc lc ec:Nat)(σ':Own),e= .returned (.tuple #[.agg #[.slice oo O.length oc,.slice lo r'.lost.length lc,.slice eo r'.ended.length ec,.int .i64 (f'.fr - f.fr),.int .i64 (f'.c.d.r - f.c.d.r)],()])∧O.length=n∧uq B Y.n f y n f' y' r' O∧Ext σ σ' w.heap.size∧aN X σ' w' B (K+16*Y.n*n) f'∧FeB (K+16*Y.n*n) f'∧YIs X Y B (K+16*Y.n*n) σ' w' y'∧bP stV 2 (0,0) w' oo O.length O∧(∀a,oo=some a→σ' a.block=3∧w.heap.size≤a.block)∧ag (FR σ) w w'
theorem ren_err(X:Fx)(Y:Yx)(B:Bk)(K:Nat)(σ:Own)(f:Fe)(y:Ye)(n:Int)(hn:n<0∨256<n)(w:World)(h:aN X σ w B K f)(hy:YIs X Y B K σ w y):Calls Tryz.prog 15 #[.pointer (some ⟨Y.yb,0,none⟩),.int .i64 n] w (fun e w'=>e= .returned (.tuple #[.agg lG,.int .i64 5])∧Below w.heap.size w w'):=by
 have hb:=ae w (.cells lG 35)
 have HN:=MI (iC X Y B K σ y _ (hy.aj hb))
 have hz:=L9 w (.cells lG 35)
 have I:=xE
 have HB:=MI hb
 clear h hy hb
 unfold lG at*
 by_cases h1:n<0
 rotate_right
 focus
  have h2:256<n:=aa
 all_goals
  clear hn
  go_enter Tryz.func15,Tryz.ntmps15
  go_wp2_with (first
   | (go_at_call 27;refine HN.out.mono ?_;rintro e w' ⟨rfl,rfl⟩)
   | (with_reducible refine MF 35 4 20 ?_;refine wpList_store_row rfl 35 (.tmp 4) (.tmp 20) rfl _ _ rfl rfl 35 _ hz I rfl (by simp[Value.oneCell']) ?_))
  exact bodyPost_ret (results_cell_tmp (fn:=Tryz.f15) (p:=4) (q:=5) (ty:=35) rfl _ _ _ _ _ _ _ rfl (setRow_heap _ _ _ _ _ _ hz) Tryz.underlying35 rfl I) rfl ⟨rfl,below_setRow HB.out Me _⟩
theorem uY(X:Fx)(Y:Yx)(B:Bk)(K:Nat)(C7:Y.n≤16)(σ:Own)(f:Fe)(hf:FeB K f)(y:Ye)(n:Nat)(hn:n≤256)(hK:K+256*n≤470000)(w:World)(h:aN X σ w B K f)(hy:YIs X Y B K σ w y):Calls Tryz.prog 15 #[.pointer (some ⟨Y.yb,0,none⟩),.int .i64 n] w (RenP X Y B K σ f y n w):=by
 have hb:=ae w (.cells lG 35)
 have A2:=ji hb (.cells lG 35)
 have HN:=MI (iC X Y B K σ y _ (hy.aj hb))
 have hz:=L9 w (.cells lG 35)
 have B4:((w.alloc (.cells lG 35)).alloc (.cells lG 35)).heap[w.heap.size+1]? =some (.cells lG 35 (0,0)):=by
  have h1:=L9 (w.alloc (.cells lG 35)) (.cells lG 35)
  simpa using h1
 have B5:((w.alloc (.cells lG 35)).alloc (.cells lG 35)).heap[w.heap.size]? =some (.cells lG 35 (0,0)):=(heap_alloc_old _ _ ar).trans hz
 have F9:=xE
 have hx:=dA σ w.heap.size (w.heap.size+2) 3
 have J:Hid (RnS X Y B K σ w ((w.alloc (.cells lG 35)).alloc (.cells lG 35)) (aG σ w.heap.size (w.heap.size+2) 3) f y ⟨[],[]⟩ [] (.slice none 0 0) (.slice none 0 0) (.slice none 0 0)):=by
  refine⟨hx,?_,hf,(hy.ext hx).aj A2,⟨B4,aX σ 3 aa aa,World.ownsRow_nil _ _ _ _,World.ownsRow_nil _ _ _ _,(fun b e=>by cases e),(fun b e=>by cases e)⟩,World.ownsRow_nil _ _ _ _,(fun b e=>by cases e),B5,aX σ 3 aa aa,ag.au A2 Me,(fun b e=>by cases e),(fun b e=>by cases e),(fun b e=>by cases e)⟩
  have h7:=h.aG (ag.au (S:=fun k=>3≤σ k) A2 Me) 3
  simpa using h7
 have A3:=MI h.lim
 have t1:¬(n:Int)<0:=aa
 have t2:¬(256:Int)<(n:Int):=aa
 clear h hy hb A2 hz B4 B5 hx
 unfold lG at*
 go_enter Tryz.func15,Tryz.ntmps15
 go_upto_region 6 with(go_at_call 27;refine HN.out.mono ?_;rintro e w' ⟨rfl,rfl⟩)
 generalize (w.alloc (.cells #[.slice none 0 0,.slice none 0 0,.slice none 0 0,(),()] 35)).alloc (.cells #[.slice none 0 0,.slice none 0 0,.slice none 0 0,(),()] 35)=W at*
 have B6:=MI (fun m=>yH (oJ X (aG σ w.heap.size (w.heap.size+2) 3) B K f (W.drewN m) (J.out.fe.aj (below_drewN MB m))))
 have B7:=MI (fun m=>yH (sN X (aG σ w.heap.size (w.heap.size+2) 3) B K f (W.drewN m) (J.out.fe.aj (below_drewN MB m))))
 have B8:=MI (fun m=>yH (qh X (aG σ w.heap.size (w.heap.size+2) 3) B K f (W.drewN m) (J.out.fe.aj (below_drewN MB m))))
 obtain⟨c0,c1,c2⟩:=J.out.ys.cells
 obtain⟨d0,d1,d2,d3,-⟩:=kz J.out.fe.row
 go_quiet (first
  | (go_at_call 36;exact Calls.quiet_of_same (B6.out _))
  | (go_at_call 37;exact Calls.quiet_of_same (B7.out _))
  | (go_at_call 38;exact Calls.quiet_of_same (B8.out _)))
 clear B6 B7 B8 HN c0 c1 c2 d0 d1 d2 d3
 go_wp2_with fail
 have B9:=Nat.mul_le_mul (show 16*Y.n≤256 by omega) (Nat.le_refl n)
 go_loopw [36] (fun v36 wr=>∃(j:Nat)(σ':Own)(f':Fe)(y':Ye)(r':Rp)(O:List (Int×Int))(ov lv ev:Value),j≤n∧v36= .int .i64 (j:Int)∧RnS X Y B (K+16*Y.n*j) σ w wr σ' f' y' r' O ov lv ev∧uq B Y.n f y j f' y' r' O∧O.length=j∧r'.lost.length≤16000000*j∧r'.ended.length≤16*j) (fun v36 _=>n - aC v36)
 case atStart=>exact⟨0,_,_,_,_,_,_,_,_,aa,rfl,J.out.drewN _,⟨rfl,rfl,rfl,rfl⟩,rfl,ar,ar⟩
 case round=>
  clear J
  obtain⟨j,σ',f',y',r',O,ov,lv,ev,hj,rfl,hS,hR,A4,G0,G1⟩:=hrel
  by_cases D1:j<n
  ·have F6:(j:Int)<(n:Int):=aa
   have C0:=Nat.mul_le_mul (show 16*Y.n≤256 by omega) hj
   have C8:16*Y.n*(j+1)=16*Y.n*j+16*Y.n:=Nat.mul_succ _ _
   have D2:K+16*Y.n*j≤470000:=aa
   have D3:Hid (K+16*Y.n*j+16*Y.n=K+16*Y.n*(j+1)):=by show _=_;omega
   clear B9 C0 C8
   generalize hQ:K+16*Y.n*j=Q at*
   have I:=MI hS.drew
   have HO:=MI (one_any X Y B Q D2 C7 σ' f' hS.fb y' r' aa aa (w.heap.size+1) ov lv ev wr.drew I.out.fe I.out.ys I.out.rp)
   unfold OneP at HO
   obtain⟨b0,-⟩:=bz I.out.rp.row
   have HR:=MI hR
   have A6:=MI A4
   have G2:O.length≤256:=aa
   clear hS hR hQ A4
   have D4:Hid (∀f2 y2 r2 l m,OneR B Y.n f' f2 y' y2 r' r2 l m→uq B Y.n f y (j+1) f2 y2 r2 (O++[(l,m)])):=fun f2 y2 r2 l m h1=>⟨f',y',r',O,l,m,HR.out,h1,rfl⟩
   go_upto_region 9 with fail
   go_region_law (first
    | (refine iQ rfl (.tmp 39) (.tmp 42) 31 31 rfl rfl rfl C9 ?_)
    | (go_simp;go_at_call 39;refine HO.out.mono ?_;rintro e w2 ⟨l,m,f2,y2,r2,lv2,ev2,σ2,rfl,D5,hE,hF,hB,hY,D6,D7,D8,D9,F7,F8⟩;have R:=I.out.one hE hF hB hY D6 D7 D8 D9;obtain⟨v',w3,C9,C1,C2,E0⟩:=fV (P:=Tryz.prog) w2 31 31 81 2 Tryz.underlying31 Ny rfl aq 0 ov O.length _ R.out (stV (l,m)) rfl (fun u hu=>by simp only[stV,List.mem_cons,List.not_mem_nil,or_false] at hu;rcases hu with rfl | rfl<;>rfl) aa aE (Nat.zero_le _);obtain⟨so,sc,rfl⟩:=dh C1;have b0:=(bz R.rp.row).1;have b1:=cO (o:=.cells #[.int .i64 l,.int .i64 m] 81) b0;have C3:=C2.heap R.rp.row (fun e=>by obtain⟨ds,E1⟩:=ah R.out e;exact aI R.rp.row E1 aq rfl);have b2:=(bz C3).1;have z0:=frozen_of_row _ _ 0 _ _ C3))
   all_goals go_wp2_with fail
   all_goals refine⟨⟨j+1,_,_,_,_,_,_,_,_,aa,aD,by rw[←D3.out];exact R.lay C1 C2 E0,D4.out _ _ _ _ _ D5,by simp[A6.out],aa,aa⟩,?_⟩
   all_goals (simp[aC];omega)
  ·obtain rfl:j=n:=aa
   have E2:¬(j:Int)<(j:Int):=aa
   have HR:=MI hR
   have A6:=MI A4
   obtain⟨oo,oc,E3⟩:=dh hS.out
   obtain⟨lo,lc,E4⟩:=dh hS.rp.lost
   obtain⟨eo,ec,E5⟩:=dh hS.rp.ended
   subst E3
   subst E4
   subst E5
   have I:=MI hS.drew
   obtain⟨c0,c1,c2⟩:=I.out.ys.cells
   obtain⟨d0,d1,d2,d3,-⟩:=kz I.out.fe.row
   have g3:=frozen_of_row _ _ 3 _ _ I.out.rp.row
   have g4:=frozen_of_row _ _ 4 _ _ I.out.rp.row
   obtain⟨b0,b1,b2,b3,b4⟩:=bz I.out.rp.row
   have HS:=MI hS
   clear hS hR A4
   have E6:=hf
   have E7:=I.out.fb
   have E8:IntKind.i64.wrap (f'.fr - f.fr)=f'.fr - f.fr:=IntWalk.i64_in _ (by have:=hf.f0;have:=hf.f1;have:=I.out.fb.f0;have:=I.out.fb.f1;omega)
   have A7:=I.out.fe.lim
   have A8:=A3
   have E9:IntKind.i64.wrap (f'.c.d.r - f.c.d.r)=f'.c.d.r - f.c.d.r:=IntWalk.i64_in _ (by have:=A7.ok.2.1;have:=A7.r;have:=A8.out.ok.2.1;have:=A8.out.r;have C0:=Nat.mul_le_mul (show 16*Y.n≤256 by omega) (Nat.le_refl j);omega)
   clear A7 A8 A3
   have A5:=MI (fun c v=>(HS.out.fe.kept ((aA wr (w.heap.size+1) c v).mono fun k _ e=>by rw[e,I.out.rp.own];exact Nat.le_refl 3)).aj MB.drew)
   have c0w:wr.cell? ⟨Y.yb,0,none⟩=some (.pointer (some ⟨X.fb,0,none⟩)):=c0
   have d0w:wr.cell? ⟨X.fb,0,none⟩=some (.pointer (some ⟨X.A.cb,0,none⟩)):=d0
   have A0:Y.yb≠w.heap.size+1:=fun e=>by have h1:=I.out.ys.o1;rw[e,I.out.rp.own] at h1;omega
   have A1:X.fb≠w.heap.size+1:=fun e=>by have h1:=I.out.fe.tf;rw[e,I.out.rp.own] at h1;omega
   have D0:=I.out.rp.row
   have U:(wr.setCell ⟨w.heap.size+1,3,none⟩ (.int .i64 (f'.fr - f.fr))).drew.heap[w.heap.size+1]? =some (.cells #[.slice oo O.length oc,.slice lo r'.lost.length lc,.slice eo r'.ended.length ec,.int .i64 (f'.fr - f.fr),()] 35 (0,0)):=Mc HS.out.rp.row
   have e4:=(bz U).2.2.2.2
   have h4:=frozen_of_row _ _ 4 _ _ U
   clear E6 E7 c1 c2 d1 d2 d3 b0 b1 b2 B9 D1 E2 t1 t2
   go_upto_region 11 with fail
   go_cut [] (fun wx=>wx.heap[w.heap.size+1]? =some (.cells #[.slice oo O.length oc,.slice lo r'.lost.length lc,.slice eo r'.ended.length ec,.int .i64 (f'.fr - f.fr),.int .i64 (f'.c.d.r - f.c.d.r)] 35 (0,0))∧ag (fun k=>k=w.heap.size+1) wr wx)
   case first=>
    go_region_held3 (fun w'=>w'.cell? ⟨Y.yb,0,none⟩=some (.pointer (some ⟨X.fb,0,none⟩))∧w'.cell? ⟨X.fb,0,none⟩=some (.pointer (some ⟨X.A.cb,0,none⟩))) (first | exact⟨kC A0 c0w,kC A1 d0w⟩ | exact⟨oL A0 c0w,oL A1 d0w⟩ | go_keep) ((first
     | (go_at_call 36;first | ((with_reducible refine(oJ X σ' B _ f' _ I.out.fe).mono ?_);rintro e w' ⟨rfl,rfl⟩) | ((with_reducible refine(oJ X σ' B _ f' _ (A5.out _ _)).mono ?_);rintro e w' ⟨rfl,rfl⟩))
     | (go_at_call 37;first | ((with_reducible refine(sN X σ' B _ f' _ I.out.fe).mono ?_);rintro e w' ⟨rfl,rfl⟩) | ((with_reducible refine(sN X σ' B _ f' _ (A5.out _ _)).mono ?_);rintro e w' ⟨rfl,rfl⟩))
     | (go_at_call 38;first | ((with_reducible refine(qh X σ' B _ f' _ I.out.fe).mono ?_);rintro e w' ⟨rfl,rfl⟩) | ((with_reducible refine(qh X σ' B _ f' _ (A5.out _ _)).mono ?_);rintro e w' ⟨rfl,rfl⟩))))
    all_goals go_wp2_with fail
    all_goals go_meet
    all_goals exact⟨Mc (Mc HS.out.rp.row),(((ag.refl (fun k=>k=w.heap.size+1) wr).setCell (p:=⟨w.heap.size+1,3,none⟩) (.inr rfl) _).setCell (p:=⟨w.heap.size+1,4,none⟩) (.inr rfl) _).drew⟩
   case rest=>
    obtain⟨F1,C4⟩:=hcut
    obtain⟨W7,rfl⟩: ∃w',w'=wc:=⟨_,rfl⟩
    have A9:W7.heap[w.heap.size]? =some (.cells lG 35 (0,0)):=C4.heap HS.out.res aa
    unfold lG at A9
    have⟨C5,C6,B0⟩:=HS.out.fin (w':=W7.setRow w.heap.size #[.slice oo O.length oc,.slice lo r'.lost.length lc,.slice eo r'.ended.length ec,.int .i64 (f'.fr - f.fr),.int .i64 (f'.c.d.r - f.c.d.r)]) ((C4.mono fun k _ e=>.inr e).andThen (aK W7 w.heap.size _) (fun i _ e=>.inl e))
    have F2:=MI C5
    have F3:=MI C6
    have F4:=MI B0.1
    have F5:=MI B0.2
    clear C5 C6 B0 c0 d0 g3 g4 b3 b4 E8 E9 A5 c0w d0w A0 A1 D0 U e4 h4
    have B1:(Tryz.prog.info? 35).map (·.size)=some (#[.slice oo O.length oc,.slice lo r'.lost.length lc,.slice eo r'.ended.length ec,.int .i64 (f'.fr - f.fr),.int .i64 (f'.c.d.r - f.c.d.r)]:Array Value).size:=af
    have B2:(#[Value.slice none 0 0,.slice none 0 0,.slice none 0 0,(),()]:Array Value).size=(#[.slice oo O.length oc,.slice lo r'.lost.length lc,.slice eo r'.ended.length ec,.int .i64 (f'.fr - f.fr),.int .i64 (f'.c.d.r - f.c.d.r)]:Array Value).size:=rfl
    have B3:(#[.slice oo O.length oc,.slice lo r'.lost.length lc,.slice eo r'.ended.length ec,.int .i64 (f'.fr - f.fr),.int .i64 (f'.c.d.r - f.c.d.r)]:Array Value).all (·.oneCell')=true:=by simp[Value.oneCell']
    go_wp2_with (first
     | (with_reducible refine MC 35 6 ?_;refine wpList_load_row rfl 35 (.tmp 6) rfl _ rfl 35 _ (0,0) _ F1 Tryz.underlying35 rfl B1 ?_)
     | (with_reducible refine MF 35 4 66 ?_;refine wpList_store_row rfl 35 (.tmp 4) (.tmp 66) rfl _ _ rfl rfl 35 _ A9 B1 B2 B3 ?_))
    exact bodyPost_ret (results_cell_tmp (fn:=Tryz.f15) (p:=4) (q:=5) (ty:=35) rfl _ _ _ _ _ _ _ rfl (setRow_heap _ _ _ #[.slice oo O.length oc,.slice lo r'.lost.length lc,.slice eo r'.ended.length ec,.int .i64 (f'.fr - f.fr),.int .i64 (f'.c.d.r - f.c.d.r)] _ _ A9) Tryz.underlying35 rfl Hg) rfl ⟨f',y',r',O,oo,lo,eo,oc,lc,ec,σ',rfl,A6.out,HR.out,HS.out.ext,F2.out,HS.out.fb,F3.out,F4.out,fun a ha=>⟨HS.out.oo _ (by rw[ha];rfl),HS.out.n0 _ (by rw[ha];rfl)⟩,F5.out⟩
theorem YIs.start{X:Fx}{Y:Yx}{B:Bk}{K:Nat}{σ σ':Own}{w w':World}{y:Ye}(h:YIs X Y B K σ w y)(hk:ag (fun k=>k=Y.yb∨k=Y.sb) w w')(I:w'.heap[Y.yb]? =some (.cells #[.pointer (some ⟨X.fb,0,none⟩),.slice (some ⟨Y.sb,0,none⟩) Y.n Y.n,.int .i64 (y.count+1)] 85 (0,0))){r:Nat}(hr:r<Y.n){P:Px}{p:Pt}(J:w'.heap[Y.sb]? =some (.cells ((y.ps.set r (some (P,p))).map nU).toArray 98 (0,0)))(he:Ext σ σ' w.heap.size)(hT:P.V.T=10+4*r)(hp:jv X P B K σ' w' p)(hc:y.count+1≤4294967296):YIs X Y B K σ' w' ⟨y.ps.set r (some (P,p)),y.count+1⟩:=by
 have h0:=h.c0
 have R:r<y.ps.length:=by rw[h.len];exact hr
 refine⟨I,J,by rw[List.length_set];exact h.len,h.n1,h.n2,(he _ (L8 h.row)).trans h.o1,(he _ (L8 h.sl)).trans h.o2,fun i Q q hq=>?_,by show 0≤y.count+1;omega,hc⟩
 by_cases hi:r=i
 ·subst hi
  have e3:(y.ps.set r (some (P,p))).getD r none=some (P,p):=jm _ R _
  rw[e3] at hq
  obtain⟨rfl,rfl⟩:=Prod.mk.inj (Option.some.inj hq)
  exact⟨hT,hp⟩
 ·have e3:(y.ps.set r (some (P,p))).getD i none=y.ps.getD i none:=getD_set_ne _ hi _
  rw[e3] at hq
  obtain⟨h1,h2⟩:=h.pt i Q q hq
  refine⟨h1,(h2.ext he).keep hk (fun k hs hl=>?_)⟩
  have e1:=h.o1
  have e2:=h.o2
  rw[he k hl]
  rcases hs with rfl | rfl<;>omega
def mQ(m:Mt)(sh:Envp.Sh)(c:Int):Pt:=⟨vo0 m,List.replicate m.ch u0,sh,(0,0),256,256,c⟩
def Am(X:Fx)(Y:Yx)(B:Bk)(K:Nat)(σ:Own)(f:Fe)(y:Ye)(nm:ByteArray)(sh:Envp.Sh)(w:World)(e:Ending)(w':World):Prop:=
 (fG B.dir nm=false∧e= .returned (.tuple #[(),.int .i64 7])∧Below w.heap.size w w')∨
 (fG B.dir nm=true∧∃P σ',e= .returned (.tuple #[.int .i64 (gy Y y:Int),()])∧P.V.i=eH B.dir nm∧Ext σ σ' w.heap.size∧aN X σ' w' B K f∧YIs X Y B K σ' w' ⟨y.ps.set (gy Y y) (some (P,mQ (B.dir.getD (eH B.dir nm) m0) sh (y.count+1))),y.count+1⟩∧ag (FO σ) w w')
theorem KL(X:Fx)(Y:Yx)(B:Bk)(K:Nat)(σ:Own)(f:Fe)(y:Ye)(nm:ByteArray)(sh:Envp.Sh)(hf:fG B.dir nm=false)(w:World)(h:aN X σ w B K f)(hy:YIs X Y B K σ w y):Calls Tryz.prog 13 #[.pointer (some ⟨Y.yb,0,none⟩),.string nm,.agg #[.int .i64 sh.a,.int .i64 sh.d,.int .i64 sh.s,.int .i64 sh.r]] w (Am X Y B K σ f y nm sh w):=by
 have hb:=ae w (.cells #[.int .i64 sh.a,.int .i64 sh.d,.int .i64 sh.s,.int .i64 sh.r] 46)
 have HN:=MI (iC X Y B K σ y _ (hy.aj hb))
 have J:=MI (jB X σ B K f _ (h.aj hb))
 have I:=MI (sV X.D B nm _ (h.aj hb).bk)
 obtain⟨c0,c1,c2⟩:=(hy.aj hb).cells
 have HB:=MI hb
 have HF:=MI hf
 unfold BsP at I
 rw[hf] at I
 clear h hy hb hf c1 c2
 generalize eH B.dir nm=fz at*
 go_enter Tryz.func13,Tryz.ntmps13
 go_wp2_with (first
  | (go_at_call 27;refine HN.out.mono ?_;rintro e w' ⟨rfl,rfl⟩)
  | (go_at_call 32;refine J.out.mono ?_;rintro e w' ⟨rfl,rfl⟩)
  | (go_at_call 11;refine I.out.mono ?_;rintro e w' ⟨rfl,R⟩))
 go_ret2
 exact .inl ⟨HF.out,rfl,bD HB.out R⟩
structure StN(X:Fx)(Y:Yx)(B:Bk)(K:Nat)(σ:Own)(f:Fe)(y:Ye)(sh:Envp.Sh)(i T:Nat)(w:World)(vb eb:Nat)(w3:World)(V:Vx)(σ2:Own):Prop where
 vi:V.i=i
 vb:V.vb=vb
 vT:V.T=T
 ext:Ext σ σ2 w.heap.size
 fe:aN X σ2 w3 B K f
 vo:gp X V B K σ2 w3 (vo0 (B.dir.getD i m0)) (List.replicate (B.dir.getD i m0).ch u0)
 ev:Nv.Sx 145 w3 eb sh (0,0)
 eo:σ2 eb=T+3
 low:Below w.heap.size w w3
theorem stn_mk{X:Fx}{Y:Yx}{B:Bk}{K:Nat}{σ:Own}{f:Fe}{y:Ye}{sh:Envp.Sh}{i T:Nat}(hT:10≤T){w w2 w3:World}(h:aN X σ w B K f)(hi:i<B.dir.length)(I:Below w.heap.size w w2){eb:Nat}(he:w.heap.size≤eb)(hs:Nv.Sx 145 w2 eb sh (0,0)){vb:Nat}{cs:List Nat}{cv:Value}(J:w2.heap.size≤vb)(hr:VnR X i (B.dir.getD i m0) vb w2 (B.dir.getD i m0).ch cs cv w3): ∃V σ2,StN X Y B K σ f y sh i T w vb eb w3 V σ2:=by
 have hx:=dA σ w.heap.size w2.heap.size (T+3)
 have h2:=h.aG (ag.au (S:=fun k=>3≤σ k) I Me) (T+3)
 obtain⟨σ2,hE,hF,hV⟩:=hr.FB h2 hi J T hT
 have hl:=L8 hs
 refine⟨⟨vb,i,cs,T⟩,σ2,rfl,rfl,rfl,hx.trans hE I.size,hF,hV,?_,(hE _ hl).trans (aX σ _ he hl),I.trans (hr.low.mono I.size)⟩
 exact cZ hs hr.low hl
theorem stn_end{X:Fx}{Y:Yx}{B:Bk}{K:Nat}{σ:Own}{f:Fe}{y:Ye}{nm:ByteArray}{sh:Envp.Sh}(o:sh.Ok){w w3 W':World}{vb eb pb:Nat}{V:Vx}{σ2:Own}(hN:StN X Y B K σ f y sh (eH B.dir nm) (10+4*gy Y y) w vb eb w3 V σ2)(hy:YIs X Y B K σ w y)(J:y.count+1≤4294967296)(hf:fG B.dir nm=true)(hk:ag (fun k=>k=Y.yb∨k=Y.sb) w3 W')(A0:W'.heap[Y.yb]? =some (.cells #[.pointer (some ⟨X.fb,0,none⟩),.slice (some ⟨Y.sb,0,none⟩) Y.n Y.n,.int .i64 (y.count+1)] 85 (0,0)))(hsb:W'.heap[Y.sb]? =some (.cells ((y.ps.map nU).toArray.setIfInBounds (gy Y y) (.pointer (some ⟨pb,0,none⟩))) 98 (0,0)))(A1:w3.heap.size≤pb)(R:W'.heap[pb]? =some (.cells #[.pointer (some ⟨vb,0,none⟩),.pointer (some ⟨eb,0,none⟩),.int .i64 256,.int .i64 256,.int .i64 (y.count+1)] 100 (0,0))){v:Value}(hv:v= .tuple #[.int .i64 (gy Y y:Int),()]):Am X Y B K σ f y nm sh w (.returned v) W':=by
 have hr:gy Y y<Y.n:=uX y Y.n Y.n 0 0 aa hy.n1
 have A4:=hN.low
 have U:=hN.low.size
 have hx:=fA σ2 (b:=pb) (n:=w3.heap.size) (10+4*gy Y y+3) A1
 have e1:σ2 Y.yb=4:=(hN.ext _ (L8 hy.row)).trans hy.o1
 have e2:σ2 Y.sb=5:=(hN.ext _ (L8 hy.sl)).trans hy.o2
 have I: ∀k,(k=Y.yb∨k=Y.sb)→σ2 k=4∨σ2 k=5:=fun k e=>by
  rcases e with rfl | rfl
  ·exact .inl e1
  ·exact .inr e2
 have A2:=L8 hN.ev
 refine .inr ⟨hf,⟨pb,eb,V⟩,fU σ2 pb (10+4*gy Y y+3),by rw[hv],hN.vi,hN.ext.trans hx U,hN.fe.own (hk.mono fun k _ e=>by have:=I k e;omega) hx (fun k hn=>?_),?_,?_⟩
 ·by_cases j:k=pb
  ·rw[j];exact L8 R
  ·rw[jY σ2 _ j] at hn
   exact Nat.lt_of_lt_of_le (hN.fe.tX k hn) hk.size
 ·refine hy.start (σ':=fU σ2 pb (10+4*gy Y y+3)) ((ag.au hN.low Me).andThen hk (fun _ _ e=>e)) A0 hr (P:=⟨pb,eb,V⟩) ?_ (hN.ext.trans hx U) hN.vT ?_ J
  ·rw[hsb,List.map_set]
   simp[nU]
  ·refine⟨?_,(hN.vo.ext hx).keep hk (fun k e hl=>?_),hk.heap hN.ev (fun e=>?_),o,?_,?_,?_⟩
   ·rw[←hN.vb] at R;exact R
   ·have h1:=I k e
    have h2:=hN.vo.t
    rw[hx k hl]
    omega
   ·have h1:=I _ e
    rw[hN.eo] at h1
    omega
   ·show(0:Int)≤0∧(0:Int)≤4∧(0:Int)≤0∧(0:Int)≤16777216
    decide
   ·show fU σ2 pb _ pb=V.T+3
    rw[dN,hN.vT]
   ·show fU σ2 pb _ eb=V.T+3
    rw[hx _ A2,hN.eo,hN.vT]
 ·refine((ag.au hN.low Me).andThen hk (fun k _ e=>e)).mono (fun k A3 e=>?_)
  unfold FO
  have h1:=I k e
  have h2:=hN.ext k A3
  omega
theorem xQ(X:Fx)(Y:Yx)(B:Bk)(K:Nat)(σ:Own)(f:Fe)(y:Ye)(nm:ByteArray)(sh:Envp.Sh)(B3:sh.Ok)(o:y.count+1≤4294967296)(hf:fG B.dir nm=true)(w:World)(h:aN X σ w B K f)(hy:YIs X Y B K σ w y):Calls Tryz.prog 13 #[.pointer (some ⟨Y.yb,0,none⟩),.string nm,.agg #[.int .i64 sh.a,.int .i64 sh.d,.int .i64 sh.s,.int .i64 sh.r]] w (Am X Y B K σ f y nm sh w):=by
 have hb:=ae w (.cells #[.int .i64 sh.a,.int .i64 sh.d,.int .i64 sh.s,.int .i64 sh.r] 46)
 have hz:=L9 w (.cells #[.int .i64 sh.a,.int .i64 sh.d,.int .i64 sh.s,.int .i64 sh.r] 46)
 have HN:=MI (iC X Y B K σ y _ (hy.aj hb))
 have B4:=MI (jB X σ B K f _ (h.aj hb))
 have I:=MI (sV X.D B nm _ (h.aj hb).bk)
 obtain⟨c0,c1,c2⟩:=(hy.aj hb).cells
 have J:=Cj hf
 have B9:(Tryz.prog.info? 46).map (·.size)=some (#[Value.int .i64 sh.a,.int .i64 sh.d,.int .i64 sh.s,.int .i64 sh.r]:Array Value).size:=af
 have HB:=MI hb
 have HF:=MI hf
 have HH:=MI h
 have HY:=MI hy
 have A0:=MI (fun w=>Nv.new_yes sh B3 w)
 have A1:=MI (fun w h=>xe X σ B K f (eH B.dir nm) J w h)
 unfold BsP at I
 unfold Nv.rD at A0
 rw[hf] at I
 clear h hy hb hf c1 c2
 obtain⟨fz,A2⟩: ∃fz,fz=eH B.dir nm:=⟨_,rfl⟩
 rw[←A2] at I A1 J
 have B5:=MI A2
 clear A2
 go_enter Tryz.func13,Tryz.ntmps13
 go_upto_region 12 with(first
  | (go_at_call 27;refine HN.out.mono ?_;rintro e w' ⟨rfl,rfl⟩)
  | (go_at_call 32;refine B4.out.mono ?_;rintro e w' ⟨rfl,rfl⟩)
  | (go_at_call 11;refine I.out.mono ?_;rintro e w1 ⟨rfl,U⟩;have A3:=MI (bD HB.out U);have c0:=(U.cell (World.block_lt_of_cell? _ _ c0)).trans c0;have hz:=cZ hz U (L8 hz))
  | (with_reducible refine MC 46 5 ?_;refine wpList_load_row rfl 46 (.tmp 5) rfl _ rfl 46 _ (0,0) _ hz Tryz.underlying46 rfl B9 ?_)
  | (go_at_call 33;refine(A0.out _).mono ?_;rintro e w2 ⟨eb,rfl,B6,B7,A4⟩;have A5:=MI (bD A3.out A4);have c0:=(A4.cell (World.block_lt_of_cell? _ _ c0)).trans c0)
  | (go_at_call 34;refine(A1.out _ (HH.out.aj A5.out)).mono ?_;rintro e w3 ⟨vb,cs,cv,rfl,B8,A6⟩))
 rw[B5.out] at A6 J
 have hr:gy Y y<Y.n:=uX y Y.n Y.n 0 0 aa HY.out.n1
 obtain⟨V,σ2,hN⟩:=stn_mk (Y:=Y) (y:=y) (T:=10+4*gy Y y) aa HH.out J A5.out (Nat.le_trans A3.out.size B6) B7 B8 A6
 have R:=HY.out.aj hN.low
 have HR:=MI (Lu X Y B K σ y w3 R)
 have C0:=MI (fun W' pb hk C2 hsb C3 C4 v hv=>stn_end (pb:=pb) (W':=W') B3 hN HY.out o HF.out hk C2 hsb C3 C4 (v:=v) hv)
 have C7:=R.c0
 have A7:=MI R.row
 have C5:=MI R.sl
 clear A6 B7 U A4 hN R HN B4 I A0 A1 HB A3 A5 c0 hz B8 B6 J B5
 unfold Qt at HR
 generalize gy Y y=r at*
 obtain⟨c0,c1,c2⟩:=dG A7.out
 have g2:=frozen_of_row _ _ 2 _ _ A7.out
 go_upto_region 14 with(go_at_call 35;refine HR.out.mono ?_;rintro e w4 ⟨rfl,m,rfl⟩)
 have j:Y.yb≠Y.sb:=fun e=>by have h1:=HY.out.o1;have h2:=HY.out.o2;rw[e] at h1;omega
 have A8:ag (fun k=>k=Y.yb) w3 ((w3.drewN m).setCell ⟨Y.yb,2,none⟩ (.int .i64 (y.count+1))):=((ag.refl (fun k=>k=Y.yb) w3).drewN m).setCell (p:=⟨Y.yb,2,none⟩) (.inr rfl) _
 have A9:((w3.drewN m).setCell ⟨Y.yb,2,none⟩ (.int .i64 (y.count+1))).heap[Y.yb]? =some (.cells #[.pointer (some ⟨X.fb,0,none⟩),.slice (some ⟨Y.sb,0,none⟩) Y.n Y.n,.int .i64 (y.count+1)] 85 (0,0)):=Mc A7.out
 have B0:=A8.heap C5.out (Ne.symm j)
 have C6:=MI A8
 have B1:w3.heap.size=((w3.drewN m).setCell ⟨Y.yb,2,none⟩ (.int .i64 (y.count+1))).heap.size:=ar
 have C1:=MI B1
 clear A8 B1 c0 c1 c2 g2
 generalize (w3.drewN m).setCell ⟨Y.yb,2,none⟩ (.int .i64 (y.count+1))=W4 at*
 obtain⟨c0,c1,c2⟩:=dG A9
 have hlen:r<(y.ps.map nU).toArray.size:=by simp[HY.out.len,hr]
 have C8:(r:Int)<(Y.n:Int):=aa
 have B2:=(heap_alloc_old W4 (.cells #[.pointer (some ⟨vb,0,none⟩),.pointer (some ⟨eb,0,none⟩),.int .i64 256,.int .i64 256,.int .i64 (y.count+1)] 100) (L8 B0)).trans B0
 have d1:(W4.alloc (.cells #[.pointer (some ⟨vb,0,none⟩),.pointer (some ⟨eb,0,none⟩),.int .i64 256,.int .i64 256,.int .i64 (y.count+1)] 100)).cell? ⟨Y.sb,r,none⟩=some ((y.ps.map nU).toArray[r]):=by
  refine(LZ B2).trans ?_
  simp[HY.out.len,hr]
 have g1:=frozen_of_row _ _ r _ _ B2
 generalize (y.ps.map nU).toArray[r]=ov at*
 go_region_held3 (fun w'=>w'.cell? ⟨Y.yb,1,none⟩=some (.slice (some ⟨Y.sb,0,none⟩) Y.n Y.n)∧w'.cell? ⟨Y.yb,2,none⟩=some (.int .i64 (y.count+1))) (first | exact⟨cO c1,cO c2⟩ | exact⟨kC j (cO c1),kC j (cO c2)⟩ | go_keep) (fail)
 all_goals go_wp2_with fail
 all_goals go_ret2
 all_goals refine C0.out _ W4.heap.size ?_ ?_ ?_ (by rw[C1.out];exact Nat.le_refl _) ?_ _ rfl
 ·exact((C6.out.mono fun k _ e=>.inl e).alloc _ |>.setCell (p:=⟨Y.sb,r,none⟩) (.inr (.inr rfl)) _).drew
 ·exact(aA _ Y.sb r _).heap ((heap_alloc_old W4 _ (L8 A9)).trans A9) j
 ·exact Mc B2
 ·exact(aA _ Y.sb r _).heap (L9 W4 _) (fun e=>by have:=L8 B0;omega)
end Go.Proofs.YtnicjahcgnhogaaGreatDoor
namespace Go.Proofs.YtnicjahcgnhogaaGreatDoor
open Go Go.RowKit Go.Calli Go.Dskp Go.Maps
attribute [local irreducible] wpStill wpAnyH wpAnyS wpList Code.wp
theorem Oj(ao:Option Addr)(n cap:Nat)(zs:List Int)(hn:n≤60000)(w:World)(h:Ints .u8 w ao n zs):Calls Tryz.prog 40 #[.slice ao n cap] w (Cch.rD zs w):=by
 have A7:=@run_makeMap Tryz.prog
 have o:=h.row
 have A0:=h.uA
 go_enter Tryz.func40,Tryz.ntmps40
 go_wp2_with (at_builtin;refine qw rfl _ _ 63 5 rfl Tryz.underlying63 yC rfl w.heap.size (.slice none 0 0) 0 [] rfl (World.ownsRow_nil _ _ _ _) ao n cap (zs.map (Value.int .u8)) rfl o (lD _ _) A0 aa aE ar ?_;intro v' w2 I A3;rw[Nat.zero_add,List.nil_append] at I;obtain⟨io,ic,rfl,A4,U,A1,J,A2⟩:=mZ I)
 go_ret2
 have hI:Ints .u8 w2 io n zs:=U.ints A1 h.wf
 have j:Below w.heap.size w w2:=A3.aW Me (fun k _ hk=>by cases hk)
 have R:Below w2.heap.size w2 ((w2.alloc (.map #[] 0)).alloc (.cells #[.slice io n ic,.map (some w2.heap.size),(),()] 136)):=ji (MB.alloc Me _) _
 have A5:=h.hlen
 have ha:=MapKept.heap_alloc (w2.alloc (.map #[] 0)) (.cells #[.slice io n ic,.map (some w2.heap.size),(),()] 136)
 rw[World.size_alloc] at ha
 have hF:=(jk.made (P:=Tryz.prog) (K:=3) w2).aj (MB.alloc Me (.cells #[.slice io n ic,.map (some w2.heap.size),(),()] 136))
 subst A5
 have A6:=j.size
 exact⟨w2.heap.size+1,w2.heap.size,io,ic,rfl,⟨ha.1,hI.aj R,A4,hF,aa,fun a ha=>by have:=J a ha;exact⟨aa,aa⟩⟩,aa,A6,fun a ha=>⟨(A2 a ha).1,by have:=J a ha;have:=R.size;omega⟩,bD j R⟩
theorem wO{b mb cb sb kap:Nat}{ib:Option Addr}{zs:List Int}{n:Nat}{r:Int}{w3:World}{N:Nat}(h1:1≤n)(hD:Cch.Dsk w3 b mb ib kap 0 ⟨zs,fun _=>none,0,0⟩)(hc:w3.heap[cb]? =some (.cells #[(),(),(),(),.pointer (some ⟨b,0,none⟩),.slice (some ⟨sb,0,none⟩) n n,(),.int .i64 r] 156 (0,0)))(hs:w3.heap[sb]? =some (.cells (Cch.qA n) 243 (0,0)))(J:cb≠sb)(hb:b<N)(hm:mb<N)(R:N≤cb)(hsb:N≤sb)(I: ∀a,ib=some a→a.block<N)(hN:N≤w3.heap.size)(x:Nat→Prop)(hx: ∀k,x k→k<w3.heap.size∧k≠cb∧k≠sb∧k≠b∧k≠mb∧∀a,ib=some a→a.block≠k):Cch.iH ⟨cb,sb,b,mb,ib,kap,x⟩ w3 n (Cch.tZ zs n r):=by
 rw[Cch.DT] at hs
 refine⟨hc,⟨List.replicate n Cch.Slot.none,⟨ar,hs⟩,⟨by simp[Cch.tZ],fun i hi=>?_⟩⟩,⟨0,Me,hD⟩,by simp[Cch.tZ],by show 0<n;omega,⟨J,by show b≠cb;omega,by show mb≠cb;omega,by show b≠sb;omega,by show mb≠sb;omega,fun a ha=>?_⟩,⟨fun a ha=>Nat.lt_of_lt_of_le (I a ha) hN,fun k hk=>?_⟩⟩
 ·rw[Cch.qQ,show(Cch.tZ zs n r).ss=List.replicate n Cch.q0 from rfl,Cch.qQ]
  exact⟨rfl,rfl,rfl,fun hf=>by cases hf⟩
 ·have:=I a ha
  exact⟨by show _≠cb;omega,by show _≠sb;omega⟩
 ·obtain⟨g1,g2,g3,g4,g5,g6⟩:=hx k hk
  refine⟨g1,?_,g6⟩
  rintro(h | h | h | h)
  ·exact g2 h
  ·exact g3 h
  ·exact g4 h
  ·exact g5 h
end Go.Proofs.YtnicjahcgnhogaaGreatDoor
namespace Go.Proofs.YtnicjahcgnhogaaGreatDoor
open Go Go.RowKit Go.Calli
attribute [local irreducible] wpStill wpAnyH wpAnyS wpList Code.wp
theorem Fa(A:Cch.Ad)(n:Nat)(c:Cch.Ca)(w:World)(h:Cch.iH A w n c):Calls Tryz.prog 37 #[.pointer (some ⟨A.cb,0,none⟩)] w (fun e w'=>e= .returned (.pointer (some ⟨A.b,0,none⟩))∧w=w'):=by
 have c4:w.cell? ⟨A.cb,4,none⟩=some (.pointer (some ⟨A.b,0,none⟩)):=(LZ h.row).trans rfl
 have I:=Cch.pq A n c w h
 have J:Calls Tryz.prog 73 #[.pointer (some ⟨A.cb,0,none⟩)] w (Cch.Same (.bool false) w):=I
 have HN:=MI J
 unfold Cch.Same at HN
 clear h I J
 go_enter Tryz.func37,Tryz.ntmps37
 go_wp2_with (go_at_call 73;refine HN.out.mono ?_;rintro e w' ⟨rfl,rfl⟩)
 go_ret
 exact⟨rfl,rfl⟩
def FNewP(bb cb:Nat)(w:World)(e:Ending)(w':World):Prop:=∃fb,e= .returned (.tuple #[.pointer (some ⟨fb,0,none⟩),()])∧w'.heap[fb]? =some (.cells #[.pointer (some ⟨cb,0,none⟩),.pointer (some ⟨bb,0,none⟩),(),()] 102 (0,0))∧w.heap.size≤fb∧Below w.heap.size w w'
theorem Cf(D:Bd)(B:Bk)(A:Cch.Ad)(n:Nat)(c:Cch.Ca)(w:World)(hb:lJ D w B)(hc:Cch.iH A w n c):Calls Tryz.prog 42 #[.pointer (some ⟨D.bb,0,none⟩),.pointer (some ⟨A.cb,0,none⟩)] w (FNewP D.bb A.cb w):=by
 have HS:=MI (yO D B w hb)
 have HC:=MI (Fa A n c w hc)
 have h0:=hb.ok.s0
 have I:((B.size:Int)==0)=false:=by simp;omega
 clear hb hc
 go_enter Tryz.func42,Tryz.ntmps42
 go_wp2_with (first
  | (go_at_call 78;refine HS.out.mono ?_;rintro e w' ⟨rfl,rfl⟩)
  | (go_at_call 37;refine HC.out.mono ?_;rintro e w' ⟨rfl,rfl⟩))
 go_ret2
 exact⟨w.heap.size,rfl,L9 w _,Me,ae w _⟩
open Classical in
noncomputable def own0 (D:Bd) (fb N0:Nat):Own:=fun k=>if D.T k then 1 else if k=fb then 2 else if k<N0 then 1 else 0
theorem N9{D:Bd}{B:Bk}{w1 w4:World}{b mb cb sb kap fb:Nat}{ib:Option Addr}{n:Nat}{r:Int}{N0:Nat}(A4:N0≤w1.heap.size)(h1:1≤n)(h2:n≤1024)(J:0≤r)(R:r≤8)(hB:lJ D w4 B)(hT: ∀k,D.T k→k<w1.heap.size)(hD:Cch.Dsk w4 b mb ib kap 0 ⟨B.img,fun _=>none,0,0⟩)(hc:w4.heap[cb]? =some (.cells #[(),(),(),(),.pointer (some ⟨b,0,none⟩),.slice (some ⟨sb,0,none⟩) n n,(),.int .i64 r] 156 (0,0)))(hs:w4.heap[sb]? =some (.cells (Cch.qA n) 243 (0,0)))(hf:w4.heap[fb]? =some (.cells #[.pointer (some ⟨cb,0,none⟩),.pointer (some ⟨D.bb,0,none⟩),(),()] 102 (0,0))){N M:Nat}(U:cb≠sb)(A5:w1.heap.size≤b)(A6:w1.heap.size≤mb)(hb:b<N)(hm:mb<N)(j:N≤cb)(hsb:N≤sb)(A2:cb<M)(A3:sb<M)(I: ∀a,ib=some a→w1.heap.size≤a.block∧a.block<N)(A7:M≤fb)(hN:N≤w4.heap.size):aN ⟨fb,⟨cb,sb,b,mb,ib,kap,fun _=>False⟩,n,D⟩ (own0 D fb N0) w4 B 0 ⟨Cch.tZ B.img n r,0,0⟩:=by
 have o:=L8 hf
 have hx: ∀k,own0 D fb N0 k≠0→D.T k∨k=fb∨k<N0:=fun k hk=>by
  unfold own0 at hk
  by_cases h:D.T k
  ·exact .inl h
  ·rw[if_neg h] at hk
   by_cases h2:k=fb
   ·exact .inr (.inl h2)
   ·rw[if_neg h2] at hk
    by_cases h3:k<N0
    ·exact .inr (.inr h3)
    ·rw[if_neg h3] at hk;exact absurd rfl hk
 have A0:¬D.T fb:=fun h=>by have:=hT fb h;omega
 have A1: ∀k,D.T k→k<w4.heap.size:=fun k hk=>by have:=hT k hk;omega
 refine⟨hf,wO h1 hD hc hs U hb hm j hsb (fun a ha=>(I a ha).2) hN _ (fun k hk=>?_),hB,fun k hk=>if_pos hk,by unfold own0;rw[if_neg A0,if_pos rfl],h2,Cch.newC_ok _ _ _,Cch.MR _ (by have:=hB.ok.i1;omega) _ _ J R,rfl⟩
 rcases hx k hk with h | rfl | h3
 ·have A8:=hT k h
  exact⟨A1 k h,aa,aa,aa,aa,fun a ha=>by have:=I a ha;omega⟩
 ·exact⟨o,aa,aa,aa,aa,fun a ha=>by have:=I a ha;omega⟩
 ·exact⟨aa,aa,aa,aa,aa,fun a ha=>by have:=I a ha;omega⟩
theorem ML{D:Bd}{fb N0 k:Nat}(h:k<N0)(hf:N0≤fb):own0 D fb N0 k=1:=by
 unfold own0
 by_cases h1:D.T k
 ·rw[if_pos h1]
 ·rw[if_neg h1,if_neg aa,if_pos h]
structure eU(X:Fx)(Y:Yx)(σ:Own)(w:World)(rb:Nat)(sh:Envp.Sh)(m:Nat×Nat):Prop where
 row: ∃tv xs,w.heap[rb]? =some (.cells #[.pointer (some ⟨Y.yb,0,none⟩),.pointer (some ⟨X.D.bb,0,none⟩),.pointer (some ⟨X.A.b,0,none⟩),.pointer (some ⟨X.A.cb,0,none⟩),.int .i64 sh.a,.int .i64 sh.d,.int .i64 sh.s,.int .i64 sh.r,tv] 49 (0,0))∧w.ownsRow 0 37 7 tv m.1 xs∧∀b,tv.ownBlock=some b→σ b=3∧b<m.2
 own:σ rb=3
 sok:sh.Ok
theorem eU.keep{X:Fx}{Y:Yx}{σ:Own}{w w':World}{rb:Nat}{sh:Envp.Sh}{m:Nat×Nat}(h:eU X Y σ w rb sh m){S:Nat→Prop}(hk:ag S w w')(hS: ∀k,S k→k<w.heap.size→σ k≠3):eU X Y σ w' rb sh m:=by
 obtain⟨tv,xs,h1,h2,h3⟩:=h.row
 exact⟨⟨tv,xs,hk.heap h1 (fun e=>hS _ e (L8 h1) h.own),aB h2 hk (fun k e hs=>by
  obtain⟨cs,I⟩:=ah h2 e
  exact hS k hs (L8 I) (h3 k e).1),h3⟩,h.own,h.sok⟩
theorem eU.aj{X:Fx}{Y:Yx}{σ:Own}{w w':World}{rb:Nat}{sh:Envp.Sh}{m:Nat×Nat}(h:eU X Y σ w rb sh m)(hb:Below w.heap.size w w'):eU X Y σ w' rb sh m:=h.keep (S:=fun _=>False) (ag.au hb Me) (fun _ e=>e.elim)
theorem eU.ext{X:Fx}{Y:Yx}{σ σ':Own}{w:World}{rb:Nat}{sh:Envp.Sh}{m:Nat×Nat}(h:eU X Y σ w rb sh m)(he:Ext σ σ' w.heap.size):eU X Y σ' w rb sh m:=by
 obtain⟨tv,xs,h1,h2,h3⟩:=h.row
 exact⟨⟨tv,xs,h1,h2,fun b e=>by
  obtain⟨cs,I⟩:=ah h2 e
  exact⟨(he _ (L8 I)).trans (h3 b e).1,(h3 b e).2⟩⟩,(he _ (L8 h1)).trans h.own,h.sok⟩
theorem parse_nil(cap:Nat)(w:World):Calls Tryz.prog 17 #[.slice none 0 cap] w (ParP [] w):=by
 have I:=MI (fun w=>nC 0 aq w)
 have hE:=MI (fun w' hb v hv=>jX (bs:=[]) (w:=w) (w':=w') (c:=2) hb (by unfold fF;rw[if_pos ar]) aq (v:=v) hv)
 go_enter Tryz.func17,Tryz.ntmps17
 go_wp2_with (go_at_call 44;refine(I.out _).mono ?_;rintro e w' ⟨rfl,rfl⟩)
 go_ret2
 exact hE.out _ MB _ rfl
theorem IQ(ao:Option Addr)(n cap:Nat)(bs:List Int)(hn:n≤60000)(I:n≤cap)(w:World)(h:Ints .u8 w ao n bs):Calls Tryz.prog 17 #[.slice ao n cap] w (ParP bs w):=by
 cases ao with
 | some ad=>exact parse_any ad n cap bs hn I w h
 | none=>
  obtain rfl:=h.uA rfl
  have hz:bs=[]:=List.eq_nil_of_length_eq_zero h.hlen
  subst hz
  exact parse_nil cap w
def nV(bs:List Int)(V S R:Int):Int:=if fF bs≠0 then fF bs else if S<1∨1024<S∨R<0∨8<R then 1 else if V<1∨16<V then 1 else 0
def sh0:Envp.Sh:=⟨0,0,256,0⟩
theorem KX:sh0.Ok:=by
 unfold Envp.Sh.Ok sh0
 simp
def RkNP(bs:List Int)(V S R:Int)(w:World)(e:Ending)(w':World):Prop:=Below w.heap.size w w'∧((nV bs V S R≠0∧e= .returned (.tuple #[.pointer none,.int .i64 (nV bs V S R)]))∨(nV bs V S R=0∧∃X Y σ rb,e= .returned (.tuple #[.pointer (some ⟨rb,0,none⟩),()])∧(Y.n:Int)=V∧(X.n:Int)=S∧aN X σ w' (fK bs) 0 ⟨Cch.tZ bs X.n R,0,0⟩∧YIs X Y (fK bs) 0 σ w' (xy Y.n)∧eU X Y σ w' rb sh0 (0,0)∧∀k,k<w.heap.size→σ k=1))
theorem DY{bs:List Int}{V S R:Int}{w w':World}{c:Int}(hb:Below w.heap.size w w')(h:nV bs V S R=c)(hc:c≠0){v:Value}(hv:v= .tuple #[.pointer none,.int .i64 c]):RkNP bs V S R w (.returned v) w':=⟨hb,.inl ⟨by rw[h];exact hc,by rw[hv,h]⟩⟩
theorem Iq(ao:Option Addr)(n cap:Nat)(bs:List Int)(hn:n≤60000)(D9:n≤cap)(V S R:Int)(w:World)(h:Ints .u8 w ao n bs):Calls Tryz.prog 16 #[.slice ao n cap,.agg #[.int .i64 V,.int .i64 S,.int .i64 R]] w (RkNP bs V S R w):=by
 have hb:=ae w (.cells #[.int .i64 V,.int .i64 S,.int .i64 R] 24)
 have hz:=L9 w (.cells #[.int .i64 V,.int .i64 S,.int .i64 R] 24)
 have hI:=h.aj hb
 have B6:=IQ ao n cap bs hn D9 _ hI
 have HB:=MI hb
 have HZ:=MI hz
 have HI:=MI hI
 have C4:w.heap.size<(w.alloc (.cells #[.int .i64 V,.int .i64 S,.int .i64 R] 24)).heap.size:=L8 hz
 by_cases A4:fF bs=0
 case neg=>
  have hP:Hid (Calls Tryz.prog 17 #[.slice ao n cap] (w.alloc (.cells #[.int .i64 V,.int .i64 S,.int .i64 R] 24)) (fun e w'=>e= .returned (.tuple #[.pointer none,.int .i64 (fF bs)])∧Below (w.alloc (.cells #[.int .i64 V,.int .i64 S,.int .i64 R] 24)).heap.size (w.alloc (.cells #[.int .i64 V,.int .i64 S,.int .i64 R] 24)) w')):=B6.mono fun e w' h=>by
   obtain⟨h1,h2 | h2⟩:=h
   ·exact⟨h2.2,h1⟩
   ·exact absurd h2.1 A4
  have hE:=MI (fun w' hb v hv=>DY (bs:=bs) (V:=V) (S:=S) (R:=R) (w:=w) (w':=w') (c:=fF bs) hb (by unfold nV;rw[if_pos A4]) A4 (v:=v) hv)
  have A9:(fF bs !=0)=true:=by simpa using A4
  clear B6 hb hz hI h A4
  generalize fF bs=pe at*
  go_enter Tryz.func16,Tryz.ntmps16
  go_wp2_with (go_at_call 17;refine hP.out.mono ?_;rintro e w2 ⟨rfl,U⟩)
  go_ret2
  exact hE.out _ (bD HB.out U) _ rfl
 case pos=>
  have hP:Hid (Calls Tryz.prog 17 #[.slice ao n cap] (w.alloc (.cells #[.int .i64 V,.int .i64 S,.int .i64 R] 24)) (fun e w'=>∃D:Bd,e= .returned (.tuple #[.pointer (some ⟨D.bb,0,none⟩),()])∧lJ D w' (fK bs)∧(∀k,D.T k→k<w'.heap.size)∧Below (w.alloc (.cells #[.int .i64 V,.int .i64 S,.int .i64 R] 24)).heap.size (w.alloc (.cells #[.int .i64 V,.int .i64 S,.int .i64 R] 24)) w')):=B6.mono fun e w' h=>by
   obtain⟨h1,h2 | h2⟩:=h
   ·exact absurd A4 h2.1
   ·obtain⟨_,D,h3,h4,h5⟩:=h2
    exact⟨D,h3,h4,fun k hk=>(h5 k hk).2,h1⟩
  have B7:nV bs V S R=(if S<1∨1024<S∨R<0∨8<R then 1 else if V<1∨16<V then 1 else 0):=by unfold nV;rw[if_neg (by simpa using A4)]
  have B8:=MI (fun w h=>Oj ao n cap bs hn w h)
  unfold Cch.rD at B8
  clear B6 hb hz hI h A4
  by_cases hS:S<1∨1024<S∨R<0∨8<R
  ·have hE:=MI (fun w' hb v hv=>DY (bs:=bs) (V:=V) (S:=S) (R:=R) (w:=w) (w':=w') (c:=1) hb (by rw[B7,if_pos hS]) aq (v:=v) hv)
   have D3:=MI (fun db w=>Cch.Ov db S R hS w)
   unfold Cch.Same at D3
   clear B7 hS
   go_enter Tryz.func16,Tryz.ntmps16
   go_wp2_with (first
    | (go_at_call 17;refine hP.out.mono ?_;rintro e w2 ⟨D,rfl,B9,C0,U⟩;have A0:=bD HB.out U;have j:=cZ HZ.out U C4;obtain⟨s0,s1,s2⟩:=dG j)
    | (go_at_call 40;refine(B8.out _ (HI.out.aj U)).mono ?_;rintro e w3 ⟨b,mb,ib,kap,rfl,hD,hb,C1,B0,o⟩;have A5:=bD A0 o;have A1:=cZ j o (L8 j);obtain⟨t0,t1,t2⟩:=dG A1)
    | (go_at_call 41;refine(D3.out _ _).mono ?_;rintro e w' ⟨rfl,rfl⟩))
   go_ret2
   exact hE.out _ A5 _ rfl
  ·have C2:nV bs V S R=(if V<1∨16<V then 1 else 0):=by rw[B7,if_neg hS]
   have F3:1≤S:=aa
   obtain⟨ns,E2⟩: ∃ns:Nat,S=(ns:Int):=⟨S.toNat,aa⟩
   have A6:1≤ns:=aa
   have B4:ns≤1024:=aa
   have C5:0≤R:=aa
   have C6:R≤8:=aa
   subst E2
   have C7:=MI (fun db w=>Cch.Jz db ns R A6 B4 C5 C6 w)
   unfold Cch.Dp at C7
   clear B7 hS
   by_cases hV:V<1∨16<V
   ·have hE:=MI (fun w' hb v hv=>DY (bs:=bs) (V:=V) (S:=(ns:Int)) (R:=R) (w:=w) (w':=w') (c:=1) hb (by rw[C2,if_pos hV]) aq (v:=v) hv)
    have E3:=MI (fun X σ B f w h=>LQ X σ B 0 f V hV w h)
    clear C2 hV
    go_enter Tryz.func16,Tryz.ntmps16
    go_wp2_with (first
     | (go_at_call 17;refine hP.out.mono ?_;rintro e w2 ⟨D,rfl,B9,C0,U⟩;have A0:=bD HB.out U;have j:=cZ HZ.out U C4;obtain⟨s0,s1,s2⟩:=dG j)
     | (go_at_call 40;refine(B8.out _ (HI.out.aj U)).mono ?_;rintro e w3 ⟨b,mb,ib,kap,rfl,hD,hb,C1,B0,o⟩;have A5:=bD A0 o;have A1:=cZ j o (L8 j);obtain⟨t0,t1,t2⟩:=dG A1)
     | (go_at_call 41;refine(C7.out _ _).mono ?_;rintro e w4 ⟨cb,sb,rfl,A2,A3,A9,B3,hsb,I⟩;have B1:=bD A5 I;have A7:=cZ A1 I (L8 A1);obtain⟨r0,r1,r2⟩:=dG A7;have A8:=(B9.aj o).aj I;have C8:=Cf D (fK bs) ⟨cb,sb,b,mb,ib,kap,fun _=>False⟩ ns _ w4 A8 (wO A6 (hD.aj I) A2 A3 A9 hD.lt hD.2.2.2.1.lt B3 hsb (fun a ha=>(B0 a ha).2) I.size (fun _=>False) (fun k hk=>hk.elim)))
     | (go_at_call 42;refine C8.mono ?_;rintro e w5 ⟨fb,rfl,C9,D0,J⟩;have B2:=bD B1 J;have D1:=cZ A7 J (L8 A7);obtain⟨q0,q1,q2⟩:=dG D1;have D2:=N9 A0.size A6 B4 C5 C6 (A8.aj J) C0 ((hD.aj I).aj J) (cZ A2 J (L8 A2)) (cZ A3 J (L8 A3)) C9 A9 hb C1 hD.lt hD.2.2.2.1.lt B3 hsb (L8 A2) (L8 A3) B0 D0 (Nat.le_trans I.size J.size))
     | (go_at_call 43;refine(E3.out _ _ _ _ _ D2).mono ?_;rintro e w' ⟨rfl,rfl⟩))
    go_ret2
    exact hE.out _ B2 _ rfl
   ·have F4:1≤V:=aa
    obtain⟨nv,E4⟩: ∃nv:Nat,V=(nv:Int):=⟨V.toNat,aa⟩
    have E5:=MI (show nV bs V (ns:Int) R=0 by rw[C2,if_neg hV])
    have E0:1≤nv:=aa
    have E1:nv≤16:=aa
    subst E4
    have D4:=MI (fun X σ B f w h=>IG X σ B 0 f nv E0 E1 w h)
    unfold PNewP at D4
    have E6:=MI (fun w=>Nv.yc w)
    clear C2 hV
    go_enter Tryz.func16,Tryz.ntmps16
    go_wp2_with (first
     | (go_at_call 17;refine hP.out.mono ?_;rintro e w2 ⟨D,rfl,B9,C0,U⟩;have A0:=bD HB.out U;have j:=cZ HZ.out U C4;obtain⟨s0,s1,s2⟩:=dG j)
     | (go_at_call 40;refine(B8.out _ (HI.out.aj U)).mono ?_;rintro e w3 ⟨b,mb,ib,kap,rfl,hD,hb,C1,B0,o⟩;have A5:=bD A0 o;have A1:=cZ j o (L8 j);obtain⟨t0,t1,t2⟩:=dG A1)
     | (go_at_call 41;refine(C7.out _ _).mono ?_;rintro e w4 ⟨cb,sb,rfl,A2,A3,A9,B3,hsb,I⟩;have B1:=bD A5 I;have A7:=cZ A1 I (L8 A1);obtain⟨r0,r1,r2⟩:=dG A7;have A8:=(B9.aj o).aj I;have C8:=Cf D (fK bs) ⟨cb,sb,b,mb,ib,kap,fun _=>False⟩ ns _ w4 A8 (wO A6 (hD.aj I) A2 A3 A9 hD.lt hD.2.2.2.1.lt B3 hsb (fun a ha=>(B0 a ha).2) I.size (fun _=>False) (fun k hk=>hk.elim)))
     | (go_at_call 42;refine C8.mono ?_;rintro e w5 ⟨fb,rfl,C9,D0,J⟩;have B2:=bD B1 J;have D1:=cZ A7 J (L8 A7);obtain⟨q0,q1,q2⟩:=dG D1;have D2:=N9 A0.size A6 B4 C5 C6 (A8.aj J) C0 ((hD.aj I).aj J) (cZ A2 J (L8 A2)) (cZ A3 J (L8 A3)) C9 A9 hb C1 hD.lt hD.2.2.2.1.lt B3 hsb (L8 A2) (L8 A3) B0 D0 (Nat.le_trans I.size J.size))
     | (go_at_call 43;refine(D4.out _ _ _ _ _ D2).mono ?_;rintro e w6 ⟨Y,σ6,D5,rfl,E7,E8,D6,E9⟩;have D7:=MI D5;clear D5)
     | (go_at_call 14;refine(E6.out _).mono ?_;rintro e w7 ⟨rfl,C3⟩))
    go_ret2
    have F1:=ae w7 (.cells #[.pointer (some ⟨Y.yb,0,none⟩),.pointer (some ⟨D.bb,0,none⟩),.pointer (some ⟨b,0,none⟩),.pointer (some ⟨cb,0,none⟩),(),(),.int .i64 256,(),.slice none 0 0] 49)
    have D8:=L9 w7 (.cells #[.pointer (some ⟨Y.yb,0,none⟩),.pointer (some ⟨D.bb,0,none⟩),.pointer (some ⟨b,0,none⟩),.pointer (some ⟨cb,0,none⟩),(),(),.int .i64 256,(),.slice none 0 0] 49)
    have B5:=bD C3 F1
    have F2:w7.heap.size<(w7.alloc (.cells #[.pointer (some ⟨Y.yb,0,none⟩),.pointer (some ⟨D.bb,0,none⟩),.pointer (some ⟨b,0,none⟩),.pointer (some ⟨cb,0,none⟩),(),(),.int .i64 256,(),.slice none 0 0] 49)).heap.size:=L8 D8
    refine⟨bD (bD B2 D6) B5,.inr ⟨E5.out,⟨fb,⟨cb,sb,b,mb,ib,kap,fun _=>False⟩,ns,D⟩,Y,fU σ6 w7.heap.size 3,w7.heap.size,rfl,by rw[D7.out],rfl,E7.fU B5 3 C3.size F2,?_,⟨⟨.slice none 0 0,[],D8,World.ownsRow_nil _ _ _ _,(fun k e=>by cases e)⟩,dN _ _ _,?_⟩,fun k hk=>?_⟩⟩
    ·have h1:=(E8.ext (fA σ6 (b:=w7.heap.size) (n:=w6.heap.size) 3 C3.size)).aj B5
     rw[D7.out]
     exact h1
    ·exact KX
    ·have h1:=B2.size
     have h2:=D6.size
     have h3:=C3.size
     have h4:=B1.size
     rw[jY σ6 3 aa,E9 k aa]
     exact ML hk aa
end Go.Proofs.YtnicjahcgnhogaaGreatDoor

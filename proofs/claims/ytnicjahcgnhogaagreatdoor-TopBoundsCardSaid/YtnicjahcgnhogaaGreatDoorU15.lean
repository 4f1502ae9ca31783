/- Part 16 of the walk: contracts of the program's functions, each for every input. No condition. -/
import Derived.Test.YtnicjahcgnhogaaGreatDoorU14
set_option linter.unusedVariables false
set_option linter.unusedSimpArgs false
set_option maxRecDepth 100000
set_option maxHeartbeats 8000000
namespace Go.Proofs.YtnicjahcgnhogaaGreatDoor
open Go Go.RowKit Go.Calli
attribute [local irreducible] wpStill wpAnyH wpAnyS wpList Code.wp
def Pt.over(p:Pt):Bool:=p.v.done||decide (p.sl.1=4)
theorem MM(X:Fx)(P:Px)(B:Bk)(K:Nat)(σ:Own)(p:Pt)(w:World)(hp:jv X P B K σ w p):Calls Tryz.prog 76 #[.pointer (some ⟨P.pb,0,none⟩)] w (fun e w'=>e= .returned (.bool p.over)∧w=w'):=by
 obtain⟨c0,c1,c2,c3,c4⟩:=bz hp.row
 obtain⟨pb,cap,I,-⟩:=hp.vo.row
 have HD:=MI (xK P.V.vb (some ⟨pb,0,none⟩) cap p.v hp.vo.ok w I)
 have HS:=MI (Nv.H9 P.eb p.sh p.sl.1 p.sl.2 w hp.ev)
 have HO:=MI (show p.over=(p.v.done||decide (p.sl.1=4)) from rfl)
 clear hp I c2 c3 c4
 generalize p.over=o at*
 cases hd:p.v.done with
 | true=>
  rw[hd] at HD HO
  clear hd
  have ho:o=true:=HO.out
  subst ho
  go_enter Tryz.func76,Tryz.ntmps76
  go_wp2_with (first | (go_at_call 111;refine HD.out.mono ?_;rintro e w' ⟨rfl,rfl⟩) | (go_at_call 112;refine HS.out.mono ?_;rintro e w' ⟨rfl,rfl⟩))
  go_ret
  exact⟨rfl,rfl⟩
 | false=>
  rw[hd] at HD HO
  clear hd
  have ho:Hid (o=decide (p.sl.1=4)):=HO.out
  clear HO
  by_cases h4:p.sl.1=4
  ·have HO:=MI (show o=true by rw[ho.out,h4];rfl)
   rw[h4] at HS
   clear ho h4
   go_enter Tryz.func76,Tryz.ntmps76
   go_wp2_with (first | (go_at_call 111;refine HD.out.mono ?_;rintro e w' ⟨rfl,rfl⟩) | (go_at_call 112;refine HS.out.mono ?_;rintro e w' ⟨rfl,rfl⟩))
   go_ret
   exact⟨by rw[HO.out];rfl,rfl⟩
  ·have HO:=MI (show o=false by rw[ho.out];exact decide_eq_false h4)
   have h5:(p.sl.1==4)=false:=by simpa using h4
   generalize p.sl.1=st at*
   clear ho
   go_enter Tryz.func76,Tryz.ntmps76
   go_wp2_with (first | (go_at_call 111;refine HD.out.mono ?_;rintro e w' ⟨rfl,rfl⟩) | (go_at_call 112;refine HS.out.mono ?_;rintro e w' ⟨rfl,rfl⟩))
   all_goals go_ret
   all_goals exact⟨by rw[HO.out];rfl,rfl⟩
structure Yx where
 yb:Nat
 sb:Nat
 n:Nat
abbrev Po:=Option (Px×Pt)
structure Ye where
 ps:List Po
 count:Int
def nU:Po→Value
 | none=>.pointer none
 | some q=>.pointer (some ⟨q.1.pb,0,none⟩)
structure YIs(X:Fx)(Y:Yx)(B:Bk)(K:Nat)(σ:Own)(w:World)(y:Ye):Prop where
 row:w.heap[Y.yb]? =some (.cells #[.pointer (some ⟨X.fb,0,none⟩),.slice (some ⟨Y.sb,0,none⟩) Y.n Y.n,.int .i64 y.count] 85 (0,0))
 sl:w.heap[Y.sb]? =some (.cells (y.ps.map nU).toArray 98 (0,0))
 len:y.ps.length=Y.n
 n1:1≤Y.n
 n2:Y.n≤64
 o1:σ Y.yb=4
 o2:σ Y.sb=5
 pt: ∀i P p,y.ps.getD i none=some (P,p)→P.V.T=10+4*i∧jv X P B K σ w p
 c0:0≤y.count
 c1:y.count≤4294967296
theorem YIs.cells{X:Fx}{Y:Yx}{B:Bk}{K:Nat}{σ:Own}{w:World}{y:Ye}(h:YIs X Y B K σ w y):w.cell? ⟨Y.yb,0,none⟩=some (.pointer (some ⟨X.fb,0,none⟩))∧w.cell? ⟨Y.yb,1,none⟩=some (.slice (some ⟨Y.sb,0,none⟩) Y.n Y.n)∧w.cell? ⟨Y.yb,2,none⟩=some (.int .i64 y.count):=
 ⟨(LZ h.row).trans rfl,(LZ h.row).trans rfl,(LZ h.row).trans rfl⟩
theorem YIs.cell{X:Fx}{Y:Yx}{B:Bk}{K:Nat}{σ:Own}{w:World}{y:Ye}(h:YIs X Y B K σ w y){i:Nat}(hi:i<Y.n):w.cell? ⟨Y.sb,i,none⟩=some (nU (y.ps.getD i none)):=by
 refine(LZ h.sl).trans ?_
 have hl:i<y.ps.length:=by rw[h.len];exact hi
 simp[List.getD,hl]
theorem iC(X:Fx)(Y:Yx)(B:Bk)(K:Nat)(σ:Own)(y:Ye)(w:World)(h:YIs X Y B K σ w y):Calls Tryz.prog 27 #[.pointer (some ⟨Y.yb,0,none⟩)] w (fun e w'=>e= .returned (.bool false)∧w=w'):=by
 obtain⟨c0,c1,c2⟩:=h.cells
 clear h c1 c2
 go_enter Tryz.func27,Tryz.ntmps27
 go_wp2_with fail
 go_ret
 exact⟨rfl,rfl⟩
theorem mX(X:Fx)(Y:Yx)(B:Bk)(K:Nat)(σ:Own)(y:Ye)(id:Int)(hid:id<0)(w:World)(h:YIs X Y B K σ w y):Calls Tryz.prog 84 #[.pointer (some ⟨Y.yb,0,none⟩),.int .i64 id] w (fun e w'=>e= .returned (.tuple #[.pointer none,.int .i64 15])∧w=w'):=by
 have HN:=MI (iC X Y B K σ y w h)
 obtain⟨c0,c1,c2⟩:=h.cells
 clear h c0 c2
 go_enter Tryz.func84,Tryz.ntmps84
 go_wp2_with (go_at_call 27;refine HN.out.mono ?_;rintro e w' ⟨rfl,rfl⟩)
 go_ret2
 exact⟨rfl,rfl⟩
theorem mY(X:Fx)(Y:Yx)(B:Bk)(K:Nat)(σ:Own)(y:Ye)(id:Int)(hid:(Y.n:Int)≤id)(w:World)(h:YIs X Y B K σ w y):Calls Tryz.prog 84 #[.pointer (some ⟨Y.yb,0,none⟩),.int .i64 id] w (fun e w'=>e= .returned (.tuple #[.pointer none,.int .i64 15])∧w=w'):=by
 have HN:=MI (iC X Y B K σ y w h)
 obtain⟨c0,c1,c2⟩:=h.cells
 have hn:¬id<0:=aa
 clear h c0 c2
 go_enter Tryz.func84,Tryz.ntmps84
 go_wp2_with (go_at_call 27;refine HN.out.mono ?_;rintro e w' ⟨rfl,rfl⟩)
 go_ret2
 exact⟨rfl,rfl⟩
theorem mW(X:Fx)(Y:Yx)(B:Bk)(K:Nat)(σ:Own)(y:Ye)(i:Nat)(hi:i<Y.n)(hp:y.ps.getD i none=none)(w:World)(h:YIs X Y B K σ w y):Calls Tryz.prog 84 #[.pointer (some ⟨Y.yb,0,none⟩),.int .i64 (i:Int)] w (fun e w'=>e= .returned (.tuple #[.pointer none,.int .i64 7])∧w=w'):=by
 have HN:=MI (iC X Y B K σ y w h)
 obtain⟨c0,c1,c2⟩:=h.cells
 have hc:=h.cell hi
 rw[hp] at hc
 have I:w.cell? ⟨Y.sb,i,none⟩=some (.pointer none):=hc
 have hn:¬(i:Int)<0:=aa
 have J:¬(Y.n:Int)≤i:=aa
 have R:(i:Int)<(Y.n:Int):=aa
 clear h c0 c2 hc hp
 go_enter Tryz.func84,Tryz.ntmps84
 go_wp2_with (go_at_call 27;refine HN.out.mono ?_;rintro e w' ⟨rfl,rfl⟩)
 go_ret2
 exact⟨rfl,rfl⟩
theorem mV(X:Fx)(Y:Yx)(B:Bk)(K:Nat)(σ:Own)(y:Ye)(i:Nat)(hi:i<Y.n)(P:Px)(p:Pt)(hp:y.ps.getD i none=some (P,p))(w:World)(h:YIs X Y B K σ w y):Calls Tryz.prog 84 #[.pointer (some ⟨Y.yb,0,none⟩),.int .i64 (i:Int)] w (fun e w'=>e= .returned (.tuple #[.pointer (some ⟨P.pb,0,none⟩),()])∧w=w'):=by
 have HN:=MI (iC X Y B K σ y w h)
 obtain⟨c0,c1,c2⟩:=h.cells
 have hc:=h.cell hi
 rw[hp] at hc
 have I:w.cell? ⟨Y.sb,i,none⟩=some (.pointer (some ⟨P.pb,0,none⟩)):=hc
 have hn:¬(i:Int)<0:=aa
 have J:¬(Y.n:Int)≤i:=aa
 have R:(i:Int)<(Y.n:Int):=aa
 clear h c0 c2 hc hp
 go_enter Tryz.func84,Tryz.ntmps84
 go_wp2_with (go_at_call 27;refine HN.out.mono ?_;rintro e w' ⟨rfl,rfl⟩)
 go_ret2
 exact⟨rfl,rfl⟩
theorem jm(l:List Po){i:Nat}(h:i<l.length)(x:Po):(l.set i x).getD i none=x:=by simp[List.getD,h]
theorem getD_set_ne(l:List Po){i j:Nat}(h:i≠j)(x:Po):(l.set i x).getD j none=l.getD j none:=by simp[List.getD,List.getElem?_set,h]
theorem YIs.at{X:Fx}{Y:Yx}{B:Bk}{K:Nat}{σ:Own}{w:World}{y:Ye}(h:YIs X Y B K σ w y){i:Nat}{P:Px}{p:Pt}(e:y.ps.getD i none=some (P,p)):i<Y.n:=by
 apply Classical.byContradiction
 intro hn
 rw[←h.len] at hn
 simp[List.getD,hn] at e
theorem YIs.did{X:Fx}{Y:Yx}{B:Bk}{K L:Nat}{σ σ':Own}{w w':World}{y:Ye}(h:YIs X Y B K σ w y)(hl:K≤L){i:Nat}{P:Px}{p p':Pt}(e:y.ps.getD i none=some (P,p))(hk:ag (FP σ P.V.T) w w')(he:Ext σ σ' w.heap.size)(hp:jv X P B L σ' w' p'):YIs X Y B L σ' w' {y with ps:=y.ps.set i (some (P,p'))}:=by
 have hi:=h.at e
 have hT:=(h.pt i P p e).1
 have hm:(y.ps.set i (some (P,p'))).map nU=y.ps.map nU:=by
  apply List.ext_getElem?
  intro j
  rw[List.map_set,List.getElem?_set]
  by_cases hj:i=j
  ·subst hj
   have I:i<y.ps.length:=by rw[h.len];exact hi
   have e2:y.ps[i]=some (P,p):=by simpa[List.getD,I] using e
   simp[I,e2,nU]
  ·rw[if_neg hj]
 refine⟨hk.heap h.row (fun q=>?_),?_,by rw[List.length_set];exact h.len,h.n1,h.n2,(he _ (L8 h.row)).trans h.o1,(he _ (L8 h.sl)).trans h.o2,fun j Q q hq=>?_,h.c0,h.c1⟩
 ·have:=h.o1
  unfold FP FV at q
  omega
 ·rw[hm]
  refine hk.heap h.sl (fun q=>?_)
  have:=h.o2
  unfold FP FV at q
  omega
 ·by_cases hj:i=j
  ·subst hj
   have I:i<y.ps.length:=by rw[h.len];exact hi
   have e3:(y.ps.set i (some (P,p'))).getD i none=some (P,p'):=jm _ I _
   rw[e3] at hq
   obtain⟨rfl,rfl⟩:=Prod.mk.inj (Option.some.inj hq)
   exact⟨hT,hp⟩
  ·have e3:(y.ps.set i (some (P,p'))).getD j none=y.ps.getD j none:=getD_set_ne _ hj _
   rw[e3] at hq
   obtain⟨h1,h2⟩:=h.pt j Q q hq
   refine⟨h1,((h2.ext he).keep hk (fun k hs I=>?_)).up hl⟩
   rw[he _ I]
   unfold FP FV at hs
   omega
theorem YIs.gone{X:Fx}{Y:Yx}{B:Bk}{K:Nat}{σ:Own}{w:World}{y:Ye}(h:YIs X Y B K σ w y)(i:Nat)(hi:i<Y.n):YIs X Y B K σ (w.setCell ⟨Y.sb,i,none⟩ (.pointer none)) {y with ps:=y.ps.set i none}:=by
 have hk:=aA w Y.sb i (.pointer none)
 have J:Y.yb≠Y.sb:=fun e=>by have:=h.o1;have:=h.o2;rw[e] at*;omega
 refine⟨hk.heap h.row J,?_,by rw[List.length_set];exact h.len,h.n1,h.n2,h.o1,h.o2,fun j Q q hq=>?_,h.c0,h.c1⟩
 ·refine(Mc h.sl).trans ?_
  rw[List.map_set]
  simp[nU]
 ·by_cases hj:i=j
  ·subst hj
   have I:i<y.ps.length:=by rw[h.len];exact hi
   have e3:(y.ps.set i none).getD i none=none:=jm _ I _
   rw[e3] at hq
   cases hq
  ·have e3:(y.ps.set i none).getD j none=y.ps.getD j none:=getD_set_ne _ hj _
   rw[e3] at hq
   obtain⟨h1,h2⟩:=h.pt j Q q hq
   refine⟨h1,h2.keep hk (fun k hs I=>?_)⟩
   have:=h.o2
   rw[hs]
   omega
def dn(Y:Yx)(y:Ye)(id:Int)(g:Pt→Int×Pt):Int×Ye:=
 if id<0∨(Y.n:Int)≤id then(15,y) else
 match y.ps.getD id.toNat none with
 | none=>(7,y)
 | some q=>((g q.2).1,{y with ps:=y.ps.set id.toNat (some (q.1,(g q.2).2))})
def iP(Y:Yx)(y:Ye)(id:Int):Int×Ye:=
 if id<0∨(Y.n:Int)≤id then(15,y) else
 match y.ps.getD id.toNat none with
 | none=>(7,y)
 | some q=>(0,{y with ps:=y.ps.set id.toNat none})
def FO(σ:Own)(k:Nat):Prop:=4≤σ k
def qp(X:Fx)(Y:Yx)(B:Bk)(K:Nat)(σ:Own)(f:Fe)(r:Int×Ye)(w:World)(e:Ending)(w':World):Prop:=e= .returned (.int .i64 r.1)∧aN X σ w' B K f∧YIs X Y B K σ w' r.2∧ag (FO σ) w w'
theorem fC{X:Fx}{Y:Yx}{B:Bk}{K:Nat}{σ:Own}{f:Fe}{w:World}{y:Ye}(h:aN X σ w B K f)(hy:YIs X Y B K σ w y){c:Int}{r:Int×Ye}(hr:r=(c,y)){v:Value}(hv:v= .int .i64 c):qp X Y B K σ f r w (.returned v) w:=by
 subst hr
 exact⟨by rw[hv],h,hy,ag.refl _ _⟩
theorem KF(X:Fx)(Y:Yx)(B:Bk)(K:Nat)(σ:Own)(f:Fe)(y:Ye)(id:Int)(w:World)(h:aN X σ w B K f)(hy:YIs X Y B K σ w y):Calls Tryz.prog 62 #[.pointer (some ⟨Y.yb,0,none⟩),.int .i64 id] w (qp X Y B K σ f (iP Y y id) w):=by
 by_cases h1:id<0
 ·have HP:=MI (mX X Y B K σ y id h1 w hy)
  have HE:=MI (fun v hv=>fC (r:=iP Y y id) h hy (c:=15) (by unfold iP;rw[if_pos (.inl h1)]) (v:=v) hv)
  clear h hy h1
  go_enter Tryz.func62,Tryz.ntmps62
  go_wp2_with (go_at_call 84;refine HP.out.mono ?_;rintro e w' ⟨rfl,rfl⟩)
  go_ret
  exact HE.out _ rfl
 by_cases h2:(Y.n:Int)≤id
 ·have HP:=MI (mY X Y B K σ y id h2 w hy)
  have HE:=MI (fun v hv=>fC (r:=iP Y y id) h hy (c:=15) (by unfold iP;rw[if_pos (.inr h2)]) (v:=v) hv)
  clear h hy h1 h2
  go_enter Tryz.func62,Tryz.ntmps62
  go_wp2_with (go_at_call 84;refine HP.out.mono ?_;rintro e w' ⟨rfl,rfl⟩)
  go_ret
  exact HE.out _ rfl
 obtain⟨i,rfl⟩: ∃i:Nat,id=(i:Int):=⟨id.toNat,aa⟩
 have hi:i<Y.n:=aa
 have hn:¬((i:Int)<0∨(Y.n:Int)≤i):=aa
 cases hq:y.ps.getD i none with
 | none=>
  have HP:=MI (mW X Y B K σ y i hi hq w hy)
  have HE:=MI (fun v hv=>fC (r:=iP Y y (i:Int)) h hy (c:=7) (by unfold iP;rw[if_neg hn,Int.toNat_natCast,hq]) (v:=v) hv)
  clear h hy h1 h2 hn hq
  go_enter Tryz.func62,Tryz.ntmps62
  go_wp2_with (go_at_call 84;refine HP.out.mono ?_;rintro e w' ⟨rfl,rfl⟩)
  go_ret
  exact HE.out _ rfl
 | some q=>
  obtain⟨P,p⟩:=q
  have HP:=MI (mV X Y B K σ y i hi P p hq w hy)
  have HR:=MI (show iP Y y (i:Int)=(0,{y with ps:=y.ps.set i none}) by unfold iP;rw[if_neg hn,Int.toNat_natCast,hq])
  obtain⟨c0,c1,c2⟩:=hy.cells
  have hc:=hy.cell hi
  have g0:=frozen_of_row _ _ i _ _ hy.sl
  have I:(i:Int)<(Y.n:Int):=aa
  have HK:=MI (aA w Y.sb i (.pointer none))
  have HY:=MI (hy.gone i hi)
  have HF:=MI (h.kept (HK.out.mono fun k _ e=>by rw[e,hy.o2];omega))
  have HO:=MI hy.o2
  clear h hy h1 h2 hn hq c0 c2
  go_enter Tryz.func62,Tryz.ntmps62
  go_wp2_with (go_at_call 84;refine HP.out.mono ?_;rintro e w' ⟨rfl,rfl⟩)
  go_ret
  rw[HR.out]
  exact⟨rfl,HF.out,HY.out,HK.out.mono fun k _ e=>by unfold FO;rw[e,HO.out];omega⟩
theorem gp.put{X:Fx}{V:Vx}{B:Bk}{K:Nat}{σ:Own}{w w':World}{v v':Vo}{us:List Ku}(h:gp X V B K σ w v us)(hm:v'.m=v.m)(R:v'.Ok){pb:Nat}{cap:Nat}(J:dQ w V.vb (some ⟨pb,0,none⟩) cap v)(hr:dQ w' V.vb (some ⟨pb,0,none⟩) cap v')(hk:ag (fun k=>k=V.vb) w w'):gp X V B K σ w' v' us:=by
 obtain⟨pb2,cap2,h1,h2,h3,h4⟩:=h.row
 have e:(some (⟨pb2,0,none⟩:Addr),cap2)=(some ⟨pb,0,none⟩,cap):=by
  have a:=(dJ h1).2.2.2.2.2.2.2.2.2.1
  have b:=(dJ J).2.2.2.2.2.2.2.2.2.1
  rw[a] at b
  simp only[Option.some.injEq,Value.slice.injEq] at b
  rw[b.1];simp[b.2.2]
 simp only[Prod.mk.injEq,Option.some.injEq,Addr.mk.injEq,and_true] at e
 obtain⟨rfl,rfl⟩:=e
 have U:pb2≠V.vb:=fun e=>by
  have hc:=h.ok.m.c0
  have h5:=h4 0 aa
  rw[e,(dJ J).1] at h5
  cases h5
 refine⟨h.i,by rw[hm];exact h.m,R,by rw[hm];exact h.xg,h.t,⟨pb2,cap2,hr,h2,Nat.lt_of_lt_of_le h3 hk.size,fun k I=>hk.cell (h4 k (by rw[hm] at I;exact I)) (fun e=>U e)⟩,h.own,fun k I=>?_,fun k I=>h.uo k (by rw[hm] at I;exact I)⟩
 rw[hm] at I⊢
 obtain⟨kv,lv,j⟩:=h.cur k I
 refine⟨kv,lv,j.keep hk (fun b e hl=>?_)⟩
 rw[e,h.own]
 show V.T≠V.T+1+k
 omega
theorem jv.FB{X:Fx}{P:Px}{B:Bk}{K:Nat}{σ:Own}{w w':World}{p:Pt}(h:jv X P B K σ w p){v':Vo}(hv:gp X P.V B K σ w' v' p.us)(hk:ag (fun k=>k=P.V.vb) w w'):jv X P B K σ w' {p with v:=v'}:=by
 have ho:=h.vo.own
 refine⟨hk.heap h.row (fun e=>?_),hv,hk.heap h.ev (fun e=>?_),h.sok,h.st,h.o1,h.o2⟩
 ·have:=h.o1;rw[e] at this;omega
 ·have:=h.o2;rw[e] at this;omega
theorem jv.env{X:Fx}{P:Px}{B:Bk}{K:Nat}{σ:Own}{w w':World}{p:Pt}(h:jv X P B K σ w p){q:Int×Int}(he:Nv.Sx 145 w' P.eb p.sh q)(I:Envp.St q)(hk:ag (fun k=>k=P.eb) w w'):jv X P B K σ w' {p with sl:=q}:=
 ⟨hk.heap h.row (fun e=>h.ne e),h.vo.keep hk (fun k e hl=>by have:=h.o2;rw[e];omega),he,h.sok,I,h.o1,h.o2⟩
theorem Lc(X:Fx)(Y:Yx)(B:Bk)(K:Nat)(σ:Own)(f:Fe)(y:Ye)(id:Int)(a:Int)(w:World)(h:aN X σ w B K f)(hy:YIs X Y B K σ w y):Calls Tryz.prog 63 #[.pointer (some ⟨Y.yb,0,none⟩),.int .i64 id,.int .i64 a] w (qp X Y B K σ f (dn Y y id (fun p=>((dL p.v a).1,{p with v:=(dL p.v a).2}))) w):=by
 by_cases h1:id<0
 ·have HP:=MI (mX X Y B K σ y id h1 w hy)
  have HE:=MI (fun v hv=>fC (r:=dn Y y id (fun p=>((dL p.v a).1,{p with v:=(dL p.v a).2}))) h hy (c:=15) (by unfold dn;rw[if_pos (.inl h1)]) (v:=v) hv)
  clear h hy h1
  go_enter Tryz.func63,Tryz.ntmps63
  go_wp2_with (go_at_call 84;refine HP.out.mono ?_;rintro e w' ⟨rfl,rfl⟩)
  go_ret
  exact HE.out _ rfl
 by_cases h2:(Y.n:Int)≤id
 ·have HP:=MI (mY X Y B K σ y id h2 w hy)
  have HE:=MI (fun v hv=>fC (r:=dn Y y id (fun p=>((dL p.v a).1,{p with v:=(dL p.v a).2}))) h hy (c:=15) (by unfold dn;rw[if_pos (.inr h2)]) (v:=v) hv)
  clear h hy h1 h2
  go_enter Tryz.func63,Tryz.ntmps63
  go_wp2_with (go_at_call 84;refine HP.out.mono ?_;rintro e w' ⟨rfl,rfl⟩)
  go_ret
  exact HE.out _ rfl
 obtain⟨i,rfl⟩: ∃i:Nat,id=(i:Int):=⟨id.toNat,aa⟩
 have hi:i<Y.n:=aa
 have hn:¬((i:Int)<0∨(Y.n:Int)≤i):=aa
 cases hq:y.ps.getD i none with
 | none=>
  have HP:=MI (mW X Y B K σ y i hi hq w hy)
  have HE:=MI (fun v hv=>fC (r:=dn Y y (i:Int) (fun p=>((dL p.v a).1,{p with v:=(dL p.v a).2}))) h hy (c:=7) (by unfold dn;rw[if_neg hn,Int.toNat_natCast,hq]) (v:=v) hv)
  clear h hy h1 h2 hn hq
  go_enter Tryz.func63,Tryz.ntmps63
  go_wp2_with (go_at_call 84;refine HP.out.mono ?_;rintro e w' ⟨rfl,rfl⟩)
  go_ret
  exact HE.out _ rfl
 | some q=>
  obtain⟨P,p⟩:=q
  have HP:=MI (mV X Y B K σ y i hi P p hq w hy)
  have HR:=MI (show dn Y y (i:Int) (fun p=>((dL p.v a).1,{p with v:=(dL p.v a).2}))=((dL p.v a).1,{y with ps:=y.ps.set i (some (P,{p with v:=(dL p.v a).2}))}) by unfold dn;rw[if_neg hn,Int.toNat_natCast,hq])
  obtain⟨hT,hp⟩:=hy.pt i P p hq
  obtain⟨c0,c1,-⟩:=bz hp.row
  obtain⟨pb,cap,I,-⟩:=hp.vo.row
  have HC:=MI (Hm P.V.vb (some ⟨pb,0,none⟩) cap p.v hp.vo.ok a w I)
  have hm:(dL p.v a).2.m=p.v.m:=by unfold dL;split<;>rfl
  have J:=Ld hp.vo.ok a
  have HE:Hid (∀w',dQ w' P.V.vb (some ⟨pb,0,none⟩) cap (dL p.v a).2→ag (fun k=>k=P.V.vb) w w'→∀v,v= .int .i64 (dL p.v a).1→qp X Y B K σ f (dn Y y (i:Int) (fun p=>((dL p.v a).1,{p with v:=(dL p.v a).2}))) w (.returned v) w'):=by
   intro w' hr hk v hv
   rw[HR.out]
   have R:=hp.vo.put hm J I hr hk
   have ho:=hp.vo.own
   exact⟨by rw[hv],h.kept (hk.mono fun k _ e=>by rw[e,ho];omega),hy.did Me hq (hk.mono fun k _ e=>by unfold FP FV;rw[e,ho];omega) (Ext.refl _ _) (hp.FB R hk),hk.mono fun k _ e=>by unfold FO;rw[e,ho];omega⟩
  unfold VoP at HC
  clear h hy h1 h2 hn hq hp I hm J HR
  generalize dL p.v a=r at*
  go_enter Tryz.func63,Tryz.ntmps63
  go_wp2_with (first | (go_at_call 84;refine HP.out.mono ?_;rintro e w' ⟨rfl,rfl⟩) | (go_at_call 98;refine HC.out.mono ?_;rintro e w' ⟨rfl,hr,hk⟩))
  go_ret
  exact HE.out _ hr hk _ rfl
theorem IK(X:Fx)(Y:Yx)(B:Bk)(K:Nat)(σ:Own)(f:Fe)(y:Ye)(id:Int)(a:Int)(w:World)(h:aN X σ w B K f)(hy:YIs X Y B K σ w y):Calls Tryz.prog 64 #[.pointer (some ⟨Y.yb,0,none⟩),.int .i64 id,.int .i64 a] w (qp X Y B K σ f (dn Y y id (fun p=>((dK p.v a).1,{p with v:=(dK p.v a).2}))) w):=by
 by_cases h1:id<0
 ·have HP:=MI (mX X Y B K σ y id h1 w hy)
  have HE:=MI (fun v hv=>fC (r:=dn Y y id (fun p=>((dK p.v a).1,{p with v:=(dK p.v a).2}))) h hy (c:=15) (by unfold dn;rw[if_pos (.inl h1)]) (v:=v) hv)
  clear h hy h1
  go_enter Tryz.func64,Tryz.ntmps64
  go_wp2_with (go_at_call 84;refine HP.out.mono ?_;rintro e w' ⟨rfl,rfl⟩)
  go_ret
  exact HE.out _ rfl
 by_cases h2:(Y.n:Int)≤id
 ·have HP:=MI (mY X Y B K σ y id h2 w hy)
  have HE:=MI (fun v hv=>fC (r:=dn Y y id (fun p=>((dK p.v a).1,{p with v:=(dK p.v a).2}))) h hy (c:=15) (by unfold dn;rw[if_pos (.inr h2)]) (v:=v) hv)
  clear h hy h1 h2
  go_enter Tryz.func64,Tryz.ntmps64
  go_wp2_with (go_at_call 84;refine HP.out.mono ?_;rintro e w' ⟨rfl,rfl⟩)
  go_ret
  exact HE.out _ rfl
 obtain⟨i,rfl⟩: ∃i:Nat,id=(i:Int):=⟨id.toNat,aa⟩
 have hi:i<Y.n:=aa
 have hn:¬((i:Int)<0∨(Y.n:Int)≤i):=aa
 cases hq:y.ps.getD i none with
 | none=>
  have HP:=MI (mW X Y B K σ y i hi hq w hy)
  have HE:=MI (fun v hv=>fC (r:=dn Y y (i:Int) (fun p=>((dK p.v a).1,{p with v:=(dK p.v a).2}))) h hy (c:=7) (by unfold dn;rw[if_neg hn,Int.toNat_natCast,hq]) (v:=v) hv)
  clear h hy h1 h2 hn hq
  go_enter Tryz.func64,Tryz.ntmps64
  go_wp2_with (go_at_call 84;refine HP.out.mono ?_;rintro e w' ⟨rfl,rfl⟩)
  go_ret
  exact HE.out _ rfl
 | some q=>
  obtain⟨P,p⟩:=q
  have HP:=MI (mV X Y B K σ y i hi P p hq w hy)
  have HR:=MI (show dn Y y (i:Int) (fun p=>((dK p.v a).1,{p with v:=(dK p.v a).2}))=((dK p.v a).1,{y with ps:=y.ps.set i (some (P,{p with v:=(dK p.v a).2}))}) by unfold dn;rw[if_neg hn,Int.toNat_natCast,hq])
  obtain⟨hT,hp⟩:=hy.pt i P p hq
  obtain⟨c0,c1,-⟩:=bz hp.row
  obtain⟨pb,cap,I,-⟩:=hp.vo.row
  have HC:=MI (Hl P.V.vb (some ⟨pb,0,none⟩) cap p.v hp.vo.ok a w I)
  have hm:(dK p.v a).2.m=p.v.m:=by unfold dK;split<;>rfl
  have J:=Kr hp.vo.ok a
  have HE:Hid (∀w',dQ w' P.V.vb (some ⟨pb,0,none⟩) cap (dK p.v a).2→ag (fun k=>k=P.V.vb) w w'→∀v,v= .int .i64 (dK p.v a).1→qp X Y B K σ f (dn Y y (i:Int) (fun p=>((dK p.v a).1,{p with v:=(dK p.v a).2}))) w (.returned v) w'):=by
   intro w' hr hk v hv
   rw[HR.out]
   have R:=hp.vo.put hm J I hr hk
   have ho:=hp.vo.own
   exact⟨by rw[hv],h.kept (hk.mono fun k _ e=>by rw[e,ho];omega),hy.did Me hq (hk.mono fun k _ e=>by unfold FP FV;rw[e,ho];omega) (Ext.refl _ _) (hp.FB R hk),hk.mono fun k _ e=>by unfold FO;rw[e,ho];omega⟩
  unfold VoP at HC
  clear h hy h1 h2 hn hq hp I hm J HR
  generalize dK p.v a=r at*
  go_enter Tryz.func64,Tryz.ntmps64
  go_wp2_with (first | (go_at_call 84;refine HP.out.mono ?_;rintro e w' ⟨rfl,rfl⟩) | (go_at_call 99;refine HC.out.mono ?_;rintro e w' ⟨rfl,hr,hk⟩))
  go_ret
  exact HE.out _ hr hk _ rfl
theorem Bc(X:Fx)(Y:Yx)(B:Bk)(K:Nat)(σ:Own)(f:Fe)(y:Ye)(id:Int)(w:World)(h:aN X σ w B K f)(hy:YIs X Y B K σ w y):Calls Tryz.prog 67 #[.pointer (some ⟨Y.yb,0,none⟩),.int .i64 id] w (qp X Y B K σ f (dn Y y id (fun p=>(0,{p with sl:=Envp.rel p.sl}))) w):=by
 by_cases h1:id<0
 ·have HP:=MI (mX X Y B K σ y id h1 w hy)
  have HE:=MI (fun v hv=>fC (r:=dn Y y id (fun p=>(0,{p with sl:=Envp.rel p.sl}))) h hy (c:=15) (by unfold dn;rw[if_pos (.inl h1)]) (v:=v) hv)
  clear h hy h1
  go_enter Tryz.func67,Tryz.ntmps67
  go_wp2_with (go_at_call 84;refine HP.out.mono ?_;rintro e w' ⟨rfl,rfl⟩)
  go_ret
  exact HE.out _ rfl
 by_cases h2:(Y.n:Int)≤id
 ·have HP:=MI (mY X Y B K σ y id h2 w hy)
  have HE:=MI (fun v hv=>fC (r:=dn Y y id (fun p=>(0,{p with sl:=Envp.rel p.sl}))) h hy (c:=15) (by unfold dn;rw[if_pos (.inr h2)]) (v:=v) hv)
  clear h hy h1 h2
  go_enter Tryz.func67,Tryz.ntmps67
  go_wp2_with (go_at_call 84;refine HP.out.mono ?_;rintro e w' ⟨rfl,rfl⟩)
  go_ret
  exact HE.out _ rfl
 obtain⟨i,rfl⟩: ∃i:Nat,id=(i:Int):=⟨id.toNat,aa⟩
 have hi:i<Y.n:=aa
 have hn:¬((i:Int)<0∨(Y.n:Int)≤i):=aa
 cases hq:y.ps.getD i none with
 | none=>
  have HP:=MI (mW X Y B K σ y i hi hq w hy)
  have HE:=MI (fun v hv=>fC (r:=dn Y y (i:Int) (fun p=>(0,{p with sl:=Envp.rel p.sl}))) h hy (c:=7) (by unfold dn;rw[if_neg hn,Int.toNat_natCast,hq]) (v:=v) hv)
  clear h hy h1 h2 hn hq
  go_enter Tryz.func67,Tryz.ntmps67
  go_wp2_with (go_at_call 84;refine HP.out.mono ?_;rintro e w' ⟨rfl,rfl⟩)
  go_ret
  exact HE.out _ rfl
 | some q=>
  obtain⟨P,p⟩:=q
  have HP:=MI (mV X Y B K σ y i hi P p hq w hy)
  have HR:=MI (show dn Y y (i:Int) (fun p=>(0,{p with sl:=Envp.rel p.sl}))=(0,{y with ps:=y.ps.set i (some (P,{p with sl:=Envp.rel p.sl}))}) by unfold dn;rw[if_neg hn,Int.toNat_natCast,hq])
  obtain⟨hT,hp⟩:=hy.pt i P p hq
  obtain⟨c0,c1,-⟩:=bz hp.row
  have HC:=MI (Nv.rel_any P.eb p.sh p.sl.1 p.sl.2 w hp.ev)
  have HE:Hid (∀w',Nv.Sx 145 w' P.eb p.sh (Envp.rel p.sl)→ag (fun k=>k=P.eb) w w'→∀v,v= .int .i64 0→qp X Y B K σ f (dn Y y (i:Int) (fun p=>(0,{p with sl:=Envp.rel p.sl}))) w (.returned v) w'):=by
   intro w' hr hk v hv
   rw[HR.out]
   have ho:=hp.o2
   exact⟨by rw[hv],h.kept (hk.mono fun k _ e=>by rw[e,ho];omega),hy.did Me hq (hk.mono fun k _ e=>by unfold FP;rw[e,ho];exact .inr rfl) (Ext.refl _ _) (hp.env hr (Envp.rel_st hp.st) hk),hk.mono fun k _ e=>by unfold FO;rw[e,ho];omega⟩
  unfold Nv.nR at HC
  clear h hy h1 h2 hn hq hp HR
  go_enter Tryz.func67,Tryz.ntmps67
  go_wp2_with (first | (go_at_call 84;refine HP.out.mono ?_;rintro e w' ⟨rfl,rfl⟩) | (go_at_call 100;refine HC.out.mono ?_;rintro e w' ⟨rfl,hr,hk⟩))
  go_ret
  exact HE.out _ hr hk _ rfl
theorem set_self(l:List Po)(i:Nat):l.set i (l.getD i none)=l:=by
 apply List.ext_getElem?
 intro j
 rw[List.getElem?_set]
 by_cases h:i=j
 ·subst h
  by_cases hl:i<l.length
  ·simp[hl]
  ·simp[hl]
 ·rw[if_neg h]
theorem voices_any(X:Fx)(Y:Yx)(B:Bk)(K:Nat)(σ:Own)(y:Ye)(w:World)(hy:YIs X Y B K σ w y):Calls Tryz.prog 52 #[.pointer (some ⟨Y.yb,0,none⟩)] w (fun e w'=>e= .returned (.int .i64 (Y.n:Int))∧w=w'):=by
 have HN:=MI (iC X Y B K σ y w hy)
 obtain⟨c0,c1,c2⟩:=hy.cells
 clear hy c0 c2
 go_enter Tryz.func52,Tryz.ntmps52
 go_wp2_with (go_at_call 27;refine HN.out.mono ?_;rintro e w' ⟨rfl,rfl⟩)
 go_ret
 exact⟨rfl,rfl⟩
def nJ(Y:Yx)(y:Ye)(id:Int):Int×Int:=
 if id<0∨(Y.n:Int)≤id then(0,15) else
 match y.ps.getD id.toNat none with
 | none=>(0,7)
 | some q=>(q.2.v.at_,0)
def PlcP(r:Int×Int)(w:World)(e:Ending)(w':World):Prop:=e= .returned (.tuple #[.int .i64 r.1,.int .i64 r.2])∧w=w'
theorem place_any(X:Fx)(Y:Yx)(B:Bk)(K:Nat)(σ:Own)(y:Ye)(id:Int)(w:World)(hy:YIs X Y B K σ w y):Calls Tryz.prog 53 #[.pointer (some ⟨Y.yb,0,none⟩),.int .i64 id] w (PlcP (nJ Y y id) w):=by
 by_cases h1:id<0
 ·have HP:=MI (mX X Y B K σ y id h1 w hy)
  have HE:=MI (show nJ Y y id=(0,15) by unfold nJ;rw[if_pos (.inl h1)])
  clear hy h1
  go_enter Tryz.func53,Tryz.ntmps53
  go_wp2_with (go_at_call 84;refine HP.out.mono ?_;rintro e w' ⟨rfl,rfl⟩)
  go_ret2
  exact⟨by rw[HE.out];rfl,rfl⟩
 by_cases h2:(Y.n:Int)≤id
 ·have HP:=MI (mY X Y B K σ y id h2 w hy)
  have HE:=MI (show nJ Y y id=(0,15) by unfold nJ;rw[if_pos (.inr h2)])
  clear hy h1 h2
  go_enter Tryz.func53,Tryz.ntmps53
  go_wp2_with (go_at_call 84;refine HP.out.mono ?_;rintro e w' ⟨rfl,rfl⟩)
  go_ret2
  exact⟨by rw[HE.out];rfl,rfl⟩
 obtain⟨i,rfl⟩: ∃i:Nat,id=(i:Int):=⟨id.toNat,aa⟩
 have hi:i<Y.n:=aa
 have hn:¬((i:Int)<0∨(Y.n:Int)≤i):=aa
 cases hq:y.ps.getD i none with
 | none=>
  have HP:=MI (mW X Y B K σ y i hi hq w hy)
  have HE:=MI (show nJ Y y (i:Int)=(0,7) by unfold nJ;rw[if_neg hn,Int.toNat_natCast,hq])
  clear hy h1 h2 hn hq
  go_enter Tryz.func53,Tryz.ntmps53
  go_wp2_with (go_at_call 84;refine HP.out.mono ?_;rintro e w' ⟨rfl,rfl⟩)
  go_ret2
  exact⟨by rw[HE.out];rfl,rfl⟩
 | some q=>
  obtain⟨P,p⟩:=q
  have HP:=MI (mV X Y B K σ y i hi P p hq w hy)
  have HE:=MI (show nJ Y y (i:Int)=(p.v.at_,0) by unfold nJ;rw[if_neg hn,Int.toNat_natCast,hq])
  obtain⟨hT,hp⟩:=hy.pt i P p hq
  obtain⟨c0,c1,-⟩:=bz hp.row
  obtain⟨pb,cap,I,-⟩:=hp.vo.row
  have HC:=MI (Dw P.V.vb (some ⟨pb,0,none⟩) cap p.v hp.vo.ok w I)
  clear hy h1 h2 hn hq hp I
  go_enter Tryz.func53,Tryz.ntmps53
  go_wp2_with (first | (go_at_call 84;refine HP.out.mono ?_;rintro e w' ⟨rfl,rfl⟩) | (go_at_call 85;refine HC.out.mono ?_;rintro e w' ⟨rfl,rfl⟩))
  go_ret2
  exact⟨by rw[HE.out];rfl,rfl⟩
def lL(l r:Int)(p:Pt):Int×Pt:=if l<0∨r<0∨256<l∨256<r then(5,p) else(0,{p with l:=l,r:=r})
theorem jv.vol{X:Fx}{P:Px}{B:Bk}{K:Nat}{σ:Own}{w:World}{p:Pt}(h:jv X P B K σ w p)(l r:Int):jv X P B K σ ((w.setCell ⟨P.pb,2,none⟩ (.int .i64 l)).setCell ⟨P.pb,3,none⟩ (.int .i64 r)) {p with l:=l,r:=r}:=by
 have hk:=(aA w P.pb 2 (.int .i64 l)).trans (aA (w.setCell ⟨P.pb,2,none⟩ (.int .i64 l)) P.pb 3 (.int .i64 r))
 exact⟨Mc (Mc h.row),h.vo.keep hk (fun k e hl=>by have:=h.o1;rw[e];omega),hk.heap h.ev (fun e=>h.ne e.symm),h.sok,h.st,h.o1,h.o2⟩
theorem Dx(X:Fx)(Y:Yx)(B:Bk)(K:Nat)(σ:Own)(f:Fe)(y:Ye)(id:Int)(l r:Int)(w:World)(h:aN X σ w B K f)(hy:YIs X Y B K σ w y):Calls Tryz.prog 65 #[.pointer (some ⟨Y.yb,0,none⟩),.int .i64 id,.int .i64 l,.int .i64 r] w (qp X Y B K σ f (dn Y y id (lL l r)) w):=by
 by_cases h1:id<0
 ·have HP:=MI (mX X Y B K σ y id h1 w hy)
  have HE:=MI (fun v hv=>fC (r:=dn Y y id (lL l r)) h hy (c:=15) (by unfold dn;rw[if_pos (.inl h1)]) (v:=v) hv)
  clear h hy h1
  go_enter Tryz.func65,Tryz.ntmps65
  go_wp2_with (go_at_call 84;refine HP.out.mono ?_;rintro e w' ⟨rfl,rfl⟩)
  go_ret
  exact HE.out _ rfl
 by_cases h2:(Y.n:Int)≤id
 ·have HP:=MI (mY X Y B K σ y id h2 w hy)
  have HE:=MI (fun v hv=>fC (r:=dn Y y id (lL l r)) h hy (c:=15) (by unfold dn;rw[if_pos (.inr h2)]) (v:=v) hv)
  clear h hy h1 h2
  go_enter Tryz.func65,Tryz.ntmps65
  go_wp2_with (go_at_call 84;refine HP.out.mono ?_;rintro e w' ⟨rfl,rfl⟩)
  go_ret
  exact HE.out _ rfl
 obtain⟨i,rfl⟩: ∃i:Nat,id=(i:Int):=⟨id.toNat,aa⟩
 have hi:i<Y.n:=aa
 have hn:¬((i:Int)<0∨(Y.n:Int)≤i):=aa
 cases hq:y.ps.getD i none with
 | none=>
  have HP:=MI (mW X Y B K σ y i hi hq w hy)
  have HE:=MI (fun v hv=>fC (r:=dn Y y (i:Int) (lL l r)) h hy (c:=7) (by unfold dn;rw[if_neg hn,Int.toNat_natCast,hq]) (v:=v) hv)
  clear h hy h1 h2 hn hq
  go_enter Tryz.func65,Tryz.ntmps65
  go_wp2_with (go_at_call 84;refine HP.out.mono ?_;rintro e w' ⟨rfl,rfl⟩)
  go_ret
  exact HE.out _ rfl
 | some q=>
  obtain⟨P,p⟩:=q
  have HP:=MI (mV X Y B K σ y i hi P p hq w hy)
  obtain⟨hT,hp⟩:=hy.pt i P p hq
  have I:((0:Int)==0)=true:=rfl
  by_cases hb:l<0∨r<0∨256<l∨256<r
  ·have HR:=MI (show dn Y y (i:Int) (lL l r)=(5,y) by
    unfold dn lL
    rw[if_neg hn,Int.toNat_natCast,hq]
    simp only[if_pos hb]
    rw[←hq,set_self])
   have HE:=MI (fun v hv=>fC (r:=dn Y y (i:Int) (lL l r)) h hy (c:=5) HR.out (v:=v) hv)
   clear h hy h1 h2 hn hq hp HR
   by_cases a1:l<0
   ·have a2:l<257:=aa
    clear hb
    by_cases a3:r<0
    ·have a4:r<257:=aa
     go_enter Tryz.func65,Tryz.ntmps65
     go_wp2_with (go_at_call 84;refine HP.out.mono ?_;rintro e w' ⟨rfl,rfl⟩)
     all_goals go_ret
     all_goals exact HE.out _ rfl
    by_cases a4:256<r
    ·have a5:l<r:=aa
     go_enter Tryz.func65,Tryz.ntmps65
     go_wp2_with (go_at_call 84;refine HP.out.mono ?_;rintro e w' ⟨rfl,rfl⟩)
     all_goals go_ret
     all_goals exact HE.out _ rfl
    go_enter Tryz.func65,Tryz.ntmps65
    go_wp2_with (go_at_call 84;refine HP.out.mono ?_;rintro e w' ⟨rfl,rfl⟩)
    all_goals go_ret
    all_goals exact HE.out _ rfl
   by_cases a3:r<0
   ·clear hb
    have a4:r<l:=aa
    go_enter Tryz.func65,Tryz.ntmps65
    go_wp2_with (go_at_call 84;refine HP.out.mono ?_;rintro e w' ⟨rfl,rfl⟩)
    all_goals go_ret
    all_goals exact HE.out _ rfl
   by_cases a4:256<l
   ·clear hb
    go_enter Tryz.func65,Tryz.ntmps65
    go_wp2_with (go_at_call 84;refine HP.out.mono ?_;rintro e w' ⟨rfl,rfl⟩)
    all_goals go_ret
    all_goals exact HE.out _ rfl
   have a5:256<r:=aa
   clear hb
   have a6:l<r:=aa
   go_enter Tryz.func65,Tryz.ntmps65
   go_wp2_with (go_at_call 84;refine HP.out.mono ?_;rintro e w' ⟨rfl,rfl⟩)
   all_goals go_ret
   all_goals exact HE.out _ rfl
  ·have HR:=MI (show dn Y y (i:Int) (lL l r)=(0,{y with ps:=y.ps.set i (some (P,{p with l:=l,r:=r}))}) by
    unfold dn lL
    rw[if_neg hn,Int.toNat_natCast,hq]
    simp only[if_neg hb])
   have g2:=frozen_of_row _ _ 2 _ _ hp.row
   have g3:=frozen_of_row _ _ 3 _ _ hp.row
   obtain⟨c0,c1,c2,c3,-⟩:=bz hp.row
   have ho:=hp.o1
   have ht:=hp.vo.t
   have hk:=(aA w P.pb 2 (.int .i64 l)).trans (aA (w.setCell ⟨P.pb,2,none⟩ (.int .i64 l)) P.pb 3 (.int .i64 r))
   have HE:Hid (∀v,v= .int .i64 0→qp X Y B K σ f (dn Y y (i:Int) (lL l r)) w (.returned v) ((w.setCell ⟨P.pb,2,none⟩ (.int .i64 l)).setCell ⟨P.pb,3,none⟩ (.int .i64 r))):=fun v hv=>by
    rw[HR.out]
    exact⟨by rw[hv],h.kept (hk.mono fun k _ e=>by rw[e,ho];omega),hy.did Me hq (hk.mono fun k _ e=>by unfold FP;rw[e,ho];exact .inr rfl) (Ext.refl _ _) (hp.vol l r),hk.mono fun k _ e=>by unfold FO;rw[e,ho];omega⟩
   clear h hy h1 h2 hn hq hp HR hk
   have b1:0≤l:=aa
   have b2:0≤r:=aa
   have b3:l≤256:=aa
   have b4:r≤256:=aa
   clear hb
   go_enter Tryz.func65,Tryz.ntmps65
   go_wp2_with (go_at_call 84;refine HP.out.mono ?_;rintro e w' ⟨rfl,rfl⟩)
   all_goals go_ret
   all_goals exact HE.out _ rfl
def KW(y:Ye)(b:Nat):Int:=match y.ps.getD b none with
 | none=>0
 | some q=>q.2.since
def oq(y:Ye):Nat→Nat→Nat→Nat
 | 0,_,b=>b
 | k+1,i,b=>match y.ps.getD i none with
  | none=>i
  | some q=>oq y k (i+1) (if q.2.since<KW y b then i else b)
def gy(Y:Yx)(y:Ye):Nat:=oq y Y.n 0 0
theorem uX(y:Ye)(n:Nat): ∀k i b,i+k=n→b<n→oq y k i b<n:=by
 intro k
 induction k with
 | zero=>intro i b _ hb;exact hb
 | succ k ih=>
  intro i b he hb
  unfold oq
  cases y.ps.getD i none with
  | none=>show i<n;omega
  | some q=>
   refine ih _ _ aa ?_
   split<;>omega
theorem Lu(X:Fx)(Y:Yx)(B:Bk)(K:Nat)(σ:Own)(y:Ye)(w:World)(hy:YIs X Y B K σ w y):Calls Tryz.prog 35 #[.pointer (some ⟨Y.yb,0,none⟩)] w (Qt (.int .i64 (gy Y y:Int)) w):=by
 obtain⟨c0,c1,c2⟩:=hy.cells
 have HY:=MI hy
 have A5:=hy.n1
 have A6:=hy.n2
 have A2:=MI (show oq y (Y.n - 0) 0 0=gy Y y from rfl)
 unfold Qt
 generalize gy Y y=R at*
 clear hy c0 c2
 go_enter Tryz.func35,Tryz.ntmps35
 go_wp2_with fail
 go_loopw [3,11] (fun v3 v11 wr=>∃i b m:Nat,i≤Y.n∧b<Y.n∧v3= .int .i64 (b:Int)∧v11= .int .i64 (i:Int)∧b≤i∧Hid (oq y (Y.n - i) i b=R)∧Hid (∀j,j<i→y.ps.getD j none≠none)∧(b=i→i=0)∧wr=w.drewN m) (fun _ v11 _=>Y.n - aC v11)
 case atStart=>exact⟨0,0,0,aa,aa,rfl,rfl,Me,A2,fun j h=>aa,fun _=>rfl,rfl⟩
 case round=>
  obtain⟨i,b,m,hi,hb,rfl,rfl,A7,hR,U,A8,rfl⟩:=hrel
  have d1:(w.drewN m).cell? ⟨Y.yb,1,none⟩=some (.slice (some ⟨Y.sb,0,none⟩) Y.n Y.n):=c1
  by_cases A4:i<Y.n
  ·have J:=HY.out.cell A4
   cases hq:y.ps.getD i none with
   | none=>
    rw[hq] at J
    have di:(w.drewN m).cell? ⟨Y.sb,i,none⟩=some (.pointer none):=J
    have I:=MI (show R=i by
     rw[←hR.out,show Y.n - i=(Y.n - i - 1)+1 by omega]
     unfold oq
     rw[hq])
    have A3:(i:Int)<(Y.n:Int):=aa
    clear hR U hq J
    go_wp2_with fail
    go_ret
    exact⟨by rw[I.out];rfl,_,rfl⟩
   | some q=>
    obtain⟨P,p⟩:=q
    rw[hq] at J
    have di:(w.drewN m).cell? ⟨Y.sb,i,none⟩=some (.pointer (some ⟨P.pb,0,none⟩)):=J
    obtain⟨hT,hp⟩:=HY.out.pt i P p hq
    obtain⟨-,-,-,-,e4⟩:=bz hp.row
    have f4:(w.drewN m).cell? ⟨P.pb,4,none⟩=some (.int .i64 p.since):=e4
    obtain⟨Q,q2,o⟩: ∃Q q2,y.ps.getD b none=some (Q,q2):=by
     cases hc:y.ps.getD b none with
     | some z=>exact⟨z.1,z.2,rfl⟩
     | none=>
      rcases Nat.lt_or_ge b i with h | h
      ·exact absurd hc (U.out b h)
      ·obtain rfl:b=i:=aa
       rw[hc] at hq;cases hq
    have A0:=HY.out.cell hb
    rw[o] at A0
    have db:(w.drewN m).cell? ⟨Y.sb,b,none⟩=some (.pointer (some ⟨Q.pb,0,none⟩)):=A0
    obtain⟨-,-,-,-,e5⟩:=bz (HY.out.pt b Q q2 o).2.row
    have f5:(w.drewN m).cell? ⟨Q.pb,4,none⟩=some (.int .i64 q2.since):=e5
    have I:=MI (show oq y (Y.n - (i+1)) (i+1) (if p.since<q2.since then i else b)=R by
     rw[←hR.out,show Y.n - i=(Y.n - (i+1))+1 by omega]
     conv=>rhs;unfold oq
     rw[hq]
     simp only[KW,o])
    have A1:=MI (show ∀j,j<i+1→y.ps.getD j none≠none from fun j hj=>by
     rcases Nat.lt_or_ge j i with h | h
     ·exact U.out j h
     ·obtain rfl:j=i:=aa
      rw[hq];exact fun h=>by cases h)
    have A3:(i:Int)<(Y.n:Int):=aa
    have A9:(b:Int)<(Y.n:Int):=aa
    have dw:w.cell? ⟨Y.sb,b,none⟩=some (.pointer (some ⟨Q.pb,0,none⟩)):=A0
    have dv:w.cell? ⟨Y.sb,i,none⟩=some (.pointer (some ⟨P.pb,0,none⟩)):=J
    clear hR U J A0 hp hT
    by_cases hs:p.since<q2.since
    ·rw[if_pos hs] at I
     clear hq o
     generalize p.since=s1 at*
     generalize q2.since=s2 at*
     go_upto_region 7 with fail
     go_quiet (fail)
     go_wp2_with fail
     refine⟨⟨i+1,i,_,aa,aa,rfl,aD,aa,I,A1,fun h=>aa,rfl⟩,by simp[aC];omega⟩
    ·rw[if_neg hs] at I
     clear hq o
     generalize p.since=s1 at*
     generalize q2.since=s2 at*
     go_upto_region 7 with fail
     go_quiet (fail)
     go_wp2_with fail
     refine⟨⟨i+1,b,_,aa,aa,rfl,aD,aa,I,A1,fun h=>aa,rfl⟩,by simp[aC];omega⟩
  ·obtain rfl:i=Y.n:=aa
   have I:=MI (show R=b by rw[←hR.out,Nat.sub_self];rfl)
   have B0:¬(Y.n:Int)<Y.n:=aa
   clear hR U
   go_wp2_with fail
   go_ret
   exact⟨by rw[I.out];rfl,_,rfl⟩
end Go.Proofs.YtnicjahcgnhogaaGreatDoor

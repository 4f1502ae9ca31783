/- Part 38 of the walk: contracts of the program's functions, each for every input. No condition. -/
import Derived.Test.YtnicjahcgnhogaaGreatDoorQ32
import Derived.Test.YtnicjahcgnhogaaGreatDoorQ36
import Derived.Test.YtnicjahcgnhogaaGreatDoorTie
import Derived.ProofKit
import Derived.OpenShut
import Derived.LaidMore
import Derived.Lay
import Derived.SevenTiedAt
import Derived.Stop.Joined
import Derived.HandedShaped
import Derived.Shelf.Vars
set_option linter.unusedVariables false
set_option linter.unusedSimpArgs false
set_option maxRecDepth 100000
set_option maxHeartbeats 8000000
namespace Go.Proofs.YtnicjahcgnhogaaGreatDoor
open Go Go.RowKit Go.Calli
attribute [local irreducible] wpStill wpAnyH wpAnyS wpList Code.wp
def xN(X:Fx)(Y:Yx)(B:Bk)(σ:Own)(w w1:World)(rb:Nat)(s:Rs)(a:Ac)(j K:Nat)(e:Ending)(w2:World):Prop:=∃(s':Rs)(O:List (Int×Int))(r:Rp)(e0 n0:Int)(o1:Option Addr)(c1:Nat)(o2:Option Addr)(n2 c2:Nat)(o3:Option Addr)(n3 c3:Nat)(fr rd:Int)(σ2:Own),e= .returned (.agg #[.int .i64 e0,.int .i64 n0,.slice o1 O.length c1,.slice o2 n2 c2,.slice o3 n3 c3,.int .i64 fr,.int .i64 rd])∧dY B Y a s s' ⟨e0,n0,.slice o1 O.length c1,.slice o2 n2 c2,.slice o3 n3 c3,fr,rd⟩ O r∧TL X Y B σ2 w w2 rb s' (j+1) K∧bH stV 2 (0,0) w2 o1 O.length O∧Ext σ σ2 w1.heap.size∧af (FD σ w1 rb) w1 w2
theorem tq{X:Fx}{Y:Yx}{B:Bk}{σ:Own}{w w1:World}{rb:Nat}{s:Rs}{j K:Nat}(h:TL X Y B σ w w1 rb s j K)(hK:K≤400000)(hn16:Y.n≤16)(a:Ac)(ha:a.Wf)(hj:j≤60):Calls Tryz.prog 8 #[.pointer (some ⟨rb,0,none⟩),.agg #[.int .i64 a.k,.int .i64 a.v,.string a.nm,.int .i64 a.n,.int .i64 a.m,.int .i64 a.p,.int .i64 a.x]] w1 (xN X Y B σ w w1 rb s a j (K+1+256*df a)):=by
 have hct:=h.ct
 have h0:=yf X Y B K hK hn16 σ rb s a ha (by omega) j w1.heap.size (by omega) w1 h.fe h.fb h.ys h.rk
 refine Calls.mono (show Calls Tryz.prog 8 #[.pointer (some ⟨rb,0,none⟩),.agg #[.int .i64 a.k,.int .i64 a.v,.string a.nm,.int .i64 a.n,.int .i64 a.m,.int .i64 a.p,.int .i64 a.x]] w1 _ from h0) ?_
 rintro e w2 ⟨s',t,O,r,σ2,rfl,hA,hx,hF,hB2,hY,hR,⟨oo,oc,hov,hO,-⟩,hk⟩
 obtain⟨p1,p2,p3,p4⟩:=rF hA
 obtain⟨e0,n0,o1,n1,c1,o2,n2,c2,o3,n3,c3,fr,rd,rfl⟩:=sO hA
 simp only at hov
 cases hov
 have hle:K+1+16*Y.n*df a≤K+1+256*df a:=by
  have:16*Y.n*df a≤256*df a:=Nat.mul_le_mul_right _ (by omega)
  omega
 have hl:=h.low.size
 have hro:=h.rk.own
 refine⟨s',O,r,e0,n0,oo,oc,o2,n2,c2,o3,n3,c3,fr,rd,σ2,rfl,hA,⟨hF.up hle,hB2.up hle,hY.up hle,hR,by have:=h.ct;omega,fun k hk=>(hx k (by omega)).trans (h.old k hk),?_⟩,hO,hx,hk⟩
 refine((af.au (S:=fun _=>False) h.low Me).andThen hk (fun i hi e=>?_)).bg Me (fun _ _ e=>e)
 have h1:=h.old i hi
 rcases e with e | e | ⟨e,-⟩
 ·unfold FR at e;omega
 ·subst e;omega
 ·omega
theorem AX(w:World)(o:Obj):(w.alloc o).heap.size=w.heap.size+1:=Array.size_push _
theorem Jy:strOfNums [97]=(⟨#[97]⟩:ByteArray):=by kernel_rfl
def MadeA(w:World)(e:Ending)(w':World):Prop:=∃X Y σ rb,e= .returned (.pointer (some ⟨rb,0,none⟩))∧Y.n=1∧TL X Y BA σ w w' rb ⟨⟨cA0,0,0⟩,yl 1,sh0⟩ 0 0
theorem madeW(w:World):Calls Tryz.prog 5 #[.int .i64 55,.slice (some ⟨w.heap.size+1+1,0,none⟩) 1 1,.agg #[.int .i64 1,.int .i64 1,()]] (((w.alloc (.cells #[.int .i64 50,.int .i64 60] 3)).alloc (.cells #[.slice (some ⟨w.heap.size,0,none⟩) 2 2] 33)).alloc (.cells #[.string ⟨#[97]⟩,.int .i64 1,.bool false,(),(),.slice (some ⟨w.heap.size+1,0,none⟩) 1 1] 76)) (MadeA w):=by
 have h1:=L9 w (.cells #[.int .i64 50,.int .i64 60] 3)
 have b1:=ae w (.cells #[.int .i64 50,.int .i64 60] 3)
 have s1:(w.alloc (.cells #[.int .i64 50,.int .i64 60] 3)).heap.size=w.heap.size+1:=AX _ _
 generalize w.alloc (.cells #[.int .i64 50,.int .i64 60] 3)=W1 at*
 have h2:=L9 W1 (.cells #[.slice (some ⟨w.heap.size,0,none⟩) 2 2] 33)
 have b2:=ae W1 (.cells #[.slice (some ⟨w.heap.size,0,none⟩) 2 2] 33)
 have s2:(W1.alloc (.cells #[.slice (some ⟨w.heap.size,0,none⟩) 2 2] 33)).heap.size=w.heap.size+1+1:=by rw[←s1];exact AX _ _
 generalize W1.alloc (.cells #[.slice (some ⟨w.heap.size,0,none⟩) 2 2] 33)=W2 at*
 have h3:=L9 W2 (.cells #[.string ⟨#[97]⟩,.int .i64 1,.bool false,(),(),.slice (some ⟨w.heap.size+1,0,none⟩) 1 1] 76)
 have b3:=ae W2 (.cells #[.string ⟨#[97]⟩,.int .i64 1,.bool false,(),(),.slice (some ⟨w.heap.size+1,0,none⟩) 1 1] 76)
 generalize W2.alloc (.cells #[.string ⟨#[97]⟩,.int .i64 1,.bool false,(),(),.slice (some ⟨w.heap.size+1,0,none⟩) 1 1] 76)=W3 at*
 rw[s1] at h2
 rw[s2] at h3
 have h1':=bT (bT h1 b2 (L8 h1)) b3 (by omega)
 have h2':=bT h2 b3 (by omega)
 have hB:Below w.heap.size w W3:=bW (bW b1 b2) b3
 have hm:=madeA (w.heap.size+1+1) 1 (some ⟨w.heap.size+1,0,none⟩) 1 W3 (srokA h2' h1') (gK [] (srV (sA (some ⟨w.heap.size+1,0,none⟩) 1)) [] (by rw[h3];unfold srV sA;rw[Jy];rfl))
 refine hm.mono ?_
 rintro e w' ⟨hb,hx⟩
 obtain⟨X,Y,σ,rb,rfl,hY,hX,hF,hYs,hRk,hold⟩:=hx errA
 have hY1:Y.n=1:=by omega
 have hX1:X.n=1:=by omega
 have hs:=hB.size
 rw[hX1,bA] at hF
 rw[hY1,bA] at hYs
 exact⟨X,Y,σ,rb,rfl,hY1,hF,⟨Int.le_refl _,Int.le_refl _,Int.le_refl _,Int.le_refl _⟩,hYs,nC hRk,Int.le_refl _,fun k hk=>hold k (by omega),bW hB hb⟩
def LS(σ:Own)(w:World)(g:Nat):Prop:=σ g=3∧∃cs,w.heap[g]? =some (.cells cs 81 (0,0))∧w.cell? ⟨g,0,none⟩=some (.int .i64 50)
theorem LS.lt{σ:Own}{w:World}{g:Nat}(h:LS σ w g):g<w.heap.size:=by
 obtain⟨-,cs,h1,-⟩:=h
 exact L8 h1
theorem LS.ah{σ:Own}{w w':World}{g:Nat}(h:LS σ w g)(hb:Below w.heap.size w w'):LS σ w' g:=by
 have hl:=h.lt
 obtain⟨h1,cs,h2,h3⟩:=h
 exact⟨h1,cs,bT h2 hb hl,(hb.cell (p:=⟨g,0,none⟩) hl).trans h3⟩
theorem LS.step{X:Fx}{Y:Yx}{σ σ':Own}{w w':World}{g rb:Nat}{sh:Envp.Sh}{m:Nat×Nat}(h:LS σ w g)(hk:af (FD σ w rb) w w')(he:Ext σ σ' w.heap.size)(hr:dZ X Y σ w rb sh m):LS σ' w' g:=by
 have hl:=h.lt
 have hn:¬FD σ w rb g:=fun e=>by
  obtain⟨h1,cs,h2,h3⟩:=h
  rcases e with e | e | ⟨-,cs2,e⟩
  ·unfold FR at e;omega
  ·subst e
   obtain⟨tv,xs,hr1,-,-⟩:=hr.row
   rw[h2] at hr1
   simp at hr1
  ·rw[h2] at e
   simp at e
 obtain⟨h1,cs,h2,h3⟩:=h
 exact⟨(he _ hl).trans h1,cs,hk.heap h2 hn,hk.cell h3 hn⟩
theorem ls_of{σ:Own}{w:World}{v:Value}{m:Int}(h:w.ownsRow 0 81 2 v 1 ([(50,m)].flatMap stV))(hb: ∀b,v.ownBlock=some b→σ b=3): ∃g cap,v= .slice (some ⟨g,0,none⟩) 1 cap∧LS σ w g:=by
 rcases h.2 with⟨-,h0⟩ | ⟨g,cap,cur,hv,-,hg,hnc,-,hsz,htk⟩
 ·omega
 ·refine⟨g,cap,hv,hb g (by rw[hv];rfl),cur,hg,?_⟩
  rw[LZ hg]
  have e:cur.toList[0]? =([(50,m)].flatMap stV)[0]? :=by rw[←htk,List.getElem?_take,if_pos (by decide)]
  rw[←Array.getElem?_toList,e]
  rfl
theorem Il{W:World}{g:Nat}{nm:ByteArray}(h:W.heap[g]? =some (.cells #[.int .i64 1,(),.string ⟨#[97]⟩,(),(),(),(),.int .i64 6,(),.string nm,.int .i64 1,(),(),()] 40 (0,0))):bH acV 7 ac0 W (some ⟨g,0,none⟩) 2 [⟨1,0,⟨#[97]⟩,0,0,0,0⟩,⟨6,0,nm,1,0,0,0⟩]:=by
 refine⟨rfl,show 2≤2^63 - 1 by decide,fun i hi=>⟨_,rfl,fun j u hu=>?_⟩⟩
 have h2:i=0∨i=1:=by omega
 have hj:j<7:=by
  rcases h2 with rfl | rfl
  ·exact(List.getElem?_eq_some_iff.1 hu).1
  ·exact(List.getElem?_eq_some_iff.1 hu).1
 have h7:j=0∨j=1∨j=2∨j=3∨j=4∨j=5∨j=6:=by omega
 rcases h2 with rfl | rfl<;>rcases h7 with rfl | rfl | rfl | rfl | rfl | rfl | rfl<;>(rw[←hu];exact LY h rfl)
def Lm(nm:ByteArray):List Ac:=[⟨1,0,⟨#[97]⟩,0,0,0,0⟩,⟨6,0,nm,1,0,0,0⟩]
def RunA(X:Fx)(Y:Yx)(w:World)(rb:Nat)(e:Ending)(w':World):Prop:=∃(s:Rs)(g cap:Nat)(σ:Own),e= .returned (.slice (some ⟨g,0,none⟩) 1 cap)∧TL X Y BA σ w w' rb s 2 258∧s.f.c=cN 0∧s.sh=sh0∧LS σ w' g
theorem runA{X:Fx}{Y:Yx}{σ:Own}{w w2:World}{rb:Nat}(nm:ByteArray)(hY:Y.n=1)(h:TL X Y BA σ w w2 rb ⟨⟨cA0,0,0⟩,yl 1,sh0⟩ 0 0):Calls Tryz.prog 21 #[.pointer (some ⟨rb,0,none⟩),.slice (some ⟨w2.heap.size,0,none⟩) 2 2] (w2.alloc (.cells #[.int .i64 1,(),.string ⟨#[97]⟩,(),(),(),(),.int .i64 6,(),.string nm,.int .i64 1,(),(),()] 40)) (RunA X Y w rb):=by
 have hb:=ae w2 (.cells #[.int .i64 1,(),.string ⟨#[97]⟩,(),(),(),(),.int .i64 6,(),.string nm,.int .i64 1,(),(),()] 40)
 have hn:=L9 w2 (.cells #[.int .i64 1,(),.string ⟨#[97]⟩,(),(),(),(),.int .i64 6,(),.string nm,.int .i64 1,(),(),()] 40)
 generalize w2.alloc (.cells #[.int .i64 1,(),.string ⟨#[97]⟩,(),(),(),(),.int .i64 6,(),.string nm,.int .i64 1,(),(),()] 40)=W at*
 have hs:iQ (Lm nm) 2=1:=rfl
 refine(run_any X Y BA (by omega) (some ⟨w2.heap.size,0,none⟩) 2 2 (Lm nm) w W _ rb _ 0 0 (h.fresh hb) (Il hn) (fun a ha=>?_) (fun a ha=>?_) (by omega) (by omega)).mono ?_
 ·have h2:a=⟨1,0,⟨#[97]⟩,0,0,0,0⟩∨a=⟨6,0,nm,1,0,0,0⟩:=by simpa[Lm] using ha
  rcases h2 with rfl | rfl
  ·exact⟨show(Lit.int .i64 0).wf=true by decide,show(Lit.int .i64 0).wf=true by decide⟩
  ·exact⟨show(Lit.int .i64 1).wf=true by decide,show(Lit.int .i64 0).wf=true by decide⟩
 ·obtain rfl:a=⟨w2.heap.size,0,none⟩:=(Option.some.inj ha).symm
  exact⟨L8 hn,aT σ 3 Me (L8 hn),_,hn⟩
 ·rintro e w3 ⟨s',O,v,σ2,rfl,hRu,hT3,hO3,hob3,hx3⟩
  obtain⟨h1,h2,m,rfl⟩:=first2 hY (nm:=⟨#[97]⟩) (by rw[←Jy];exact nmA1) (by rw[←Jy];exact nmA2) (s:=⟨⟨cA0,0,0⟩,yl 1,sh0⟩) rfl rfl rfl hRu
  obtain⟨g,cap,rfl,hL⟩:=ls_of hO3 (fun b hb=>(hob3 b hb).1)
  rw[hs] at hT3
  exact⟨s',g,cap,σ2,rfl,hT3,h1,h2,hL⟩
theorem Hq(w:World):Calls Tryz.prog 7 #[] w (A7 w):=by
 unfold A7
 have HM:=MI (madeW w)
 unfold MadeA at HM
 have HW:=MI (Below.refl w.heap.size w)
 go_enter Tryz.func7,Tryz.ntmps7
 go_upto_region 1 with fail
 go_upto_region 4 with(go_at_call 5;refine HM.out.mono ?_;rintro e w2 ⟨X,Y,σ,rb,rfl,hY1,hT0⟩)
 have HR:=MI (runA ⟨#[]⟩ hY1 hT0)
 unfold RunA at HR
 clear hT0 HM
 go_upto_region 5 with(go_at_call 21;refine HR.out.mono ?_;rintro e w3 ⟨s3,g,cap,σ3,rfl,hT3,hc3,hs3,hL3⟩)
 have HY:=MI hY1
 have HT3:=MI hT3
 have HC3:=MI hc3
 have HS3:=MI hs3
 have HL3:=MI hL3
 clear HR hT3 hc3 hs3 hL3 hY1
 go_wp2_with fail
 go_loopw [3] (fun v3 wr=>∃(i:Nat)(τ:Own)(s:Rs),i≤3∧v3= .int .i64 (i:Int)∧TL X Y BA τ w wr rb s (2+2*i) (258+2*i)∧Hid (s.f.c=cN i)∧s.sh=sh0∧LS τ wr g) (fun v3 _=>3 - aG v3)
 case atStart=>exact⟨0,σ3,s3,by omega,rfl,HT3.out,HC3,HS3.out,HL3.out⟩
 case round=>
  clear HT3 HC3 HS3 HL3
  obtain⟨i,τ,s,hi,rfl,hT,hc,hs,hL⟩:=hrel
  have HDk:=MI (FW X Y wr rb s.sh hT.rk.cells)
  have HPg:Hid (Calls Tryz.prog 23 #[.pointer (some ⟨X.A.b,0,none⟩)] wr (fun e w'=>e= .returned (.int .i64 3)∧wr=w')):=by
   obtain⟨m,hm,hD⟩:=hT.fe.ca.dsk
   have hp:=Cch.qP X.A.b X.A.mb X.A.ib X.A.kap m s.f.c.d hT.fe.lim.ok wr hD
   have hpg:s.f.c.d.pages=3:=by
    unfold Dskp.Dk.pages
    rw[hT.fe.img]
    show(IMG.length+63)/64=3
    rw[pA6]
   rw[hpg] at hp
   exact hp
  have HT:=MI hT
  have HS:=MI hs
  have HL:=MI hL
  have hY2:=HY.out
  by_cases hlt:i<3
  ·have hlt2:(i:Int)<3:=by omega
   have HD1:=MI (tq hT (by omega) (by omega) ⟨8,0,⟨#[]⟩,i,-1,0,0⟩ ⟨show(Lit.int .i64 (i:Int)).wf=true from WalkArith.wf_i64 (by omega),show(Lit.int .i64 (-1)).wf=true by decide⟩ (by omega))
   unfold xN at HD1
   clear hT hs hL hY2
   go_upto_region 9 with(first
    | (go_at_call 22;refine HDk.out.mono ?_;rintro e w' ⟨rfl,rfl⟩)
    | (go_at_call 23;refine HPg.out.mono ?_;rintro e w' ⟨rfl,rfl⟩)
    | (go_at_call 8;refine HD1.out.mono ?_;rintro e w4 ⟨s4,O4,r4,e4,n4,o41,c41,o42,n42,c42,o43,n43,c43,fr4,rd4,σ4,rfl,hA4,hT4,hO4,hx4,hk4⟩))
   obtain⟨q1,q2,q3⟩:=fail1 hA4
   have hT4':=MI hT4
   have hL4:=MI (HL.out.step hk4 hx4 HT.out.rk)
   have hc4:Hid (s4.f.c={cN i with d:=Dskp.flS (cN i).d i (-1),mx:=(cN i).mx+1}):=by
    rw[hc.out] at q1
    exact q1
   have hs4:Hid (s4.sh=sh0):=q3.trans HS.out
   have hY2:=HY.out
   have HD2:=MI (tq hT4 (by show 258+2*i+1+256*0≤400000;omega) (by omega) ⟨7,0,⟨#[]⟩,i,0,0,0⟩ ⟨show(Lit.int .i64 (i:Int)).wf=true from WalkArith.wf_i64 (by omega),show(Lit.int .i64 0).wf=true by decide⟩ (by omega))
   unfold xN at HD2
   clear hT4 HD1 HDk HPg hA4 hO4 hx4 hk4 q1 q2 q3 hY2
   go_wp2_with (go_at_call 8;refine HD2.out.mono ?_;rintro e w5 ⟨s5,O5,r5,e5,n5,o51,c51,o52,n52,c52,o53,n53,c53,fr5,rd5,σ5,rfl,hA5,hT5,hO5,hx5,hk5⟩)
   obtain⟨q1,q2,q3⟩:=evict1 hA5
   have hL5:=hL4.out.step hk5 hx5 hT4'.out.rk
   have hT5':TL X Y BA σ5 w w5 rb s5 (2+2*(i+1)) (258+2*(i+1)):=hT5
   have hc5:Hid (s5.f.c=cN (i+1)):=by
    rw[hc4.out] at q1
    exact q1
   exact⟨⟨i+1,σ5,s5,by omega,by go_num,hT5',hc5,q3.trans hs4.out,hL5⟩,by simp[aG];omega⟩
  ·obtain rfl:i=3:=by omega
   have hlt2:¬((3:Nat):Int)<3:=by omega
   have HD1:=MI (tq hT (by omega) (by omega) ⟨2,0,⟨#[]⟩,0,0,0,0⟩ ⟨show(Lit.int .i64 0).wf=true by decide,show(Lit.int .i64 0).wf=true by decide⟩ (by omega))
   unfold xN at HD1
   clear hT hs hL hY2
   go_upto_region 11 with(first
    | (go_at_call 22;refine HDk.out.mono ?_;rintro e w' ⟨rfl,rfl⟩)
    | (go_at_call 23;refine HPg.out.mono ?_;rintro e w' ⟨rfl,rfl⟩)
    | (go_at_call 8;refine HD1.out.mono ?_;rintro e w4 ⟨s4,O4,r4,e4,n4,o41,c41,o42,n42,c42,o43,n43,c43,fr4,rd4,σ4,rfl,hA4,hT4,hO4,hx4,hk4⟩))
   obtain⟨q1,q3⟩:=stop1 hA4
   have hL4:=MI (HL.out.step hk4 hx4 HT.out.rk)
   have hc4:Hid (s4.f.c=cN 3):=by
    rw[←hc.out,←q1];rfl
   have hs4:Hid (s4.sh=sh0):=q3.trans HS.out
   have hl4:Hid (s4.y.ps.length=1):=hT4.ys.len.trans HY.out
   have hY2:=HY.out
   have HT4:=MI hT4
   have HD2:=MI (tq hT4 (by show 258+2*3+1+256*0≤400000;omega) (by omega) ⟨1,0,⟨#[97]⟩,0,0,0,0⟩ ⟨show(Lit.int .i64 0).wf=true by decide,show(Lit.int .i64 0).wf=true by decide⟩ (by omega))
   unfold xN at HD2
   clear hT4 HD1 HDk HPg hA4 hO4 hx4 hk4 q1 q3 hY2 HT HL
   go_upto_region 12 with(go_at_call 8;refine HD2.out.mono ?_;rintro e w5 ⟨s5,O5,r5,e5,n5,o51,c51,o52,n52,c52,o53,n53,c53,fr5,rd5,σ5,rfl,hA5,hT5,hO5,hx5,hk5⟩)
   have HA5:=MI hA5
   have hL5:=MI (hL4.out.step hk5 hx5 HT4.out.rk)
   have HT5:=MI hT5
   have hY2:=HY.out
   have HD3:=MI (tq hT5 (by show 258+2*3+1+256*0+1+256*0≤400000;omega) (by omega) ⟨6,0,⟨#[]⟩,1,0,0,0⟩ ⟨show(Lit.int .i64 1).wf=true by decide,show(Lit.int .i64 0).wf=true by decide⟩ (by omega))
   unfold xN at HD3
   clear hT5 HD2 hA5 hO5 hx5 hk5 hY2 HT4 hL4
   go_upto_region 13 with(go_at_call 8;refine HD3.out.mono ?_;rintro e w6 ⟨s6,O6,r6,e6,n6,o61,c61,o62,n62,c62,o63,n63,c63,fr6,rd6,σ6,rfl,hA6,hT6,hO6,hx6,hk6⟩)
   obtain⟨⟨lo,lc,hlv⟩,m,rfl⟩:=second1 HY.out (nm:=⟨#[97]⟩) (by rw[←Jy];exact nmA1) (by rw[←Jy];exact nmA2) hc4.out hl4.out hs4.out HA5.out hA6
   simp only at hlv
   cases hlv
   have hL6:=hL5.out.step hk6 hx6 HT5.out.rk
   obtain⟨a,ha,hcell⟩:=hO6.cell 0 Nat.one_pos
   subst ha
   have hc0:=hcell 0 (.int .i64 0) rfl
   simp only[Nat.zero_mul,oq] at hc0
   have hHT:=MI (bW hT6.low (ae w6 (.cells #[.int .i64 e6,.int .i64 n6,.slice (some a) 1 c61,.slice o62 1 c62,.slice o63 n63 c63,.int .i64 fr6,.int .i64 rd6] 37)))
   have hb6:=ae w6 (.cells #[.int .i64 e6,.int .i64 n6,.slice (some a) 1 c61,.slice o62 1 c62,.slice o63 n63 c63,.int .i64 fr6,.int .i64 rd6] 37)
   obtain⟨t0,t1,t2,t3,t4,t5,t6⟩:=aQ (L9 w6 (.cells #[.int .i64 e6,.int .i64 n6,.slice (some a) 1 c61,.slice o62 1 c62,.slice o63 n63 c63,.int .i64 fr6,.int .i64 rd6] 37))
   have hg:=(hL6.ah hb6).2
   obtain⟨cs,-,hg⟩:=hg
   have ha0:=(hb6.cell (World.block_lt_of_cell? w6 _ hc0)).trans hc0
   clear HD3 HA5 hL5 HT5 hT6 hO6 hx6 hk6 hL6 hb6 hcell hc0 hA6
   generalize w6.alloc (.cells #[.int .i64 e6,.int .i64 n6,.slice (some a) 1 c61,.slice o62 1 c62,.slice o63 n63 c63,.int .i64 fr6,.int .i64 rd6] 37)=W6 at*
   go_wp2_with fail
   go_ret
   exact⟨rfl,hHT.out⟩
end Go.Proofs.YtnicjahcgnhogaaGreatDoor
namespace Go.Proofs.YtnicjahcgnhogaaGreatDoor
open Go Go.ChangeShapes Go.WideShapes Go.ChangeAt Go.RowKit
variable {H:Type} {enc:TypeId×Value→H}
theorem vO{a:Assume}{C:Checked}{os:Os}{f:FuncId}{fn:Func}{s:ChangeSpec}{conds:List PathCond}{apart fresh handsOn again:Bool}{X:World→Array Value→Prop}
  (own:ownKnob C.prog.godebug=none) (started:os.Started) (noInit:C.prog.inits.idxOf? f=none) (hfn:C.prog.funcs[f]? =some fn)
  (witness: ∃(w:World)(tape:Tape)(i:Input),w.os=os∧(w.forCall tape i).Shaped C.prog∧i.vars=[]∧Input.okWide C.prog (w.forCall tape i) .any w.heap.size f i∧
   ((s.pre enc C.prog fn conds apart (w.forCall tape i).memory i.args∧X (w.forCall tape i).memory i.args)∧sizedMet enc C.prog fn (OpenSpec.ofChange s) apart (w.forCall tape i).memory i.args)∧a.holds C.prog (lone (Frame.enter C.prog f i.args .normal) [] (w.forCall tape i)))
  (contract: ∀(W:World)(base:Nat)(args:Array Value)(ds gs:List (DataW H))(before:List MemPlace),
   (∀(j:Nat) t v,fn.params[j]? =some t→args[j]? =some v→Value.okWide C.prog W .any base t v)→
   DataW.Whole enc C.prog fn.params.toList s.vars apart W args.toList ds gs before→
   W.ShapedOpen C.prog→
   Calls C.prog f args W fun e W'=>∃v,e= .returned v∧s.post enc C.prog fn apart fresh handsOn again W args v W'):
  ReturnsInHanded a C os f .any (fun w args=>(s.pre enc C.prog fn conds apart w args∧X w args)∧sizedMet enc C.prog fn (OpenSpec.ofChange s) apart w args) (s.post enc C.prog fn apart fresh handsOn again):=by
 refine returnsInHanded_of_calls own started noInit witness ?_
 intro w tape i _ hsh _ hok hpre hholds
 obtain⟨_,_,_,fn',hfn',_,_,_,_,hval⟩:=hok
 have e:fn'=fn:=Option.some.inj (hfn'.symm.trans hfn)
 subst e
 obtain⟨⟨⟨ds,gs,before,hw,hc⟩,hx⟩,hz⟩:=hpre
 have hw':=DataW.Whole.of_heap (w':=w.forCall tape i) (by rfl) hw
 refine(contract (w.forCall tape i) w.heap.size i.args ds gs before hval hw' hsh).mono fun e W' ⟨v,he,hp⟩=>?_
 subst he
 exact ChangeSpec.post_blind hp
end Go.Proofs.YtnicjahcgnhogaaGreatDoor

/- Part 12 of the walk: contracts of the program's functions, each for every input. No condition. -/
import Derived.Test.YtnicjahcgnhogaaGreatDoorQ10
import Derived.StillTailTactics
set_option linter.unusedVariables false
set_option linter.unusedSimpArgs false
set_option maxRecDepth 100000
set_option maxHeartbeats 8000000
namespace Go.Proofs.YtnicjahcgnhogaaGreatDoor.Cch
open Go Go.RowKit Go.Calli Go.Dskp Go.Maps
theorem IR(vs:List Value): ∀(L:List Value)(o:Nat),(spl L.toArray o vs)=(vs.foldl (fun(q:List Value×Nat) v=>(q.1.set q.2 v,q.2+1)) (L,o)).1.toArray:=by
 induction vs with
 | nil=>intro L o;rfl
 | cons v r ih=>intro L o;rw[spl,List.foldl_cons,show L.toArray.setIfInBounds o v=(L.set o v).toArray by simp,ih]
theorem GL(ss:List Slot): ∀(h:Nat)(t:Slot),h<ss.length→ik (ss.set h t)=((((ik ss).set (h*4) (.int .i64 t.p)).set (h*4+1) (.bool t.u)).set (h*4+2) (.bool t.f)).set (h*4+3) (.slice t.bo t.bn t.bc):=by
 induction ss with
 | nil=>intro h t hh;simp at hh
 | cons m r ih=>
  intro h t hh
  have hl: ∀s,(gG s).length=4:=fun s=>rfl
  cases h with
  | zero=>
   show gG t++ik r=((((gG m++ik r).set _ _).set _ _).set _ _).set _ _
   simp[gG]
  | succ h=>
   show gG m++ik (r.set h t)=((((gG m++ik r).set _ _).set _ _).set _ _).set _ _
   rw[ih h t (by simpa using hh)]
   rw[List.set_append_right _ _ (by rw[hl];omega),List.set_append_right _ _ (by rw[hl];omega),List.set_append_right _ _ (by rw[hl];omega),List.set_append_right _ _ (by rw[hl];omega)]
   rw[hl,show(h+1)*4 - 4=h*4 by omega,show(h+1)*4+1 - 4=h*4+1 by omega,show(h+1)*4+2 - 4=h*4+2 by omega,show(h+1)*4+3 - 4=h*4+3 by omega]
theorem iP.put{w:World}{sb n:Nat}{ss:List Slot}(h:iP w sb n ss)(i:Nat)(hi:i<n)(t:Slot):iP (w.setCells sb (i*4) (gG t)) sb n (ss.set i t):=by
 obtain⟨hl,hh⟩:=h
 refine⟨by rw[List.length_set];exact hl,?_⟩
 rw[iE _ _ _ _ _ _ hh,IR,GL ss i t (by omega)]
 rfl
end Go.Proofs.YtnicjahcgnhogaaGreatDoor.Cch
namespace Go.Proofs.YtnicjahcgnhogaaGreatDoor.Cch
open Go Go.RowKit Go.Calli Go.Dskp Go.Maps
attribute [local irreducible] wpStill wpAnyH wpAnyS wpList Code.wp
def DV(A:Ad)(n:Nat)(R:PR)(w:World)(e:Ending)(w':World):Prop:=∃ro rc,e= .returned (.tuple #[.slice ro R.b.length rc,.int .i64 R.e])∧R.b.length≤rc∧gZ A w' n R.c∧Ints .u8 w' ro R.b.length R.b∧(∀a,ro=some a→¬A.S a.block)∧af A.S w w'
def Hw(w:World)(cb:Nat)(x0 x1 x2 x3 x4 x5 x6 x7:Value):Prop:=w.heap[cb]? =some (.cells #[x0,x1,x2,x3,x4,x5,x6,x7] 156 (0,0))
theorem yw{w:World}{A:Ad}{x0 x1 x2 x3 x4 x5 x6 x7 y0 y1 y2 y3 y4 y5 y6 y7:Value}(hr:Hw w A.cb x0 x1 x2 x3 x4 x5 x6 x7)(o:Nat)(v:Value)(hc:(#[x0,x1,x2,x3,x4,x5,x6,x7]).setIfInBounds o v=#[y0,y1,y2,y3,y4,y5,y6,y7]):
  Hw (w.setCell ⟨A.cb,o,none⟩ v) A.cb y0 y1 y2 y3 y4 y5 y6 y7∧af (fun k=>k=A.cb) w (w.setCell ⟨A.cb,o,none⟩ v):=by
 refine⟨?_,(af.refl (fun k=>k=A.cb) w).setCell (p:=⟨A.cb,o,none⟩) (.inr rfl) _⟩
 unfold Hw
 rw[Mc hr,hc]
theorem Jp(A:Ad)(n:Nat)(hn1:n≤1024)(c:Ca)(k:Nat)(hk:k≤50000000)(hL:kS k c)(p:Int)(i:Nat)(hi:i<n)(hf:(c.ss.getD i q0).f=true)(hfi:iI c.ss p n 0=i)(w:World)(h:gZ A w n c):Calls Tryz.prog 264 #[.pointer (some ⟨A.cb,0,none⟩),.int .i64 p] w (DV A n ⟨0,(c.ss.getD i q0).bs,J3 c i⟩ w):=by
 obtain⟨ms,hS,hM⟩:=h.slots
 have hF:=uT A.cb A.sb n ms p _ _ _ _ _ _ _ hn1 w h.row hS
 unfold qE at hF
 rw[uS hM p n 0 (by rw[h.len];omega),hfi] at hF
 have HH:=MI h
 have hd:=h.rY.1
 have hh0:=hL.h0
 have hh1:=hL.h1
 clear hfi h hS hM hL
 go_enter Tryz.func264,Tryz.ntmps264
 go_upto_region 3 with(go_at_call 134;refine hF.mono ?_;clear hF;rintro e w1 ⟨rfl,hb1⟩)
 have h1:=HH.out.ah hb1
 have hr1:Hw w1 A.cb _ _ _ _ _ _ _ _:=h1.row
 obtain⟨c0,c1,c2,c3,c4,c5,c6,c7⟩:=bK hr1
 have cf:=frozen_of_row _ _ 0 _ _ hr1
 have hw0:IntKind.i64.wrap (c.h+1)=c.h+1:=IntWalk.i64_in _ (by omega)
 obtain⟨hr2,hk2⟩:=yw hr1 0 (.int .i64 (c.h+1)) rfl
 go_upto_region 4 with fail
 obtain⟨ms,hS1,hM1⟩:=h1.slots
 have hS2:=hS1.kept hk2 (fun e=>hd e.symm)
 clear c0 c1 c2 c3 c4 c5 c6 c7 cf
 generalize w1.setCell ⟨A.cb,0,none⟩ (.int .i64 (c.h+1))=W2 at*
 obtain⟨c0,c1,c2,c3,c4,c5,c6,c7⟩:=bK hr2
 obtain⟨s0,s1,s2,s3⟩:=hS2.at_ i hi
 have sf:=frozen_of_row _ _ (i*4+1) _ _ hS2.2
 have hS3:=hS2.setu i hi true
 have hk3:af (fun k=>k=A.sb) W2 (W2.setCell ⟨A.sb,i*4+1,none⟩ (.bool true)):=(af.refl (fun k=>k=A.sb) W2).setCell (p:=⟨A.sb,i*4+1,none⟩) (.inr rfl) _
 go_upto_region 5 with fail
 have hr3:Hw (W2.setCell ⟨A.sb,i*4+1,none⟩ (.bool true)) A.cb _ _ _ _ _ _ _ _:=hk3.heap hr2 (fun e=>hd e)
 clear c0 c1 c2 c3 c4 c5 c6 c7 s0 s1 s2 s3 sf
 generalize W2.setCell ⟨A.sb,i*4+1,none⟩ (.bool true)=W3 at*
 obtain⟨c0,c1,c2,c3,c4,c5,c6,c7⟩:=bK hr3
 obtain⟨s0,s1,s2,s3⟩:=hS3.at_ i hi
 have hml:i<ms.length:=by rw[hS2.1];exact hi
 have e3:(ms.set i {ms.getD i Slot.none with u:=true}).getD i Slot.none={ms.getD i Slot.none with u:=true}:=by simp[List.getD,hml]
 rw[e3] at s0 s1 s2 s3
 have hsi:=hM1.is i (by rw[h1.len];exact hi)
 obtain⟨b1,b2,b4,b55⟩:=hsi.bs hf
 have b5: ∀a,(ms.getD i Slot.none).bo=some a→¬A.S a.block:=fun a ha e=>b55 a ha (.inl e)
 have hkk:af A.S w1 W3:=(hk2.mono fun k _ h=>.inl h).trans (hk3.mono fun k _ h=>.inr (.inl h))
 have HFIN:Hid (gZ A W3 n (J3 c i)):=by
  obtain⟨m,hm1,hm2⟩:=h1.dsk
  obtain⟨d1,d2,d3,d4,d5,d6⟩:=h1.rY
  refine⟨hr3,⟨_,hS3,(hM1.kept hkk).set i ⟨hsi.p,rfl,hsi.f,fun hf=>?_⟩⟩,⟨m,hm1,(hm2.kept hk2 d2 d3 (fun a ha=>(d6 a ha).1)).kept hk3 d4 d5 (fun a ha=>(d6 a ha).2)⟩,by show(c.ss.set i _).length=n;rw[List.length_set];exact h1.len,h1.hand,h1.rY,h1.away.mono hkk.size⟩
  obtain⟨a1,a2,a4,a5⟩:=hsi.bs hf
  exact⟨a1,a2,a4.kept hkk (fun a ha e=>a5 a ha (.inl e)),a5⟩
 have HB4:=MI (b4.kept hkk b5)
 have HKK:=MI ((af.au (S:=A.S) hb1 Me).trans hkk)
 clear hS3 hr3 hS2 hr2 hS1 hr1 h1 hM1 hsi hk2 hk3 hkk hf b4 b55 e3
 generalize (c.ss.getD i q0).bs=BS at*
 generalize (ms.getD i Slot.none).bo=bo at*
 generalize (ms.getD i Slot.none).bn=bn at*
 generalize (ms.getD i Slot.none).bc=bc at*
 subst b1
 go_wp2_with fail
 go_ret2
 exact⟨bo,bc,rfl,b2,HFIN.out,HB4.out,b5,HKK.out⟩
theorem Gl(A:Ad)(n:Nat)(hn1:n≤1024)(c:Ca)(k:Nat)(hk:k≤50000000)(hL:kS k c)(p:Int)(hwp:(Lit.int .i64 p).wf=true)(hfi:iI c.ss p n 0= -1)(R:TR)(hR:fQ p (c.eG.toNat+1) c.d 8=R)(w:World)(h:gZ A w n c):Calls Tryz.prog 264 #[.pointer (some ⟨A.cb,0,none⟩),.int .i64 p] w (DV A n (if R.e=0 then⟨0,R.b,Iz c p R (oz n (DF c.ss) c.ss c.hand)⟩ else⟨R.e,[],JI c R⟩) w):=by
 obtain⟨ms,hS,hM⟩:=h.slots
 have hF:=uT A.cb A.sb n ms p _ _ _ _ _ _ _ hn1 w h.row hS
 unfold qE at hF
 rw[uS hM p n 0 (by rw[h.len];omega),hfi] at hF
 have HH:=MI h
 have HLI:=MI hL
 obtain⟨d1,d2,d3,d4,d5,d6⟩:=h.rY
 have hm0:=hL.m0
 have hm1:=hL.m1
 have hl0:=hL.l0
 have hl1:=hL.l1
 have HRR:=MI hR
 clear hfi h hS hM hL hR
 go_enter Tryz.func264,Tryz.ntmps264
 go_upto_region 6 with(go_at_call 134;refine hF.mono ?_;clear hF;rintro e w1 ⟨rfl,hb1⟩)
 have h1:=HH.out.ah hb1
 have hr1:Hw w1 A.cb _ _ _ _ _ _ _ _:=h1.row
 obtain⟨c0,c1,c2,c3,c4,c5,c6,c7⟩:=bK hr1
 have cf:=frozen_of_row _ _ 1 _ _ hr1
 have hw0:IntKind.i64.wrap (c.m+1)=c.m+1:=IntWalk.i64_in _ (by omega)
 obtain⟨hr2,hk2⟩:=yw hr1 1 (.int .i64 (c.m+1)) rfl
 go_upto_region 7 with fail
 obtain⟨ms,hS1,hM1⟩:=h1.slots
 obtain⟨m,hm,hD1⟩:=h1.dsk
 have hS2:=hS1.kept hk2 (fun e=>d1 e.symm)
 have hD2:=hD1.kept hk2 d2 d3 (fun a ha=>(d6 a ha).1)
 have hM2:=hM1.kept (hk2.mono fun k _ h=>.inl h)
 have hmx:=HLI.out.mx
 have hkw:af A.S w1 (w1.setCell ⟨A.cb,1,none⟩ (.int .i64 (c.m+1))):=hk2.mono fun k _ h=>.inl h
 have hlen:=h1.len
 have hhand:=h1.hand
 clear c0 c1 c2 c3 c4 c5 c6 c7 cf hr1 hS1 hD1 hM1 h1 hk2
 generalize w1.setCell ⟨A.cb,1,none⟩ (.int .i64 (c.m+1))=W2 at*
 have hT:=try_any A.cb _ _ _ _ _ A.b A.mb A.ib A.kap m c.eG c.t c.d p ⟨HLI.out.r0,HLI.out.r1⟩ ⟨HLI.out.t0,by have:=HLI.out.t1;omega⟩ HLI.out.ok (by omega) (by have:=HLI.out.r;omega) hwp ⟨d2,d3,fun a ha=>(d6 a ha).1⟩ W2 hr2 hD2
 rw[HRR.out] at hT
 have hw2:=hkw.size
 have hAin:=HH.out.inW
 have hXin:=HH.out.away
 have hbs:=hb1.size
 go_upto_region 8 with(go_at_call 267;refine hT.mono ?_;clear hT;rintro e w3 ⟨ro,rc,rfl,hrc,hr3,⟨m3,hm3,hD3⟩,hI3,hnew,hk3⟩)
 unfold yO at hr3
 have hS3:=hS2.kept hk3 (fun e=>by rcases e with e | e | e<;>omega)
 have hk3':af A.S W2 w3:=hk3.mono fun k _ h=>by
  rcases h with h | h | h
  ·exact .inl h
  ·exact .inr (.inr (.inl h))
  ·exact .inr (.inr (.inr h))
 have hM3:=hM2.kept hk3'
 have hkw3:af A.S w1 w3:=hkw.trans hk3'
 have hro: ∀a,ro=some a→¬A.S a.block:=fun a ha hS=>by
  have:=hnew a ha
  have:=hAin _ hS
  omega
 have hroT: ∀a,ro=some a→¬A.T a.block:=fun a ha hT=>by
  rcases hT with hS | hx
  ·exact hro a ha hS
  ·have:=hnew a ha
   have:=(hXin.2 _ hx).1
   omega
 clear hr2 hD2 hS2 hM2 hk3 hk3' hkw hnew
 by_cases he:R.e=0
 ·rw[if_pos he]
  have hc2:vU w3 A.cb A.sb n (.int .i64 c.h) (.int .i64 (c.m+1)) (.int .i64 (c.t+R.n)) (.int .i64 c.l) (.pointer (some ⟨A.b,0,none⟩)) (.int .i64 c.eG) c.hand:=hr3
  have hV:=vic_any A.cb A.sb n ms c.hand _ _ _ _ _ _ hn1 hhand d1 w3.drew hc2 hS3
  rw[cnt_rel hM3] at hV
  have hvr:=vic_rel (A:=A) (w:=w3) (by omega) (DF c.ss) hM3 hlen c.hand hhand
  generalize oz n (DF c.ss) c.ss c.hand=V at*
  generalize vic n (DF c.ss) ms c.hand=U at*
  obtain⟨i,us,g⟩:=U
  obtain⟨u1,u2,u3,u4,u5,u6⟩:=hvr
  simp only at u1 u2 u3
  have hi:i<n:=by omega
  have HV:=MI hV
  have HU1:=MI u1
  have HU2:=MI u2
  have hg5:w3.cell? ⟨A.cb,5,none⟩=some (.slice (some ⟨A.sb,0,none⟩) n n):=(bK hr3).2.2.2.2.2.1
  clear hV u1 u2
  go_upto_region 11 with fail
  go_region_with (first | (go_at_call 268;refine HV.out.mono ?_;rintro e w5 ⟨rfl,hc5,hS5,hk5⟩;have g5:w5.cell? ⟨A.cb,5,none⟩=some (.slice (some ⟨A.sb,0,none⟩) n n):=(bK hc5).2.2.2.2.2.1;obtain⟨s0,s1,s2,s3⟩:=hS5.at_ i hi;have f0:=frozen_of_row _ _ (i*4) _ _ hS5.2;have f1:=frozen_of_row _ _ (i*4+1) _ _ hS5.2;have f2:=frozen_of_row _ _ (i*4+2) _ _ hS5.2;have f3:=frozen_of_row _ _ (i*4+3) _ _ hS5.2))
  all_goals
   replace hk5:af (fun k=>k=A.cb∨k=A.sb) w3 w5:=((af.refl _ w3).drew).trans hk5
   have hk35:af A.S w3 w5:=hk5.mono fun k _ h=>by
    rcases h with h | h
    ·exact .inl h
    ·exact .inr (.inl h)
   have hS6:iP ((((w5.setCell ⟨A.sb,i*4,none⟩ (.int .i64 p)).setCell ⟨A.sb,i*4+1,none⟩ (.bool true)).setCell ⟨A.sb,i*4+2,none⟩ (.bool true)).setCell ⟨A.sb,i*4+3,none⟩ (.slice ro R.b.length rc)) A.sb n (us.set i ⟨p,true,true,ro,R.b.length,rc⟩):=hS5.put i hi ⟨p,true,true,ro,R.b.length,rc⟩
   have hk6:af (fun k=>k=A.sb) w5 ((((w5.setCell ⟨A.sb,i*4,none⟩ (.int .i64 p)).setCell ⟨A.sb,i*4+1,none⟩ (.bool true)).setCell ⟨A.sb,i*4+2,none⟩ (.bool true)).setCell ⟨A.sb,i*4+3,none⟩ (.slice ro R.b.length rc)):=((((af.refl (fun k=>k=A.sb) w5).setCell (p:=⟨A.sb,i*4,none⟩) (.inr rfl) _).setCell (p:=⟨A.sb,i*4+1,none⟩) (.inr rfl) _).setCell (p:=⟨A.sb,i*4+2,none⟩) (.inr rfl) _).setCell (p:=⟨A.sb,i*4+3,none⟩) (.inr rfl) _
   have hc6:=hk6.heap hc5 d1
   have hk56:af A.S w5 _:=hk6.mono fun k _ h=>.inr (.inl h)
   have HS6:=MI hS6
   have HC6:=MI hc6
   have HK6:=MI hk6
   have HK56:=MI hk56
   clear hS6 hc6 hk6 hk56 s0 s1 s2 s3 f0 f1 f2 f3
   generalize ((((w5.setCell ⟨A.sb,i*4,none⟩ (.int .i64 p)).setCell ⟨A.sb,i*4+1,none⟩ (.bool true)).setCell ⟨A.sb,i*4+2,none⟩ (.bool true)).setCell ⟨A.sb,i*4+3,none⟩ (.slice ro R.b.length rc))=W6 at*
   go_wp2_with fail
   go_ret2
   have hK36:af A.S w3 W6:=hk35.trans HK56.out
   have hI6:=hI3.kept hK36 hro
   have hD6:Dsk W6 A.b A.mb A.ib A.kap m3 R.d:=(hD3.kept hk5 (fun e=>e.elim d2 d4) (fun e=>e.elim d3 d5) (fun a ha e=>e.elim (d6 a ha).1 (d6 a ha).2)).kept HK6.out d4 d5 (fun a ha=>(d6 a ha).2)
   have hMU:=u3.kept hK36
   refine⟨ro,rc,rfl,hrc,⟨?_,⟨_,HS6.out,?_⟩,⟨m3,by show m3≤c.mx+9;omega,hD6⟩,?_,u5,⟨d1,d2,d3,d4,d5,d6⟩,hXin.mono (by have:=hkw3.size;have:=hK36.size;omega)⟩,hI6,hro,(af.au (S:=A.S) hb1 Me).trans (hkw3.trans hK36)⟩
   ·have:=HC6.out
    unfold vU at this
    rw[HU2.out] at this
    exact this
   ·have hset:=hMU.set i (s:=⟨p,true,true,ro,R.b.length,rc⟩) (q:=⟨p,true,true,R.b⟩) ⟨rfl,rfl,rfl,fun _=>⟨rfl,hrc,hI6,hroT⟩⟩
    show dX A W6 _ (V.2.1.set V.1 _)
    rw[←HU1.out]
    exact hset
   ·show(V.2.1.set V.1 _).length=n
    rw[List.length_set]
    exact u6
 ·rw[if_neg he]
  have heb:(R.e==0)=false:=by simpa using he
  go_upto_region 9 with fail
  obtain⟨c0,c1,c2,c3,c4,c5,c6,c7⟩:=bK hr3
  have cf:=frozen_of_row _ _ 3 _ _ hr3
  have hw3:IntKind.i64.wrap (c.l+1)=c.l+1:=IntWalk.i64_in _ (by omega)
  obtain⟨hr4,hk4⟩:=yw (A:=A) hr3 3 (.int .i64 (c.l+1)) rfl
  have hS4:=hS3.kept hk4 (fun e=>d1 e.symm)
  have hD4:=hD3.kept hk4 d2 d3 (fun a ha=>(d6 a ha).1)
  have hM4:=hM3.kept (hk4.mono fun k _ h=>.inl h)
  have hK4:=(af.au (S:=A.S) hb1 Me).trans (hkw3.trans (hk4.mono fun k _ h=>.inl h))
  clear hS3 hD3 hM3 hkw3 hk4
  go_wp2_with fail
  go_ret2
  exact⟨none,0,rfl,Me,⟨hr4,⟨ms,hS4,hM4⟩,⟨m3,by show m3≤c.mx+9;omega,hD4⟩,hlen,hhand,⟨d1,d2,d3,d4,d5,d6⟩,hXin.mono hK4.size⟩,Ints.nil _ _ _,fun a ha=>(by cases ha),hK4⟩
end Go.Proofs.YtnicjahcgnhogaaGreatDoor.Cch
namespace Go.Proofs.YtnicjahcgnhogaaGreatDoor.Cch
open Go Go.RowKit Go.Calli Go.Dskp Go.Maps
def Bh(P:PS→Prop)(ss:List PS):Prop:=∀i,i<ss.length→P (ss.getD i q0)
theorem Bh.set{P:PS→Prop}{ss:List PS}(h:Bh P ss)(i:Nat){q:PS}(hq:P q):Bh P (ss.set i q):=by
 intro j hj
 rw[List.length_set] at hj
 by_cases e:j=i
 ·subst e
  rw[show(ss.set j q).getD j q0=q by simp[List.getD,hj]]
  exact hq
 ·rw[show(ss.set i q).getD j q0=ss.getD j q0 by simp[List.getD,List.getElem?_set,Ne.symm e]]
  exact h j hj
theorem Bh.vic{P:PS→Prop}(hd: ∀q,P q→P q.drop)(n:Nat): ∀(k:Nat)(ss:List PS)(h:Nat),Bh P ss→Bh P (oz n k ss h).2.1:=by
 intro k
 induction k with
 | zero=>intro ss h hs;exact hs
 | succ k ih=>
  intro ss h hs
  simp only[oz]
  split
  ·rename_i hu
   refine ih _ _ (hs.set h ?_)
   by_cases hl:h<ss.length
   ·exact hd _ (hs h hl)
   ·rw[show ss.getD h q0=q0 by simp[List.getD,Nat.not_lt.1 hl]] at hu
    cases hu
  ·exact hs
theorem Ig(n:Nat): ∀(k:Nat)(ss:List PS)(h:Nat),(oz n k ss h).2.1.length=ss.length:=by
 intro k
 induction k with
 | zero=>intro ss h;rfl
 | succ k ih=>
  intro ss h
  simp only[oz]
  split
  ·rw[ih,List.length_set]
  ·rfl
def SOk(q:PS):Prop:=q.f=true→q.bs.length=64∧0≤q.p∧(Lit.int .i64 q.p).wf=true
def COk(c:Ca):Prop:=Bh SOk c.ss
theorem rdB_len(d:Dk)(p:Int)(h:rdE d p=0):(rdB d p).length=64∧0≤p:=by
 unfold rdE at h
 split at h
 ·cases h
 ·rename_i ho
  split at h
  ·cases h
  ·rename_i hf
   unfold rdB
   rw[if_neg ho,if_neg hf,List.length_set,pK]
   exact⟨rfl,by unfold Dk.out at ho;omega⟩
theorem Iu(p:Int): ∀(k:Nat)(d:Dk)(e:Int),e≠0→(fQ p k d e).e=0→(fQ p k d e).b.length=64∧0≤p:=by
 intro k
 induction k with
 | zero=>intro d e he h;exact absurd h he
 | succ k ih=>
  intro d e he
  simp only[fQ]
  split
  ·rename_i h;intro _;exact rdB_len d p h
  ·rename_i h;intro h2;exact ih _ _ h h2
theorem um{c:Ca}(h:COk c)(p:Int)(hwp:(Lit.int .i64 p).wf=true):COk (fO c p).c∧((fO c p).e=0→(fO c p).b.length=64)∧((fO c p).e≠0→(fO c p).b=[])∧(fO c p).c.ss.length=c.ss.length∧(fO c p).c.d.img=c.d.img∧(fO c p).c.eG=c.eG:=by
 have ht:=Iu p (c.eG.toNat+1) c.d 8 (by decide)
 have hi: ∀(k:Nat)(d:Dk)(e:Int),(fQ p k d e).d.img=d.img:=by
  intro k
  induction k with
  | zero=>intro d e;rfl
  | succ k ih=>
   intro d e
   simp only[fQ]
   split
   ·exact(Ed d p).2
   ·exact(ih _ _).trans (Ed d p).2
 have hi:=hi (c.eG.toNat+1) c.d 8
 unfold fO
 split
 ·rename_i h0
  rcases uU c.ss p c.ss.length 0 with e | ⟨e1,e2,e3,e4⟩
  ·omega
  ·have:=h (iI c.ss p c.ss.length 0).toNat (by omega)
   exact⟨h.set _ this,fun _=>(this e3).1,fun hne=>absurd rfl hne,by simp[J3],rfl,rfl⟩
 ·split
  ·rename_i he
   refine⟨(Bh.vic (fun q hq=>hq) _ _ _ _ h).set _ (fun _=>⟨(ht he).1,(ht he).2,hwp⟩),fun _=>(ht he).1,fun hne=>absurd rfl hne,?_,hi,rfl⟩
   show(((oz _ _ _ _).2.1).set _ _).length=_
   rw[List.length_set,Ig]
  ·exact⟨h,fun he=>absurd he (by assumption),fun _=>rfl,rfl,hi,rfl⟩
def fV:Nat→Ca→Nat→Nat→List Int→PR
 | 0,c,_,_,out=>⟨0,out,c⟩
 | k+1,c,at_,n,out=>if n=0 then⟨0,out,c⟩ else if(fO c ((at_/64:Nat):Int)).e≠0 then⟨(fO c ((at_/64:Nat):Int)).e,[],(fO c ((at_/64:Nat):Int)).c⟩ else fV k (fO c ((at_/64:Nat):Int)).c (at_+min (64 - at_%64) n) (n - min (64 - at_%64) n) (out++(((fO c ((at_/64:Nat):Int)).b.drop (at_%64)).take n))
def evB(c:Ca)(p:Int):Bool:=decide (0≤iI c.ss p c.ss.length 0)
def evC(c:Ca)(p:Int):Ca:=if 0≤iI c.ss p c.ss.length 0 then{c with ss:=c.ss.set (iI c.ss p c.ss.length 0).toNat q0} else c
theorem SOk.q0:SOk q0:=fun h=>by cases h
theorem evC_ok{c:Ca}(h:COk c)(p:Int):COk (evC c p)∧(evC c p).ss.length=c.ss.length:=by
 unfold evC
 split
 ·exact⟨h.set _ SOk.q0,by simp⟩
 ·exact⟨h,rfl⟩
theorem kS.mono{k j:Nat}{c:Ca}(h:kS k c)(hj:k≤j):kS j c:=by
 have h1:=h.h1;have h2:=h.m1;have h3:=h.t1;have h4:=h.l1;have h5:=h.r;have h6:=h.mx
 exact⟨h.h0,by omega,h.m0,by omega,h.t0,by omega,h.l0,by omega,h.ok,by omega,by omega,h.r0,h.r1⟩
theorem kS.ss{k:Nat}{c:Ca}(h:kS k c)(ss:List PS):kS k {c with ss:=ss}:=⟨h.h0,h.h1,h.m0,h.m1,h.t0,h.t1,h.l0,h.l1,h.ok,h.r,h.mx,h.r0,h.r1⟩
theorem kS.ev{k:Nat}{c:Ca}(h:kS k c)(p:Int):kS k (evC c p):=by
 unfold evC
 split
 ·exact h.ss _
 ·exact h
theorem IW: ∀(k:Nat)(c:Ca)(at_ n:Nat)(out:List Int)(K:Nat),(at_+n:Int)≤9223372036854775807→COk c→kS K c→COk (fV k c at_ n out).c∧kS (K+k) (fV k c at_ n out).c∧(fV k c at_ n out).c.ss.length=c.ss.length∧(fV k c at_ n out).c.d.img=c.d.img∧(fV k c at_ n out).c.eG=c.eG:=by
 intro k
 induction k with
 | zero=>intro c at_ n out K hb h hL;exact⟨h,hL,rfl,rfl,rfl⟩
 | succ k ih=>
  intro c at_ n out K hb h hL
  have hp:=um h ((at_/64:Nat):Int) (WalkArith.wf_i64 (by omega))
  have hl:=hL.page ((at_/64:Nat):Int)
  simp only[fV]
  split
  ·exact⟨h,hL.mono (by omega),rfl,rfl,rfl⟩
  ·split
   ·exact⟨hp.1,hl.mono (by omega),hp.2.2.2⟩
   ·have:=ih (fO c ((at_/64:Nat):Int)).c (at_+min (64 - at_%64) n) (n - min (64 - at_%64) n) (out++(((fO c ((at_/64:Nat):Int)).b.drop (at_%64)).take n)) (K+1) (by omega) hp.1 hl
    exact⟨this.1,this.2.1.mono (by omega),this.2.2.1.trans hp.2.2.2.1,this.2.2.2.1.trans hp.2.2.2.2.1,this.2.2.2.2.trans hp.2.2.2.2.2⟩
end Go.Proofs.YtnicjahcgnhogaaGreatDoor.Cch
namespace Go.Proofs.YtnicjahcgnhogaaGreatDoor.Cch
open Go Go.RowKit Go.Calli Go.Dskp Go.Maps
attribute [local irreducible] wpStill wpAnyH wpAnyS wpList Code.wp
theorem Jq(A:Ad)(n:Nat)(hn1:n≤1024)(c:Ca)(k:Nat)(hk:k≤50000000)(hL:kS k c)(p:Int)(hwp:(Lit.int .i64 p).wf=true)(w:World)(h:gZ A w n c):Calls Tryz.prog 264 #[.pointer (some ⟨A.cb,0,none⟩),.int .i64 p] w (DV A n (fO c p) w):=by
 have hl:=h.len
 rcases uU c.ss p c.ss.length 0 with e | ⟨e1,e2,e3,e4⟩
 ·have hm:=Gl A n hn1 c k hk hL p hwp (by rw[←hl];exact e) _ rfl w h
  unfold fO
  rw[if_neg (by omega),hl]
  exact hm
 ·have hm:=Jp A n hn1 c k hk hL p (iI c.ss p c.ss.length 0).toNat (by omega) e3 (by rw[←hl];omega) w h
  unfold fO
  rw[if_pos (by omega)]
  exact hm
theorem oh(A:Ad)(n:Nat)(c:Ca)(w:World)(h:gZ A w n c):Calls Tryz.prog 73 #[.pointer (some ⟨A.cb,0,none⟩)] w (Same (.bool false) w):=by
 obtain⟨c0,c1,c2,c3,c4,c5,c6,c7⟩:=bK h.row
 go_enter Tryz.func73,Tryz.ntmps73
 go_wp2_with fail
 all_goals go_ret
 all_goals exact⟨rfl,rfl⟩
theorem qc{α:Type}(n i:Nat)(x:α):(List.replicate n x).getD i x=x:=by
 rw[List.getD_eq_getElem?_getD,List.getElem?_replicate]
 split<;>rfl
theorem BM(n:Nat):pG n=(ik (List.replicate n Slot.none)).toArray:=by
 apply Array.toList_inj.1
 apply List.ext_getElem?
 intro k
 by_cases hk:k<n*4
 ·have e:=xw (List.replicate n Slot.none) (k/4) (k%4) (by simp;omega) (Nat.mod_lt _ (by decide))
  rw[show k/4*4+k%4=k by omega,qc] at e
  rw[e]
  have h4:k%4<4:=Nat.mod_lt _ (by decide)
  have e2:(pG n).toList[k]? =some ((#[Value.int .i64 0,.bool false,.bool false,.slice none 0 0]:Array Value)[k%4]!):=by
   simp[pG,madeCells,Value.cells,hk]
  rw[e2]
  generalize k%4=j at*
  match j,h4 with
  | 0,_=>rfl
  | 1,_=>rfl
  | 2,_=>rfl
  | 3,_=>rfl
 ·rw[List.getElem?_eq_none (by simp[pG,madeCells];omega),List.getElem?_eq_none (by simp[GM];omega)]
def DW(A:Ad)(n:Nat)(v:Value)(c:Ca)(w:World)(e:Ending)(w':World):Prop:=e= .returned v∧gZ A w' n c∧af A.S w w'
theorem gZ.Fz{A:Ad}{w w':World}{n:Nat}{c:Ca}(h:gZ A w n c){ms:List Slot}{qs:List PS}(hS:iP w' A.sb n ms)(hM:dX A w ms qs)(hk:af (fun k=>k=A.sb) w w'):gZ A w' n {c with ss:=qs}:=by
 obtain⟨m,hm,hD⟩:=h.dsk
 obtain⟨d1,d2,d3,d4,d5,d6⟩:=h.rY
 exact⟨hk.heap h.row d1,⟨ms,hS,hM.kept (hk.mono fun k _ h=>.inr (.inl h))⟩,⟨m,hm,hD.kept hk d4 d5 (fun a ha=>(d6 a ha).2)⟩,by rw[←hS.1,hM.len],h.hand,h.rY,h.away.mono hk.size⟩
theorem GX(A:Ad)(n:Nat)(hn1:n≤1024)(c:Ca)(p:Int)(w:World)(h:gZ A w n c):Calls Tryz.prog 101 #[.pointer (some ⟨A.cb,0,none⟩),.int .i64 p] w (DW A n (.bool (evB c p)) (evC c p) w):=by
 have hN:=oh A n c w h
 obtain⟨ms,hS,hM⟩:=h.slots
 have hF:=uT A.cb A.sb n ms p _ _ _ _ _ _ _ hn1 w h.row hS
 unfold qE at hF
 rw[uS hM p n 0 (by rw[h.len];omega)] at hF
 have HH:=MI h
 have hl:=h.len
 have hb:=uU c.ss p n 0
 have eB:evB c p=decide (0≤iI c.ss p n 0):=by unfold evB;rw[hl]
 have eC:evC c p=if 0≤iI c.ss p n 0 then{c with ss:=c.ss.set (iI c.ss p n 0).toNat q0} else c:=by unfold evC;rw[hl]
 rw[eB,eC]
 clear eB eC h hS hM
 obtain⟨i,hi⟩: ∃i:Int,iI c.ss p n 0=i:=⟨_,rfl⟩
 rw[hi] at hF hb⊢
 clear hi
 by_cases h0:0≤i
 ·rw[if_pos h0,decide_eq_true h0]
  obtain⟨j,rfl⟩: ∃j:Nat,i=j:=⟨i.toNat,by omega⟩
  have hj:j<n:=by omega
  rw[Int.toNat_natCast]
  clear hb h0
  go_enter Tryz.func101,Tryz.ntmps101
  go_upto_region 4 with(first | (go_at_call 73;refine hN.mono ?_;rintro e w' ⟨rfl,rfl⟩) | (go_at_call 134;refine hF.mono ?_;rintro e w1 ⟨rfl,hb1⟩))
  have h1:=HH.out.ah hb1
  obtain⟨ms,hS1,hM1⟩:=h1.slots
  obtain⟨c0,c1,c2,c3,c4,c5,c6,c7⟩:=bK h1.row
  obtain⟨s0,s1,s2,s3⟩:=hS1.at_ j hj
  have f0:=frozen_of_row _ _ (j*4) _ _ hS1.2
  have f1:=frozen_of_row _ _ (j*4+1) _ _ hS1.2
  have f2:=frozen_of_row _ _ (j*4+2) _ _ hS1.2
  have f3:=frozen_of_row _ _ (j*4+3) _ _ hS1.2
  have hS2:iP ((((w1.setCell ⟨A.sb,j*4,none⟩ (.int .i64 0)).setCell ⟨A.sb,j*4+1,none⟩ (.bool false)).setCell ⟨A.sb,j*4+2,none⟩ (.bool false)).setCell ⟨A.sb,j*4+3,none⟩ (.slice none 0 0)) A.sb n (ms.set j Slot.none):=hS1.put j hj Slot.none
  have hk2:af (fun k=>k=A.sb) w1 ((((w1.setCell ⟨A.sb,j*4,none⟩ (.int .i64 0)).setCell ⟨A.sb,j*4+1,none⟩ (.bool false)).setCell ⟨A.sb,j*4+2,none⟩ (.bool false)).setCell ⟨A.sb,j*4+3,none⟩ (.slice none 0 0)):=((((af.refl (fun k=>k=A.sb) w1).setCell (p:=⟨A.sb,j*4,none⟩) (.inr rfl) _).setCell (p:=⟨A.sb,j*4+1,none⟩) (.inr rfl) _).setCell (p:=⟨A.sb,j*4+2,none⟩) (.inr rfl) _).setCell (p:=⟨A.sb,j*4+3,none⟩) (.inr rfl) _
  have HFIN:Hid (gZ A _ n {c with ss:=c.ss.set j q0}):=h1.Fz hS2 (hM1.set j (s:=Slot.none) (q:=q0) ⟨rfl,rfl,rfl,fun hf=>by cases hf⟩) hk2
  have HKK:=MI ((af.au (S:=A.S) hb1 Me).trans (hk2.mono fun k _ h=>.inr (.inl h)))
  clear hS2 hk2 hS1 hM1 h1
  go_wp2_with fail
  go_ret
  exact⟨rfl,HFIN.out,HKK.out⟩
 ·have hi:i= -1:=by omega
  subst hi
  rw[if_neg (by omega),decide_eq_false (by omega)]
  go_enter Tryz.func101,Tryz.ntmps101
  go_wp2_with (first | (go_at_call 73;refine hN.mono ?_;rintro e w' ⟨rfl,rfl⟩) | (go_at_call 134;refine hF.mono ?_;rintro e w1 ⟨rfl,hb1⟩))
  go_ret
  exact⟨rfl,HH.out.ah hb1,af.au hb1 Me⟩
def uy(zs:List Int)(n:Nat)(r:Int):Ca:=⟨0,0,0,0,⟨zs,fun _=>none,0,0⟩,List.replicate n q0,0,r,0⟩
theorem newC_ok(zs:List Int)(n:Nat)(r:Int):COk (uy zs n r):=fun i hi=>by
 show SOk ((List.replicate n q0).getD i q0)
 rw[qc]
 exact SOk.q0
theorem Jz(zs:List Int)(hz:zs.length≤4194304)(n:Nat)(r:Int)(h0:0≤r)(h1:r≤8):kS 0 (uy zs n r):=⟨Int.le_refl _,Int.le_refl _,Int.le_refl _,Int.le_refl _,Int.le_refl _,Int.le_refl _,Int.le_refl _,Int.le_refl _,⟨hz,Int.le_refl _,Int.le_refl _,Int.le_refl _,by rintro k t ⟨⟩⟩,Int.le_refl _,Me,h0,h1⟩
theorem jK{P:Program}{w:World}{ops:Array Oper}{rest:List Oper}{o:Oper}{a:Act}{Q:Exit→Act→World→Prop}(hgd:o.guard=none)(s x:Operand)(t e:TypeId)
  (ho:o.op= .call {callee:=.builtin .append,args:=#[s,x],argTypes:=#[t,t]}) (hu:P.underlying t=some (.slice e))
  {z:Value} {bytes:Nat} (hinfo:(P.info? e).map (fun i=>(i.zero,i.size,i.bytes))=some (some z,1,bytes)) (hz1:z.cells.size=1)
  (B:Nat) (v:Value) (n:Nat) (xs:List Value) (hs:a.eval s=v) (hown:w.ownsRow B e 1 v n xs)
  (ad:Addr) (m c:Nat) (news:List Value) (hx:a.eval x= .slice (some ad) m c) (hrow:Row w (some ad) m news) (h1: ∀u ∈ news,u.oneCell'=true)
  (hbd:(n+m)*bytes≤140737488355328) (hn:n+m≤maxLen) (hB:B≤w.heap.size)
  (h: ∀v' w',w'.ownsRow B e 1 v' (n+m) (xs++news)→af (fun k=>v.ownBlock=some k) w w'→(v'.ownBlock=v.ownBlock∨v'.ownBlock=some w.heap.size)→wpList P ops Q rest (a.put o.dst v') w'):wpList P ops Q (o::rest) a w:=by
 obtain⟨i,hi,hz,hsz,hby⟩:=info_parts hinfo
 have hcell: ∀j u,news[j]? =some u→w.cell? (ad.add j)=some u:=fun j u hj=>by
  obtain⟨a',ha',hc⟩:=hrow.cell j u hj
  cases ha'
  exact hc
 obtain⟨v',w',hr,h2,h3,_⟩:=run_append_own (P:=P) w B t o.type e i z 1 bytes hu hi hz hsz hby hz1 (by decide) v n xs hown ad m c news (by rw[hrow.hlen];omega) hcell h1 hn hbd hB
 have hblk:=qw (P:=P) t o.type e hu hi hz hsz B v v' n xs hown ad m c news hrow.hlen hcell h1 (by rw[hby];exact hbd) hn hr
 refine wpList_plain hgd fun K hK=>?_
 unfold Oper.wp execOp
 simp only[ho,resolve,invoke,builtin,Sem.run_bind,Sem.run_pure,Result.andThen_ok,List.map_toArray,List.map_cons,List.map_nil,hs,hx,hr]
 exact hK _ _ (h v' w' h2 ((af.refl _ w).grown h3 fun k hk=>.inr hk) hblk)
theorem gZ.En{A:Ad}{w w':World}{n:Nat}{c:Ca}(h:gZ A w n c)(hk:af A.x w w'):gZ A w' n c:=by
 obtain⟨ms,hS,hM⟩:=h.slots
 obtain⟨m,hm,hD⟩:=h.dsk
 have hx:=h.away.2
 exact⟨hk.heap h.row (fun e=>(hx _ e).2.1 (.inl rfl)),⟨ms,hS.kept hk (fun e=>(hx _ e).2.1 (.inr (.inl rfl))),hM.zX (hk.mono fun k _ e=>.inr e)⟩,⟨m,hm,hD.kept hk (fun e=>(hx _ e).2.1 (.inr (.inr (.inl rfl)))) (fun e=>(hx _ e).2.1 (.inr (.inr (.inr rfl)))) (fun a ha e=>(hx _ e).2.2 a ha rfl)⟩,h.len,h.hand,h.rY,h.away.mono hk.size⟩
theorem gZ.setX{A:Ad}{w w':World}{n:Nat}{c:Ca}(h:gZ A w n c)(hC:COk c)(hk:af A.x w w'){x:Nat→Prop}(hx: ∀k,x k→k<w'.heap.size∧(A.x k∨w.heap.size≤k)):gZ {A with x:=x} w' n c:=by
 have h':=h.En hk
 obtain⟨ms,hS,hM⟩:=h.slots
 obtain⟨m,hm,hD⟩:=h'.dsk
 have hms:=hM.zX (hk.mono fun k _ e=>.inr e)
 refine⟨h'.row,⟨ms,hS.kept hk (fun e=>(h.away.2 _ e).2.1 (.inr (.inl rfl))),⟨hM.len,fun i hi=>?_⟩⟩,⟨m,hm,hD⟩,h.len,h.hand,h.rY,⟨fun a ha=>h'.away.1 a ha,fun k hxk=>⟨(hx k hxk).1,?_,?_⟩⟩⟩
 ·have h1:=hM.is i hi
  have h2:=hms.is i hi
  refine⟨h1.p,h1.u,h1.f,fun hf=>?_⟩
  obtain⟨a1,a2,a4,a5⟩:=h2.bs hf
  refine⟨a1,a2,a4,fun a ha hT=>?_⟩
  rcases hT with hT | hT
  ·exact a5 a ha (.inl hT)
  ·rcases(hx _ hT).2 with e | e
   ·exact a5 a ha (.inr e)
   ·have hun:=((h1.bs hf).2.2.1).under (by rw[(h1.bs hf).1,((hC i hi) hf).1];decide) a ha
    omega
 ·rcases(hx k hxk).2 with e | e
  ·exact(h.away.2 k e).2.1
  ·intro hS'
   have:=h.inW k hS'
   omega
 ·intro a ha
  rcases(hx k hxk).2 with e | e
  ·exact(h.away.2 k e).2.2 a ha
  ·have:=h.away.1 a ha
   omega
def LM(A:Ad)(n:Nat)(R:PR)(w:World)(e:Ending)(w':World):Prop:=∃ro rc,e= .returned (.tuple #[.slice ro R.b.length rc,.int .i64 R.e])∧R.b.length≤rc∧gZ A w' n R.c∧Ints .u8 w' ro R.b.length R.b∧(∀a,ro=some a→w.heap.size≤a.block)∧af A.S w w'
def Ad.own(A:Ad)(v:Value):Ad:={A with x:=fun k=>A.x k∨v.ownBlock=some k}
theorem gZ.noOwn{A:Ad}{v:Value}{w:World}{n:Nat}{c:Ca}(h:gZ (A.own v) w n c):gZ A w n c:=by
 obtain⟨ms,hS,hM⟩:=h.slots
 exact⟨h.row,⟨ms,hS,⟨hM.len,fun i hi=>⟨(hM.is i hi).p,(hM.is i hi).u,(hM.is i hi).f,fun hf=>by
  obtain⟨a1,a2,a4,a5⟩:=(hM.is i hi).bs hf
  exact⟨a1,a2,a4,fun a ha hT=>a5 a ha (hT.elim .inl (fun e=>.inr (.inl e)))⟩⟩⟩⟩,h.dsk,h.len,h.hand,h.rY,⟨h.away.1,fun k e=>h.away.2 k (.inl e)⟩⟩
theorem Fp(A:Ad)(n:Nat)(hn1:n≤1024)(c:Ca)(K:Nat)(hK:K+70000≤50000000)(hC:COk c)(hL:kS K c)(hi:c.d.img.length≤60000)(a0 m0:Nat)(h1:(a0:Int)≤(c.d.pages:Int)*64)(h2:(m0:Int)≤(c.d.pages:Int)*64 - a0)(w:World)(h:gZ A w n c):Calls Tryz.prog 259 #[.pointer (some ⟨A.cb,0,none⟩),.int .i64 a0,.int .i64 m0] w (LM A n (fV m0 c a0 m0 []) w):=by
 have hN:=oh A n c w h
 obtain⟨mm,-,hD⟩:=h.dsk
 have hP:=qP A.b A.mb A.ib A.kap mm c.d hL.ok w hD
 obtain⟨c0,c1,c2,c3,c4,c5,c6,c7⟩:=bK h.row
 have hpb:(c.d.pages:Int)≤938:=by unfold Dk.pages;omega
 have hAin:=h.inW
 have HH:=MI h
 clear h hD
 generalize c.d.pages=N at*
 have hw1:IntKind.i64.wrap ((N:Int)*64)=(N:Int)*64:=IntWalk.i64_in _ (by omega)
 have hw2:IntKind.i64.wrap ((N:Int)*64 - a0)=(N:Int)*64 - a0:=IntWalk.i64_in _ (by omega)
 have ham:a0+m0≤60100:=by omega
 go_enter Tryz.func259,Tryz.ntmps259
 go_wp2_with (first | (go_at_call 73;refine hN.mono ?_;rintro e w' ⟨rfl,rfl⟩) | (go_at_call 23;refine hP.mono ?_;rintro e w' ⟨rfl,rfl⟩))
 clear c0 c1 c2 c3 c4 c5 c6 c7 hN hP hw1 hw2 h1 h2
 have HC:=MI hC
 have HL:=MI hL
 have HOW:Hid (gZ (A.own (.slice none 0 0)) w n c):=HH.out.setX hC (af.refl _ _) (fun k hx=>hx.elim (fun e=>⟨(HH.out.away.2 k e).1,.inl e⟩) (fun e=>by cases e))
 go_loopw [1,2,8] (fun v1 v2 v8 wr=>∃(k:Nat)(c':Ca)(a m:Nat)(out:List Int),m≤k∧k≤m0∧a+m≤60100∧v1= .int .i64 a∧v2= .int .i64 m∧wr.ownsRow w.heap.size 5 1 v8 out.length (out.map (Value.int .u8))∧out.length+m≤60100∧Hid (fV m0 c a0 m0 []=fV k c' a m out)∧gZ (A.own v8) wr n c'∧COk c'∧kS (K+(m0 - k)) c'∧(∀z ∈ out,(Lit.int .u8 z).wf=true)∧af A.S w wr) (fun _ v2 _ _=>(intOf v2).toNat)
 case atStart=>exact⟨m0,c,a0,m0,[],Me,Me,ham,rfl,rfl,World.ownsRow_nil _ _ _ _,by simp;omega,rfl,HOW.out,HC.out,by rw[Nat.sub_self];exact HL.out,by simp,af.refl _ _⟩
 case round=>
  obtain⟨k,c',a,m,out,hmk,hk0,ham2,rfl,rfl,hown,holm,hE,hC',hok,hlim,hwf,hK'⟩:=hrel
  by_cases hm0:m=0
  ·subst hm0
   have hfin:fV k c' a 0 out=⟨0,out,c'⟩:=by cases k<;>rfl
   rw[hfin] at hE
   have HE:=MI hE.out
   obtain⟨ro,rc,rfl,hic,hrow2,hlim2,hund,hblk⟩:=lM hown
   have hI:=hrow2.ints hlim2 hwf
   clear hE hfin hown hrow2
   go_wp2_with fail
   go_ret2
   rw[HE.out]
   exact⟨ro,rc,rfl,hic,hC'.noOwn,hI,fun x hx=>(hblk x hx).1,hK'⟩
  ·obtain⟨j,rfl⟩: ∃j,k=j+1:=⟨k - 1,by omega⟩
   have hP:=Jq (A.own u8) n hn1 c' (K+(m0 - (j+1))) (by omega) hlim ((a/64:Nat):Int) (WalkArith.wf_i64 (by omega)) wr hC'
   have hp:=um hok ((a/64:Nat):Int) (WalkArith.wf_i64 (by omega))
   have hl:=hlim.page ((a/64:Nat):Int)
   have hst:fV (j+1) c' a m out=if m=0 then⟨0,out,c'⟩ else if(fO c' ((a/64:Nat):Int)).e≠0 then⟨(fO c' ((a/64:Nat):Int)).e,[],(fO c' ((a/64:Nat):Int)).c⟩ else fV j (fO c' ((a/64:Nat):Int)).c (a+min (64 - a%64) m) (m - min (64 - a%64) m) (out++(((fO c' ((a/64:Nat):Int)).b.drop (a%64)).take m)):=rfl
   rw[if_neg hm0] at hst
   generalize fO c' ((a/64:Nat):Int)=R at*
   have hq:((a:Int))/64=((a/64:Nat):Int):=by omega
   rw[←hq] at hP
   have HST:=MI hst
   have HPP:=MI hp
   clear hst hp hq
   go_upto_region 8 with(go_at_call 264;refine hP.mono ?_;clear hP;rintro e w1 ⟨bo,bc,rfl,hbc,hC1,hI1,hno,hk1⟩)
   by_cases he:R.e=0
   ·have hst:=HST.out
    have hp:=HPP.out
    rw[if_neg (by rw[he];exact fun h=>h rfl)] at hst
    have hlen:=hp.2.1 he
    rw[he]
    rw[hlen] at hbc hI1⊢
    obtain⟨xa,rfl,hx⟩:=hI1.some (by decide)
    rw[hst] at hE
    have HE:=MI hE.out
    have HX:=MI hx
    clear hE hst hp HST hx
    go_upto_region 11 with fail
    go_upto_region 12 with fail
    obtain⟨q,hq⟩: ∃q,q=min (64 - a%64) m:=⟨_,rfl⟩
    have e1:(if m<64 - a%64 then(m:Int) else((64 - a%64:Nat):Int))=(q:Int):=by split<;>omega
    have hq1:q≤64 - a%64:=by omega
    have hq2:1≤q:=by omega
    have hq3:q≤m:=by omega
    have hpt:=(hI1.drop (j:=a%64) (by omega)).take hq1
    have epart:(R.b.drop (a%64)).take m=(R.b.drop (a%64)).take q:=by
     have hdl:(R.b.drop (a%64)).length=64 - a%64:=by rw[List.length_drop,hlen]
     by_cases hmm:m≤64 - a%64
     ·rw[show q=m by omega]
     ·rw[List.take_of_length_le (by omega),List.take_of_length_le (by omega)]
    rw[←hq,epart] at HE
    rw[e1,Int.toNat_natCast]
    have hdiv:a%64<64:=by omega
    clear e1 hq epart hI1 hlen
    generalize (R.b.drop (a%64)).take q=part at*
    generalize a%64=d at*
    have hown1:=ay hown hk1 (fun k hk hS=>by have:=(hown.lt k hk).1;have:=hAin k hS;omega)
    have hrow:=hpt.row
    have hnil:=hpt.pO
    have hpl:=hpt.hlen
    have hpw:=hpt.wf
    have hK1:=hK'.trans hk1
    have hw1:IntKind.i64.wrap ((a:Int)+q)=(a:Int)+q:=IntWalk.i64_in _ (by omega)
    have hw2:IntKind.i64.wrap ((m:Int) - q)=(m:Int) - q:=IntWalk.i64_in _ (by omega)
    have HPL:=MI hpl
    clear hown hpt hpl
    go_wp2_with (at_builtin;refine jK rfl _ _ 63 5 rfl Tryz.underlying63 infoByte rfl w.heap.size _ _ _ rfl hown1 (xa.add d) q (bc - d) (part.map (Value.int .u8)) rfl hrow (kL _ _) ?_ ?_ ?_ ?_)
    ·omega
    ·unfold maxLen;omega
    ·exact hK1.size
    ·intro v' w2 hown2 hkp hblk
     have hk12:af A.S w w2:=hK1.andThen hkp (fun i hi e=>by have:=(hown1.lt i e).1;omega)
     have HC2:Hid (gZ (A.own v') w2 n R.c):=by
      refine hC1.setX HPP.out.1 (hkp.mono fun k _ e=>.inr e) (fun k hx=>?_)
      rcases hx with e | e
      ·exact⟨Nat.lt_of_lt_of_le (hC1.away.2 k (.inl e)).1 hkp.size,.inl (.inl e)⟩
      ·refine⟨(hown2.lt k e).2,?_⟩
       rcases hblk with e2 | e2
       ·exact .inl (.inr (by rw[←e2];exact e))
       ·rw[e2] at e;cases e;exact .inr Me
     have HW2:Hid (∀z ∈ out++part,(Lit.int .u8 z).wf=true):=fun z hz=>by
      rcases List.mem_append.1 hz with e | e
      ·exact hwf z e
      ·exact hpw z e
     have HO2:Hid (w2.ownsRow w.heap.size 5 1 v' (out++part).length ((out++part).map (Value.int .u8))):=by
      rw[List.length_append,HPL.out,List.map_append]
      exact hown2
     have HLL:Hid ((out++part).length+(m - q)≤60100):=by
      show _≤60100
      rw[List.length_append,HPL.out];omega
     clear hown1 hown2 hkp hblk hrow hnil hC1 hC'
     go_wp2_with fail
     go_roundw
     case rel=>exact⟨j,R.c,a+q,m - q,out++part,by omega,by omega,by omega,by go_num,by go_num,HO2.out,HLL.out,HE.out,HC2.out,HPP.out.1,hl.mono (by omega),HW2.out,hk12⟩
     case measure=>simp[intOf];omega
   ·have hst:=HST.out
    rw[if_pos he] at hst
    have heb:(R.e==0)=false:=by simpa using he
    rw[hst] at hE
    have HE:=MI hE.out
    clear hE hst
    go_wp2_with fail
    go_ret2
    rw[HE.out]
    exact⟨none,0,rfl,Me,hC1.noOwn,Ints.nil _ _ _,fun x hx=>(by cases hx),hK'.trans hk1⟩
end Go.Proofs.YtnicjahcgnhogaaGreatDoor.Cch

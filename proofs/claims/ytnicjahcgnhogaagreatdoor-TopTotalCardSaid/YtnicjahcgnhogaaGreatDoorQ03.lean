/- Part 4 of the walk: contracts of the program's functions, each for every input. No condition. -/
import Derived.Test.YtnicjahcgnhogaaGreatDoorQ00
import Derived.Test.YtnicjahcgnhogaaGreatDoorQ02
set_option linter.unusedVariables false
set_option linter.unusedSimpArgs false
set_option maxRecDepth 100000
set_option maxHeartbeats 8000000
namespace Go.Calli
open Go.RowKit
end Go.Calli
namespace Go.Proofs.YtnicjahcgnhogaaGreatDoor
open Go Go.RowKit Go.Calli
attribute [local irreducible] wpStill wpAnyH wpAnyS wpList Code.wp
def gn(z:List Int):List Int:=[z.getD 0 0,z.getD 1 0,z.getD 2 0,z.getD 3 0]
def sc(z:List Int):List Int:=[z.getD 4 0,z.getD 5 0,z.getD 6 0,z.getD 7 0]
def jV(z:List Int)(k:Nat):Bool:=decide (0≤z.getD (8+k) 0)&&decide (z.getD (8+k) 0≤24)&&(List.range 4).all (fun m=>dQ (z.getD (12+4*k+m) 0) (z.getD (8+k) 0).toNat)
def fC(z:List Int)(ts:List (Int×Int)):Bool:=inB 3 (gn z)&&rtB ts&&inB 23 (sc z)&&(List.range 4).all (jV z)
structure fA(w:World)(b:Nat)(z:List Int)(tv:Value):Prop where
 row:w.heap[b]? =some (.cells (frC z tv) 196 (0,0))
 len:z.length=28
theorem fA.lo{w:World}{b:Nat}{z:List Int}{tv:Value}(h:fA w b z tv){k:Nat}(hk:k<4):w.cell? ⟨b,k,none⟩=some (.int .i64 (z.getD k 0)):=by
 rw[LZ h.row];exact frC_lo z tv h.len k hk
theorem fA.mid{w:World}{b:Nat}{z:List Int}{tv:Value}(h:fA w b z tv):w.cell? ⟨b,4,none⟩=some tv:=by
 rw[LZ h.row];exact frC_mid z tv h.len
theorem fA.hi{w:World}{b:Nat}{z:List Int}{tv:Value}(h:fA w b z tv){k:Nat}(hk:k<24):w.cell? ⟨b,5+k,none⟩=some (.int .i64 (z.getD (4+k) 0)):=by
 rw[LZ h.row];exact frC_hi z tv h.len k hk
theorem fA.ah{w w':World}{b:Nat}{z:List Int}{tv:Value}(h:fA w b z tv)(hb:Below w.heap.size w w'):fA w' b z tv:=⟨(hb.block _ (L8 h.row)).trans h.row,h.len⟩
theorem fA.gains{w:World}{b:Nat}{z:List Int}{tv:Value}(h:fA w b z tv):w.cell? ⟨b,0,none⟩=some (.int .i64 (z.getD 0 0))∧w.cell? ⟨b,1,none⟩=some (.int .i64 (z.getD 1 0))∧w.cell? ⟨b,2,none⟩=some (.int .i64 (z.getD 2 0))∧w.cell? ⟨b,3,none⟩=some (.int .i64 (z.getD 3 0)):=⟨h.lo (by decide),h.lo (by decide),h.lo (by decide),h.lo (by decide)⟩
theorem fA.scales{w:World}{b:Nat}{z:List Int}{tv:Value}(h:fA w b z tv):w.cell? ⟨b,5,none⟩=some (.int .i64 (z.getD 4 0))∧w.cell? ⟨b,6,none⟩=some (.int .i64 (z.getD 5 0))∧w.cell? ⟨b,7,none⟩=some (.int .i64 (z.getD 6 0))∧w.cell? ⟨b,8,none⟩=some (.int .i64 (z.getD 7 0)):=⟨h.hi (k:=0) (by decide),h.hi (k:=1) (by decide),h.hi (k:=2) (by decide),h.hi (k:=3) (by decide)⟩
theorem fA.widths{w:World}{b:Nat}{z:List Int}{tv:Value}(h:fA w b z tv):w.cell? ⟨b,9,none⟩=some (.int .i64 (z.getD 8 0))∧w.cell? ⟨b,10,none⟩=some (.int .i64 (z.getD 9 0))∧w.cell? ⟨b,11,none⟩=some (.int .i64 (z.getD 10 0))∧w.cell? ⟨b,12,none⟩=some (.int .i64 (z.getD 11 0)):=⟨h.hi (k:=4) (by decide),h.hi (k:=5) (by decide),h.hi (k:=6) (by decide),h.hi (k:=7) (by decide)⟩
theorem gs_any(z:List Int):(∀w,Calls Tryz.prog 204 #[.agg #[.int .i64 (z.getD 0 0),.int .i64 (z.getD 1 0),.int .i64 (z.getD 2 0),.int .i64 (z.getD 3 0)]] w (fun e w'=>e= .returned (.bool (inB 3 (gn z)))∧Below w.heap.size w w'))∧(∀w,Calls Tryz.prog 206 #[.agg #[.int .i64 (z.getD 4 0),.int .i64 (z.getD 5 0),.int .i64 (z.getD 6 0),.int .i64 (z.getD 7 0)]] w (fun e w'=>e= .returned (.bool (inB 23 (sc z)))∧Below w.heap.size w w')):=
 ⟨fun w=>uN (gn z) rfl w,fun w=>oV (sc z) rfl w⟩
theorem fA.q{w:World}{b:Nat}{z:List Int}{tv:Value}(h:fA w b z tv){k:Nat}(hk:k<16):w.cell? ⟨b,13+k,none⟩=some (.int .i64 (z.getD (12+k) 0)):=by
 have:=h.hi (k:=8+k) (by omega)
 rwa [show 5+(8+k)=13+k by omega,show 4+(8+k)=12+k by omega] at this
theorem qx(f:Nat→Bool)(k:Nat)(hk:k<4)(h:f k=false):(List.range 4).all f=false:=List.all_eq_false.2 ⟨k,List.mem_range.2 hk,by simp[h]⟩
theorem nO(f:Nat→Bool)(h: ∀k,k<4→f k=true):(List.range 4).all f=true:=List.all_eq_true.2 (fun k hk=>h k (List.mem_range.1 hk))
theorem uQ(z:List Int)(hz:z.length=28)(ao:Option Addr)(n cap:Nat)(ts:List (Int×Int))(w:World)(h:bH ed 2 (0,0) w ao n ts):Calls Tryz.prog 170 #[.agg (frC z (.slice ao n cap))] w (fun e w'=>e= .returned (.bool (fC z ts))∧Below w.heap.size w w'):=by
 have hba:=ae w (.cells (frC z (.slice ao n cap)) 196)
 have hz0:fA (w.alloc (.cells (frC z (.slice ao n cap)) 196)) w.heap.size z (.slice ao n cap):=⟨L9 w _,hz⟩
 have hT:=h.ah hba
 obtain⟨hG,hS⟩:=gs_any z
 have HG:=MI hG
 have HS:=MI hS
 clear hG hS h
 have HF:Hid (fC z ts=(inB 3 (gn z)&&rtB ts&&inB 23 (sc z)&&(List.range 4).all (jV z))):=rfl
 have HBO:Hid (∀k,jV z k=(decide (0≤z.getD (8+k) 0)&&decide (z.getD (8+k) 0≤24)&&(List.range 4).all (fun m=>dQ (z.getD (12+4*k+m) 0) (z.getD (8+k) 0).toNat))):=fun _=>rfl
 generalize inB 3 (gn z)=Bg at*
 generalize inB 23 (sc z)=Bs at*
 generalize hBt:rtB ts=Bt at*
 generalize hBb:(List.range 4).all (jV z)=Bb at*
 have HBB:=MI hBb
 have HBT:=MI hBt
 clear hBb hBt
 go_enter Tryz.func170,Tryz.ntmps170
 go_upto_region 1 with fail
 generalize w.alloc (.cells (frC z (.slice ao n cap)) 196)=W at*
 have HRT:Hid (∀w',Below W.heap.size W w'→Calls Tryz.prog 205 #[.slice ao n cap] w' (fun e w''=>e= .returned (.bool Bt)∧Below w'.heap.size w' w'')):=fun w' h=>by
  have:=BP ao n cap ts w' (hT.ah h)
  unfold RtP at this
  rwa [HBT.out] at this
 obtain⟨c0,c1,c2,c3⟩:=hz0.gains
 have HMID:=MI (fun w' (h:Below W.heap.size W w')=>(hz0.ah h).mid)
 have HSC:=MI (fun w' (h:Below W.heap.size W w')=>(hz0.ah h).scales)
 have HWD:=MI (fun w' (h:Below W.heap.size W w')=>(hz0.ah h).widths)
 have HQ:=MI (fun w' (h:Below W.heap.size W w') k (hk:k<16)=>(hz0.ah h).q hk)
 have HB:=MI hba
 have b0:=HBO.out 0
 have b1:=HBO.out 1
 have b2:=HBO.out 2
 have b3:=HBO.out 3
 simp only[Nat.add_zero,Nat.mul_zero,Nat.mul_one,Nat.reduceAdd,Nat.reduceMul] at b0 b1 b2 b3
 have B0:=MI b0
 have B1:=MI b1
 have B2:=MI b2
 have B3:=MI b3
 clear hz0 hT hba b0 b1 b2 b3 hz
 generalize z.getD 0 0=x0 at*
 generalize z.getD 1 0=x1 at*
 generalize z.getD 2 0=x2 at*
 generalize z.getD 3 0=x3 at*
 generalize z.getD 4 0=x4 at*
 generalize z.getD 5 0=x5 at*
 generalize z.getD 6 0=x6 at*
 generalize z.getD 7 0=x7 at*
 generalize z.getD 8 0=x8 at*
 generalize z.getD 9 0=x9 at*
 generalize z.getD 10 0=x10 at*
 generalize z.getD 11 0=x11 at*
 cases Bg
 ·go_wp2_with (go_at_call 204;refine(HG.out _).mono ?_;rintro e w1 ⟨rfl,hb1⟩)
  go_ret
  exact⟨aN (by rw[HF.out];simp),HB.out.trans (hb1.mono HB.out.size)⟩
 cases Bt
 ·go_wp2_with (first | (go_at_call 204;refine(HG.out _).mono ?_;rintro e w1 ⟨rfl,hb1⟩;have c4:=HMID.out _ hb1) | (go_at_call 205;refine(HRT.out _ hb1).mono ?_;rintro e w2 ⟨rfl,hb2⟩;have hb12:=hb1.trans (hb2.mono hb1.size);obtain⟨s0,s1,s2,s3⟩:=HSC.out _ hb12) | (go_at_call 206;refine(HS.out _).mono ?_;rintro e w3 ⟨rfl,hb3⟩;have hb13:=hb12.trans (hb3.mono hb12.size)))
  go_ret
  exact⟨aN (by rw[HF.out];simp),HB.out.trans ((hb1.trans (hb2.mono hb1.size)).mono HB.out.size)⟩
 cases Bs
 ·go_wp2_with (first | (go_at_call 204;refine(HG.out _).mono ?_;rintro e w1 ⟨rfl,hb1⟩;have c4:=HMID.out _ hb1) | (go_at_call 205;refine(HRT.out _ hb1).mono ?_;rintro e w2 ⟨rfl,hb2⟩;have hb12:=hb1.trans (hb2.mono hb1.size);obtain⟨s0,s1,s2,s3⟩:=HSC.out _ hb12) | (go_at_call 206;refine(HS.out _).mono ?_;rintro e w3 ⟨rfl,hb3⟩;have hb13:=hb12.trans (hb3.mono hb12.size)))
  go_ret
  exact⟨aN (by rw[HF.out];simp),HB.out.trans (hb13.mono HB.out.size)⟩
 go_upto_region 3 with(first | (go_at_call 204;refine(HG.out _).mono ?_;rintro e w1 ⟨rfl,hb1⟩;have c4:=HMID.out _ hb1) | (go_at_call 205;refine(HRT.out _ hb1).mono ?_;rintro e w2 ⟨rfl,hb2⟩;have hb12:=hb1.trans (hb2.mono hb1.size);obtain⟨s0,s1,s2,s3⟩:=HSC.out _ hb12) | (go_at_call 206;refine(HS.out _).mono ?_;rintro e w3 ⟨rfl,hb3⟩;have hb13:=hb12.trans (hb3.mono hb12.size)))
 obtain⟨d0,d1,d2,d3⟩:=HWD.out _ hb13
 have HNB:Hid (∀k,k<4→jV z k=false→Bb=false):=fun k hk h=>by rw[←HBB.out];exact qx _ k hk h
 have HYB:Hid ((∀k,k<4→jV z k=true)→Bb=true):=fun h=>by rw[←HBB.out];exact nO _ h
 clear c0 c1 c2 c3 c4 s0 s1 s2 s3 HG HS HRT HMID HSC hb1 hb2 hb3 hb12 HBO HBB HBT HWD
 go_upto_region 4 with fail
 clear d0 d1 d2 d3
 go_loopw [25] (fun v25 wr=>∃j:Nat,j≤4∧v25= .int .i64 (j:Int)∧Hid (∀k,k<j→jV z k=true)∧wr=w3) (fun v25 _=>4 - aG v25)
 case atStart=>exact⟨0,by omega,rfl,fun k hk=>by omega,rfl⟩
 case round=>
  obtain⟨j,hj,rfl,hok,hwr⟩:=hrel
  have hwr2:=hwr.symm
  clear hwr
  subst hwr2
  by_cases hj4:j<4
  ·rcases(show j=0∨j=1∨j=2∨j=3 by omega) with rfl | rfl | rfl | rfl
   ·have hjb:=B0.out
    have hix: ∀w,(Instr.index 191 (.agg #[.int .i64 x8,.int .i64 x9,.int .i64 x10,.int .i64 x11]) (.int .i64 0)).run Tryz.prog w= .ok (.int .i64 x8) w:=fun w=>by kernel_rfl
    by_cases hx0:x8<0
    ·have hbb:=HNB.out 0 (by decide) (by rw[hjb];simp;omega)
     have HBF:=MI hbb
     clear hjb hbb hok
     go_wp2_with fail
     go_ret
     exact⟨aN (by rw[HF.out,HBF.out];rfl),HB.out.trans (hb13.mono HB.out.size)⟩
    by_cases hx24:24<x8
    ·have hbb:=HNB.out 0 (by decide) (by rw[hjb];simp;omega)
     have HBF:=MI hbb
     clear hjb hbb hok
     go_wp2_with fail
     go_ret
     exact⟨aN (by rw[HF.out,HBF.out];rfl),HB.out.trans (hb13.mono HB.out.size)⟩
    obtain⟨xn,hxn⟩: ∃xn:Nat,x8=(xn:Int):=⟨(x8).toNat,by omega⟩
    subst hxn
    rw[Int.toNat_natCast,decide_eq_true (show(0:Int)≤(xn:Int) by omega),decide_eq_true (show(xn:Int)≤24 by omega),Bool.true_and,Bool.true_and] at hjb
    have HJ:=MI hjb
    have hxl:xn≤57:=by omega
    have hx1:¬(xn:Int)<0:=by omega
    have hx2:¬24<(xn:Int):=by omega
    clear hjb hx0 hx24
    go_upto_region 9 with fail
    go_loopw [43] (fun v43 wr=>∃m:Nat,m≤4∧v43= .int .i64 (m:Int)∧Hid (∀k,k<m→dQ (z.getD (12+0+k) 0) xn=true)∧wr=w3) (fun v43 _=>4 - aG v43)
    case atStart=>exact⟨0,by omega,rfl,fun k hk=>by omega,rfl⟩
    case round=>
     obtain⟨m,hm,rfl,hfi,hwr⟩:=hrel
     have hwr2:=hwr.symm
     clear hwr
     subst hwr2
     by_cases hm4:m<4
     ·have hcq:=HQ.out w3 hb13 (0+m) (by omega)
      rw[show 13+(0+m)=13+m by omega,show 12+(0+m)=12+0+m by omega] at hcq
      have hfm:=fun w=>fits_any (z.getD (12+0+m) 0) xn hxl w
      have hyes:dQ (z.getD (12+0+m) 0) xn=true→Hid (∀k,k<m+1→dQ (z.getD (12+0+k) 0) xn=true):=fun h k hk=>by
       by_cases hkm:k=m
       ·subst hkm;exact h
       ·exact hfi.out k (by omega)
      have hno:dQ (z.getD (12+0+m) 0) xn=false→Hid (Bb=false):=fun h=>HNB.out 0 (by decide) (by rw[HJ.out];exact qx _ m hm4 h)
      generalize z.getD (12+0+m) 0=qm at*
      have HFM:=MI hfm
      clear hfm
      cases hb:dQ qm xn with
      | true=>
       rw[hb] at HFM
       have HY:=hyes hb
       clear hyes hno hb hfi
       go_wp2_with (go_at_call 207;refine(HFM.out _).mono ?_;rintro e w5 ⟨rfl,rfl⟩)
       refine⟨⟨m+1,by omega,by go_num,HY.out,trivial⟩,?_⟩
       simp[aG];omega
      | false=>
       rw[hb] at HFM
       have HNN:=hno hb
       clear hyes hno hb hfi
       go_wp2_with (go_at_call 207;refine(HFM.out _).mono ?_;rintro e w5 ⟨rfl,rfl⟩)
       go_ret
       exact⟨aN (by rw[HF.out,HNN.out];rfl),HB.out.trans (hb13.mono HB.out.size)⟩
     ·obtain rfl:m=4:=by omega
      have HNX:Hid (∀k,k<0+1→jV z k=true):=fun k hk=>by
       by_cases hkj:k=0
       ·subst hkj;rw[HJ.out];exact nO _ hfi.out
       ·exact hok.out k (by omega)
      clear hfi hok
      go_wp2_with fail
      refine⟨⟨0+1,by omega,by go_num,HNX.out,trivial⟩,?_⟩
      simp[aG]
   ·have hjb:=B1.out
    have hix: ∀w,(Instr.index 191 (.agg #[.int .i64 x8,.int .i64 x9,.int .i64 x10,.int .i64 x11]) (.int .i64 1)).run Tryz.prog w= .ok (.int .i64 x9) w:=fun w=>by kernel_rfl
    by_cases hx0:x9<0
    ·have hbb:=HNB.out 1 (by decide) (by rw[hjb];simp;omega)
     have HBF:=MI hbb
     clear hjb hbb hok
     go_wp2_with fail
     go_ret
     exact⟨aN (by rw[HF.out,HBF.out];rfl),HB.out.trans (hb13.mono HB.out.size)⟩
    by_cases hx24:24<x9
    ·have hbb:=HNB.out 1 (by decide) (by rw[hjb];simp;omega)
     have HBF:=MI hbb
     clear hjb hbb hok
     go_wp2_with fail
     go_ret
     exact⟨aN (by rw[HF.out,HBF.out];rfl),HB.out.trans (hb13.mono HB.out.size)⟩
    obtain⟨xn,hxn⟩: ∃xn:Nat,x9=(xn:Int):=⟨(x9).toNat,by omega⟩
    subst hxn
    rw[Int.toNat_natCast,decide_eq_true (show(0:Int)≤(xn:Int) by omega),decide_eq_true (show(xn:Int)≤24 by omega),Bool.true_and,Bool.true_and] at hjb
    have HJ:=MI hjb
    have hxl:xn≤57:=by omega
    have hx1:¬(xn:Int)<0:=by omega
    have hx2:¬24<(xn:Int):=by omega
    clear hjb hx0 hx24
    go_upto_region 9 with fail
    go_loopw [43] (fun v43 wr=>∃m:Nat,m≤4∧v43= .int .i64 (m:Int)∧Hid (∀k,k<m→dQ (z.getD (12+4+k) 0) xn=true)∧wr=w3) (fun v43 _=>4 - aG v43)
    case atStart=>exact⟨0,by omega,rfl,fun k hk=>by omega,rfl⟩
    case round=>
     obtain⟨m,hm,rfl,hfi,hwr⟩:=hrel
     have hwr2:=hwr.symm
     clear hwr
     subst hwr2
     by_cases hm4:m<4
     ·have hcq:=HQ.out w3 hb13 (4+m) (by omega)
      rw[show 13+(4+m)=17+m by omega,show 12+(4+m)=12+4+m by omega] at hcq
      have hfm:=fun w=>fits_any (z.getD (12+4+m) 0) xn hxl w
      have hyes:dQ (z.getD (12+4+m) 0) xn=true→Hid (∀k,k<m+1→dQ (z.getD (12+4+k) 0) xn=true):=fun h k hk=>by
       by_cases hkm:k=m
       ·subst hkm;exact h
       ·exact hfi.out k (by omega)
      have hno:dQ (z.getD (12+4+m) 0) xn=false→Hid (Bb=false):=fun h=>HNB.out 1 (by decide) (by rw[HJ.out];exact qx _ m hm4 h)
      generalize z.getD (12+4+m) 0=qm at*
      have HFM:=MI hfm
      clear hfm
      cases hb:dQ qm xn with
      | true=>
       rw[hb] at HFM
       have HY:=hyes hb
       clear hyes hno hb hfi
       go_wp2_with (go_at_call 207;refine(HFM.out _).mono ?_;rintro e w5 ⟨rfl,rfl⟩)
       refine⟨⟨m+1,by omega,by go_num,HY.out,trivial⟩,?_⟩
       simp[aG];omega
      | false=>
       rw[hb] at HFM
       have HNN:=hno hb
       clear hyes hno hb hfi
       go_wp2_with (go_at_call 207;refine(HFM.out _).mono ?_;rintro e w5 ⟨rfl,rfl⟩)
       go_ret
       exact⟨aN (by rw[HF.out,HNN.out];rfl),HB.out.trans (hb13.mono HB.out.size)⟩
     ·obtain rfl:m=4:=by omega
      have HNX:Hid (∀k,k<1+1→jV z k=true):=fun k hk=>by
       by_cases hkj:k=1
       ·subst hkj;rw[HJ.out];exact nO _ hfi.out
       ·exact hok.out k (by omega)
      clear hfi hok
      go_wp2_with fail
      refine⟨⟨1+1,by omega,by go_num,HNX.out,trivial⟩,?_⟩
      simp[aG]
   ·have hjb:=B2.out
    have hix: ∀w,(Instr.index 191 (.agg #[.int .i64 x8,.int .i64 x9,.int .i64 x10,.int .i64 x11]) (.int .i64 2)).run Tryz.prog w= .ok (.int .i64 x10) w:=fun w=>by kernel_rfl
    by_cases hx0:x10<0
    ·have hbb:=HNB.out 2 (by decide) (by rw[hjb];simp;omega)
     have HBF:=MI hbb
     clear hjb hbb hok
     go_wp2_with fail
     go_ret
     exact⟨aN (by rw[HF.out,HBF.out];rfl),HB.out.trans (hb13.mono HB.out.size)⟩
    by_cases hx24:24<x10
    ·have hbb:=HNB.out 2 (by decide) (by rw[hjb];simp;omega)
     have HBF:=MI hbb
     clear hjb hbb hok
     go_wp2_with fail
     go_ret
     exact⟨aN (by rw[HF.out,HBF.out];rfl),HB.out.trans (hb13.mono HB.out.size)⟩
    obtain⟨xn,hxn⟩: ∃xn:Nat,x10=(xn:Int):=⟨(x10).toNat,by omega⟩
    subst hxn
    rw[Int.toNat_natCast,decide_eq_true (show(0:Int)≤(xn:Int) by omega),decide_eq_true (show(xn:Int)≤24 by omega),Bool.true_and,Bool.true_and] at hjb
    have HJ:=MI hjb
    have hxl:xn≤57:=by omega
    have hx1:¬(xn:Int)<0:=by omega
    have hx2:¬24<(xn:Int):=by omega
    clear hjb hx0 hx24
    go_upto_region 9 with fail
    go_loopw [43] (fun v43 wr=>∃m:Nat,m≤4∧v43= .int .i64 (m:Int)∧Hid (∀k,k<m→dQ (z.getD (12+8+k) 0) xn=true)∧wr=w3) (fun v43 _=>4 - aG v43)
    case atStart=>exact⟨0,by omega,rfl,fun k hk=>by omega,rfl⟩
    case round=>
     obtain⟨m,hm,rfl,hfi,hwr⟩:=hrel
     have hwr2:=hwr.symm
     clear hwr
     subst hwr2
     by_cases hm4:m<4
     ·have hcq:=HQ.out w3 hb13 (8+m) (by omega)
      rw[show 13+(8+m)=21+m by omega,show 12+(8+m)=12+8+m by omega] at hcq
      have hfm:=fun w=>fits_any (z.getD (12+8+m) 0) xn hxl w
      have hyes:dQ (z.getD (12+8+m) 0) xn=true→Hid (∀k,k<m+1→dQ (z.getD (12+8+k) 0) xn=true):=fun h k hk=>by
       by_cases hkm:k=m
       ·subst hkm;exact h
       ·exact hfi.out k (by omega)
      have hno:dQ (z.getD (12+8+m) 0) xn=false→Hid (Bb=false):=fun h=>HNB.out 2 (by decide) (by rw[HJ.out];exact qx _ m hm4 h)
      generalize z.getD (12+8+m) 0=qm at*
      have HFM:=MI hfm
      clear hfm
      cases hb:dQ qm xn with
      | true=>
       rw[hb] at HFM
       have HY:=hyes hb
       clear hyes hno hb hfi
       go_wp2_with (go_at_call 207;refine(HFM.out _).mono ?_;rintro e w5 ⟨rfl,rfl⟩)
       refine⟨⟨m+1,by omega,by go_num,HY.out,trivial⟩,?_⟩
       simp[aG];omega
      | false=>
       rw[hb] at HFM
       have HNN:=hno hb
       clear hyes hno hb hfi
       go_wp2_with (go_at_call 207;refine(HFM.out _).mono ?_;rintro e w5 ⟨rfl,rfl⟩)
       go_ret
       exact⟨aN (by rw[HF.out,HNN.out];rfl),HB.out.trans (hb13.mono HB.out.size)⟩
     ·obtain rfl:m=4:=by omega
      have HNX:Hid (∀k,k<2+1→jV z k=true):=fun k hk=>by
       by_cases hkj:k=2
       ·subst hkj;rw[HJ.out];exact nO _ hfi.out
       ·exact hok.out k (by omega)
      clear hfi hok
      go_wp2_with fail
      refine⟨⟨2+1,by omega,by go_num,HNX.out,trivial⟩,?_⟩
      simp[aG]
   ·have hjb:=B3.out
    have hix: ∀w,(Instr.index 191 (.agg #[.int .i64 x8,.int .i64 x9,.int .i64 x10,.int .i64 x11]) (.int .i64 3)).run Tryz.prog w= .ok (.int .i64 x11) w:=fun w=>by kernel_rfl
    by_cases hx0:x11<0
    ·have hbb:=HNB.out 3 (by decide) (by rw[hjb];simp;omega)
     have HBF:=MI hbb
     clear hjb hbb hok
     go_wp2_with fail
     go_ret
     exact⟨aN (by rw[HF.out,HBF.out];rfl),HB.out.trans (hb13.mono HB.out.size)⟩
    by_cases hx24:24<x11
    ·have hbb:=HNB.out 3 (by decide) (by rw[hjb];simp;omega)
     have HBF:=MI hbb
     clear hjb hbb hok
     go_wp2_with fail
     go_ret
     exact⟨aN (by rw[HF.out,HBF.out];rfl),HB.out.trans (hb13.mono HB.out.size)⟩
    obtain⟨xn,hxn⟩: ∃xn:Nat,x11=(xn:Int):=⟨(x11).toNat,by omega⟩
    subst hxn
    rw[Int.toNat_natCast,decide_eq_true (show(0:Int)≤(xn:Int) by omega),decide_eq_true (show(xn:Int)≤24 by omega),Bool.true_and,Bool.true_and] at hjb
    have HJ:=MI hjb
    have hxl:xn≤57:=by omega
    have hx1:¬(xn:Int)<0:=by omega
    have hx2:¬24<(xn:Int):=by omega
    clear hjb hx0 hx24
    go_upto_region 9 with fail
    go_loopw [43] (fun v43 wr=>∃m:Nat,m≤4∧v43= .int .i64 (m:Int)∧Hid (∀k,k<m→dQ (z.getD (12+12+k) 0) xn=true)∧wr=w3) (fun v43 _=>4 - aG v43)
    case atStart=>exact⟨0,by omega,rfl,fun k hk=>by omega,rfl⟩
    case round=>
     obtain⟨m,hm,rfl,hfi,hwr⟩:=hrel
     have hwr2:=hwr.symm
     clear hwr
     subst hwr2
     by_cases hm4:m<4
     ·have hcq:=HQ.out w3 hb13 (12+m) (by omega)
      rw[show 13+(12+m)=25+m by omega,show 12+(12+m)=12+12+m by omega] at hcq
      have hfm:=fun w=>fits_any (z.getD (12+12+m) 0) xn hxl w
      have hyes:dQ (z.getD (12+12+m) 0) xn=true→Hid (∀k,k<m+1→dQ (z.getD (12+12+k) 0) xn=true):=fun h k hk=>by
       by_cases hkm:k=m
       ·subst hkm;exact h
       ·exact hfi.out k (by omega)
      have hno:dQ (z.getD (12+12+m) 0) xn=false→Hid (Bb=false):=fun h=>HNB.out 3 (by decide) (by rw[HJ.out];exact qx _ m hm4 h)
      generalize z.getD (12+12+m) 0=qm at*
      have HFM:=MI hfm
      clear hfm
      cases hb:dQ qm xn with
      | true=>
       rw[hb] at HFM
       have HY:=hyes hb
       clear hyes hno hb hfi
       go_wp2_with (go_at_call 207;refine(HFM.out _).mono ?_;rintro e w5 ⟨rfl,rfl⟩)
       refine⟨⟨m+1,by omega,by go_num,HY.out,trivial⟩,?_⟩
       simp[aG];omega
      | false=>
       rw[hb] at HFM
       have HNN:=hno hb
       clear hyes hno hb hfi
       go_wp2_with (go_at_call 207;refine(HFM.out _).mono ?_;rintro e w5 ⟨rfl,rfl⟩)
       go_ret
       exact⟨aN (by rw[HF.out,HNN.out];rfl),HB.out.trans (hb13.mono HB.out.size)⟩
     ·obtain rfl:m=4:=by omega
      have HNX:Hid (∀k,k<3+1→jV z k=true):=fun k hk=>by
       by_cases hkj:k=3
       ·subst hkj;rw[HJ.out];exact nO _ hfi.out
       ·exact hok.out k (by omega)
      clear hfi hok
      go_wp2_with fail
      refine⟨⟨3+1,by omega,by go_num,HNX.out,trivial⟩,?_⟩
      simp[aG]
  ·obtain rfl:j=4:=by omega
   have HBF:=MI (HYB.out hok.out)
   go_wp2_with fail
   go_ret
   exact⟨aN (by rw[HF.out,HBF.out];rfl),HB.out.trans (hb13.mono HB.out.size)⟩
end Go.Proofs.YtnicjahcgnhogaaGreatDoor
namespace Go.Calli
open Go.RowKit
theorem nN{P:Program}{w w':World}(t ty e:TypeId)(size:Nat)(hu:P.underlying t=some (.slice e)){i:TypeInfo}(hi:P.info? e=some i){z:Value}(hz:i.zero=some z)(hsz:i.size=size)
  (B:Nat) (v v':Value) (n:Nat) (xs:List Value) (hown:w.ownsRow B e size v n xs)
  (ad:Addr) (m c:Nat) (news:List Value) (hl:news.length=m*size) (hnews: ∀j u,news[j]? =some u→w.cell? (ad.add j)=some u) (h1: ∀u ∈ news,u.oneCell'=true)
  (hbd:(n+m)*i.bytes≤140737488355328) (hn:n+m≤maxLen)
  (hr:(Builtin.append_ #[t,t] ty #[v,.slice (some ad) m c]).run P w= .ok v' w'):v'.ownBlock=v.ownBlock∨v'.ownBlock=some w.heap.size:=by
 unfold maxLen at hn
 rcases hown.2 with⟨rfl,rfl⟩ | ⟨g,cap,cur,rfl,hbg,hg,hnc,hcm,hcs,htake⟩
 ·by_cases hm:m=0
  ·subst hm
   have hr2:(Builtin.append_ #[t,t] ty #[.slice none 0 0,.slice (some ad) 0 c]).run P w= .ok (.slice none 0 0) w:=by
    simp[Builtin.append_,run_underlying hu,sizeOf,typeInfo,hi,Builtin.lenOf,Builtin.firstCells,loadCells,loadCellsFrom]
   rw[hr2] at hr
   cases hr
   exact .inl rfl
  ·have hr2:=run_append_nil (P:=P) w t ty e i z hu hi hz ad m c news (by rw[hsz];exact hl) hnews (by omega) (by omega) (by simp only[Nat.zero_add] at hbd;omega)
   rw[hr2] at hr
   cases hr
   exact .inr rfl
 ·by_cases hroom:n+m≤cap
  ·have hr2:=run_append_room (P:=P) w t ty e i hu hi g n cap cur hg ad m c news (by rw[hsz];exact hl) hnews h1 hroom (by
    rw[hsz,hcs,hl,←Nat.add_mul]
    exact Nat.mul_le_mul_right _ hroom)
   rw[hr2] at hr
   cases hr
   exact .inl rfl
  ·have holds: ∀j u,xs[j]? =some u→w.cell? ((⟨g,0,none⟩:Addr).add j)=some u:=hown.cells (g:=g) rfl
   have hr2:=run_append_grow (P:=P) w t ty e i z hu hi hz ⟨g,0,none⟩ n cap xs (by rw[hsz];exact hown.1) holds ad m c news (by rw[hsz];exact hl) hnews (by omega) (by omega) (growslice_fits (by omega) hbd)
   rw[hr2] at hr
   cases hr
   exact .inr rfl
theorem fE{P:Program}(w:World)(t ty e:TypeId)(size:Nat)(hu:P.underlying t=some (.slice e))
  {z:Value} {bytes:Nat} (hinfo:(P.info? e).map (fun i=>(i.zero,i.size,i.bytes))=some (some z,size,bytes)) (hz1:z.cells.size=size) (hs0:0<size)
  (B:Nat) (v:Value) (n:Nat) (xs:List Value) (hown:w.ownsRow B e size v n xs) (us:List Value) (hus:us.length=size) (h1: ∀u ∈ us,u.oneCell'=true)
  (hbd:(n+1)*bytes≤140737488355328) (hn:n+1≤maxLen) (hB:B≤w.heap.size):
  ∃v' w',(Builtin.append_ #[t,t] ty #[v,.slice (some ⟨w.heap.size,0,none⟩) 1 1]).run P (w.alloc (.cells us.toArray e))= .ok v' w'∧w'.ownsRow B e size v' (n+1) (xs++us)∧af (fun k=>v.ownBlock=some k) w w'∧(∀k,v'.ownBlock=some k→v.ownBlock=some k∨w.heap.size≤k):=by
 obtain⟨i,hi,hz,hsz,hby⟩:=info_parts hinfo
 obtain⟨v',w',hr,h2,h3,_⟩:=run_append_own (P:=P) (w.alloc (.cells us.toArray e)) B t ty e i z size bytes hu hi hz hsz hby hz1 hs0 v n xs (hown.alloc _) ⟨w.heap.size,0,none⟩ 1 1 us (by rw[hus];omega) (yc _ _ _) h1 hn hbd (by simp;omega)
 have hblk:=nN (P:=P) t ty e size hu hi hz hsz B v v' n xs (hown.alloc _) ⟨w.heap.size,0,none⟩ 1 1 us (by rw[hus];omega) (yc _ _ _) h1 (by rw[hby];exact hbd) hn hr
 refine⟨v',w',hr,h2,((af.refl _ w).alloc _).grown h3 fun k hk=>.inr hk,fun k hk=>?_⟩
 rcases hblk with hblk | hblk
 ·exact .inl (hblk▸hk)
 ·rw[hblk] at hk
  cases hk
  exact .inr (by rw[World.size_alloc];omega)
theorem addr_add(a:Addr)(i j:Nat):(a.add i).add j=a.add (i+j):=by
 unfold Addr.add
 split<;>split<;>simp_all<;>omega
theorem bH.flat{α:Type}{f:α→List Value}{size:Nat}{d:α}{w:World}{a:Addr}{n:Nat}{ms:List α}(h:bH f size d w (some a) n ms)(hf: ∀x,(f x).length=size)(hs0:0<size): ∀j u,(ms.flatMap f)[j]? =some u→w.cell? (a.add j)=some u:=by
 intro j u hu
 have hj:j<n*size:=by
  have:=(List.getElem?_eq_some_iff.1 hu).1
  rwa [flat_length f size hf,h.hlen] at this
 have hq:j/size<n:=Nat.div_lt_of_lt_mul (by rw[Nat.mul_comm];exact hj)
 have hr:j%size<size:=Nat.mod_lt _ hs0
 have he:j/size*size+j%size=j:=by rw[Nat.mul_comm];exact Nat.div_add_mod j size
 obtain⟨a',ha,hc⟩:=h.cell (j/size) hq
 cases ha
 have:=EI f size hf d ms (j/size) (j%size) (by rw[h.hlen];exact hq) hr
 rw[he] at this
 have h2:=hc (j%size) u (by rw[←this];exact hu)
 rwa [addr_add,he] at h2
theorem bY{P:Program}{w:World}{ops:Array Oper}{rest:List Oper}{o:Oper}{a:Act}{Q:Exit→Act→World→Prop}(hgd:o.guard=none)(s x:Operand)(t e:TypeId)(size:Nat)
  (ho:o.op= .call {callee:=.builtin .append,args:=#[s,x],argTypes:=#[t,t]}) (hu:P.underlying t=some (.slice e))
  {z:Value} {bytes:Nat} (hinfo:(P.info? e).map (fun i=>(i.zero,i.size,i.bytes))=some (some z,size,bytes)) (hz1:z.cells.size=size) (hs0:0<size)
  (B:Nat) (v:Value) (n:Nat) (xs:List Value) (hs:a.eval s=v) (hown:w.ownsRow B e size v n xs) (ad:Addr) (m c:Nat) (us:List Value) (hus:us.length=m*size) (hx:a.eval x= .slice (some ad) m c) (hcell: ∀j u,us[j]? =some u→w.cell? (ad.add j)=some u) (h1: ∀u ∈ us,u.oneCell'=true)
  (hbd:(n+m)*bytes≤140737488355328) (hn:n+m≤maxLen) (hB:B≤w.heap.size)
  (h: ∀v' w',w'.ownsRow B e size v' (n+m) (xs++us)→af (fun k=>v.ownBlock=some k) w w'→wpList P ops Q rest (a.put o.dst v') w'):wpList P ops Q (o::rest) a w:=by
 obtain⟨i,hi,hz,hsz,hby⟩:=info_parts hinfo
 refine wpList_append_own _ hgd s x t ho B e i z size bytes hu hi hz hsz hby hz1 hs0 v n xs hs hown ad m c us hx hus hcell h1 hn hbd hB ?_
 intro v' w' hown' hg _
 exact h v' w' hown' ((af.refl _ w).grown hg fun k hk=>.inr hk)
theorem wO(w:World)(e size:Nat):(w.alloc (.cells #[] e)).ownsRow w.heap.size e size (.slice (some ⟨w.heap.size,0,none⟩) 0 0) 0 []:=
 ⟨by simp,.inr ⟨w.heap.size,0,#[],rfl,Me,L9 _ _,Me,by unfold maxLen;omega,by simp,by simp⟩⟩
end Go.Calli
namespace Go.Proofs.YtnicjahcgnhogaaGreatDoor
open Go Go.RowKit Go.Calli
attribute [local irreducible] wpStill wpAnyH wpAnyS wpList Code.wp
def bU(bs:List Int)(r:Rd):Nat→List Int×Rd
 | 0=>([],r)
 | j+1=>((bU bs r j).1++[((bF bs (bU bs r j).2 2).1:Int)],(bF bs (bU bs r j).2 2).2)
def eX(bs:List Int)(r:Rd):Nat→List (Int×Int)×Rd
 | 0=>([],r)
 | j+1=>((eX bs r j).1++[(((bF bs (eX bs r j).2 4).1:Int),(o5 bs (bF bs (eX bs r j).2 4).2 24).1)],(o5 bs (bF bs (eX bs r j).2 4).2 24).2)
structure SW where
 s:List Int
 w:List Int
 r:Rd
def aY(bs:List Int)(r:Rd):Nat→SW
 | 0=>⟨[],[],r⟩
 | j+1=>⟨(aY bs r j).s++[((bF bs (aY bs r j).r 5).1:Int)],(aY bs r j).w++[((bF bs (bF bs (aY bs r j).r 5).2 5).1:Int)],
   if 23<(bF bs (aY bs r j).r 5).1∨24<(bF bs (bF bs (aY bs r j).r 5).2 5).1 then uh (bF bs (bF bs (aY bs r j).r 5).2 5).2 4 else(bF bs (bF bs (aY bs r j).r 5).2 5).2⟩
def qF(bs:List Int)(wd:List Int)(r:Rd):Nat→List Int×Rd
 | 0=>([],r)
 | j+1=>((qF bs wd r j).1++[(o5 bs (qF bs wd r j).2 (wd.getD (j/4) 0).toNat).1],(o5 bs (qF bs wd r j).2 (wd.getD (j/4) 0).toNat).2)
theorem uO(bs:List Int)(r:Rd)(j:Nat):(bU bs r j).1.length=j:=by
 induction j with
 | zero=>rfl
 | succ j ih=>rw[bU];simp[ih]
theorem ny(bs:List Int)(r:Rd)(j:Nat):(aY bs r j).s.length=j∧(aY bs r j).w.length=j:=by
 induction j with
 | zero=>exact⟨rfl,rfl⟩
 | succ j ih=>rw[aY];simp[ih]
theorem Jk(bs wd:List Int)(r:Rd)(j:Nat):(qF bs wd r j).1.length=j:=by
 induction j with
 | zero=>rfl
 | succ j ih=>rw[qF];simp[ih]
def pad(n:Nat)(l:List Int):List Int:=l++List.replicate (n - l.length) 0
theorem dn(n:Nat)(l:List Int)(h:l.length≤n):(pad n l).length=n:=by simp[pad];omega
theorem sH(n:Nat)(l:List Int)(v:Int)(h:l.length<n):(pad n l).set l.length v=pad n (l++[v]):=by
 unfold pad
 rw[List.set_append_right _ _ Me,Nat.sub_self]
 obtain⟨m,hm⟩: ∃m,n - l.length=m+1:=⟨n - l.length - 1,by omega⟩
 rw[hm,List.replicate_succ,List.set_cons_zero,List.length_append,List.append_assoc]
 rw[show n - (l.length+[v].length)=m by simp;omega]
 rfl
theorem Ef(n:Nat)(l:List Int)(k:Nat)(h:k<l.length):(pad n l).getD k 0=l.getD k 0:=by
 unfold pad
 simp only[List.getD]
 rw[List.getElem?_append_left h]
def zz(g s w q:List Int):List Int:=pad 4 g++(pad 4 s++(pad 4 w++pad 16 q))
theorem zz_len{g s w q:List Int}(hg:g.length≤4)(hs:s.length≤4)(hw:w.length≤4)(hq:q.length≤16):(zz g s w q).length=28:=by
 unfold zz
 simp only[List.length_append,dn 4 g hg,dn 4 s hs,dn 4 w hw,dn 16 q hq]
theorem zz_g{g s w q:List Int}(hg:g.length<4)(v:Int):(zz g s w q).set g.length v=zz (g++[v]) s w q:=by
 unfold zz
 rw[List.set_append_left _ _ (by rw[dn 4 g (by omega)];exact hg),sH 4 g v hg]
theorem zz_s{g s w q:List Int}(hg:g.length≤4)(hs:s.length<4)(v:Int):(zz g s w q).set (4+s.length) v=zz g (s++[v]) w q:=by
 unfold zz
 rw[List.set_append_right _ _ (by rw[dn 4 g hg];omega),dn 4 g hg,show 4+s.length - 4=s.length by omega,List.set_append_left _ _ (by rw[dn 4 s (by omega)];exact hs),sH 4 s v hs]
theorem zz_w{g s w q:List Int}(hg:g.length≤4)(hs:s.length≤4)(hw:w.length<4)(v:Int):(zz g s w q).set (8+w.length) v=zz g s (w++[v]) q:=by
 unfold zz
 rw[List.set_append_right _ _ (by rw[dn 4 g hg];omega),dn 4 g hg,List.set_append_right _ _ (by rw[dn 4 s hs];omega),dn 4 s hs,show 8+w.length - 4 - 4=w.length by omega,List.set_append_left _ _ (by rw[dn 4 w (by omega)];exact hw),sH 4 w v hw]
theorem zz_q{g s w q:List Int}(hg:g.length≤4)(hs:s.length≤4)(hw:w.length≤4)(hq:q.length<16)(v:Int):(zz g s w q).set (12+q.length) v=zz g s w (q++[v]):=by
 unfold zz
 rw[List.set_append_right _ _ (by rw[dn 4 g hg];omega),dn 4 g hg,List.set_append_right _ _ (by rw[dn 4 s hs];omega),dn 4 s hs,List.set_append_right _ _ (by rw[dn 4 w hw];omega),dn 4 w hw,show 12+q.length - 4 - 4 - 4=q.length by omega,sH 16 q v hq]
theorem H7{g s w q:List Int}(hg:g.length≤4)(hs:s.length≤4)(k:Nat)(hk:k<s.length):(zz g s w q).getD (4+k) 0=s.getD k 0:=by
 unfold zz
 simp only[List.getD]
 rw[List.getElem?_append_right (by rw[dn 4 g hg];omega),dn 4 g hg,show 4+k - 4=k by omega,List.getElem?_append_left (by rw[dn 4 s hs];omega)]
 have:=Ef 4 s k hk
 simpa only[List.getD] using this
theorem yR{g s w q:List Int}(hg:g.length≤4)(hs:s.length≤4)(hw:w.length≤4)(k:Nat)(hk:k<w.length):(zz g s w q).getD (8+k) 0=w.getD k 0:=by
 unfold zz
 simp only[List.getD]
 rw[List.getElem?_append_right (by rw[dn 4 g hg];omega),dn 4 g hg,List.getElem?_append_right (by rw[dn 4 s hs];omega),dn 4 s hs,show 8+k - 4 - 4=k by omega,List.getElem?_append_left (by rw[dn 4 w hw];omega)]
 have:=Ef 4 w k hk
 simpa only[List.getD] using this
theorem fA.zk{w:World}{b:Nat}{z:List Int}{tv:Value}(h:fA w b z tv){k:Nat}(hk:k<4)(v:Int):fA (w.setCell ⟨b,k,none⟩ (.int .i64 v)) b (z.set k v) tv:=
 ⟨by rw[Mc h.row,set_lo z tv h.len k hk],by rw[List.length_set];exact h.len⟩
theorem fA.zl{w:World}{b:Nat}{z:List Int}{tv:Value}(h:fA w b z tv){k:Nat}(hk:k<24)(v:Int):fA (w.setCell ⟨b,5+k,none⟩ (.int .i64 v)) b (z.set (4+k) v) tv:=
 ⟨by rw[Mc h.row,set_hi z tv h.len k hk],by rw[List.length_set];exact h.len⟩
theorem fA.BO{w:World}{b:Nat}{z:List Int}{tv:Value}(h:fA w b z tv)(tv':Value):fA (w.setCell ⟨b,4,none⟩ tv') b z tv':=
 ⟨by rw[Mc h.row,set_mid z tv tv' h.len],h.len⟩
theorem fA.kept{w w':World}{b:Nat}{z:List Int}{tv:Value}(h:fA w b z tv){S:Nat→Prop}(hk:af S w w')(hn:¬S b):fA w' b z tv:=⟨hk.heap h.row hn,h.len⟩
theorem jW.other{w w':World}{rb:Nat}{bo:Option Addr}{n cap:Nat}{bs:List Int}{r:Rd}(h:jW w rb bo n cap bs r){S:Nat→Prop}(hk:af S w w')(hn:¬S rb)(hb: ∀a,bo=some a→¬S a.block):jW w' rb bo n cap bs r:=
 ⟨hk.heap h.row hn,h.bytes.kept hk hb,h.lim,h.at_,h.apart⟩
theorem JQ:(Tryz.prog.info? 282).map (fun i=>(i.zero,i.size,i.bytes))=some (some (.agg #[(),()]),2,16):=by kernel_rfl
end Go.Proofs.YtnicjahcgnhogaaGreatDoor

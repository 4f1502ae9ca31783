/- Part 4 of the walk: contracts of the program's functions, each for every input. No condition. -/
import Derived.Test.YtnicjahcgnhogaaGreatDoorU02
import Derived.Deep.AppendLies
set_option linter.unusedVariables false
set_option linter.unusedSimpArgs false
set_option maxRecDepth 100000
set_option maxHeartbeats 8000000
namespace Go.Calli
open Go.RowKit
end Go.Calli
namespace Go.Proofs.YtnicjahcgnhogaaGreatDoor
open Go Go.RowKit Go.Calli
attribute [local irreducible] wpStill wpAnyH wpAnyS wpList Code.wp
def gn(z:List Int):List Int:=[z.getD 0 0,z.getD 1 0,z.getD 2 0,z.getD 3 0]
def sc(z:List Int):List Int:=[z.getD 4 0,z.getD 5 0,z.getD 6 0,z.getD 7 0]
def kP(z:List Int)(k:Nat):Bool:=decide (0≤z.getD (8+k) 0)&&decide (z.getD (8+k) 0≤24)&&(List.range 4).all (fun m=>dX (z.getD (12+4*k+m) 0) (z.getD (8+k) 0).toNat)
def fQ(z:List Int)(ts:List (Int×Int)):Bool:=inB 3 (gn z)&&rtB ts&&inB 23 (sc z)&&(List.range 4).all (kP z)
structure fJ(w:World)(b:Nat)(z:List Int)(tv:Value):Prop where
 row:w.heap[b]? =some (.cells (frC z tv) 196 (0,0))
 len:z.length=28
theorem fJ.lo{w:World}{b:Nat}{z:List Int}{tv:Value}(h:fJ w b z tv){k:Nat}(hk:k<4):w.cell? ⟨b,k,none⟩=some (.int .i64 (z.getD k 0)):=by
 rw[LZ h.row];exact frC_lo z tv h.len k hk
theorem fJ.mid{w:World}{b:Nat}{z:List Int}{tv:Value}(h:fJ w b z tv):w.cell? ⟨b,4,none⟩=some tv:=by
 rw[LZ h.row];exact frC_mid z tv h.len
theorem fJ.hi{w:World}{b:Nat}{z:List Int}{tv:Value}(h:fJ w b z tv){k:Nat}(hk:k<24):w.cell? ⟨b,5+k,none⟩=some (.int .i64 (z.getD (4+k) 0)):=by
 rw[LZ h.row];exact frC_hi z tv h.len k hk
theorem fJ.aj{w w':World}{b:Nat}{z:List Int}{tv:Value}(h:fJ w b z tv)(hb:Below w.heap.size w w'):fJ w' b z tv:=⟨(hb.block _ (L8 h.row)).trans h.row,h.len⟩
theorem fJ.gains{w:World}{b:Nat}{z:List Int}{tv:Value}(h:fJ w b z tv):w.cell? ⟨b,0,none⟩=some (.int .i64 (z.getD 0 0))∧w.cell? ⟨b,1,none⟩=some (.int .i64 (z.getD 1 0))∧w.cell? ⟨b,2,none⟩=some (.int .i64 (z.getD 2 0))∧w.cell? ⟨b,3,none⟩=some (.int .i64 (z.getD 3 0)):=⟨h.lo aq,h.lo aq,h.lo aq,h.lo aq⟩
theorem fJ.scales{w:World}{b:Nat}{z:List Int}{tv:Value}(h:fJ w b z tv):w.cell? ⟨b,5,none⟩=some (.int .i64 (z.getD 4 0))∧w.cell? ⟨b,6,none⟩=some (.int .i64 (z.getD 5 0))∧w.cell? ⟨b,7,none⟩=some (.int .i64 (z.getD 6 0))∧w.cell? ⟨b,8,none⟩=some (.int .i64 (z.getD 7 0)):=⟨h.hi (k:=0) aq,h.hi (k:=1) aq,h.hi (k:=2) aq,h.hi (k:=3) aq⟩
theorem fJ.widths{w:World}{b:Nat}{z:List Int}{tv:Value}(h:fJ w b z tv):w.cell? ⟨b,9,none⟩=some (.int .i64 (z.getD 8 0))∧w.cell? ⟨b,10,none⟩=some (.int .i64 (z.getD 9 0))∧w.cell? ⟨b,11,none⟩=some (.int .i64 (z.getD 10 0))∧w.cell? ⟨b,12,none⟩=some (.int .i64 (z.getD 11 0)):=⟨h.hi (k:=4) aq,h.hi (k:=5) aq,h.hi (k:=6) aq,h.hi (k:=7) aq⟩
theorem gs_any(z:List Int):(∀w,Calls Tryz.prog 204 #[.agg #[.int .i64 (z.getD 0 0),.int .i64 (z.getD 1 0),.int .i64 (z.getD 2 0),.int .i64 (z.getD 3 0)]] w (fun e w'=>e= .returned (.bool (inB 3 (gn z)))∧Below w.heap.size w w'))∧(∀w,Calls Tryz.prog 206 #[.agg #[.int .i64 (z.getD 4 0),.int .i64 (z.getD 5 0),.int .i64 (z.getD 6 0),.int .i64 (z.getD 7 0)]] w (fun e w'=>e= .returned (.bool (inB 23 (sc z)))∧Below w.heap.size w w')):=
 ⟨fun w=>ww (gn z) rfl w,fun w=>pX (sc z) rfl w⟩
theorem fJ.q{w:World}{b:Nat}{z:List Int}{tv:Value}(h:fJ w b z tv){k:Nat}(hk:k<16):w.cell? ⟨b,13+k,none⟩=some (.int .i64 (z.getD (12+k) 0)):=by
 have:=h.hi (k:=8+k) aa
 rwa [show 5+(8+k)=13+k by omega,show 4+(8+k)=12+k by omega] at this
theorem rq(f:Nat→Bool)(k:Nat)(hk:k<4)(h:f k=false):(List.range 4).all f=false:=List.all_eq_false.2 ⟨k,List.mem_range.2 hk,by simp[h]⟩
theorem oN(f:Nat→Bool)(h: ∀k,k<4→f k=true):(List.range 4).all f=true:=List.all_eq_true.2 (fun k hk=>h k (List.mem_range.1 hk))
theorem wC(z:List Int)(hz:z.length=28)(ao:Option Addr)(n cap:Nat)(ts:List (Int×Int))(w:World)(h:bP eY 2 (0,0) w ao n ts):Calls Tryz.prog 170 #[.agg (frC z (.slice ao n cap))] w (fun e w'=>e= .returned (.bool (fQ z ts))∧Below w.heap.size w w'):=by
 have D1:=ae w (.cells (frC z (.slice ao n cap)) 196)
 have C5:fJ (w.alloc (.cells (frC z (.slice ao n cap)) 196)) w.heap.size z (.slice ao n cap):=⟨L9 w _,hz⟩
 have hT:=h.aj D1
 obtain⟨hG,hS⟩:=gs_any z
 have HG:=MI hG
 have HS:=MI hS
 clear hG hS h
 have HF:Hid (fQ z ts=(inB 3 (gn z)&&rtB ts&&inB 23 (sc z)&&(List.range 4).all (kP z))):=rfl
 have C8:Hid (∀k,kP z k=(decide (0≤z.getD (8+k) 0)&&decide (z.getD (8+k) 0≤24)&&(List.range 4).all (fun m=>dX (z.getD (12+4*k+m) 0) (z.getD (8+k) 0).toNat))):=fun _=>rfl
 generalize inB 3 (gn z)=Bg at*
 generalize inB 23 (sc z)=Bs at*
 generalize D6:rtB ts=Bt at*
 generalize D7:(List.range 4).all (kP z)=Bb at*
 have D2:=MI D7
 have D8:=MI D6
 clear D7 D6
 go_enter Tryz.func170,Tryz.ntmps170
 go_upto_region 1 with fail
 generalize w.alloc (.cells (frC z (.slice ao n cap)) 196)=W at*
 have C9:Hid (∀w',Below W.heap.size W w'→Calls Tryz.prog 205 #[.slice ao n cap] w' (fun e w''=>e= .returned (.bool Bt)∧Below w'.heap.size w' w'')):=fun w' h=>by
  have:=DW ao n cap ts w' (hT.aj h)
  unfold RtP at this
  rwa [D8.out] at this
 obtain⟨c0,c1,c2,c3⟩:=C5.gains
 have C7:=MI (fun w' (h:Below W.heap.size W w')=>(C5.aj h).mid)
 have D0:=MI (fun w' (h:Below W.heap.size W w')=>(C5.aj h).scales)
 have D9:=MI (fun w' (h:Below W.heap.size W w')=>(C5.aj h).widths)
 have HQ:=MI (fun w' (h:Below W.heap.size W w') k (hk:k<16)=>(C5.aj h).q hk)
 have HB:=MI D1
 have b0:=C8.out 0
 have b1:=C8.out 1
 have b2:=C8.out 2
 have b3:=C8.out 3
 simp only[Nat.add_zero,Nat.mul_zero,Nat.mul_one,Nat.reduceAdd,Nat.reduceMul] at b0 b1 b2 b3
 have B0:=MI b0
 have B1:=MI b1
 have B2:=MI b2
 have B3:=MI b3
 clear C5 hT D1 b0 b1 b2 b3 hz
 generalize z.getD 0 0=x0 at*
 generalize z.getD 1 0=x1 at*
 generalize z.getD 2 0=x2 at*
 generalize z.getD 3 0=x3 at*
 generalize z.getD 4 0=x4 at*
 generalize z.getD 5 0=x5 at*
 generalize z.getD 6 0=x6 at*
 generalize z.getD 7 0=x7 at*
 generalize z.getD 8 0=x8 at*
 generalize z.getD 9 0=x9 at*
 generalize z.getD 10 0=x10 at*
 generalize z.getD 11 0=x11 at*
 cases Bg
 ·go_wp2_with (go_at_call 204;refine(HG.out _).mono ?_;rintro e w1 ⟨rfl,A0⟩)
  go_ret
  exact⟨aP (by rw[HF.out];simp),HB.out.trans (A0.mono HB.out.size)⟩
 cases Bt
 ·go_wp2_with (first | (go_at_call 204;refine(HG.out _).mono ?_;rintro e w1 ⟨rfl,A0⟩;have c4:=C7.out _ A0) | (go_at_call 205;refine(C9.out _ A0).mono ?_;rintro e w2 ⟨rfl,B5⟩;have A4:=A0.trans (B5.mono A0.size);obtain⟨s0,s1,s2,s3⟩:=D0.out _ A4) | (go_at_call 206;refine(HS.out _).mono ?_;rintro e w3 ⟨rfl,C6⟩;have J:=A4.trans (C6.mono A4.size)))
  go_ret
  exact⟨aP (by rw[HF.out];simp),HB.out.trans ((A0.trans (B5.mono A0.size)).mono HB.out.size)⟩
 cases Bs
 ·go_wp2_with (first | (go_at_call 204;refine(HG.out _).mono ?_;rintro e w1 ⟨rfl,A0⟩;have c4:=C7.out _ A0) | (go_at_call 205;refine(C9.out _ A0).mono ?_;rintro e w2 ⟨rfl,B5⟩;have A4:=A0.trans (B5.mono A0.size);obtain⟨s0,s1,s2,s3⟩:=D0.out _ A4) | (go_at_call 206;refine(HS.out _).mono ?_;rintro e w3 ⟨rfl,C6⟩;have J:=A4.trans (C6.mono A4.size)))
  go_ret
  exact⟨aP (by rw[HF.out];simp),HB.out.trans (J.mono HB.out.size)⟩
 go_upto_region 3 with(first | (go_at_call 204;refine(HG.out _).mono ?_;rintro e w1 ⟨rfl,A0⟩;have c4:=C7.out _ A0) | (go_at_call 205;refine(C9.out _ A0).mono ?_;rintro e w2 ⟨rfl,B5⟩;have A4:=A0.trans (B5.mono A0.size);obtain⟨s0,s1,s2,s3⟩:=D0.out _ A4) | (go_at_call 206;refine(HS.out _).mono ?_;rintro e w3 ⟨rfl,C6⟩;have J:=A4.trans (C6.mono A4.size)))
 obtain⟨d0,d1,d2,d3⟩:=D9.out _ J
 have A8:Hid (∀k,k<4→kP z k=false→Bb=false):=fun k hk h=>by rw[←D2.out];exact rq _ k hk h
 have E0:Hid ((∀k,k<4→kP z k=true)→Bb=true):=fun h=>by rw[←D2.out];exact oN _ h
 clear c0 c1 c2 c3 c4 s0 s1 s2 s3 HG HS C9 C7 D0 A0 B5 C6 A4 C8 D2 D8 D9
 go_upto_region 4 with fail
 clear d0 d1 d2 d3
 go_loopw [25] (fun v25 wr=>∃j:Nat,j≤4∧v25= .int .i64 (j:Int)∧Hid (∀k,k<j→kP z k=true)∧wr=w3) (fun v25 _=>4 - aC v25)
 case atStart=>exact⟨0,aa,rfl,fun k hk=>aa,rfl⟩
 case round=>
  obtain⟨j,hj,rfl,A2,A6⟩:=hrel
  have A7:=A6.symm
  clear A6
  subst A7
  by_cases E1:j<4
  ·rcases(show j=0∨j=1∨j=2∨j=3 by omega) with rfl | rfl | rfl | rfl
   ·have I:=B0.out
    have D3: ∀w,(Instr.index 191 (.agg #[.int .i64 x8,.int .i64 x9,.int .i64 x10,.int .i64 x11]) (.int .i64 0)).run Tryz.prog w= .ok (.int .i64 x8) w:=fun w=>by kernel_rfl
    by_cases B6:x8<0
    ·have R:=A8.out 0 aq (by rw[I];simp;omega)
     have A3:=MI R
     clear I R A2
     go_wp2_with fail
     go_ret
     exact⟨aP (by rw[HF.out,A3.out];rfl),HB.out.trans (J.mono HB.out.size)⟩
    by_cases B4:24<x8
    ·have R:=A8.out 0 aq (by rw[I];simp;omega)
     have A3:=MI R
     clear I R A2
     go_wp2_with fail
     go_ret
     exact⟨aP (by rw[HF.out,A3.out];rfl),HB.out.trans (J.mono HB.out.size)⟩
    obtain⟨xn,B7⟩: ∃xn:Nat,x8=(xn:Int):=⟨(x8).toNat,aa⟩
    subst B7
    rw[Int.toNat_natCast,decide_eq_true (show(0:Int)≤(xn:Int) by omega),decide_eq_true (show(xn:Int)≤24 by omega),Bool.true_and,Bool.true_and] at I
    have HJ:=MI I
    have B8:xn≤57:=aa
    have D4:¬(xn:Int)<0:=aa
    have D5:¬24<(xn:Int):=aa
    clear I B6 B4
    go_upto_region 9 with fail
    go_loopw [43] (fun v43 wr=>∃m:Nat,m≤4∧v43= .int .i64 (m:Int)∧Hid (∀k,k<m→dX (z.getD (12+0+k) 0) xn=true)∧wr=w3) (fun v43 _=>4 - aC v43)
    case atStart=>exact⟨0,aa,rfl,fun k hk=>aa,rfl⟩
    case round=>
     obtain⟨m,hm,rfl,U,A6⟩:=hrel
     have A7:=A6.symm
     clear A6
     subst A7
     by_cases B9:m<4
     ·have C0:=HQ.out w3 J (0+m) aa
      rw[show 13+(0+m)=13+m by omega,show 12+(0+m)=12+0+m by omega] at C0
      have A9:=fun w=>fits_any (z.getD (12+0+m) 0) xn B8 w
      have o:dX (z.getD (12+0+m) 0) xn=true→Hid (∀k,k<m+1→dX (z.getD (12+0+k) 0) xn=true):=fun h k hk=>by
       by_cases C1:k=m
       ·subst C1;exact h
       ·exact U.out k aa
      have A5:dX (z.getD (12+0+m) 0) xn=false→Hid (Bb=false):=fun h=>A8.out 0 aq (by rw[HJ.out];exact rq _ m B9 h)
      generalize z.getD (12+0+m) 0=qm at*
      have A1:=MI A9
      clear A9
      cases hb:dX qm xn with
      | true=>
       rw[hb] at A1
       have HY:=o hb
       clear o A5 hb U
       go_wp2_with (go_at_call 207;refine(A1.out _).mono ?_;rintro e w5 ⟨rfl,rfl⟩)
       refine⟨⟨m+1,aa,aD,HY.out,trivial⟩,?_⟩
       simp[aC];omega
      | false=>
       rw[hb] at A1
       have C2:=A5 hb
       clear o A5 hb U
       go_wp2_with (go_at_call 207;refine(A1.out _).mono ?_;rintro e w5 ⟨rfl,rfl⟩)
       go_ret
       exact⟨aP (by rw[HF.out,C2.out];rfl),HB.out.trans (J.mono HB.out.size)⟩
     ·obtain rfl:m=4:=aa
      have C3:Hid (∀k,k<0+1→kP z k=true):=fun k hk=>by
       by_cases C4:k=0
       ·subst C4;rw[HJ.out];exact oN _ U.out
       ·exact A2.out k aa
      clear U A2
      go_wp2_with fail
      refine⟨⟨0+1,aa,aD,C3.out,trivial⟩,?_⟩
      simp[aC]
   ·have I:=B1.out
    have D3: ∀w,(Instr.index 191 (.agg #[.int .i64 x8,.int .i64 x9,.int .i64 x10,.int .i64 x11]) (.int .i64 1)).run Tryz.prog w= .ok (.int .i64 x9) w:=fun w=>by kernel_rfl
    by_cases B6:x9<0
    ·have R:=A8.out 1 aq (by rw[I];simp;omega)
     have A3:=MI R
     clear I R A2
     go_wp2_with fail
     go_ret
     exact⟨aP (by rw[HF.out,A3.out];rfl),HB.out.trans (J.mono HB.out.size)⟩
    by_cases B4:24<x9
    ·have R:=A8.out 1 aq (by rw[I];simp;omega)
     have A3:=MI R
     clear I R A2
     go_wp2_with fail
     go_ret
     exact⟨aP (by rw[HF.out,A3.out];rfl),HB.out.trans (J.mono HB.out.size)⟩
    obtain⟨xn,B7⟩: ∃xn:Nat,x9=(xn:Int):=⟨(x9).toNat,aa⟩
    subst B7
    rw[Int.toNat_natCast,decide_eq_true (show(0:Int)≤(xn:Int) by omega),decide_eq_true (show(xn:Int)≤24 by omega),Bool.true_and,Bool.true_and] at I
    have HJ:=MI I
    have B8:xn≤57:=aa
    have D4:¬(xn:Int)<0:=aa
    have D5:¬24<(xn:Int):=aa
    clear I B6 B4
    go_upto_region 9 with fail
    go_loopw [43] (fun v43 wr=>∃m:Nat,m≤4∧v43= .int .i64 (m:Int)∧Hid (∀k,k<m→dX (z.getD (12+4+k) 0) xn=true)∧wr=w3) (fun v43 _=>4 - aC v43)
    case atStart=>exact⟨0,aa,rfl,fun k hk=>aa,rfl⟩
    case round=>
     obtain⟨m,hm,rfl,U,A6⟩:=hrel
     have A7:=A6.symm
     clear A6
     subst A7
     by_cases B9:m<4
     ·have C0:=HQ.out w3 J (4+m) aa
      rw[show 13+(4+m)=17+m by omega,show 12+(4+m)=12+4+m by omega] at C0
      have A9:=fun w=>fits_any (z.getD (12+4+m) 0) xn B8 w
      have o:dX (z.getD (12+4+m) 0) xn=true→Hid (∀k,k<m+1→dX (z.getD (12+4+k) 0) xn=true):=fun h k hk=>by
       by_cases C1:k=m
       ·subst C1;exact h
       ·exact U.out k aa
      have A5:dX (z.getD (12+4+m) 0) xn=false→Hid (Bb=false):=fun h=>A8.out 1 aq (by rw[HJ.out];exact rq _ m B9 h)
      generalize z.getD (12+4+m) 0=qm at*
      have A1:=MI A9
      clear A9
      cases hb:dX qm xn with
      | true=>
       rw[hb] at A1
       have HY:=o hb
       clear o A5 hb U
       go_wp2_with (go_at_call 207;refine(A1.out _).mono ?_;rintro e w5 ⟨rfl,rfl⟩)
       refine⟨⟨m+1,aa,aD,HY.out,trivial⟩,?_⟩
       simp[aC];omega
      | false=>
       rw[hb] at A1
       have C2:=A5 hb
       clear o A5 hb U
       go_wp2_with (go_at_call 207;refine(A1.out _).mono ?_;rintro e w5 ⟨rfl,rfl⟩)
       go_ret
       exact⟨aP (by rw[HF.out,C2.out];rfl),HB.out.trans (J.mono HB.out.size)⟩
     ·obtain rfl:m=4:=aa
      have C3:Hid (∀k,k<1+1→kP z k=true):=fun k hk=>by
       by_cases C4:k=1
       ·subst C4;rw[HJ.out];exact oN _ U.out
       ·exact A2.out k aa
      clear U A2
      go_wp2_with fail
      refine⟨⟨1+1,aa,aD,C3.out,trivial⟩,?_⟩
      simp[aC]
   ·have I:=B2.out
    have D3: ∀w,(Instr.index 191 (.agg #[.int .i64 x8,.int .i64 x9,.int .i64 x10,.int .i64 x11]) (.int .i64 2)).run Tryz.prog w= .ok (.int .i64 x10) w:=fun w=>by kernel_rfl
    by_cases B6:x10<0
    ·have R:=A8.out 2 aq (by rw[I];simp;omega)
     have A3:=MI R
     clear I R A2
     go_wp2_with fail
     go_ret
     exact⟨aP (by rw[HF.out,A3.out];rfl),HB.out.trans (J.mono HB.out.size)⟩
    by_cases B4:24<x10
    ·have R:=A8.out 2 aq (by rw[I];simp;omega)
     have A3:=MI R
     clear I R A2
     go_wp2_with fail
     go_ret
     exact⟨aP (by rw[HF.out,A3.out];rfl),HB.out.trans (J.mono HB.out.size)⟩
    obtain⟨xn,B7⟩: ∃xn:Nat,x10=(xn:Int):=⟨(x10).toNat,aa⟩
    subst B7
    rw[Int.toNat_natCast,decide_eq_true (show(0:Int)≤(xn:Int) by omega),decide_eq_true (show(xn:Int)≤24 by omega),Bool.true_and,Bool.true_and] at I
    have HJ:=MI I
    have B8:xn≤57:=aa
    have D4:¬(xn:Int)<0:=aa
    have D5:¬24<(xn:Int):=aa
    clear I B6 B4
    go_upto_region 9 with fail
    go_loopw [43] (fun v43 wr=>∃m:Nat,m≤4∧v43= .int .i64 (m:Int)∧Hid (∀k,k<m→dX (z.getD (12+8+k) 0) xn=true)∧wr=w3) (fun v43 _=>4 - aC v43)
    case atStart=>exact⟨0,aa,rfl,fun k hk=>aa,rfl⟩
    case round=>
     obtain⟨m,hm,rfl,U,A6⟩:=hrel
     have A7:=A6.symm
     clear A6
     subst A7
     by_cases B9:m<4
     ·have C0:=HQ.out w3 J (8+m) aa
      rw[show 13+(8+m)=21+m by omega,show 12+(8+m)=12+8+m by omega] at C0
      have A9:=fun w=>fits_any (z.getD (12+8+m) 0) xn B8 w
      have o:dX (z.getD (12+8+m) 0) xn=true→Hid (∀k,k<m+1→dX (z.getD (12+8+k) 0) xn=true):=fun h k hk=>by
       by_cases C1:k=m
       ·subst C1;exact h
       ·exact U.out k aa
      have A5:dX (z.getD (12+8+m) 0) xn=false→Hid (Bb=false):=fun h=>A8.out 2 aq (by rw[HJ.out];exact rq _ m B9 h)
      generalize z.getD (12+8+m) 0=qm at*
      have A1:=MI A9
      clear A9
      cases hb:dX qm xn with
      | true=>
       rw[hb] at A1
       have HY:=o hb
       clear o A5 hb U
       go_wp2_with (go_at_call 207;refine(A1.out _).mono ?_;rintro e w5 ⟨rfl,rfl⟩)
       refine⟨⟨m+1,aa,aD,HY.out,trivial⟩,?_⟩
       simp[aC];omega
      | false=>
       rw[hb] at A1
       have C2:=A5 hb
       clear o A5 hb U
       go_wp2_with (go_at_call 207;refine(A1.out _).mono ?_;rintro e w5 ⟨rfl,rfl⟩)
       go_ret
       exact⟨aP (by rw[HF.out,C2.out];rfl),HB.out.trans (J.mono HB.out.size)⟩
     ·obtain rfl:m=4:=aa
      have C3:Hid (∀k,k<2+1→kP z k=true):=fun k hk=>by
       by_cases C4:k=2
       ·subst C4;rw[HJ.out];exact oN _ U.out
       ·exact A2.out k aa
      clear U A2
      go_wp2_with fail
      refine⟨⟨2+1,aa,aD,C3.out,trivial⟩,?_⟩
      simp[aC]
   ·have I:=B3.out
    have D3: ∀w,(Instr.index 191 (.agg #[.int .i64 x8,.int .i64 x9,.int .i64 x10,.int .i64 x11]) (.int .i64 3)).run Tryz.prog w= .ok (.int .i64 x11) w:=fun w=>by kernel_rfl
    by_cases B6:x11<0
    ·have R:=A8.out 3 aq (by rw[I];simp;omega)
     have A3:=MI R
     clear I R A2
     go_wp2_with fail
     go_ret
     exact⟨aP (by rw[HF.out,A3.out];rfl),HB.out.trans (J.mono HB.out.size)⟩
    by_cases B4:24<x11
    ·have R:=A8.out 3 aq (by rw[I];simp;omega)
     have A3:=MI R
     clear I R A2
     go_wp2_with fail
     go_ret
     exact⟨aP (by rw[HF.out,A3.out];rfl),HB.out.trans (J.mono HB.out.size)⟩
    obtain⟨xn,B7⟩: ∃xn:Nat,x11=(xn:Int):=⟨(x11).toNat,aa⟩
    subst B7
    rw[Int.toNat_natCast,decide_eq_true (show(0:Int)≤(xn:Int) by omega),decide_eq_true (show(xn:Int)≤24 by omega),Bool.true_and,Bool.true_and] at I
    have HJ:=MI I
    have B8:xn≤57:=aa
    have D4:¬(xn:Int)<0:=aa
    have D5:¬24<(xn:Int):=aa
    clear I B6 B4
    go_upto_region 9 with fail
    go_loopw [43] (fun v43 wr=>∃m:Nat,m≤4∧v43= .int .i64 (m:Int)∧Hid (∀k,k<m→dX (z.getD (12+12+k) 0) xn=true)∧wr=w3) (fun v43 _=>4 - aC v43)
    case atStart=>exact⟨0,aa,rfl,fun k hk=>aa,rfl⟩
    case round=>
     obtain⟨m,hm,rfl,U,A6⟩:=hrel
     have A7:=A6.symm
     clear A6
     subst A7
     by_cases B9:m<4
     ·have C0:=HQ.out w3 J (12+m) aa
      rw[show 13+(12+m)=25+m by omega,show 12+(12+m)=12+12+m by omega] at C0
      have A9:=fun w=>fits_any (z.getD (12+12+m) 0) xn B8 w
      have o:dX (z.getD (12+12+m) 0) xn=true→Hid (∀k,k<m+1→dX (z.getD (12+12+k) 0) xn=true):=fun h k hk=>by
       by_cases C1:k=m
       ·subst C1;exact h
       ·exact U.out k aa
      have A5:dX (z.getD (12+12+m) 0) xn=false→Hid (Bb=false):=fun h=>A8.out 3 aq (by rw[HJ.out];exact rq _ m B9 h)
      generalize z.getD (12+12+m) 0=qm at*
      have A1:=MI A9
      clear A9
      cases hb:dX qm xn with
      | true=>
       rw[hb] at A1
       have HY:=o hb
       clear o A5 hb U
       go_wp2_with (go_at_call 207;refine(A1.out _).mono ?_;rintro e w5 ⟨rfl,rfl⟩)
       refine⟨⟨m+1,aa,aD,HY.out,trivial⟩,?_⟩
       simp[aC];omega
      | false=>
       rw[hb] at A1
       have C2:=A5 hb
       clear o A5 hb U
       go_wp2_with (go_at_call 207;refine(A1.out _).mono ?_;rintro e w5 ⟨rfl,rfl⟩)
       go_ret
       exact⟨aP (by rw[HF.out,C2.out];rfl),HB.out.trans (J.mono HB.out.size)⟩
     ·obtain rfl:m=4:=aa
      have C3:Hid (∀k,k<3+1→kP z k=true):=fun k hk=>by
       by_cases C4:k=3
       ·subst C4;rw[HJ.out];exact oN _ U.out
       ·exact A2.out k aa
      clear U A2
      go_wp2_with fail
      refine⟨⟨3+1,aa,aD,C3.out,trivial⟩,?_⟩
      simp[aC]
  ·obtain rfl:j=4:=aa
   have A3:=MI (E0.out A2.out)
   go_wp2_with fail
   go_ret
   exact⟨aP (by rw[HF.out,A3.out];rfl),HB.out.trans (J.mono HB.out.size)⟩
end Go.Proofs.YtnicjahcgnhogaaGreatDoor
namespace Go.Calli
open Go.RowKit
theorem oM{P:Program}{w w':World}(t ty e:TypeId)(size:Nat)(hu:P.underlying t=some (.slice e)){i:TypeInfo}(hi:P.info? e=some i){z:Value}(hz:i.zero=some z)(R:i.size=size)
  (B:Nat) (v v':Value) (n:Nat) (xs:List Value) (U:w.ownsRow B e size v n xs)
  (ad:Addr) (m c:Nat) (news:List Value) (hl:news.length=m*size) (J: ∀j u,news[j]? =some u→w.cell? (ad.add j)=some u) (h1: ∀u ∈ news,u.oneCell'=true)
  (A0:(n+m)*i.bytes≤140737488355328) (hn:n+m≤maxLen)
  (hr:(Builtin.append_ #[t,t] ty #[v,.slice (some ad) m c]).run P w= .ok v' w'):v'.ownBlock=v.ownBlock∨v'.ownBlock=some w.heap.size:=by
 unfold maxLen at hn
 rcases U.2 with⟨rfl,rfl⟩ | ⟨g,cap,cur,rfl,A3,hg,A4,A5,A1,A2⟩
 ·by_cases hm:m=0
  ·subst hm
   have I:(Builtin.append_ #[t,t] ty #[.slice none 0 0,.slice (some ad) 0 c]).run P w= .ok (.slice none 0 0) w:=by
    simp[Builtin.append_,run_underlying hu,sizeOf,typeInfo,hi,Builtin.lenOf,Builtin.firstCells,loadCells,loadCellsFrom]
   rw[I] at hr
   cases hr
   exact .inl rfl
  ·have I:=run_append_nil (P:=P) w t ty e i z hu hi hz ad m c news (by rw[R];exact hl) J aa aa (by simp only[Nat.zero_add] at A0;omega)
   rw[I] at hr
   cases hr
   exact .inr rfl
 ·by_cases o:n+m≤cap
  ·have I:=run_append_room (P:=P) w t ty e i hu hi g n cap cur hg ad m c news (by rw[R];exact hl) J h1 o (by
    rw[R,A1,hl,←Nat.add_mul]
    exact Nat.mul_le_mul_right _ o)
   rw[I] at hr
   cases hr
   exact .inl rfl
  ·have holds: ∀j u,xs[j]? =some u→w.cell? ((⟨g,0,none⟩:Addr).add j)=some u:=U.cells (g:=g) rfl
   have I:=run_append_grow (P:=P) w t ty e i z hu hi hz ⟨g,0,none⟩ n cap xs (by rw[R];exact U.1) holds ad m c news (by rw[R];exact hl) J aa aa (growslice_fits aa A0)
   rw[I] at hr
   cases hr
   exact .inr rfl
theorem fV{P:Program}(w:World)(t ty e:TypeId)(size:Nat)(hu:P.underlying t=some (.slice e))
  {z:Value} {bytes:Nat} (R:(P.info? e).map (fun i=>(i.zero,i.size,i.bytes))=some (some z,size,bytes)) (A1:z.cells.size=size) (A2:0<size)
  (B:Nat) (v:Value) (n:Nat) (xs:List Value) (J:w.ownsRow B e size v n xs) (us:List Value) (U:us.length=size) (h1: ∀u ∈ us,u.oneCell'=true)
  (j:(n+1)*bytes≤140737488355328) (hn:n+1≤maxLen) (hB:B≤w.heap.size):
  ∃v' w',(Builtin.append_ #[t,t] ty #[v,.slice (some ⟨w.heap.size,0,none⟩) 1 1]).run P (w.alloc (.cells us.toArray e))= .ok v' w'∧w'.ownsRow B e size v' (n+1) (xs++us)∧ag (fun k=>v.ownBlock=some k) w w'∧(∀k,v'.ownBlock=some k→v.ownBlock=some k∨w.heap.size≤k):=by
 obtain⟨i,hi,hz,o,A0⟩:=info_parts R
 obtain⟨v',w',hr,h2,h3,_⟩:=run_append_own (P:=P) (w.alloc (.cells us.toArray e)) B t ty e i z size bytes hu hi hz o A0 A1 A2 v n xs (J.alloc _) ⟨w.heap.size,0,none⟩ 1 1 us (by rw[U];omega) (zG _ _ _) h1 hn j (by simp;omega)
 have I:=oM (P:=P) t ty e size hu hi hz o B v v' n xs (J.alloc _) ⟨w.heap.size,0,none⟩ 1 1 us (by rw[U];omega) (zG _ _ _) h1 (by rw[A0];exact j) hn hr
 refine⟨v',w',hr,h2,((ag.refl _ w).alloc _).grown h3 fun k hk=>.inr hk,fun k hk=>?_⟩
 rcases I with I | I
 ·exact .inl (I▸hk)
 ·rw[I] at hk
  cases hk
  exact .inr (by rw[World.size_alloc];omega)
theorem addr_add(a:Addr)(i j:Nat):(a.add i).add j=a.add (i+j):=by
 unfold Addr.add
 split<;>split<;>simp_all<;>omega
theorem bP.flat{α:Type}{f:α→List Value}{size:Nat}{d:α}{w:World}{a:Addr}{n:Nat}{ms:List α}(h:bP f size d w (some a) n ms)(hf: ∀x,(f x).length=size)(I:0<size): ∀j u,(ms.flatMap f)[j]? =some u→w.cell? (a.add j)=some u:=by
 intro j u hu
 have hj:j<n*size:=by
  have:=(List.getElem?_eq_some_iff.1 hu).1
  rwa [flat_length f size hf,h.hlen] at this
 have hq:j/size<n:=Nat.div_lt_of_lt_mul (by rw[Nat.mul_comm];exact hj)
 have hr:j%size<size:=Nat.mod_lt _ I
 have he:j/size*size+j%size=j:=by rw[Nat.mul_comm];exact Nat.div_add_mod j size
 obtain⟨a',ha,hc⟩:=h.cell (j/size) hq
 cases ha
 have:=GU f size hf d ms (j/size) (j%size) (by rw[h.hlen];exact hq) hr
 rw[he] at this
 have h2:=hc (j%size) u (by rw[←this];exact hu)
 rwa [addr_add,he] at h2
theorem dU{P:Program}{w:World}{ops:Array Oper}{rest:List Oper}{o:Oper}{a:Act}{Q:Exit→Act→World→Prop}(A0:o.guard=none)(s x:Operand)(t e:TypeId)(size:Nat)
  (ho:o.op= .call {callee:=.builtin .append,args:=#[s,x],argTypes:=#[t,t]}) (hu:P.underlying t=some (.slice e))
  {z:Value} {bytes:Nat} (I:(P.info? e).map (fun i=>(i.zero,i.size,i.bytes))=some (some z,size,bytes)) (A1:z.cells.size=size) (A2:0<size)
  (B:Nat) (v:Value) (n:Nat) (xs:List Value) (hs:a.eval s=v) (U:w.ownsRow B e size v n xs) (ad:Addr) (m c:Nat) (us:List Value) (A3:us.length=m*size) (hx:a.eval x= .slice (some ad) m c) (J: ∀j u,us[j]? =some u→w.cell? (ad.add j)=some u) (h1: ∀u ∈ us,u.oneCell'=true)
  (A4:(n+m)*bytes≤140737488355328) (hn:n+m≤maxLen) (hB:B≤w.heap.size)
  (h: ∀v' w',w'.ownsRow B e size v' (n+m) (xs++us)→ag (fun k=>v.ownBlock=some k) w w'→wpList P ops Q rest (a.put o.dst v') w'):wpList P ops Q (o::rest) a w:=by
 obtain⟨i,hi,hz,A5,A6⟩:=info_parts I
 refine wpList_append_own _ A0 s x t ho B e i z size bytes hu hi hz A5 A6 A1 A2 v n xs hs U ad m c us hx A3 J h1 hn A4 hB ?_
 intro v' w' R hg _
 exact h v' w' R ((ag.refl _ w).grown hg fun k hk=>.inr hk)
theorem yh(w:World)(e size:Nat):(w.alloc (.cells #[] e)).ownsRow w.heap.size e size (.slice (some ⟨w.heap.size,0,none⟩) 0 0) 0 []:=
 ⟨ar,.inr ⟨w.heap.size,0,#[],rfl,Me,L9 _ _,Me,aE,ar,ar⟩⟩
end Go.Calli
namespace Go.Proofs.YtnicjahcgnhogaaGreatDoor
open Go Go.RowKit Go.Calli
attribute [local irreducible] wpStill wpAnyH wpAnyS wpList Code.wp
def df(bs:List Int)(r:Rd):Nat→List Int×Rd
 | 0=>([],r)
 | j+1=>((df bs r j).1++[((bT bs (df bs r j).2 2).1:Int)],(bT bs (df bs r j).2 2).2)
def fE(bs:List Int)(r:Rd):Nat→List (Int×Int)×Rd
 | 0=>([],r)
 | j+1=>((fE bs r j).1++[(((bT bs (fE bs r j).2 4).1:Int),(qf bs (bT bs (fE bs r j).2 4).2 24).1)],(qf bs (bT bs (fE bs r j).2 4).2 24).2)
structure SW where
 s:List Int
 w:List Int
 r:Rd
def bF(bs:List Int)(r:Rd):Nat→SW
 | 0=>⟨[],[],r⟩
 | j+1=>⟨(bF bs r j).s++[((bT bs (bF bs r j).r 5).1:Int)],(bF bs r j).w++[((bT bs (bT bs (bF bs r j).r 5).2 5).1:Int)],
   if 23<(bT bs (bF bs r j).r 5).1∨24<(bT bs (bT bs (bF bs r j).r 5).2 5).1 then vk (bT bs (bT bs (bF bs r j).r 5).2 5).2 4 else(bT bs (bT bs (bF bs r j).r 5).2 5).2⟩
def qF(bs:List Int)(wd:List Int)(r:Rd):Nat→List Int×Rd
 | 0=>([],r)
 | j+1=>((qF bs wd r j).1++[(qf bs (qF bs wd r j).2 (wd.getD (j/4) 0).toNat).1],(qf bs (qF bs wd r j).2 (wd.getD (j/4) 0).toNat).2)
theorem wz(bs:List Int)(r:Rd)(j:Nat):(df bs r j).1.length=j:=by
 induction j with
 | zero=>rfl
 | succ j ih=>rw[df];simp[ih]
theorem oh(bs:List Int)(r:Rd)(j:Nat):(bF bs r j).s.length=j∧(bF bs r j).w.length=j:=by
 induction j with
 | zero=>exact⟨rfl,rfl⟩
 | succ j ih=>rw[bF];simp[ih]
theorem LM(bs wd:List Int)(r:Rd)(j:Nat):(qF bs wd r j).1.length=j:=by
 induction j with
 | zero=>rfl
 | succ j ih=>rw[qF];simp[ih]
def pad(n:Nat)(l:List Int):List Int:=l++List.replicate (n - l.length) 0
theorem dF(n:Nat)(l:List Int)(h:l.length≤n):(pad n l).length=n:=by simp[pad];omega
theorem uz(n:Nat)(l:List Int)(v:Int)(h:l.length<n):(pad n l).set l.length v=pad n (l++[v]):=by
 unfold pad
 rw[List.set_append_right _ _ Me,Nat.sub_self]
 obtain⟨m,hm⟩: ∃m,n - l.length=m+1:=⟨n - l.length - 1,aa⟩
 rw[hm,List.replicate_succ,List.set_cons_zero,List.length_append,List.append_assoc]
 rw[show n - (l.length+[v].length)=m by simp;omega]
 rfl
theorem Gg(n:Nat)(l:List Int)(k:Nat)(h:k<l.length):(pad n l).getD k 0=l.getD k 0:=by
 unfold pad
 simp only[List.getD]
 rw[List.getElem?_append_left h]
def zz(g s w q:List Int):List Int:=pad 4 g++(pad 4 s++(pad 4 w++pad 16 q))
theorem zz_len{g s w q:List Int}(hg:g.length≤4)(hs:s.length≤4)(hw:w.length≤4)(hq:q.length≤16):(zz g s w q).length=28:=by
 unfold zz
 simp only[List.length_append,dF 4 g hg,dF 4 s hs,dF 4 w hw,dF 16 q hq]
theorem zz_g{g s w q:List Int}(hg:g.length<4)(v:Int):(zz g s w q).set g.length v=zz (g++[v]) s w q:=by
 unfold zz
 rw[List.set_append_left _ _ (by rw[dF 4 g aa];exact hg),uz 4 g v hg]
theorem zz_s{g s w q:List Int}(hg:g.length≤4)(hs:s.length<4)(v:Int):(zz g s w q).set (4+s.length) v=zz g (s++[v]) w q:=by
 unfold zz
 rw[List.set_append_right _ _ (by rw[dF 4 g hg];omega),dF 4 g hg,show 4+s.length - 4=s.length by omega,List.set_append_left _ _ (by rw[dF 4 s aa];exact hs),uz 4 s v hs]
theorem zz_w{g s w q:List Int}(hg:g.length≤4)(hs:s.length≤4)(hw:w.length<4)(v:Int):(zz g s w q).set (8+w.length) v=zz g s (w++[v]) q:=by
 unfold zz
 rw[List.set_append_right _ _ (by rw[dF 4 g hg];omega),dF 4 g hg,List.set_append_right _ _ (by rw[dF 4 s hs];omega),dF 4 s hs,show 8+w.length - 4 - 4=w.length by omega,List.set_append_left _ _ (by rw[dF 4 w aa];exact hw),uz 4 w v hw]
theorem zz_q{g s w q:List Int}(hg:g.length≤4)(hs:s.length≤4)(hw:w.length≤4)(hq:q.length<16)(v:Int):(zz g s w q).set (12+q.length) v=zz g s w (q++[v]):=by
 unfold zz
 rw[List.set_append_right _ _ (by rw[dF 4 g hg];omega),dF 4 g hg,List.set_append_right _ _ (by rw[dF 4 s hs];omega),dF 4 s hs,List.set_append_right _ _ (by rw[dF 4 w hw];omega),dF 4 w hw,show 12+q.length - 4 - 4 - 4=q.length by omega,uz 16 q v hq]
theorem JR{g s w q:List Int}(hg:g.length≤4)(hs:s.length≤4)(k:Nat)(hk:k<s.length):(zz g s w q).getD (4+k) 0=s.getD k 0:=by
 unfold zz
 simp only[List.getD]
 rw[List.getElem?_append_right (by rw[dF 4 g hg];omega),dF 4 g hg,show 4+k - 4=k by omega,List.getElem?_append_left (by rw[dF 4 s hs];omega)]
 have:=Gg 4 s k hk
 simpa only[List.getD] using this
theorem Ar{g s w q:List Int}(hg:g.length≤4)(hs:s.length≤4)(hw:w.length≤4)(k:Nat)(hk:k<w.length):(zz g s w q).getD (8+k) 0=w.getD k 0:=by
 unfold zz
 simp only[List.getD]
 rw[List.getElem?_append_right (by rw[dF 4 g hg];omega),dF 4 g hg,List.getElem?_append_right (by rw[dF 4 s hs];omega),dF 4 s hs,show 8+k - 4 - 4=k by omega,List.getElem?_append_left (by rw[dF 4 w hw];omega)]
 have:=Gg 4 w k hk
 simpa only[List.getD] using this
theorem fJ.AY{w:World}{b:Nat}{z:List Int}{tv:Value}(h:fJ w b z tv){k:Nat}(hk:k<4)(v:Int):fJ (w.setCell ⟨b,k,none⟩ (.int .i64 v)) b (z.set k v) tv:=
 ⟨by rw[Mc h.row,set_lo z tv h.len k hk],by rw[List.length_set];exact h.len⟩
theorem fJ.AZ{w:World}{b:Nat}{z:List Int}{tv:Value}(h:fJ w b z tv){k:Nat}(hk:k<24)(v:Int):fJ (w.setCell ⟨b,5+k,none⟩ (.int .i64 v)) b (z.set (4+k) v) tv:=
 ⟨by rw[Mc h.row,set_hi z tv h.len k hk],by rw[List.length_set];exact h.len⟩
theorem fJ.DV{w:World}{b:Nat}{z:List Int}{tv:Value}(h:fJ w b z tv)(tv':Value):fJ (w.setCell ⟨b,4,none⟩ tv') b z tv':=
 ⟨by rw[Mc h.row,set_mid z tv tv' h.len],h.len⟩
theorem fJ.kept{w w':World}{b:Nat}{z:List Int}{tv:Value}(h:fJ w b z tv){S:Nat→Prop}(hk:ag S w w')(hn:¬S b):fJ w' b z tv:=⟨hk.heap h.row hn,h.len⟩
theorem kQ.other{w w':World}{rb:Nat}{bo:Option Addr}{n cap:Nat}{bs:List Int}{r:Rd}(h:kQ w rb bo n cap bs r){S:Nat→Prop}(hk:ag S w w')(hn:¬S rb)(hb: ∀a,bo=some a→¬S a.block):kQ w' rb bo n cap bs r:=
 ⟨hk.heap h.row hn,h.bytes.kept hk hb,h.lim,h.at_,h.apart⟩
theorem Nu:(Tryz.prog.info? 282).map (fun i=>(i.zero,i.size,i.bytes))=some (some (.agg #[(),()]),2,16):=af
theorem results_cell_tmp{P:Program}{fn:Func}{p q:Tmp}{ty:TypeId}(h:fn.results=#[.cell p ty,.tmp q])(tmps:Array Value)(w:World)(g:Nat)(t:TypeId)(cs:Array Value)(fr:Nat×Nat)(d:TypeDesc)
  (hp:tmps.getD p undef= .pointer (some ⟨g,0,none⟩)) (hg:w.heap[g]? =some (.cells cs t fr))
  (hu:P.underlying ty=some d) (hd:(match d with | .struct _ | .array _ _=>true | _=>false)=true) (hi:(P.info? ty).map (·.size)=some cs.size):
  (results fn tmps).run P w= .ok (.tuple #[.agg cs,tmps.getD q undef]) w:=by
 have I:tmps[p]?.getD undef= .pointer (some ⟨g,0,none⟩):=by simpa using hp
 simp[results,h,I,asAddr,run_loadVar_row w g t ty cs fr d hg hu hd hi]
structure Fzz(w0:World)(b2 rb fb:Nat)(bo:Option Addr)(n cap:Nat)(bs:List Int)(w:World)(r:Rd)(z:List Int)(tv:Value):Prop where
 rd:kQ w rb bo n cap bs r
 fr:fJ w fb z tv
 out:w.heap[b2]? =some (.cells (frC (zz [] [] [] []) (.slice none 0 0)) 196 (0,0))
 low:Below w0.heap.size w0 w
 h2:b2=w0.heap.size
 h2r:b2<rb
 hrf:rb<fb
 hbo: ∀a,bo=some a→a.block<w0.heap.size
theorem Fzz.read{w0 w:World}{b2 rb fb:Nat}{bo:Option Addr}{n cap:Nat}{bs:List Int}{r:Rd}{z:List Int}{tv:Value}(h:Fzz w0 b2 rb fb bo n cap bs w r z tv){w':World}{r':Rd}(hr:kQ w' rb bo n cap bs r')(hk:ag (fun k=>k=rb) w w'):Fzz w0 b2 rb fb bo n cap bs w' r' z tv:=
 ⟨hr,h.fr.kept hk (by have:=h.hrf;omega),hk.heap h.out (by have:=h.h2r;omega),h.low.trans (hk.aW h.low.size (fun k hk e=>by have:=h.h2r;have:=h.h2;omega)),h.h2,h.h2r,h.hrf,h.hbo⟩
theorem Fzz.write{w0 w:World}{b2 rb fb:Nat}{bo:Option Addr}{n cap:Nat}{bs:List Int}{r:Rd}{z:List Int}{tv:Value}(h:Fzz w0 b2 rb fb bo n cap bs w r z tv){w':World}{z':List Int}{tv':Value}(hf:fJ w' fb z' tv')(hk:ag (fun k=>k=fb) w w'):Fzz w0 b2 rb fb bo n cap bs w' r z' tv':=
 ⟨h.rd.other hk (by have:=h.hrf;omega) (fun a ha e=>by have:=h.hbo a ha;have:=h.h2r;have:=h.hrf;have:=h.h2;omega),hf,hk.heap h.out (by have:=h.h2r;have:=h.hrf;omega),h.low.trans (hk.aW h.low.size (fun k hk e=>by have:=h.h2r;have:=h.hrf;have:=h.h2;omega)),h.h2,h.h2r,h.hrf,h.hbo⟩
theorem Fzz.AY{w0 w:World}{b2 rb fb:Nat}{bo:Option Addr}{n cap:Nat}{bs:List Int}{r:Rd}{z:List Int}{tv:Value}(h:Fzz w0 b2 rb fb bo n cap bs w r z tv){k:Nat}(hk:k<4)(v:Int):Fzz w0 b2 rb fb bo n cap bs (w.setCell ⟨fb,k,none⟩ (.int .i64 v)) r (z.set k v) tv:=h.write (h.fr.AY hk v) (eG _ _ _ _)
theorem Fzz.AZ{w0 w:World}{b2 rb fb:Nat}{bo:Option Addr}{n cap:Nat}{bs:List Int}{r:Rd}{z:List Int}{tv:Value}(h:Fzz w0 b2 rb fb bo n cap bs w r z tv){k:Nat}(hk:k<24)(v:Int):Fzz w0 b2 rb fb bo n cap bs (w.setCell ⟨fb,5+k,none⟩ (.int .i64 v)) r (z.set (4+k) v) tv:=h.write (h.fr.AZ hk v) (eG _ _ _ _)
theorem Fzz.DV{w0 w:World}{b2 rb fb:Nat}{bo:Option Addr}{n cap:Nat}{bs:List Int}{r:Rd}{z:List Int}{tv:Value}(h:Fzz w0 b2 rb fb bo n cap bs w r z tv)(tv':Value):Fzz w0 b2 rb fb bo n cap bs (w.setCell ⟨fb,4,none⟩ tv') r z tv':=h.write (h.fr.DV tv') (eG _ _ _ _)
theorem Fzz.below{w0 w:World}{b2 rb fb:Nat}{bo:Option Addr}{n cap:Nat}{bs:List Int}{r:Rd}{z:List Int}{tv:Value}(h:Fzz w0 b2 rb fb bo n cap bs w r z tv){w':World}(hb:Below w.heap.size w w'):Fzz w0 b2 rb fb bo n cap bs w' r z tv:=by
 have hk:ag (fun _=>False) w w':=ag.au hb Me
 exact⟨h.rd.other hk id (fun _ _=>id),h.fr.aj hb,hk.heap h.out id,h.low.trans (hb.mono h.low.size),h.h2,h.h2r,h.hrf,h.hbo⟩
theorem own_ne{w:World}{B e size n b T:Nat}{v:Value}{xs:List Value}{cs:Array Value}{fr:Nat×Nat}(I:w.ownsRow B e size v n xs)(h:w.heap[b]? =some (.cells cs T fr))(ht:e≠T)(k:Nat)(hk:v.ownBlock=some k):¬k=b:=by
 obtain⟨cs',hc⟩:=ah I hk
 exact aI hc h ht
theorem dh{w:World}{B e size n:Nat}{v:Value}{xs:List Value}(h:w.ownsRow B e size v n xs): ∃ao cap,v= .slice ao n cap:=by
 rcases h.2 with⟨rfl,rfl⟩ | ⟨g,cap,cur,rfl,hb,hg,hn,hc,hs,ht⟩
 ·exact⟨none,0,rfl⟩
 ·exact⟨_,_,rfl⟩
theorem jH{w:World}{B e size n:Nat}{v:Value}{xs:List Value}(h:w.ownsRow B e size v n xs){k:Nat}(hk:v.ownBlock=some k):B≤k:=by
 rcases h.2 with⟨rfl,rfl⟩ | ⟨g,cap,cur,rfl,hb,hg,hn,hc,hs,ht⟩
 ·simp[Value.ownBlock] at hk
 ·simp[Value.ownBlock] at hk
  omega
theorem Fzz.grow{w0 w:World}{b2 rb fb:Nat}{bo:Option Addr}{n cap:Nat}{bs:List Int}{r:Rd}{z:List Int}{tv:Value}(h:Fzz w0 b2 rb fb bo n cap bs w r z tv){v:Value}{m:Nat}{xs:List Value}(hO:w.ownsRow b2 282 2 v m xs){w':World}(hk:ag (fun k=>v.ownBlock=some k) w w'):Fzz w0 b2 rb fb bo n cap bs w' r z tv:=
 ⟨h.rd.other hk (fun e=>own_ne hO h.rd.row aq _ e rfl) (fun a ha e=>by have:=jH hO e;have:=h.hbo a ha;have:=h.h2;omega),h.fr.kept hk (fun e=>own_ne hO h.fr.row aq _ e rfl),hk.heap h.out (fun e=>own_ne hO h.out aq _ e rfl),h.low.trans (hk.aW h.low.size (fun k hk e=>by have:=jH hO e;have:=h.h2;omega)),h.h2,h.h2r,h.hrf,h.hbo⟩
theorem A7(bs:List Int)(r:Rd)(j:Nat): ∀k,k<j→∃m:Nat,(bF bs r j).w.getD k 0=(m:Int):=by
 induction j with
 | zero=>intro k hk;omega
 | succ j ih=>
  intro k hk
  have hl:=(oh bs r j).2
  rw[bF]
  simp only[List.getD]
  by_cases I:k<j
  ·rw[List.getElem?_append_left aa]
   simpa only[List.getD] using ih k I
  ·obtain rfl:k=j:=aa
   rw[List.getElem?_append_right aa,hl]
   exact⟨(bT bs (bT bs (bF bs r k).r 5).2 5).1,ar⟩
theorem Hr(t:Int×Int):(eY t).length=2:=rfl
theorem aK(w:World)(g:Nat)(cs:Array Value):ag (fun k=>k=g) w (w.setRow g cs):=⟨rfl,rfl,rfl,ar,fun k hk hn=>setRow_other _ _ _ _ hn⟩
theorem kW(z:List Int)(tv:Value)(h:z.length=28):(Tryz.prog.info? 196).map (·.size)=some (frC z tv).size:=by rw[bM z tv h];kernel_rfl
theorem dH(z:List Int)(ao:Option Addr)(n c:Nat):(frC z (.slice ao n c)).all (·.oneCell')=true:=by
 rw[Array.all_eq_true_iff_forall_mem]
 intro v hv
 have I:v ∈ (z.take 4).map (Value.int .i64)++Value.slice ao n c::(z.drop 4).map (Value.int .i64):=by simpa[frC] using hv
 rcases List.mem_append.1 I with h | h
 ·obtain⟨x,-,rfl⟩:=List.mem_map.1 h;rfl
 ·rcases List.mem_cons.1 h with rfl | h
  ·rfl
  ·obtain⟨x,-,rfl⟩:=List.mem_map.1 h;rfl
def r0(bs:List Int):Rd:=if(bT bs ⟨0,0⟩ 2).1≠1 then vk (bT bs ⟨0,0⟩ 2).2 4 else(bT bs ⟨0,0⟩ 2).2
structure FX where
 z:List Int
 t:List (Int×Int)
 e:Int
def frX(n:Nat)(bs:List Int):FX:=
 let G:=df bs (r0 bs) 4
 let C:=bT bs G.2 2
 let T:=fE bs C.2 C.1
 let S:=bF bs T.2 4
 let Q:=qF bs S.w S.r 16
 ⟨zz G.1 S.s S.w Q.1,T.1,(rW bs (8*n) Q.2).e⟩
def FrdP(n:Nat)(bs:List Int)(w:World)(e:Ending)(w':World):Prop:=Below w.heap.size w w'∧∃(z:List Int)(ao:Option Addr)(m c:Nat)(ts:List (Int×Int))(err:Int),e= .returned (.tuple #[.agg (frC z (.slice ao m c)),.int .i64 err])∧z.length=28∧bP eY 2 (0,0) w' ao m ts∧(∀a,ao=some a→w.heap.size≤a.block)∧((frX n bs).e=0→fQ (frX n bs).z (frX n bs).t=true→z=(frX n bs).z∧ts=(frX n bs).t∧err=0)
theorem ou(bs:List Int)(r:Rd)(k:Nat):(bT bs r k).1<2^k:=by
 unfold bT
 have:=Nat.one_le_two_pow (n:=k)
 split
 ·exact this
 ·split
  ·exact this
  ·split
   ·exact this
   ·exact zU _ _ _
theorem Jj(bo:Option Addr)(n cap:Nat)(bs:List Int)(hn:n≤1000)(w:World)(h:Ints .u8 w bo n bs)(hb: ∀a,bo=some a→a.block<w.heap.size):Calls Tryz.prog 265 #[.slice bo n cap] w (FrdP n bs w):=by
 have B1:=ae w (.cells #[(),(),(),(),.slice none 0 0,(),(),(),(),(),(),(),(),(),(),(),(),(),(),(),(),(),(),(),(),(),(),(),()] 196)
 have hz:=L9 w (.cells #[(),(),(),(),.slice none 0 0,(),(),(),(),(),(),(),(),(),(),(),(),(),(),(),(),(),(),(),(),(),(),(),()] 196)
 have HG:Hid (∀rb r k w,kQ w rb bo n cap bs r→Calls Tryz.prog 270 #[.pointer (some ⟨rb,0,none⟩),.int .i64 ((k:Nat):Int)] w (RdP rb bo n cap bs (bT bs r k).2 (.int .u64 ((bT bs r k).1:Int)) w)):=fun rb r k w h=>get_any rb bo n cap bs r k w h
 have D3:Hid (∀rb r k w,kQ w rb bo n cap bs r→Calls Tryz.prog 272 #[.pointer (some ⟨rb,0,none⟩),.int .i64 ((k:Nat):Int)] w (RdP rb bo n cap bs (qf bs r k).2 (.int .i64 (qf bs r k).1) w)):=fun rb r k w h=>DU rb bo n cap bs r k w h
 have D4:=MI (fun rb r E w h=>qU rb bo n cap bs r E w h)
 have F6:=MI (fun w h hb=>ve bo n cap bs hn w h hb)
 have HI:=MI (h.aj B1)
 have F7:=MI hb
 have HX:Hid (frX n bs=⟨zz (df bs (r0 bs) 4).1 (bF bs (fE bs (bT bs (df bs (r0 bs) 4).2 2).2 (bT bs (df bs (r0 bs) 4).2 2).1).2 4).s (bF bs (fE bs (bT bs (df bs (r0 bs) 4).2 2).2 (bT bs (df bs (r0 bs) 4).2 2).1).2 4).w (qF bs (bF bs (fE bs (bT bs (df bs (r0 bs) 4).2 2).2 (bT bs (df bs (r0 bs) 4).2 2).1).2 4).w (bF bs (fE bs (bT bs (df bs (r0 bs) 4).2 2).2 (bT bs (df bs (r0 bs) 4).2 2).1).2 4).r 16).1,(fE bs (bT bs (df bs (r0 bs) 4).2 2).2 (bT bs (df bs (r0 bs) 4).2 2).1).1,(rW bs (8*n) (qF bs (bF bs (fE bs (bT bs (df bs (r0 bs) 4).2 2).2 (bT bs (df bs (r0 bs) 4).2 2).1).2 4).w (bF bs (fE bs (bT bs (df bs (r0 bs) 4).2 2).2 (bT bs (df bs (r0 bs) 4).2 2).1).2 4).r 16).2).e⟩):=rfl
 have H6:=HG.out
 clear h hb
 go_enter Tryz.func265,Tryz.ntmps265
 go_upto_region 1 with fail
 generalize w.alloc (.cells #[(),(),(),(),.slice none 0 0,(),(),(),(),(),(),(),(),(),(),(),(),(),(),(),(),(),(),(),(),(),(),(),()] 196)=W at*
 go_upto_region 3 with(go_at_call 269;refine(F6.out _ HI.out (fun a ha=>by have:=F7.out a ha;have:=B1.size;omega)).mono ?_;rintro e w1 ⟨rb,rfl,hR,J1,C3⟩)
 have D5:=(C3.block _ (L8 hz)).trans hz
 have F8:=L9 w1 (.cells #[(),(),(),(),.slice none 0 0,(),(),(),(),(),(),(),(),(),(),(),(),(),(),(),(),(),(),(),(),(),(),(),()] 196)
 have C4:=ae w1 (.cells #[(),(),(),(),.slice none 0 0,(),(),(),(),(),(),(),(),(),(),(),(),(),(),(),(),(),(),(),(),(),(),(),()] 196)
 have F9:=L8 hR.row
 have H7:=L8 hz
 have hS:Fzz w w.heap.size rb w1.heap.size bo n cap bs (w1.alloc (.cells #[(),(),(),(),.slice none 0 0,(),(),(),(),(),(),(),(),(),(),(),(),(),(),(),(),(),(),(),(),(),(),(),()] 196)) ⟨0,0⟩ (zz [] [] [] []) (.slice none 0 0):=
  ⟨hR.other (S:=fun _=>False) (ag.au C4 Me) id (fun _ _=>id),⟨F8,rfl⟩,(C4.block _ (L8 D5)).trans D5,(B1.trans (C3.mono B1.size)).trans (C4.mono (B1.trans (C3.mono B1.size)).size),rfl,aa,F9,F7.out⟩
 clear hz D5 F8 C4 F9 H7 hR B1 C3 HI
 generalize w1.alloc (.cells #[(),(),(),(),.slice none 0 0,(),(),(),(),(),(),(),(),(),(),(),(),(),(),(),(),(),(),(),(),(),(),(),()] 196)=W1 at*
 generalize w1.heap.size=fb at*
 generalize I9:w.heap.size=b2 at*
 have B3:Hid (r0 bs=if(bT bs ⟨0,0⟩ 2).1≠1 then vk (bT bs ⟨0,0⟩ 2).2 4 else(bT bs ⟨0,0⟩ 2).2):=rfl
 have U:=MI (HG.out rb ⟨0,0⟩ 2)
 generalize bT bs ⟨0,0⟩ 2=X0 at*
 obtain⟨x0,q0⟩:=X0
 simp only at B3 U
 clear H6
 go_upto_if 14 with(go_at_call 270;refine(U.out _ hS.rd).mono ?_;rintro e w2 ⟨rfl,A0,R⟩)
 have I:=hS.read A0 R
 clear hS A0 R U
 go_cut [] (fun wx=>Fzz w b2 rb fb bo n cap bs wx (r0 bs) (zz [] [] [] []) (.slice none 0 0))
 case first=>
  clear HX HG D3 F6
  by_cases hx:x0=1
  ·subst hx
   have hr:=B3.out
   rw[if_neg ar] at hr
   have D6:=MI hr
   clear hr B3
   go_wp2_with fail
   go_meet
   rw[D6.out]
   exact I
  ·have hr:=B3.out
   rw[if_pos hx] at hr
   have D6:=MI hr
   have J2:¬(x0:Int)=1:=aa
   clear hr B3
   go_wp2_with (go_at_call 271;refine(D4.out _ _ _ _ I.rd).mono ?_;rintro e w3 ⟨rfl,B5,C5⟩)
   go_meet
   rw[D6.out]
   exact I.read B5 C5
 case rest=>
  have J:=MI hcut
  clear hcut I B3
  generalize r0 bs=R0 at*
  go_upto_region 6 with fail
  go_loopw [17] (fun v17 wr=>∃j:Nat,j≤4∧v17= .int .i64 (j:Int)∧Fzz w b2 rb fb bo n cap bs wr (df bs R0 j).2 (zz (df bs R0 j).1 [] [] []) (.slice none 0 0)) (fun v17 _=>4 - aC v17)
  case atStart=>exact⟨0,aa,rfl,J.out⟩
  case round=>
   clear J
   obtain⟨j,hj,rfl,hS⟩:=hrel
   by_cases D7:j<4
   ·have o:df bs R0 (j+1)=((df bs R0 j).1++[((bT bs (df bs R0 j).2 2).1:Int)],(bT bs (df bs R0 j).2 2).2):=rfl
    have D8:=wz bs R0 j
    have U:=MI (HG.out rb (df bs R0 j).2 2)
    have A6:=ou bs (df bs R0 j).2 2
    have C6:=zz_g (g:=(df bs R0 j).1) (s:=[]) (w:=[]) (q:=[]) (by rw[D8];exact D7) ((bT bs (df bs R0 j).2 2).1:Int)
    rw[D8] at C6
    generalize bT bs (df bs R0 j).2 2=X at*
    obtain⟨x,q⟩:=X
    simp only at o U A6 C6
    have A3:=MI o
    have H8:=MI C6
    have G0:IntKind.i64.wrap (x:Int)=(x:Int):=IntWalk.i64_in _ aa
    clear o C6 A6 D8
    generalize df bs R0 j=Gj at*
    go_wp2_with (go_at_call 270;refine(U.out _ hS.rd).mono ?_;rintro e w2 ⟨rfl,A0,R⟩;have I:=hS.read A0 R;have cj:=I.fr.lo D7;have fj:=ay I.fr.row j)
    refine⟨⟨j+1,aa,aD,?_⟩,?_⟩
    ·rw[A3.out]
     have:=I.AY D7 (x:Int)
     rw[H8.out] at this
     exact this
    ·simp[aC];omega
   ·obtain rfl:j=4:=aa
    have U:=MI (HG.out rb (df bs R0 4).2 2)
    have H9:=ou bs (df bs R0 4).2 2
    have G1:=wz bs R0 4
    generalize bT bs (df bs R0 4).2 2=XC at*
    obtain⟨C,qC⟩:=XC
    simp only at HX U H9
    have C7:Hid ((df bs R0 4).1.length=4):=G1
    clear G1
    generalize df bs R0 4=G4 at*
    go_upto_region 11 with(go_at_call 270;refine(U.out _ hS.rd).mono ?_;rintro e w2 ⟨rfl,A0,R⟩)
    have I:=MI (hS.read A0 R)
    clear hS A0 R U
    go_loopw [29] (fun v29 wr=>∃j:Nat,j≤C∧v29= .int .u64 (j:Int)∧∃tv,Fzz w b2 rb fb bo n cap bs wr (fE bs qC j).2 (zz G4.1 [] [] []) tv∧wr.ownsRow b2 282 2 tv j ((fE bs qC j).1.flatMap eY)) (fun v29 _=>C - aC v29)
    case atStart=>exact⟨0,aa,rfl,_,I.out,World.ownsRow_nil _ _ _ _⟩
    case round=>
     clear I
     obtain⟨j,hj,rfl,tv,hS,hO⟩:=hrel
     by_cases J3:j<C
     ·have o:fE bs qC (j+1)=((fE bs qC j).1++[(((bT bs (fE bs qC j).2 4).1:Int),(qf bs (bT bs (fE bs qC j).2 4).2 24).1)],(qf bs (bT bs (fE bs qC j).2 4).2 24).2):=rfl
      have U:=MI (HG.out rb (fE bs qC j).2 4)
      have A6:=ou bs (fE bs qC j).2 4
      generalize bT bs (fE bs qC j).2 4=X at*
      obtain⟨x,q⟩:=X
      simp only at o U A6
      have B6:=MI (D3.out rb q 24)
      generalize qf bs q 24=Y at*
      obtain⟨y,q2⟩:=Y
      simp only at o B6
      have A3:=MI o
      have G0:IntKind.i64.wrap (x:Int)=(x:Int):=IntWalk.i64_in _ aa
      clear o A6
      generalize fE bs qC j=Tj at*
      have C8:=hS.below ((Below.refl wr.heap.size wr).drew)
      have G2:=aQ hO ((Below.refl wr.heap.size wr).drew)
      have c4:=C8.fr.mid
      clear hS hO
      go_upto_region 12 with fail
      go_region_law (first
       | (refine iQ rfl (.tmp 32) (.tmp 39) 192 192 rfl rfl rfl D9 ?_)
       | (go_simp;go_at_call 270;refine(U.out _ C8.rd).mono ?_;rintro e w2 ⟨rfl,A0,R⟩;have I:=C8.read A0 R;have A2:=aB G2 R (own_ne G2 C8.rd.row aq);have c4:=I.fr.mid)
       | (go_simp;go_at_call 272;refine(B6.out _ I.rd).mono ?_;rintro e w3 ⟨rfl,B5,C5⟩;have J:=I.read B5 C5;have A8:=aB A2 C5 (own_ne A2 I.rd.row aq);have c4:=J.fr.mid;obtain⟨v',w4,D9,B2,B7,-⟩:=fV (P:=Tryz.prog) w3 192 192 282 2 Tryz.underlying192 Nu rfl aq b2 tv j _ A8 (eY ((x:Int),y)) rfl (by intro u hu;simp only[eY,List.mem_cons,List.not_mem_nil,or_false] at hu;rcases hu with rfl | rfl<;>rfl) aa aE (by have:=J.low.size;have:=J.h2;omega);have c5:(w3.alloc (.cells #[.int .i64 (x:Int),.int .i64 y] 282)).cell? ⟨fb,4,none⟩=some tv:=((ae w3 _).cell (World.block_lt_of_cell? w3 _ c4)).trans c4;obtain⟨ao',cap',rfl⟩:=dh B2;have A4:=J.grow A8 B7;have c4:=A4.fr.mid;have f4:=ay A4.fr.row 4;simp only[eY] at D9))
      all_goals go_wp2_with fail
      all_goals refine⟨⟨j+1,aa,aD,_,by rw[A3.out];exact A4.DV _,by rw[A3.out];simp only[List.flatMap_append,List.flatMap_cons,List.flatMap_nil,List.append_nil];exact aB B2 (eG w4 fb 4 _) (own_ne B2 A4.fr.row aq)⟩,?_⟩
      all_goals (simp[aC];omega)
     ·obtain rfl:j=C:=aa
      generalize fE bs qC j=T at*
      have HS:=MI hS
      have HO:=MI hO
      clear hS hO
      go_upto_region 15 with fail
      go_loopw [43] (fun v43 wr=>∃i:Nat,i≤4∧v43= .int .i64 (i:Int)∧Fzz w b2 rb fb bo n cap bs wr (bF bs T.2 i).r (zz G4.1 (bF bs T.2 i).s (bF bs T.2 i).w []) tv∧wr.ownsRow b2 282 2 tv j (T.1.flatMap eY)) (fun v43 _=>4 - aC v43)
      case atStart=>exact⟨0,aa,rfl,HS.out,HO.out⟩
      case round=>
       clear HS HO
       obtain⟨i,hi,rfl,hS,hO⟩:=hrel
       by_cases J4:i<4
       ·have o:bF bs T.2 (i+1)=⟨(bF bs T.2 i).s++[((bT bs (bF bs T.2 i).r 5).1:Int)],(bF bs T.2 i).w++[((bT bs (bT bs (bF bs T.2 i).r 5).2 5).1:Int)],if 23<(bT bs (bF bs T.2 i).r 5).1∨24<(bT bs (bT bs (bF bs T.2 i).r 5).2 5).1 then vk (bT bs (bT bs (bF bs T.2 i).r 5).2 5).2 4 else(bT bs (bT bs (bF bs T.2 i).r 5).2 5).2⟩:=rfl
        obtain⟨A9,B0⟩:=oh bs T.2 i
        have U:=MI (HG.out rb (bF bs T.2 i).r 5)
        have A6:=ou bs (bF bs T.2 i).r 5
        generalize bT bs (bF bs T.2 i).r 5=X at*
        obtain⟨x,q⟩:=X
        simp only at o U A6
        have E0:=MI (HG.out rb q 5)
        have G3:=ou bs q 5
        generalize bT bs q 5=Y at*
        obtain⟨y,q2⟩:=Y
        simp only at o E0 G3
        generalize bF bs T.2 i=Si at*
        obtain⟨ls,lw,rS⟩:=Si
        simp only at o A9 B0 U hS
        have A3:=MI o
        have G0:IntKind.i64.wrap (x:Int)=(x:Int):=IntWalk.i64_in _ aa
        have J5:IntKind.i64.wrap (y:Int)=(y:Int):=IntWalk.i64_in _ aa
        have I0:=C7.out
        have E1:=zz_s (g:=G4.1) (s:=ls) (w:=lw) (q:=[]) aa aa (x:Int)
        have E2:=zz_w (g:=G4.1) (s:=ls++[(x:Int)]) (w:=lw) (q:=[]) aa (by simp;omega) aa (y:Int)
        have E3:=JR (g:=G4.1) (s:=ls++[(x:Int)]) (w:=lw++[(y:Int)]) (q:=[]) aa (by simp;omega) i (by simp;omega)
        have B4:=Ar (g:=G4.1) (s:=ls++[(x:Int)]) (w:=lw++[(y:Int)]) (q:=[]) aa (by simp;omega) (by simp;omega) i (by simp;omega)
        rw[A9] at E1
        rw[B0] at E2
        rw[show(ls++[(x:Int)]).getD i 0=(x:Int) by rw[←A9];simp] at E3
        rw[show(lw++[(y:Int)]).getD i 0=(y:Int) by rw[←B0];simp] at B4
        have I1:=MI E1
        have I2:=MI E2
        have I3:=MI E3
        have I4:=MI B4
        clear o A6 G3 A9 B0 E1 E2 E3 B4 I0
        go_upto_region 18 with(go_at_call 270;refine(U.out _ hS.rd).mono ?_;rintro e w2 ⟨rfl,A0,R⟩;have I:=hS.read A0 R;have A2:=aB hO R (own_ne hO hS.rd.row aq);have cj:=I.fr.hi (k:=i) aa;have fj:=ay I.fr.row (5+i))
        have J:=I.AZ (k:=i) aa (x:Int)
        rw[I1.out] at J
        have A8:=aB A2 (eG w2 fb (5+i) (.int .i64 (x:Int))) (own_ne A2 I.fr.row aq)
        clear hS hO I A2 cj fj A0 R U
        generalize w2.setCell ⟨fb,5+i,none⟩ (.int .i64 (x:Int))=W3 at*
        go_upto_region 19 with(go_at_call 270;refine(E0.out _ J.rd).mono ?_;rintro e w4 ⟨rfl,G5,B7⟩;have A4:=J.read G5 B7;have B2:=aB A8 B7 (own_ne A8 J.rd.row aq);have cj:=A4.fr.hi (k:=4+i) aa;have fj:=ay A4.fr.row (5+(4+i));rw[show 5+(4+i)=9+i by omega] at cj fj)
        have A5:=A4.AZ (k:=4+i) aa (y:Int)
        rw[show 5+(4+i)=9+i by omega,show 4+(4+i)=8+i by omega,I2.out] at A5
        have B8:=aB B2 (eG w4 fb (9+i) (.int .i64 (y:Int))) (own_ne B2 A4.fr.row aq)
        clear J A8 A4 B2 cj fj G5 B7 E0
        generalize w4.setCell ⟨fb,9+i,none⟩ (.int .i64 (y:Int))=W5 at*
        have e1:=A5.fr.hi (k:=i) aa
        rw[I3.out] at e1
        have e2:=A5.fr.hi (k:=4+i) aa
        rw[show 5+(4+i)=9+i by omega,show 4+(4+i)=8+i by omega,I4.out] at e2
        by_cases H0:23<x
        ·have F3:(23:Int)<(x:Int):=aa
         go_wp2_with (go_at_call 271;refine(D4.out _ _ _ _ A5.rd).mono ?_;rintro e w6 ⟨rfl,E4,B9⟩)
         refine⟨⟨i+1,aa,aD,?_,aB B8 B9 (own_ne B8 A5.rd.row aq)⟩,?_⟩
         ·rw[A3.out]
          dsimp only
          rw[if_pos (Or.inl H0)]
          exact A5.read E4 B9
         ·simp[aC];omega
        ·have F3:¬(23:Int)<(x:Int):=aa
         by_cases H2:24<y
         ·have F4:(24:Int)<(y:Int):=aa
          go_wp2_with (go_at_call 271;refine(D4.out _ _ _ _ A5.rd).mono ?_;rintro e w6 ⟨rfl,E4,B9⟩)
          refine⟨⟨i+1,aa,aD,?_,aB B8 B9 (own_ne B8 A5.rd.row aq)⟩,?_⟩
          ·rw[A3.out]
           dsimp only
           rw[if_pos (Or.inr H2)]
           exact A5.read E4 B9
          ·simp[aC];omega
         ·have F4:¬(24:Int)<(y:Int):=aa
          go_wp2_with fail
          refine⟨⟨i+1,aa,aD,?_,B8⟩,?_⟩
          ·rw[A3.out]
           dsimp only
           rw[if_neg aa]
           exact A5
          ·simp[aC];omega
       ·obtain rfl:i=4:=aa
        have C2:=A7 bs T.2 4
        obtain⟨A9,B0⟩:=oh bs T.2 4
        generalize bF bs T.2 4=S4 at*
        obtain⟨ls,lw,rS⟩:=S4
        simp only at C2 A9 B0 HX hS
        have HS:=MI hS
        have HO:=MI hO
        have E5:=MI A9
        have C9:=MI B0
        have H3:=MI C2
        clear hS hO A9 B0 C2
        rw[show((4:Nat):Int)=4 from rfl]
        go_upto_region 23 with fail
        go_loopw [73] (fun v73 wr=>∃i:Nat,i≤16∧v73= .int .i64 (i:Int)∧Fzz w b2 rb fb bo n cap bs wr (qF bs lw rS i).2 (zz G4.1 ls lw (qF bs lw rS i).1) tv∧wr.ownsRow b2 282 2 tv j (T.1.flatMap eY)) (fun v73 _=>16 - aC v73)
        case atStart=>exact⟨0,aa,rfl,HS.out,HO.out⟩
        case round=>
         clear HS HO
         obtain⟨i,hi,rfl,hS,hO⟩:=hrel
         by_cases H4:i<16
         ·have o:qF bs lw rS (i+1)=((qF bs lw rS i).1++[(qf bs (qF bs lw rS i).2 (lw.getD (i/4) 0).toNat).1],(qf bs (qF bs lw rS i).2 (lw.getD (i/4) 0).toNat).2):=rfl
          have E6:=LM bs lw rS i
          obtain⟨wn,E7⟩:=H3.out (i/4) aa
          have e1:=hS.fr.hi (k:=4+i/4) aa
          have B4:=Ar (g:=G4.1) (s:=ls) (w:=lw) (q:=(qF bs lw rS i).1) (by have:=C7.out;omega) (by have:=E5.out;omega) (by have:=C9.out;omega) (i/4) (by have:=C9.out;omega)
          rw[show 5+(4+i/4)=9+i/4 by omega,show 4+(4+i/4)=8+i/4 by omega,B4,E7] at e1
          rw[E7,Int.toNat_natCast] at o
          have B6:=MI (D3.out rb (qF bs lw rS i).2 wn)
          have E8:=zz_q (g:=G4.1) (s:=ls) (w:=lw) (q:=(qF bs lw rS i).1) (by have:=C7.out;omega) (by have:=E5.out;omega) (by have:=C9.out;omega) aa
          rw[E6] at E8
          have A3:=MI o
          have I5:=MI E8
          have I6:=MI (nD i H4)
          have J6:i/4<4:=aa
          have J0:((i/4:Nat):Int)<4:=aa
          clear o E8 E6 B4 E7
          generalize qF bs lw rS i=Qi at*
          generalize I7:i/4=jb at*
          clear I7
          generalize qf bs Qi.2 wn=Y at*
          obtain⟨y,q2⟩:=Y
          simp only at A3 B6
          go_wp2_with (first | (go_at_call 173;refine(I6.out _).mono ?_;rintro e w2 ⟨rfl,rfl⟩) | (go_at_call 272;refine(B6.out _ hS.rd).mono ?_;rintro e w2 ⟨rfl,A0,R⟩;have I:=hS.read A0 R;have A2:=aB hO R (own_ne hO hS.rd.row aq);have cj:=I.fr.hi (k:=8+i) aa;have fj:=ay I.fr.row (5+(8+i));rw[show 5+(8+i)=13+i by omega] at cj fj))
          have J:=I.AZ (k:=8+i) aa y
          rw[show 5+(8+i)=13+i by omega,show 4+(8+i)=12+i by omega,I5.out] at J
          refine⟨⟨i+1,aa,aD,?_,aB A2 (eG _ fb (13+i) (.int .i64 y)) (own_ne A2 I.fr.row aq)⟩,?_⟩
          ·rw[A3.out]
           exact J
          ·simp[aC];omega
         ·obtain rfl:i=16:=aa
          have E6:=LM bs lw rS 16
          generalize qF bs lw rS 16=Q16 at*
          have E9:=MI (end_any rb bo n cap bs Q16.2 wr hS.rd)
          generalize rW bs (8*n) Q16.2=RE at*
          obtain⟨pE,eE⟩:=RE
          simp only at HX E9
          have D0:(zz G4.1 ls lw Q16.1).length=28:=zz_len (by have:=C7.out;omega) (by have:=E5.out;omega) (by have:=C9.out;omega) aa
          generalize zz G4.1 ls lw Q16.1=Z at*
          go_upto_region 28 with(go_at_call 273;refine E9.out.mono ?_;rintro e w2 ⟨rfl,A0,R⟩)
          have I:=hS.read A0 R
          have A2:=aB hO R (own_ne hO hS.rd.row aq)
          clear hS hO A0 R E9
          obtain⟨ao,cc,rfl,J7,F1,G6⟩:=jG (0,0) Hr aq A2
          have D1:(zz [] [] [] []).length=28:=af
          have D2:=kW (zz [] [] [] []) (.slice none 0 0) D1
          have G7:Tryz.prog.built 196 []=some (frC (zz [] [] [] []) (.slice none 0 0)):=af
          have F2:=I.fr.row
          have C0:=kW Z (.slice ao j cc) D0
          have H5:(frC (zz [] [] [] []) (.slice none 0 0)).size=(frC Z (.slice ao j cc)).size:=by rw[bM _ _ D1,bM _ _ D0]
          by_cases he:eE=0
          ·subst he
           have G8:=MI (fun w' h=>wC Z D0 ao j cc T.1 w' h)
           generalize G9:fQ Z T.1=RT at*
           have I8:=MI G9
           clear G9
           cases RT
           ·go_upto_region 31 with(first | (with_reducible refine MC 196 5 ?_;refine wpList_load_row rfl 196 (.tmp 5) rfl _ rfl 196 (frC Z (.slice ao j cc)) (0,0) _ F2 Tryz.underlying196 rfl C0 ?_) | (go_at_call 170;refine(G8.out _ F1).mono ?_;rintro e w3 ⟨rfl,C1⟩))
            have J:=I.below C1
            have A1:=J.out
            go_wp2_with (first | (refine bf rfl 196 #[] rfl [] ?hl (frC (zz [] [] [] []) (.slice none 0 0)) G7 ?_) | (with_reducible refine MF 196 2 96 ?_;refine wpList_store_row rfl 196 (.tmp 2) (.tmp 96) rfl _ (frC (zz [] [] [] []) (.slice none 0 0)) rfl rfl 196 (frC (zz [] [] [] []) (.slice none 0 0)) A1 D2 rfl (dH _ _ _ _) ?_))
            exact bodyPost_ret (results_cell_tmp (fn:=Tryz.f265) (p:=2) (q:=3) (ty:=196) rfl _ _ _ _ _ _ _ rfl (setRow_heap _ _ _ _ _ _ A1) Tryz.underlying196 rfl D2) rfl ⟨below_setRow J.low aa _,zz [] [] [] [],none,0,0,[],4,rfl,D1,bP.nil _ _ _ _ _,(fun a ha=>by cases ha),fun _ h=>by rw[HX.out] at h;simp only at h;rw[I8.out] at h;cases h⟩
           ·go_upto_region 32 with(first | (with_reducible refine MC 196 5 ?_;refine wpList_load_row rfl 196 (.tmp 5) rfl _ rfl 196 (frC Z (.slice ao j cc)) (0,0) _ F2 Tryz.underlying196 rfl C0 ?_) | (go_at_call 170;refine(G8.out _ F1).mono ?_;rintro e w3 ⟨rfl,C1⟩))
            have J:=I.below C1
            have A1:=J.out
            have F5:=J.fr.row
            have A8:=aQ A2 C1
            have B5:=F1.aj C1
            go_wp2_with (first | (with_reducible refine MC 196 5 ?_;refine wpList_load_row rfl 196 (.tmp 5) rfl _ rfl 196 (frC Z (.slice ao j cc)) (0,0) _ F5 Tryz.underlying196 rfl C0 ?_) | (with_reducible refine MF 196 2 97 ?_;refine wpList_store_row rfl 196 (.tmp 2) (.tmp 97) rfl _ (frC Z (.slice ao j cc)) rfl rfl 196 (frC (zz [] [] [] []) (.slice none 0 0)) A1 C0 H5 (dH _ _ _ _) ?_))
            exact bodyPost_ret (results_cell_tmp (fn:=Tryz.f265) (p:=2) (q:=3) (ty:=196) rfl _ _ _ _ _ _ _ rfl (setRow_heap _ _ _ _ _ _ A1) Tryz.underlying196 rfl C0) rfl ⟨below_setRow J.low aa _,Z,ao,j,cc,T.1,0,rfl,D0,B5.kept (aK _ _ _) (fun a ha=>own_ne A8 A1 aq a.block (G6 a ha).2.2.2),(fun a ha=>Nat.le_trans aa (G6 a ha).1),fun _ _=>by rw[HX.out];exact⟨rfl,rfl,rfl⟩⟩
          ·have A1:=I.out
           go_wp2_with (first | (refine bf rfl 196 #[] rfl [] ?hl (frC (zz [] [] [] []) (.slice none 0 0)) G7 ?_) | (with_reducible refine MF 196 2 91 ?_;refine wpList_store_row rfl 196 (.tmp 2) (.tmp 91) rfl _ (frC (zz [] [] [] []) (.slice none 0 0)) rfl rfl 196 (frC (zz [] [] [] []) (.slice none 0 0)) A1 D2 rfl (dH _ _ _ _) ?_))
           exact bodyPost_ret (results_cell_tmp (fn:=Tryz.f265) (p:=2) (q:=3) (ty:=196) rfl _ _ _ _ _ _ _ rfl (setRow_heap _ _ _ _ _ _ A1) Tryz.underlying196 rfl D2) rfl ⟨below_setRow I.low aa _,zz [] [] [] [],none,0,0,[],eE,rfl,D1,bP.nil _ _ _ _ _,(fun a ha=>by cases ha),fun h=>by rw[HX.out] at h;exact absurd h he⟩
end Go.Proofs.YtnicjahcgnhogaaGreatDoor

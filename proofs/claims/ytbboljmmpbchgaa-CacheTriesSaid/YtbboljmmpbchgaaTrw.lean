/- The walk of CacheTries. -/
import Derived.Test.YtbboljmmpbchgaaTrp
import Derived.Test.YtbboljmmpbchgaaNob
namespace Go.Proofs.Ytbboljmmpbchgaa
open Go Go.RowKit Go.Calli Go.Dskp Go.Maps
set_option linter.unusedVariables false
set_option linter.unusedSimpArgs false
attribute [local irreducible] wpStill wpAnyH wpAnyS wpList Code.wp
theorem tries_out (ao : Option Addr) (m cap : Nat) (r n : Int) (hb : (m < 1) ∨ (1 ≤ m ∧ 500 < m) ∨ (1 ≤ m ∧ m ≤ 500 ∧ r < 0) ∨ (1 ≤ m ∧ m ≤ 500 ∧ 0 ≤ r ∧ 8 < r) ∨ (1 ≤ m ∧ m ≤ 500 ∧ 0 ≤ r ∧ r ≤ 8 ∧ n < 0) ∨ (1 ≤ m ∧ m ≤ 500 ∧ 0 ≤ r ∧ r ≤ 8 ∧ 0 ≤ n ∧ 100 < n)) (hm : m ≤ maxLen) (w : World) : Calls Try.prog 3 #[.slice ao m cap, .int .i64 r, .int .i64 n] w (TruePost w) := by
  have hA := awake_any w
  unfold maxLen at hm
  rcases hb with h1 | ⟨h1, h2⟩ | ⟨h1, h2, h3⟩ | ⟨h1, h2, h3, h4⟩ | ⟨h1, h2, h3, h4, h5⟩ | ⟨h1, h2, h3, h4, h5, h6⟩
  all_goals
    go_enter Try.func3, Try.ntmps3
    go_wp2_with (go_at_call 7; refine hA.mono ?_; rintro e w' ⟨rfl, hb2⟩)
    all_goals go_ret
    all_goals exact ⟨rfl, hb2⟩
theorem tries_in (ao : Option Addr) (m cap : Nat) (zs : List Int) (r n : Nat) (h1 : 1 ≤ m) (h2 : m ≤ 500) (h3 : r ≤ 8) (h4 : n ≤ 100) (w : World) (h : Ints .u8 w ao m zs) : Calls Try.prog 3 #[.slice ao m cap, .int .i64 r, .int .i64 n] w (TruePost w) := by
  have hM := Lib.hid (made_good ao m cap zs h2 3 r (by decide) (by decide) (by omega) (by omega) w h)
  have hzl := h.hlen
  have hpl := tries_plain zs (by omega) r n
  have hout := tC_out zs (by omega) r n
  have hok := flS_ok (newC_lim zs (by omega) 3 r (by omega) (by omega)).ok 0 n (by omega)
  have hlim : CLim 1 (tC zs r n) := (newC_lim zs (by omega) 3 r (by omega) (by omega)).fault hok (by unfold flS; rw [if_neg hout.1])
  have hfl : flE (newC zs 3 r).d 0 = 0 := by unfold flE; rw [if_neg hout.1]
  have hGG : ∀ (A : Ad) (w : World), CaIs A w 3 (tC zs r n) → Calls Try.prog 10 #[.pointer (some ⟨A.cb, 0, none⟩), .int .i64 0] w (GtPost A 3 (getC (tC zs r n) 0) w) := fun A w h => get_any A 3 (by decide) (tC zs r n) 1 (by decide) (fC_ok (newC_ok zs 3 r) _) hlim 0 (by decide) w h
  have hok2 := (getC_ok (c := tC zs r n) (fC_ok (newC_ok zs 3 r) _) 0 (by decide)).1
  have hfm : ∀ (A : Ad) (w : World) (m0 : Nat), m0 ≤ 0 → Dsk w A.b A.mb A.ib A.kap m0 (newC zs 3 r).d → Calls Try.prog 9 #[.pointer (some ⟨A.b, 0, none⟩), .int .i64 0, .int .i64 n] w (SetPost A.b A.mb A.ib A.kap m0 (flS (newC zs 3 r).d 0 n) 0 w) := fun A w m0 hm0 hD => by
    have := fail_any A.b A.mb A.ib A.kap m0 (newC zs 3 r).d (newC_lim zs (by omega) 3 r (by omega) (by omega)).ok (by omega) 0 n (by decide) w hD
    rwa [hfl] at this
  have hft : ∀ (A : Ad) (w w' : World) (m0 m' : Nat), CaIs A w 3 (newC zs 3 r) → m0 ≤ 0 → m' ≤ m0 + 1 → Dsk w' A.b A.mb A.ib A.kap m' (flS (newC zs 3 r).d 0 n) → Keeps (fun k => k = A.b ∨ k = A.mb) w w' → CaIs A w' 3 (tC zs r n) := fun A w w' m0 m' h a1 a2 a3 a4 => h.fault a1 a2 a3 a4
  rw [show ((3 : Nat) : Int) = 3 from rfl] at hM
  clear h hok hlim hout hfl
  generalize getC (tC zs r n) 0 = R at *
  generalize tC zs r n = C1 at *
  generalize flS (newC zs 3 r).d 0 n = D1 at *
  have HM := Lib.hid hM
  have HPL := Lib.hid hpl
  clear hM hpl
  go_enter Try.func3, Try.ntmps3
  go_upto_region 6 with (first | (go_at_call 8; refine HM.out.out.mono ?_; rintro e w1 ⟨A, rfl, hC0, hA, hib, hB1⟩; obtain ⟨m0, hm0, hD0⟩ := hC0.dsk; have hF := hfm A w1 m0 hm0 hD0) | (go_at_call 9; refine hF.mono ?_; rintro e w2 ⟨rfl, ⟨m2, hm2, hD2⟩, hk2⟩))
  have hC2 := hft A w1 w2 m0 m2 hC0 hm0 hm2 hD2 hk2
  have hG := hGG A w2 hC2
  go_upto_region 7 with (go_at_call 10; refine hG.mono ?_; rintro e w3 ⟨ro, rc, rfl, hrc, hC3, hI3, hnew, hk3⟩)
  have hP := pages_of A 3 (by decide) R.c hok2 w3 hC3
  have hKK : Keeps A.S w1 w3 := (hk2.mono fun k _ h => .inr (.inr h)).trans hk3
  have hB13 : Below w.heap.size w1 w3 := hKK.toBelow hB1.size (fun k hk hS => by have := hA k hS; omega)
  have hB03 := hB1.trans hB13
  clear hGG hfm hft hC0 hC2 hD0 hD2 hk2 hk3 hKK hB13
  by_cases hnr : r < n
  · obtain ⟨p1, p2, p3, p4, p5, p6, p7, p8⟩ := HPL.out.1 hnr
    rw [p3] at hP
    rw [p2] at hrc hI3 ⊢
    rw [p1]
    go_upto_region 8 with (go_at_call 11; refine hP.mono ?_; rintro e w4 ⟨po, pc, rfl, hpc, hI4, hnp, hB4⟩)
    have hT := told_any A 3 R.c w4 (hC3.keep0 hB4)
    rw [p4, p5, p6, p7] at hT
    have hw : IntKind.i64.wrap ((r : Int) + 1) = (r : Int) + 1 := IntWalk.i64_in _ (by omega)
    have hRd : ∀ w', Below w4.heap.size w4 w' → Calls Try.prog 13 #[.pointer (some ⟨A.b, 0, none⟩)] w' (Same (.int .i64 ((r : Int) + 1)) w') := fun w' hb => by
      obtain ⟨m9, -, hD9⟩ := ((hC3.keep0 hB4).keep0 hb).dsk
      rw [← p8]
      exact reads_any A.b A.mb A.ib A.kap m9 R.c.d w' hD9
    obtain ⟨xa, rfl, hx⟩ := hI4.some (by decide)
    have hx0 : w4.cell? xa = some (.int .i64 (-1)) := by have := hx 0 (by decide); rwa [show xa.add 0 = xa from by cases xa; simp [Addr.add]] at this
    have hB04 := bstep hB03 hB4
    clear hC3 hI3 hI4 hx hP hG hok2 HM HPL p3 p4 p5 p6 p7 hB1 hB03 hB4
    go_wp2_with (first | (go_at_call 12; refine hT.mono ?_; rintro e w5 ⟨rfl, hB5⟩) | (go_at_call 13; refine (hRd _ (by assumption)).mono ?_; rintro e w' ⟨rfl, rfl⟩) | (go_at_call 7; refine (awake_any _).mono ?_; rintro e w6 ⟨rfl, hB6⟩))
    go_ret
    exact ⟨rfl, bstep (bstep hB04 hB5) hB6⟩
  · obtain ⟨p1, p2, p3, p4, p5, p6, p7⟩ := HPL.out.2 (by omega)
    rw [p3] at hP
    rw [p2] at hrc hI3 ⊢
    rw [p1]
    go_upto_region 8 with (go_at_call 11; refine hP.mono ?_; rintro e w4 ⟨po, pc, rfl, hpc, hI4, hnp, hB4⟩)
    have hT := told_any A 3 R.c w4 (hC3.keep0 hB4)
    rw [p4, p5, p6, p7] at hT
    have hw : IntKind.i64.wrap ((n : Int) + 1) = (n : Int) + 1 := IntWalk.i64_in _ (by omega)
    obtain ⟨xa, rfl, hx⟩ := hI4.some (by decide)
    have hx0 : w4.cell? xa = some (.int .i64 (0)) := by have := hx 0 (by decide); rwa [show xa.add 0 = xa from by cases xa; simp [Addr.add]] at this
    have hB04 := bstep hB03 hB4
    clear hC3 hI3 hI4 hx hP hG hok2 HM HPL p3 p4 p5 p6 p7 hB1 hB03 hB4
    go_wp2_with (first | (go_at_call 12; refine hT.mono ?_; rintro e w5 ⟨rfl, hB5⟩) | (go_at_call 7; refine (awake_any _).mono ?_; rintro e w6 ⟨rfl, hB6⟩))
    go_ret
    exact ⟨rfl, bstep (bstep hB04 hB5) hB6⟩
theorem tries_any (ao : Option Addr) (m cap : Nat) (zs : List Int) (r n : Int) (w : World) (h : Ints .u8 w ao m zs) : Calls Try.prog 3 #[.slice ao m cap, .int .i64 r, .int .i64 n] w (TruePost w) := by
  by_cases hb : (m < 1) ∨ (1 ≤ m ∧ 500 < m) ∨ (1 ≤ m ∧ m ≤ 500 ∧ r < 0) ∨ (1 ≤ m ∧ m ≤ 500 ∧ 0 ≤ r ∧ 8 < r) ∨ (1 ≤ m ∧ m ≤ 500 ∧ 0 ≤ r ∧ r ≤ 8 ∧ n < 0) ∨ (1 ≤ m ∧ m ≤ 500 ∧ 0 ≤ r ∧ r ≤ 8 ∧ 0 ≤ n ∧ 100 < n)
  · exact tries_out ao m cap r n hb h.lim w
  · obtain ⟨R, rfl⟩ : ∃ R : Nat, r = R := ⟨r.toNat, by omega⟩
    obtain ⟨N, rfl⟩ : ∃ N : Nat, n = N := ⟨n.toNat, by omega⟩
    exact tries_in ao m cap zs R N (by omega) (by omega) (by omega) (by omega) w h
end Go.Proofs.Ytbboljmmpbchgaa

/- The walks of loop.Seam and of the statement's own seam; the statement LoopSeams. -/
import Derived.Test.YtjhcdnfonlggjaaLoop
namespace Go.Proofs.Ytjhcdnfonlggjaa
open Go.RowKit Go.Calli
/-- A sample, or nought. -/
def sampleAt (zs : List Int) (i : Int) : Int := if i < 0 then 0 else zs.getD i.toNat 0
/-- Samples within 2^20. -/
def Small (zs : List Int) : Prop := ∀ z ∈ zs, -1048576 ≤ z ∧ z ≤ 1048576
theorem sampleAt_bd {zs : List Int} (h : Small zs) (i : Int) : -1048576 ≤ sampleAt zs i ∧ sampleAt zs i ≤ 1048576 := by
  unfold sampleAt
  split
  · omega
  · by_cases hi : i.toNat < zs.length
    · rw [show zs.getD i.toNat 0 = zs[i.toNat] by simp [hi]]; exact h _ (List.getElem_mem _)
    · rw [show zs.getD i.toNat 0 = 0 by simp [Nat.le_of_not_lt hi]]; omega
theorem sampleAt_out {zs : List Int} {i : Int} (h : i < 0 ∨ (zs.length : Int) ≤ i) : sampleAt zs i = 0 := by
  unfold sampleAt
  split
  · rfl
  · simp; rw [List.getElem?_eq_none (by omega)]; rfl

set_option maxHeartbeats 400000 in
theorem get_any (ao : Option Addr) (len cap : Nat) (zs : List Int) (i : Int) (w : World) (h : Ints .i64 w ao len zs) (hs : Small zs) :
    Calls Try.prog 15 #[.slice ao len cap, .int .i64 i] w fun e w' => ∃ z, e = .returned (.int .i64 z) ∧ Hid (z = sampleAt zs i) ∧ -1048576 ≤ z ∧ z ≤ 1048576 ∧ w = w' := by
  have hz := Lib.hid h.hlen
  have hbd := sampleAt_bd hs i
  by_cases h1 : i < 0
  · have hv := sampleAt_out (zs := zs) (i := i) (.inl h1)
    have HV := Lib.hid hv.symm
    clear hv
    go_enter Try.func15, Try.ntmps15
    go_wp2
    go_ret
    exact ⟨0, rfl, HV.out, by omega, by omega, rfl⟩
  · by_cases h2 : (len : Int) ≤ i
    · have hv := sampleAt_out (zs := zs) (i := i) (.inr (by rw [hz.out]; exact h2))
      have HV := Lib.hid hv.symm
      clear hv
      go_enter Try.func15, Try.ntmps15
      go_wp2
      go_ret
      exact ⟨0, rfl, HV.out, by omega, by omega, rfl⟩
    · obtain ⟨n, rfl⟩ : ∃ n : Nat, i = n := ⟨i.toNat, by omega⟩
      obtain ⟨a, c, rfl, hcv, hc, hc1, hc2⟩ := h.int (i := n) (by omega)
      have hv : sampleAt zs n = c := by unfold sampleAt; rw [if_neg (by omega)]; exact hcv.out
      rw [hv] at hbd
      have HV := Lib.hid hv.symm
      clear hv
      go_enter Try.func15, Try.ntmps15
      go_wp2
      go_ret
      exact ⟨_, rfl, HV.out, hbd.1, hbd.2, rfl⟩
set_option maxHeartbeats 400000 in
theorem lget_any (ao : Option Addr) (len cap : Nat) (zs : List Int) (i : Int) (w : World) (h : Ints .i64 w ao len zs) (hs : Small zs) :
    Calls Try.prog 13 #[.slice ao len cap, .int .i64 i] w fun e w' => ∃ z, e = .returned (.int .i64 z) ∧ Hid (z = sampleAt zs i) ∧ -1048576 ≤ z ∧ z ≤ 1048576 ∧ w = w' := by
  have hz := Lib.hid h.hlen
  have hbd := sampleAt_bd hs i
  by_cases h1 : i < 0
  · have hv := sampleAt_out (zs := zs) (i := i) (.inl h1)
    have HV := Lib.hid hv.symm
    clear hv
    go_enter Try.func13, Try.ntmps13
    go_wp2
    go_ret
    exact ⟨0, rfl, HV.out, by omega, by omega, rfl⟩
  · by_cases h2 : (len : Int) ≤ i
    · have hv := sampleAt_out (zs := zs) (i := i) (.inr (by rw [hz.out]; exact h2))
      have HV := Lib.hid hv.symm
      clear hv
      go_enter Try.func13, Try.ntmps13
      go_wp2
      go_ret
      exact ⟨0, rfl, HV.out, by omega, by omega, rfl⟩
    · obtain ⟨n, rfl⟩ : ∃ n : Nat, i = n := ⟨i.toNat, by omega⟩
      obtain ⟨a, c, rfl, hcv, hc, hc1, hc2⟩ := h.int (i := n) (by omega)
      have hv : sampleAt zs n = c := by unfold sampleAt; rw [if_neg (by omega)]; exact hcv.out
      rw [hv] at hbd
      have HV := Lib.hid hv.symm
      clear hv
      go_enter Try.func13, Try.ntmps13
      go_wp2
      go_ret
      exact ⟨_, rfl, HV.out, hbd.1, hbd.2, rfl⟩

/-- A seam's first n squares. -/
def seamTo (zs : List Int) (f t : Int) : Nat → Int
  | 0 => 0
  | n + 1 => seamTo zs f t n + (sampleAt zs (t + (n : Int) - 4) - sampleAt zs (f + (n : Int) - 4)) * (sampleAt zs (t + (n : Int) - 4) - sampleAt zs (f + (n : Int) - 4))
theorem sq_bd (x y : Int) (hx : -1048576 ≤ x ∧ x ≤ 1048576) (hy : -1048576 ≤ y ∧ y ≤ 1048576) : 0 ≤ (x - y) * (x - y) ∧ (x - y) * (x - y) ≤ 4398046511104 := by
  have hd : -2097152 ≤ x - y ∧ x - y ≤ 2097152 := by omega
  generalize x - y = d at hd
  constructor
  · rw [← Int.natAbs_mul_self]; omega
  · have h1 : d.natAbs ≤ 2097152 := by omega
    have h2 := Nat.mul_le_mul h1 h1
    rw [← Int.natAbs_mul_self]
    omega
theorem seamTo_bd {zs : List Int} (h : Small zs) (f t : Int) (n : Nat) : 0 ≤ seamTo zs f t n ∧ seamTo zs f t n ≤ 4398046511104 * n := by
  induction n with
  | zero => simp [seamTo]
  | succ n ih =>
    have := sq_bd _ _ (sampleAt_bd h (t + (n : Int) - 4)) (sampleAt_bd h (f + (n : Int) - 4))
    unfold seamTo
    omega

set_option maxHeartbeats 400000 in
theorem seam_any (ao : Option Addr) (len cap : Nat) (zs : List Int) (f t : Int) (w : World) (h : Ints .i64 w ao len zs) (hs : Small zs) (hf : -2097152 ≤ f ∧ f ≤ 2097152) (ht : -2097152 ≤ t ∧ t ≤ 2097152) :
    Calls Try.prog 10 #[.slice ao len cap, .int .i64 f, .int .i64 t] w fun e w' => e = .returned (.int .i64 (seamTo zs f t 8)) ∧ w = w' := by
  go_enter Try.func10, Try.ntmps10
  go_wp2
  go_loop [7, 8] (fun s k => ∃ j : Nat, j ≤ 8 ∧ k = .int .i64 ((j : Int) - 4) ∧ s = .int .i64 (seamTo zs f t j)) (fun _ k => (4 - intOf k).toNat)
  case atStart => exact ⟨0, by omega, rfl, rfl⟩
  case round =>
    obtain ⟨j, hj, rfl, rfl⟩ := hrel
    have hsb := seamTo_bd hs f t j
    by_cases hlt : j < 8
    · have hn : seamTo zs f t (j + 1) = seamTo zs f t j + (sampleAt zs (t + (j : Int) - 4) - sampleAt zs (f + (j : Int) - 4)) * (sampleAt zs (t + (j : Int) - 4) - sampleAt zs (f + (j : Int) - 4)) := rfl
      have HN := Lib.hid hn
      clear hn
      go_wp2_with fail
      refine (get_any _ _ _ _ _ _ h hs).mono ?_; rintro e w' ⟨z1, rfl, e1, z1a, z1b, rfl⟩
      go_wp2_with fail
      refine (get_any _ _ _ _ _ _ h hs).mono ?_; rintro e w' ⟨z2, rfl, e2, z2a, z2b, rfl⟩
      have hq := sq_bd z1 z2 ⟨z1a, z1b⟩ ⟨z2a, z2b⟩
      go_wp2
      go_round
      case rel =>
        have q1 := e1.out
        have q2 := e2.out
        rw [show t + ((j : Int) - 4) = t + j - 4 by omega] at q1
        rw [show f + ((j : Int) - 4) = f + j - 4 by omega] at q2
        exact ⟨j + 1, by omega, by congr 1; omega, by rw [HN.out, ← q1, ← q2]⟩
      case measure => simp [intOf]; omega
    · obtain rfl : j = 8 := by omega
      go_wp2
      go_ret
      exact ⟨rfl, rfl⟩
set_option maxHeartbeats 400000 in
theorem lseam_any (ao : Option Addr) (len cap : Nat) (zs : List Int) (f t : Int) (w : World) (h : Ints .i64 w ao len zs) (hs : Small zs) (hf : -2097152 ≤ f ∧ f ≤ 2097152) (ht : -2097152 ≤ t ∧ t ≤ 2097152) :
    Calls Try.prog 11 #[.slice ao len cap, .int .i64 f, .int .i64 t] w fun e w' => e = .returned (.int .i64 (seamTo zs f t 8)) ∧ w = w' := by
  go_enter Try.func11, Try.ntmps11
  go_wp2
  go_loop [7, 8] (fun s k => ∃ j : Nat, j ≤ 8 ∧ k = .int .i64 j ∧ s = .int .i64 (seamTo zs f t j)) (fun _ k => (8 - intOf k).toNat)
  case atStart => exact ⟨0, by omega, rfl, rfl⟩
  case round =>
    obtain ⟨j, hj, rfl, rfl⟩ := hrel
    have hsb := seamTo_bd hs f t j
    by_cases hlt : j < 8
    · have hn : seamTo zs f t (j + 1) = seamTo zs f t j + (sampleAt zs (t + (j : Int) - 4) - sampleAt zs (f + (j : Int) - 4)) * (sampleAt zs (t + (j : Int) - 4) - sampleAt zs (f + (j : Int) - 4)) := rfl
      have HN := Lib.hid hn
      clear hn
      go_wp2_with fail
      refine (lget_any _ _ _ _ _ _ h hs).mono ?_; rintro e w' ⟨z1, rfl, e1, z1a, z1b, rfl⟩
      go_wp2_with fail
      refine (lget_any _ _ _ _ _ _ h hs).mono ?_; rintro e w' ⟨z2, rfl, e2, z2a, z2b, rfl⟩
      have hq := sq_bd z1 z2 ⟨z1a, z1b⟩ ⟨z2a, z2b⟩
      go_wp2
      go_round
      case rel => exact ⟨j + 1, by omega, by go_num, by rw [HN.out, ← e1.out, ← e2.out]⟩
      case measure => simp [intOf]; omega
    · obtain rfl : j = 8 := by omega
      go_wp2
      go_ret
      exact ⟨rfl, rfl⟩

set_option maxHeartbeats 1000000 in
theorem loopSeams_any (ao : Option Addr) (len cap : Nat) (zs : List Int) (f t : Int) (w : World) (h : Ints .i64 w ao len zs) :
    Calls Try.prog 4 #[.slice ao len cap, .int .i64 f, .int .i64 t] w fun e w' => e = .returned (.bool true) ∧ Below w.heap.size w w' := by
  by_cases h1 : f < -1048576
  · go_enter Try.func4, Try.ntmps4
    go_wp2_with (first | (go_at_call 7; refine (few_any ao len cap zs 100 (by decide) w h).mono ?_; rintro e w1 ⟨a1, l1, c1, rfl, hl1, hc1, hi1, hb1⟩) | (go_at_call 9; refine (awake_any _).mono ?_; rintro e w2 ⟨rfl, hb2⟩))
    go_ret
    exact ⟨rfl, hb1.trans (hb2.mono hb1.size)⟩
  · by_cases h2 : 2097152 < f
    · go_enter Try.func4, Try.ntmps4
      go_wp2_with (first | (go_at_call 7; refine (few_any ao len cap zs 100 (by decide) w h).mono ?_; rintro e w1 ⟨a1, l1, c1, rfl, hl1, hc1, hi1, hb1⟩) | (go_at_call 9; refine (awake_any _).mono ?_; rintro e w2 ⟨rfl, hb2⟩))
      go_ret
      exact ⟨rfl, hb1.trans (hb2.mono hb1.size)⟩
    · by_cases h3 : t < -1048576
      · go_enter Try.func4, Try.ntmps4
        go_wp2_with (first | (go_at_call 7; refine (few_any ao len cap zs 100 (by decide) w h).mono ?_; rintro e w1 ⟨a1, l1, c1, rfl, hl1, hc1, hi1, hb1⟩) | (go_at_call 9; refine (awake_any _).mono ?_; rintro e w2 ⟨rfl, hb2⟩))
        go_ret
        exact ⟨rfl, hb1.trans (hb2.mono hb1.size)⟩
      · by_cases h4 : 2097152 < t
        · go_enter Try.func4, Try.ntmps4
          go_wp2_with (first | (go_at_call 7; refine (few_any ao len cap zs 100 (by decide) w h).mono ?_; rintro e w1 ⟨a1, l1, c1, rfl, hl1, hc1, hi1, hb1⟩) | (go_at_call 9; refine (awake_any _).mono ?_; rintro e w2 ⟨rfl, hb2⟩))
          go_ret
          exact ⟨rfl, hb1.trans (hb2.mono hb1.size)⟩
        · go_enter Try.func4, Try.ntmps4
          go_wp2_with (first | (go_at_call 7; refine (few_any ao len cap zs 100 (by decide) w h).mono ?_; rintro e w1 ⟨a1, l1, c1, rfl, hl1, hc1, hi1, hb1⟩) | (go_at_call 10; refine (seam_any _ _ _ _ _ _ _ hi1 (fun z hz => fewOf_bd z hz) (by omega) (by omega)).mono ?_; rintro e w2 ⟨rfl, rfl⟩) | (go_at_call 11; refine (lseam_any _ _ _ _ _ _ _ hi1 (fun z hz => fewOf_bd z hz) (by omega) (by omega)).mono ?_; rintro e w2 ⟨rfl, rfl⟩) | (go_at_call 9; refine (awake_any _).mono ?_; rintro e w2 ⟨rfl, hb2⟩))
          go_ret
          exact ⟨rfl, hb1.trans (hb2.mono hb1.size)⟩
end Go.Proofs.Ytjhcdnfonlggjaa

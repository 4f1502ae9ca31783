/- The walks of the Go functions of loop, and of those that the statements of layer 30 share. -/
import Derived.Test.YtjhcdnfonlggjaaRows
import Derived.Test.YtjhcdnfonlggjaaCommon
namespace Go.Proofs.Ytjhcdnfonlggjaa
open Go.RowKit Go.Calli
theorem infoInt : (Try.prog.info? 3).map (fun i => (i.zero, i.size, i.bytes)) = some (some (.int .i64 0), 1, 8) := by kernel_rfl

/-- At most so many samples, within 2^20. -/
def fewOf (zs : List Int) (m : Nat) : List Int := (zs.take m).map (·.tmod 1048577)
theorem few_bd (z : Int) : -1048576 ≤ z.tmod 1048577 ∧ z.tmod 1048577 ≤ 1048576 := by
  have h1 := Int.tmod_lt_of_pos z (show (0 : Int) < 1048577 by omega)
  have h2 := Int.lt_tmod_of_pos z (show (0 : Int) < 1048577 by omega)
  omega
theorem fewOf_bd {zs : List Int} {m : Nat} : ∀ z ∈ fewOf zs m, -1048576 ≤ z ∧ z ≤ 1048576 := by
  intro z hz
  simp only [fewOf, List.mem_map] at hz
  obtain ⟨y, _, rfl⟩ := hz
  exact few_bd y
theorem wf_of_bd {z : Int} (h : -9223372036854775808 ≤ z ∧ z ≤ 9223372036854775807) : (Lit.int .i64 z).wf = true := WalkArith.wf_i64 h
theorem fewOf_len (zs : List Int) (m : Nat) : (fewOf zs m).length = min m zs.length := by simp [fewOf]
theorem fewOf_snoc (zs : List Int) (k : Nat) (h : k < zs.length) : fewOf zs (k + 1) = fewOf zs k ++ [(zs.getD k 0).tmod 1048577] := by
  unfold fewOf; rw [take_succ_getD zs k h, List.map_append]; rfl

set_option maxHeartbeats 400000 in
theorem few_any (ao : Option Addr) (len cap : Nat) (zs : List Int) (m : Nat) (hm1 : m ≤ 1000000) (w : World) (h : Ints .i64 w ao len zs) :
    Calls Try.prog 7 #[.slice ao len cap, .int .i64 (m : Nat)] w fun e w' => ∃ ao' n c', e = .returned (.slice ao' n c') ∧ Hid (n = min m len) ∧ n ≤ c' ∧ Ints .i64 w' ao' n (fewOf zs m) ∧ Below w.heap.size w w' := by
  have hm := h.lim
  unfold maxLen at hm
  have hz := Lib.hid h.hlen
  go_enter Try.func7, Try.ntmps7
  go_wp2
  go_loopw [5, 6] (fun v i wr => ∃ k : Nat, k ≤ len ∧ k ≤ m ∧ i = .int .i64 k ∧ wr.ownsRow w.heap.size 3 1 v k ((fewOf zs k).map (Value.int .i64)) ∧ Below w.heap.size w wr) (fun _ i _ => (len - intOf i).toNat)
  case atStart => exact ⟨0, by omega, by omega, rfl, World.ownsRow_nil _ _ _ _, Below.refl _ _⟩
  case round =>
    obtain ⟨k, hk, hkm, rfl, hown, hb⟩ := hrel
    by_cases hlt : k < len ∧ k < m
    · obtain ⟨hlt, hltm⟩ := hlt
      obtain ⟨a, c, rfl, hcv, hc, hc1, hc2⟩ := (h.keep0 hb).int hlt
      have hs := Lib.hid (fewOf_snoc zs k (by rw [hz.out]; exact hlt))
      go_wp2_with (at_builtin; refine wpList_append_one rfl (.tmp 18) (.tmp 24) 22 3 rfl Try.underlying22 infoInt rfl w.heap.size _ _ _ rfl hown (.int .i64 _) rfl rfl ?_ ?_ ?_ ?_)
      case refine_1 => omega
      case refine_2 => unfold maxLen; omega
      case refine_3 => exact hb.size
      intro v' w' hown' hkp
      have hb' := hb.trans (owns_below hown hkp hb.size)
      clear hown hkp
      go_wp2
      go_roundw
      case rel => exact ⟨k + 1, by omega, by omega, by go_num, by rw [hs.out, hcv.out]; simpa using hown', hb'⟩
      case measure => simp [intOf]; omega
    · have hlast : fewOf zs k = fewOf zs m := by
        unfold fewOf
        by_cases hkl : k < len
        · rw [show k = m by omega]
        · rw [List.take_of_length_le (by rw [hz.out]; omega), List.take_of_length_le (by rw [hz.out]; omega)]
      obtain ⟨a', c', rfl, hc', hrow, hl, _, _⟩ := own_slice hown
      have hints := hrow.ints hl (fun z hz => wf_of_bd (by have := fewOf_bd z hz; omega))
      rw [hlast] at hints
      have hmin : k = min m len := by omega
      have HM := Lib.hid hmin
      have HI := Lib.hid hints
      clear hlast hown hmin hints
      by_cases hkl : k < len
      all_goals
        go_wp2
        go_ret
        exact ⟨_, _, _, rfl, HM.out, hc', HI.out, hb⟩

/-- So many samples of a loop. -/
def roundOf (zs : List Int) (f t : Int) (n : Nat) : List Int := (List.range n).map fun (i : Nat) => zs.getD (f + (i : Int) % (t - f)).toNat 0
theorem roundOf_snoc (zs : List Int) (f t : Int) (n : Nat) : roundOf zs f t (n + 1) = roundOf zs f t n ++ [zs.getD (f + (n : Int) % (t - f)).toNat 0] := by
  unfold roundOf; rw [List.range_succ, List.map_append]; rfl
theorem roundOf_len (zs : List Int) (f t : Int) (n : Nat) : (roundOf zs f t n).length = n := by simp [roundOf]

set_option maxHeartbeats 400000 in
theorem round_bad (ao : Option Addr) (len cap : Nat) (f t n : Int) (w : World) (h : f < 0 ∨ (len : Int) < t ∨ t ≤ f) :
    Calls Try.prog 8 #[.slice ao len cap, .int .i64 f, .int .i64 t, .int .i64 n] w fun e w' => e = .returned (.slice none 0 0) ∧ w = w' := by
  by_cases h1 : f < 0
  · clear h
    go_enter Try.func8, Try.ntmps8
    go_wp2
    go_ret
    exact ⟨rfl, rfl⟩
  · by_cases h2 : (len : Int) < t
    · clear h
      go_enter Try.func8, Try.ntmps8
      go_wp2
      go_ret
      exact ⟨rfl, rfl⟩
    · have h3 : t ≤ f := by omega
      clear h
      go_enter Try.func8, Try.ntmps8
      go_wp2
      go_ret
      exact ⟨rfl, rfl⟩

theorem round_none (ao : Option Addr) (len cap : Nat) (f t n : Int) (w : World) (h1 : 0 ≤ f) (h2 : t ≤ len) (h3 : f < t) (hn : n ≤ 0) :
    Calls Try.prog 8 #[.slice ao len cap, .int .i64 f, .int .i64 t, .int .i64 n] w fun e w' => e = .returned (.slice none 0 0) ∧ w = w' := by
  go_enter Try.func8, Try.ntmps8
  go_wp2
  all_goals
    refine wp_loop_once ?_
    go_wp2
    go_ret
    exact ⟨rfl, rfl⟩

set_option maxHeartbeats 400000 in
theorem round_any (ao : Option Addr) (len cap : Nat) (zs : List Int) (f t : Int) (n : Nat) (w : World) (h : Ints .i64 w ao len zs) (h1 : 0 ≤ f) (h2 : t ≤ len) (h3 : f < t) (hn : n ≤ 1000000) (hn0 : 0 < n) :
    Calls Try.prog 8 #[.slice ao len cap, .int .i64 f, .int .i64 t, .int .i64 (n : Nat)] w fun e w' => ∃ ao' c', e = .returned (.slice ao' n c') ∧ Ints .i64 w' ao' n (roundOf zs f t n) ∧ Below w.heap.size w w' := by
  have hm := h.lim
  unfold maxLen at hm
  have hz := Lib.hid h.hlen
  go_enter Try.func8, Try.ntmps8
  go_wp2
  go_loopw [9, 26] (fun v i wr => ∃ k : Nat, k ≤ n ∧ i = .int .i64 k ∧ wr.ownsRow w.heap.size 3 1 v k ((roundOf zs f t k).map (Value.int .i64)) ∧ Below w.heap.size w wr) (fun _ i _ => (n - intOf i).toNat)
  case atStart => exact ⟨0, by omega, rfl, World.ownsRow_nil _ _ _ _, Below.refl _ _⟩
  case round =>
    obtain ⟨k, hk, rfl, hown, hb⟩ := hrel
    by_cases hlt : k < n
    · have hq1 := Int.emod_nonneg (k : Int) (show t - f ≠ 0 by omega)
      have hq2 := Int.emod_lt_of_pos (k : Int) (show 0 < t - f by omega)
      obtain ⟨a, c, rfl, hcv, hc, hc1, hc2⟩ := (h.keep0 hb).int (i := (f + (k : Int) % (t - f)).toNat) (by omega)
      have hs := Lib.hid (roundOf_snoc zs f t k)
      go_wp2_with (at_builtin; refine wpList_append_one rfl (.tmp 29) (.tmp 40) 22 3 rfl Try.underlying22 infoInt rfl w.heap.size _ _ _ rfl hown (.int .i64 _) rfl rfl ?_ ?_ ?_ ?_)
      case refine_1 => omega
      case refine_2 => unfold maxLen; omega
      case refine_3 => exact hb.size
      intro v' w' hown' hkp
      have hb' := hb.trans (owns_below hown hkp hb.size)
      clear hown hkp
      go_wp2
      go_roundw
      case rel => exact ⟨k + 1, by omega, by go_num, by rw [hs.out, hcv.out]; simpa using hown', hb'⟩
      case measure => simp [intOf]; omega
    · obtain rfl : k = n := by omega
      obtain ⟨a', c', rfl, hc', hrow, hl, _, _⟩ := own_slice hown
      have hints := hrow.ints hl (fun z hz => by
        simp only [roundOf, List.mem_map] at hz
        obtain ⟨i, _, rfl⟩ := hz
        exact getD_wf h.wf (by decide) _)
      have HI := Lib.hid hints
      clear hown hints
      go_wp2
      go_ret
      exact ⟨_, _, rfl, HI.out, hb⟩

def l123 : List Int := [1, 2, 3]
def l23232 : List Int := [2, 3, 2, 3, 2]
theorem round_l123 : roundOf l123 1 3 5 = l23232 := by decide
set_option maxHeartbeats 400000 in
theorem awake_any (w : World) : Calls Try.prog 9 #[] w fun e w' => e = .returned (.bool true) ∧ Below w.heap.size w w' := by
  go_enter Try.func9, Try.ntmps9
  have hi := Ints.new .i64 w l123 3 (0, 0) _ rfl 3 rfl (by decide) (by decide)
  go_wp2_with (go_at_call 8; refine (round_any _ 3 3 l123 1 3 5 _ hi (by decide) (by decide) (by decide) (by decide) (by decide)).mono ?_; rintro e w1 ⟨ao', c', rfl, hr, hb⟩; rw [round_l123] at hr; obtain ⟨a0, rfl, hc⟩ := hr.some (by omega); have k0 : w1.cell? a0 = some (.int .i64 2) := hc 0 (by omega); have k1 : w1.cell? ⟨a0.block, a0.off + 1, none⟩ = some (.int .i64 3) := hc 1 (by omega); have k4 : w1.cell? ⟨a0.block, a0.off + 4, none⟩ = some (.int .i64 2) := hc 4 (by omega); clear hc)
  go_ret
  exact ⟨rfl, (below_alloc _ _).trans (hb.mono (by simp))⟩

set_option maxHeartbeats 1000000 in
theorem loopRounds_any (ao : Option Addr) (len cap : Nat) (zs : List Int) (f t n : Int) (w : World) (h : Ints .i64 w ao len zs)
    (hf : -9223372036854775808 ≤ f ∧ f ≤ 9223372036854775807) (ht : -9223372036854775808 ≤ t ∧ t ≤ 9223372036854775807) (hn : -9223372036854775808 ≤ n ∧ n ≤ 9223372036854775807) :
    Calls Try.prog 3 #[.slice ao len cap, .int .i64 f, .int .i64 t, .int .i64 n] w fun e w' => e = .returned (.bool true) ∧ Below w.heap.size w w' := by
  go_enter Try.func3, Try.ntmps3
  go_upto_if 14 with (go_at_call 7; refine (few_any ao len cap zs 100 (by decide) w h).mono ?_; rintro e w1 ⟨a1, l1, c1, rfl, hl1, hc1, h1, hb1⟩)
  go_cut [3] (fun v wx => ∃ n' : Int, v = .int .i64 n' ∧ n' ≤ 300 ∧ -9223372036854775808 ≤ n' ∧ w1 = wx)
  case first =>
    by_cases h3 : 300 < n
    all_goals
      go_wp2
      go_meet
      exact ⟨_, rfl, by omega, by omega, rfl⟩
  case rest =>
    obtain ⟨n', rfl, hn1, hn2, rfl⟩ := hcut
    have hlm := h1.lim
    unfold maxLen at hlm
    have hl100 : l1 ≤ 100 := by have := hl1.out; omega
    by_cases hbad : f < 0 ∨ (l1 : Int) < t ∨ t ≤ f
    · have hbad' := hbad
      rcases hbad with h1' | h1'
      · go_wp2_with (first | (go_at_call 8; refine (round_bad _ _ _ _ _ _ _ hbad').mono ?_; rintro e w2 ⟨rfl, rfl⟩) | (go_at_call 9; refine (awake_any _).mono ?_; rintro e w2 ⟨rfl, hb2⟩))
        go_ret
        exact ⟨rfl, hb1.trans (hb2.mono hb1.size)⟩
      · by_cases hf0 : f < 0
        · go_wp2_with (first | (go_at_call 8; refine (round_bad _ _ _ _ _ _ _ hbad').mono ?_; rintro e w2 ⟨rfl, rfl⟩) | (go_at_call 9; refine (awake_any _).mono ?_; rintro e w2 ⟨rfl, hb2⟩))
          go_ret
          exact ⟨rfl, hb1.trans (hb2.mono hb1.size)⟩
        · by_cases htf : t ≤ f
          · clear h1'
            go_wp2_with (first | (go_at_call 8; refine (round_bad _ _ _ _ _ _ _ hbad').mono ?_; rintro e w2 ⟨rfl, rfl⟩) | (go_at_call 9; refine (awake_any _).mono ?_; rintro e w2 ⟨rfl, hb2⟩))
            go_ret
            exact ⟨rfl, hb1.trans (hb2.mono hb1.size)⟩
          · have hlt : (l1 : Int) < t := by omega
            clear h1'
            go_wp2_with (first | (go_at_call 8; refine (round_bad _ _ _ _ _ _ _ hbad').mono ?_; rintro e w2 ⟨rfl, rfl⟩) | (go_at_call 9; refine (awake_any _).mono ?_; rintro e w2 ⟨rfl, hb2⟩))
            go_ret
            exact ⟨rfl, hb1.trans (hb2.mono hb1.size)⟩
    · have hf0 : ¬ f < 0 := by omega
      have htf : ¬ t ≤ f := by omega
      have hlt : ¬ (l1 : Int) < t := by omega
      clear hbad
      by_cases hn0 : 0 < n'
      · obtain ⟨N, rfl⟩ : ∃ N : Nat, n' = N := ⟨n'.toNat, by omega⟩
        go_wp2_with (go_at_call 8; refine (round_any _ _ _ _ _ _ N _ h1 (by omega) (by omega) (by omega) (by omega) (by omega)).mono ?_; rintro e w2 ⟨a2, c2, rfl, h2, hb2⟩)
        go_loopw [10] (fun i wr => ∃ k : Nat, k ≤ N ∧ i = .int .i64 k ∧ Below w2.heap.size w2 wr) (fun i _ => (N - intOf i).toNat)
        case atStart => exact ⟨0, by omega, rfl, Below.refl _ _⟩
        case round =>
          obtain ⟨k, hk, rfl, hw⟩ := hrel
          by_cases hkn : k < N
          · have hq1 := Int.emod_nonneg (k : Int) (show t - f ≠ 0 by omega)
            have hq2 := Int.emod_lt_of_pos (k : Int) (show 0 < t - f by omega)
            obtain ⟨a2, c, rfl, hcv, hc2, hcb1, hcb2⟩ := (h2.keep0 hw).int hkn
            obtain ⟨a1, d, rfl, hdv, hd, hdb1, hdb2⟩ := ((h1.keep0 hb2).keep0 hw).int (i := (f + (k : Int) % (t - f)).toNat) (by omega)
            have hcd : c = d := by
              have e := hcv.out; rw [← hdv.out] ; rw [← e]
              simp [roundOf, hkn]
            subst hcd
            have e1 : IntKind.i64.wrap (t - f) = t - f := IntWalk.i64_in _ (by omega)
            have e2 : (k : Int).tmod (t - f) = (k : Int) % (t - f) := Int.tmod_eq_emod_of_nonneg (by omega)
            have e3 : IntKind.i64.wrap (f + (k : Int) % (t - f)) = f + (k : Int) % (t - f) := IntWalk.i64_in _ (by omega)
            have e4 : 0 ≤ f + (k : Int) % (t - f) := by omega
            have e5 : f + (k : Int) % (t - f) < l1 := by omega
            go_wp2
            go_quiet (fail)
            clear e1 e2 e3
            go_wp2
            go_roundw
            case rel => exact ⟨k + 1, by omega, by go_num, below_drewN hw _⟩
            case measure => simp [intOf]; omega
          · go_wp2_with (go_at_call 9; refine (awake_any _).mono ?_; rintro e w3 ⟨rfl, hb3⟩)
            go_ret
            exact ⟨rfl, ((hb1.trans (hb2.mono hb1.size)).trans (hw.mono (Nat.le_trans hb1.size hb2.size))).trans (hb3.mono (Nat.le_trans (Nat.le_trans hb1.size hb2.size) hw.size))⟩
      · by_cases hnn : n' < 0
        · go_wp2_with (first | (go_at_call 8; refine (round_none _ _ _ _ _ _ _ (by omega) (by omega) (by omega) (by omega)).mono ?_; rintro e w2 ⟨rfl, rfl⟩) | (go_at_call 9; refine (awake_any _).mono ?_; rintro e w2 ⟨rfl, hb2⟩))
          go_ret
          exact ⟨rfl, hb1.trans (hb2.mono hb1.size)⟩
        · obtain rfl : n' = 0 := by omega
          go_wp2_with (go_at_call 8; refine (round_none _ _ _ _ _ _ _ (by omega) (by omega) (by omega) (by omega)).mono ?_; rintro e w2 ⟨rfl, rfl⟩)
          refine wp_loop_once ?_
          go_wp2_with (go_at_call 9; refine (awake_any _).mono ?_; rintro e w2 ⟨rfl, hb2⟩)
          go_ret
          exact ⟨rfl, hb1.trans (hb2.mono hb1.size)⟩
end Go.Proofs.Ytjhcdnfonlggjaa

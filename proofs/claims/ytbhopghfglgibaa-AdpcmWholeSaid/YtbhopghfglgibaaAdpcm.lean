/- The walks of num's and adpcm's small functions, and of the statements' own: steps, states, what a code tells. -/
import Derived.Test.YtbhopghfglgibaaRows
import Derived.Test.YtbhopghfglgibaaCommon
import Derived.StillTailTactics
import Derived.Deep.RegionWith
namespace Go.Proofs.Ytbhopghfglgibaa
open Go.RowKit Go.Calli
set_option linter.unusedVariables false
/-- The steps. -/
def st : Nat → Int
  | 0 => 16
  | n + 1 => st n + (if st n / 8 < 1 then 1 else st n / 8)
theorem st_lo (n : Nat) : 16 ≤ st n := by
  induction n with
  | zero => decide
  | succ n ih => unfold st; split <;> omega
theorem st_mono (n : Nat) : st n ≤ st (n + 1) := by
  have := st_lo n
  show st n ≤ st n + _
  split <;> omega
theorem st_mono' (n k : Nat) : st n ≤ st (n + k) := by
  induction k with
  | zero => exact Int.le_refl _
  | succ k ih => exact Int.le_trans ih (st_mono _)
theorem st_48 : st 48 ≤ 10000 := by decide +kernel
theorem st_hi (n : Nat) (h : n ≤ 48) : st n ≤ 10000 := by
  have := st_mono' n (48 - n)
  rw [show n + (48 - n) = 48 by omega] at this
  have := st_48
  omega
/-- How many steps: of a number, held within 0 and 48. -/
def stN (i : Int) : Nat := if i < 0 then 0 else if 48 < i then 48 else i.toNat
theorem stN_le (i : Int) : stN i ≤ 48 := by unfold stN; split; omega; split <;> omega
def stepOf (i : Int) : Int := st (stN i)
theorem stepOf_bd (i : Int) : 16 ≤ stepOf i ∧ stepOf i ≤ 10000 := ⟨st_lo _, st_hi _ (stN_le i)⟩

theorem stepOf_zero {i : Int} (h : i ≤ 0) : stepOf i = st 0 := by unfold stepOf stN; split; rfl; rw [if_neg (by omega), show i.toNat = 0 by omega]
theorem stepOf_top {i : Int} (h : 48 ≤ i) : stepOf i = st 48 := by
  unfold stepOf stN; rw [if_neg (by omega)]; split; rfl; rw [show i.toNat = 48 by omega]
theorem stepOf_mid {n : Nat} (h : n < 48) : stepOf n = st n := by
  unfold stepOf stN; rw [if_neg (by omega), if_neg (by omega)]; rfl
theorem st_succ1 {n : Nat} (h : st n / 8 < 1) : st (n + 1) = st n + 1 := by show st n + _ = _; rw [if_pos h]
theorem st_succ2 {n : Nat} (h : ¬ st n / 8 < 1) : st (n + 1) = st n + st n / 8 := by show st n + _ = _; rw [if_neg h]

set_option maxHeartbeats 400000 in
theorem step_any (i : Int) (w : World) : Calls Try.prog 8 #[.int .i64 i] w fun e w' => e = .returned (.int .i64 (stepOf i)) ∧ w = w' := by
  by_cases h0 : i ≤ 0
  · obtain ⟨K, hK, hE⟩ : ∃ K : Nat, K ≤ 0 ∧ Hid (stepOf i = st K) := ⟨0, Nat.le_refl _, stepOf_zero h0⟩
    go_enter Try.func8, Try.ntmps8
    go_wp2_with fail
    all_goals
      go_loop [3, 7] (fun s k => ∃ n : Nat, n ≤ K ∧ k = .int .i64 n ∧ s = .int .i64 (st n)) (fun _ k => (K - intOf k).toNat)
      case atStart => exact ⟨0, by omega, rfl, rfl⟩
      case round =>
        obtain ⟨n, hn, rfl, rfl⟩ := hrel
        have hlo := st_lo n
        by_cases hlt : n < K
        · have hhi := st_hi n (by omega)
          have hs := Lib.hid (st_succ2 (n := n) (by omega))
          go_wp2
          all_goals
            go_round
            case rel => exact ⟨n + 1, by omega, by go_num, by (rw [hs.out]) <;> (congr 1; omega)⟩
            case measure => simp [intOf]; omega
        · obtain rfl : n = K := by omega
          go_wp2
          go_ret
          exact ⟨ret_int hE.out.symm, rfl⟩
  · by_cases h48 : 48 ≤ i
    · obtain ⟨K, hK, hK2, hE⟩ : ∃ K : Nat, K ≤ 48 ∧ 48 ≤ K ∧ Hid (stepOf i = st K) := ⟨48, by omega, by omega, stepOf_top h48⟩
      go_enter Try.func8, Try.ntmps8
      go_wp2_with fail
      all_goals
        go_loop [3, 7] (fun s k => ∃ n : Nat, n ≤ K ∧ k = .int .i64 n ∧ s = .int .i64 (st n)) (fun _ k => (K - intOf k).toNat)
        case atStart => exact ⟨0, by omega, rfl, rfl⟩
        case round =>
          obtain ⟨n, hn, rfl, rfl⟩ := hrel
          have hlo := st_lo n
          by_cases hlt : n < K
          · have hhi := st_hi n (by omega)
            have hs := Lib.hid (st_succ2 (n := n) (by omega))
            go_wp2
            all_goals
              go_round
              case rel => exact ⟨n + 1, by omega, by go_num, by (rw [hs.out]) <;> (congr 1; omega)⟩
              case measure => simp [intOf]; omega
          · obtain rfl : n = K := by omega
            go_wp2
            go_ret
            exact ⟨ret_int hE.out.symm, rfl⟩
    · obtain ⟨K, rfl⟩ : ∃ K : Nat, i = K := ⟨i.toNat, by omega⟩
      have hE := Lib.hid (stepOf_mid (n := K) (by omega))
      go_enter Try.func8, Try.ntmps8
      go_wp2_with fail
      all_goals
        go_loop [3, 7] (fun s k => ∃ n : Nat, n ≤ K ∧ k = .int .i64 n ∧ s = .int .i64 (st n)) (fun _ k => (K - intOf k).toNat)
        case atStart => exact ⟨0, by omega, rfl, rfl⟩
        case round =>
          obtain ⟨n, hn, rfl, rfl⟩ := hrel
          have hlo := st_lo n
          by_cases hlt : n < K
          · have hhi := st_hi n (by omega)
            have hs := Lib.hid (st_succ2 (n := n) (by omega))
            go_wp2
            all_goals
              go_round
              case rel => exact ⟨n + 1, by omega, by go_num, by (rw [hs.out]) <;> (congr 1; omega)⟩
              case measure => simp [intOf]; omega
          · obtain rfl : n = K := by omega
            go_wp2
            go_ret
            exact ⟨ret_int hE.out.symm, rfl⟩

set_option maxHeartbeats 400000 in
theorem lstep_any (i : Int) (w : World) : Calls Try.prog 9 #[.int .i64 i] w fun e w' => e = .returned (.int .i64 (stepOf i)) ∧ w = w' := by
  go_enter Try.func9, Try.ntmps9
  go_wp2_with fail
  go_loop [3, 4] (fun s k => ∃ n : Nat, n ≤ 48 ∧ (n = 0 ∨ (n : Int) ≤ i) ∧ k = .int .i64 n ∧ s = .int .i64 (st n)) (fun _ k => (48 - intOf k).toNat)
  case atStart => exact ⟨0, by omega, .inl rfl, rfl, rfl⟩
  case round =>
    obtain ⟨n, hn, hni, rfl, rfl⟩ := hrel
    have hlo := st_lo n
    have hhi := st_hi n hn
    by_cases hlt : (n : Int) < i
    · by_cases h48 : n < 48
      · have hs := Lib.hid (st_succ2 (n := n) (by omega))
        clear hni
        go_wp2
        go_round
        case rel => exact ⟨n + 1, by omega, .inr (by omega), by go_num, by rw [hs.out]⟩
        case measure => simp [intOf]; omega
      · have hE := Lib.hid (show stepOf i = st n by rw [stepOf_top (by omega), show n = 48 by omega])
        clear hni
        go_wp2
        go_ret
        exact ⟨ret_int hE.out.symm, rfl⟩
    · have hE := Lib.hid (show stepOf i = st n by
        rcases hni with rfl | hni
        · exact stepOf_zero (by omega)
        · obtain rfl : i = n := by omega
          by_cases h48 : n < 48
          · exact stepOf_mid h48
          · rw [stepOf_top (by omega), show n = 48 by omega])
      clear hni
      go_wp2
      go_ret
      exact ⟨ret_int hE.out.symm, rfl⟩

/-- A number held within two others. -/
def holdOf (v lo hi : Int) : Int := if v < lo then lo else if hi < v then hi else v
theorem holdOf_bd {v lo hi : Int} (h : lo ≤ hi) : lo ≤ holdOf v lo hi ∧ holdOf v lo hi ≤ hi := by
  unfold holdOf; split; omega; split <;> omega
set_option maxHeartbeats 400000 in
theorem clamp_any (v lo hi : Int) (h : lo ≤ hi) (w : World) : Calls Try.prog 30 #[.int .i64 v, .int .i64 lo, .int .i64 hi] w fun e w' => e = .returned (.int .i64 (holdOf v lo hi)) ∧ w = w' := by
  by_cases h1 : v < lo
  · have hv := Lib.hid (show holdOf v lo hi = lo by unfold holdOf; rw [if_pos h1])
    go_enter Try.func30, Try.ntmps30
    go_wp2
    go_ret
    exact ⟨ret_int hv.out.symm, rfl⟩
  · by_cases h2 : hi < v
    · have hv := Lib.hid (show holdOf v lo hi = hi by unfold holdOf; rw [if_neg h1, if_pos h2])
      go_enter Try.func30, Try.ntmps30
      go_wp2
      go_ret
      exact ⟨ret_int hv.out.symm, rfl⟩
    · have hv := Lib.hid (show holdOf v lo hi = v by unfold holdOf; rw [if_neg h1, if_neg h2])
      go_enter Try.func30, Try.ntmps30
      go_wp2
      go_ret
      exact ⟨ret_int hv.out.symm, rfl⟩
set_option maxHeartbeats 400000 in
theorem hold_any (v lo hi : Int) (w : World) : Calls Try.prog 25 #[.int .i64 v, .int .i64 lo, .int .i64 hi] w fun e w' => e = .returned (.int .i64 (holdOf v lo hi)) ∧ w = w' := by
  by_cases h1 : v < lo
  · have hv := Lib.hid (show holdOf v lo hi = lo by unfold holdOf; rw [if_pos h1])
    go_enter Try.func25, Try.ntmps25
    go_wp2
    go_ret
    exact ⟨ret_int hv.out.symm, rfl⟩
  · by_cases h2 : hi < v
    · have hv := Lib.hid (show holdOf v lo hi = hi by unfold holdOf; rw [if_neg h1, if_pos h2])
      go_enter Try.func25, Try.ntmps25
      go_wp2
      go_ret
      exact ⟨ret_int hv.out.symm, rfl⟩
    · have hv := Lib.hid (show holdOf v lo hi = v by unfold holdOf; rw [if_neg h1, if_neg h2])
      go_enter Try.func25, Try.ntmps25
      go_wp2
      go_ret
      exact ⟨ret_int hv.out.symm, rfl⟩
theorem sat_any (v : Int) (w : World) : Calls Try.prog 28 #[.int .i64 v] w fun e w' => e = .returned (.int .i64 (holdOf v (-32768) 32767)) ∧ w = w' := by
  have hb := holdOf_bd (v := v) (lo := -32768) (hi := 32767) (by omega)
  go_enter Try.func28, Try.ntmps28
  go_wp2_with (go_at_call 30; refine (clamp_any _ _ _ (by omega) _).mono ?_; rintro e w' ⟨rfl, rfl⟩)
  go_ret
  exact ⟨rfl, rfl⟩

/-- How far a code goes. -/
def diffOf (step : Int) (c : Nat) : Int := if 8 ≤ c then -(step * (2 * ((c % 8 : Nat) : Int) + 1) / 8) else step * (2 * ((c % 8 : Nat) : Int) + 1) / 8
theorem and7 : ∀ c, c < 16 → bits BinOp.and IntKind.i64 ((c : Nat) : Int) 7 = ((c % 8 : Nat) : Int) := by decide
theorem and8 : ∀ c, c < 16 → bits BinOp.and IntKind.i64 ((c : Nat) : Int) 8 = if 8 ≤ c then 8 else 0 := by decide
theorem mul15_bd (s k : Int) (hs : 16 ≤ s ∧ s ≤ 10000) (hk : 1 ≤ k ∧ k ≤ 15) : 0 ≤ s * k ∧ s * k ≤ 150000 := by
  have h1 : s * k ≤ s * 15 := Int.mul_le_mul_of_nonneg_left hk.2 (by omega)
  have h2 : 0 ≤ s * k := Int.mul_nonneg (by omega) (by omega)
  omega
theorem diffOf_bd (s : Int) (c : Nat) (hs : 16 ≤ s ∧ s ≤ 10000) : -20000 ≤ diffOf s c ∧ diffOf s c ≤ 20000 := by
  have := mul15_bd s (2 * ((c % 8 : Nat) : Int) + 1) hs (by omega)
  unfold diffOf; split <;> omega
set_option maxHeartbeats 400000 in
theorem diff_any (s : Int) (c : Nat) (hs : 16 ≤ s ∧ s ≤ 10000) (hc : c < 16) (w : World) : Calls Try.prog 29 #[.int .i64 s, .int .i64 (c : Nat)] w fun e w' => e = .returned (.int .i64 (diffOf s c)) ∧ w = w' := by
  have h7 := and7 c hc
  have hk : (0 : Int) ≤ ((c % 8 : Nat) : Int) ∧ ((c % 8 : Nat) : Int) ≤ 7 := by omega
  have hm := mul15_bd s (2 * ((c % 8 : Nat) : Int) + 1) hs (by omega)
  have h8 := and8 c hc
  generalize hK : ((c % 8 : Nat) : Int) = K at *
  by_cases hc8 : 8 ≤ c
  · have hE := Lib.hid (show diffOf s c = -(s * (2 * K + 1) / 8) by unfold diffOf; rw [if_pos hc8, hK])
    rw [if_pos hc8] at h8
    clear hK
    go_enter Try.func29, Try.ntmps29
    go_wp2
    go_ret
    exact ⟨ret_int hE.out.symm, rfl⟩
  · have hE := Lib.hid (show diffOf s c = s * (2 * K + 1) / 8 by unfold diffOf; rw [if_neg hc8, hK])
    rw [if_neg hc8] at h8
    clear hK
    go_enter Try.func29, Try.ntmps29
    go_wp2
    go_ret
    exact ⟨ret_int hE.out.symm, rfl⟩

/-- How a step's number goes on behind a code. -/
def turnOf (c : Nat) : Int := if c % 8 < 4 then -1 else 2 * ((c % 8 : Nat) : Int) - 6
theorem turnOf_bd (c : Nat) : -1 ≤ turnOf c ∧ turnOf c ≤ 8 := by unfold turnOf; split <;> omega
theorem turn_index (c : Nat) (hc : c < 16) (w : World) : (Instr.index 59 (.agg #[.int .i64 (-1), .int .i64 (-1), .int .i64 (-1), .int .i64 (-1), .int .i64 2, .int .i64 4, .int .i64 6, .int .i64 8]) (.int .i64 (bits BinOp.and IntKind.i64 ((c : Nat) : Int) 7))).run Try.prog w = .ok (.int .i64 (turnOf c)) w := by
  have : c = 0 ∨ c = 1 ∨ c = 2 ∨ c = 3 ∨ c = 4 ∨ c = 5 ∨ c = 6 ∨ c = 7 ∨ c = 8 ∨ c = 9 ∨ c = 10 ∨ c = 11 ∨ c = 12 ∨ c = 13 ∨ c = 14 ∨ c = 15 := by omega
  rcases this with rfl | rfl | rfl | rfl | rfl | rfl | rfl | rfl | rfl | rfl | rfl | rfl | rfl | rfl | rfl | rfl
  all_goals rfl
set_option maxHeartbeats 400000 in
theorem turn_any (c : Nat) (hc : c < 16) (w : World) : Calls Try.prog 31 #[.int .i64 (c : Nat)] w fun e w' => e = .returned (.int .i64 (turnOf c)) ∧ w = w' := by
  have hi := turn_index c hc
  go_enter Try.func31, Try.ntmps31
  go_wp2
  go_ret
  exact ⟨rfl, rfl⟩

/-- The state behind a code. -/
def nextL (l i : Int) (c : Nat) : Int := holdOf (l + diffOf (stepOf i) c) (-32768) 32767
def nextI (i : Int) (c : Nat) : Int := holdOf (i + turnOf c) 0 48
/-- A state as a value. -/
def stv (l i : Int) : Value := .agg #[.int .i64 l, .int .i64 i]
/-- A state that may be. -/
def RightS (l i : Int) : Prop := -32768 ≤ l ∧ l ≤ 32767 ∧ 0 ≤ i ∧ i ≤ 48
theorem next_right (l i : Int) (c : Nat) : RightS (nextL l i c) (nextI i c) := by
  have h1 := holdOf_bd (v := l + diffOf (stepOf i) c) (lo := -32768) (hi := 32767) (by omega)
  have h2 := holdOf_bd (v := i + turnOf c) (lo := 0) (hi := 48) (by omega)
  exact ⟨h1.1, h1.2, h2.1, h2.2⟩
def NextPost (l i : Int) (c : Nat) (w : World) (e : Ending) (w' : World) : Prop := e = .returned (.agg #[.int .i64 (nextL l i c), .int .i64 (nextI i c)]) ∧ Below w.heap.size w w'

theorem info23 : (Try.prog.info? 23).map (·.size) = some 2 := by kernel_rfl
theorem flip {P : Program} {f : FuncId} {args : Array Value} {w : World} {v : Value} (h : Calls P f args w fun e w' => e = .returned v ∧ w = w') : Calls P f args w fun e w' => e = .returned v ∧ w' = w := h.mono fun _ _ h => ⟨h.1, h.2.symm⟩
theorem two_cells {w : World} {b : Nat} {x y : Value} {t : Nat} (h : w.heap[b]? = some (.cells #[x, y] t (0, 0))) :
    w.cell? ⟨b, 0, none⟩ = some x ∧ w.cell? ⟨b, 1, none⟩ = some y ∧ w.frozen? ⟨b, 0, none⟩ = false ∧ w.frozen? ⟨b, 1, none⟩ = false :=
  ⟨(cell_of_row _ _ _ _ _ _ h).trans rfl, (cell_of_row _ _ _ _ _ _ h).trans rfl, frozen_of_row _ _ _ _ _ h, frozen_of_row _ _ _ _ _ h⟩
theorem two_same {w : World} {b : Nat} {x y : Value} {t : Nat} (h : w.heap[b]? = some (.cells #[x, y] t (0, 0))) (x' y' : Value) :
    ((w.setCell ⟨b, 0, none⟩ x').setCell ⟨b, 1, none⟩ y').heap[b]? = some (.cells #[x', y'] t (0, 0)) := by
  rw [heap_setCell_same _ _ _ _ _ _ (heap_setCell_same _ _ _ _ _ _ h)]; rfl
set_option maxRecDepth 100000 in
set_option maxHeartbeats 1000000 in
theorem next_any (l i : Int) (c : Nat) (hr : RightS l i) (hc : c < 16) (w : World) : Calls Try.prog 24 #[.agg #[.int .i64 l, .int .i64 i], .int .i64 (c : Nat)] w (NextPost l i c w) := by
  obtain ⟨r1, r2, r3, r4⟩ := hr
  have hs := stepOf_bd i
  have hd := diffOf_bd (stepOf i) c hs
  have ht := turnOf_bd c
  have hb1 := holdOf_bd (v := l + diffOf (stepOf i) c) (lo := -32768) (hi := 32767) (by omega)
  have hb2 := holdOf_bd (v := i + turnOf c) (lo := 0) (hi := 48) (by omega)
  have e1 : IntKind.i64.wrap (l + diffOf (stepOf i) c) = l + diffOf (stepOf i) c := IntWalk.i64_in _ (by omega)
  have e2 : IntKind.i64.wrap (i + turnOf c) = i + turnOf c := IntWalk.i64_in _ (by omega)
  go_enter Try.func24, Try.ntmps24
  go_wp2_with fail
  have c0 : ((w.alloc (.cells #[.int .i64 l, .int .i64 i] 23)).alloc (.cells #[.int .i64 0, .int .i64 0] 23)).cell? ⟨w.heap.size, 0, none⟩ = some (.int .i64 l) := by simp [go_sem]
  have c1 : ((w.alloc (.cells #[.int .i64 l, .int .i64 i] 23)).alloc (.cells #[.int .i64 0, .int .i64 0] 23)).cell? ⟨w.heap.size, 1, none⟩ = some (.int .i64 i) := by simp [go_sem]
  have hz : ((w.alloc (.cells #[.int .i64 l, .int .i64 i] 23)).alloc (.cells #[.int .i64 0, .int .i64 0] 23)).heap[w.heap.size + 1]? = some (.cells #[.int .i64 0, .int .i64 0] 23 (0, 0)) := heap_alloc2_new _ _ _
  have hb : Below w.heap.size w ((w.alloc (.cells #[.int .i64 l, .int .i64 i] 23)).alloc (.cells #[.int .i64 0, .int .i64 0] 23)) := (below_alloc _ _).alloc (by simp) _
  have HZ := Lib.hid hz
  obtain ⟨z0, z1, f0, f1⟩ := two_cells hz
  clear hz
  generalize ((w.alloc (.cells #[.int .i64 l, .int .i64 i] 23)).alloc (.cells #[.int .i64 0, .int .i64 0] 23)) = W at *
  go_still_tail 15, (by kernel_rfl)
  still_call (flip (step_any _ _))
  repeat still_step
  still_call (flip (diff_any _ _ hs hc _))
  repeat still_step
  still_call (flip (sat_any _ _))
  repeat still_step
  still_call (flip (turn_any _ hc _))
  repeat still_step
  still_call (flip (clamp_any _ _ _ (by omega) _))
  refine wpStill_nil ?_
  change wpList _ _ _ _ _ W.drew
  go_wp2
  refine bodyPost_ret (results_cell_row rfl _ _ _ _ _ _ _ rfl (two_same HZ.out _ _) Try.underlying23 rfl info23) rfl ⟨rfl, ?_⟩
  exact ((hb.setCell (Nat.le_succ _) _).setCell (Nat.le_succ _) _).drew

set_option maxRecDepth 100000 in
set_option maxHeartbeats 1000000 in
theorem lnext_any (l i : Int) (c : Nat) (hr : RightS l i) (hc : c < 16) (w : World) : Calls Try.prog 14 #[.agg #[.int .i64 l, .int .i64 i], .int .i64 (c : Nat)] w (NextPost l i c w) := by
  obtain ⟨r1, r2, r3, r4⟩ := hr
  have hs := stepOf_bd i
  have hd := diffOf_bd (stepOf i) c hs
  have ht := turnOf_bd c
  have hm := mul15_bd (stepOf i) (2 * ((c : Int) % 8) + 1) hs (by omega)
  have e1 : IntKind.i64.wrap (l + diffOf (stepOf i) c) = l + diffOf (stepOf i) c := IntWalk.i64_in _ (by omega)
  have e2 : IntKind.i64.wrap (i + turnOf c) = i + turnOf c := IntWalk.i64_in _ (by omega)
  have c0 : ((w.alloc (.cells #[.int .i64 l, .int .i64 i] 23)).alloc (.cells #[.int .i64 0, .int .i64 0] 23)).cell? ⟨w.heap.size, 0, none⟩ = some (.int .i64 l) := by simp [go_sem]
  have c1 : ((w.alloc (.cells #[.int .i64 l, .int .i64 i] 23)).alloc (.cells #[.int .i64 0, .int .i64 0] 23)).cell? ⟨w.heap.size, 1, none⟩ = some (.int .i64 i) := by simp [go_sem]
  have hz : ((w.alloc (.cells #[.int .i64 l, .int .i64 i] 23)).alloc (.cells #[.int .i64 0, .int .i64 0] 23)).heap[w.heap.size + 1]? = some (.cells #[.int .i64 0, .int .i64 0] 23 (0, 0)) := heap_alloc2_new _ _ _
  have hb : Below w.heap.size w ((w.alloc (.cells #[.int .i64 l, .int .i64 i] 23)).alloc (.cells #[.int .i64 0, .int .i64 0] 23)) := (below_alloc _ _).alloc (by simp) _
  have HZ := Lib.hid hz
  obtain ⟨z0, z1, f0, f1⟩ := two_cells hz
  clear hz
  go_enter Try.func14, Try.ntmps14
  go_upto_region 1 with fail
  generalize ((w.alloc (.cells #[.int .i64 l, .int .i64 i] 23)).alloc (.cells #[.int .i64 0, .int .i64 0] 23)) = W at *
  go_upto_if 19 with (go_at_call 9; refine (lstep_any _ _).mono ?_; rintro e w' ⟨rfl, rfl⟩)
  go_cut [6] (fun v wx => v = .int .i64 (diffOf (stepOf i) c) ∧ W = wx)
  case first =>
    by_cases h8 : 8 ≤ c
    · have hE := Lib.hid (show diffOf (stepOf i) c = -(stepOf i * (2 * ((c : Int) % 8) + 1) / 8) by unfold diffOf; rw [if_pos h8]; rfl)
      go_wp2
      go_meet
      exact ⟨by rw [hE.out], rfl⟩
    · have hE := Lib.hid (show diffOf (stepOf i) c = stepOf i * (2 * ((c : Int) % 8) + 1) / 8 by unfold diffOf; rw [if_neg h8]; rfl)
      go_wp2
      go_meet
      exact ⟨by rw [hE.out], rfl⟩
  case rest =>
    obtain ⟨rfl, rfl⟩ := hcut
    go_upto_if 23 with fail
    go_cut [7] (fun v wx => v = .int .i64 (turnOf c) ∧ W = wx)
    case first =>
      by_cases h4 : 4 ≤ (c : Int) % 8
      · have hE := Lib.hid (show turnOf c = 2 * ((c : Int) % 8 - 3) by unfold turnOf; rw [if_neg (by omega)]; omega)
        go_wp2
        go_meet
        exact ⟨by rw [hE.out], rfl⟩
      · have hE := Lib.hid (show turnOf c = -1 by unfold turnOf; rw [if_pos (by omega)])
        go_wp2
        go_meet
        exact ⟨by rw [hE.out], rfl⟩
    case rest =>
      obtain ⟨rfl, rfl⟩ := hcut
      go_upto_region 8 with fail
      go_still_tail 10, (by kernel_rfl)
      still_call (flip (hold_any _ _ _ _))
      repeat still_step
      still_call (flip (hold_any _ _ _ _))
      refine wpStill_nil ?_
      change wpList _ _ _ _ _ W.drew
      go_wp2
      refine bodyPost_ret (results_cell_row rfl _ _ _ _ _ _ _ rfl (two_same HZ.out _ _) Try.underlying23 rfl info23) rfl ⟨rfl, ?_⟩
      exact ((hb.setCell (Nat.le_succ _) _).setCell (Nat.le_succ _) _).drew
end Go.Proofs.Ytbhopghfglgibaa

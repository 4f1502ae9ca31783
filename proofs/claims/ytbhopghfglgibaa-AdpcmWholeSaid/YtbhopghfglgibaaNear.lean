/- The walks of num.Abs, State.Encode, and the statement's own encode; the statement AdpcmNearest. -/
import Derived.Test.YtbhopghfglgibaaCodes
namespace Go.Proofs.Ytbhopghfglgibaa
open Go.RowKit Go.Calli
set_option linter.unusedVariables false
/-- How far two numbers are from one another. -/
def farOf (a b : Int) : Int := if b < a then a - b else b - a
theorem farOf_bd {a b : Int} (ha : -32768 ≤ a ∧ a ≤ 32767) (hb : -1048576 ≤ b ∧ b ≤ 1048576) : 0 ≤ farOf a b ∧ farOf a b ≤ 3000000 := by unfold farOf; split <;> omega
set_option maxHeartbeats 400000 in
theorem abs_any (a b : Int) (ha : -32768 ≤ a ∧ a ≤ 32767) (hb : -1048576 ≤ b ∧ b ≤ 1048576) (w : World) : Calls Try.prog 26 #[.int .i64 (a - b)] w fun e w' => e = .returned (.int .i64 (farOf a b)) ∧ w = w' := by
  have hd : a - b ≠ -9223372036854775808 := by omega
  have hd' : ((a - b) == -9223372036854775808) = false := by simpa using hd
  clear hd
  by_cases h : a - b < 0
  · have hE := Lib.hid (show farOf a b = -(a - b) by unfold farOf; rw [if_neg (by omega)]; omega)
    go_enter Try.func26, Try.ntmps26
    go_wp2
    go_ret
    exact ⟨ret_int (by rw [hE.out]), rfl⟩
  · have hE := Lib.hid (show farOf a b = a - b by unfold farOf; split <;> omega)
    go_enter Try.func26, Try.ntmps26
    go_wp2
    go_ret
    exact ⟨ret_int (by rw [hE.out]), rfl⟩
set_option maxHeartbeats 400000 in
theorem far_any (a b : Int) (ha : -32768 ≤ a ∧ a ≤ 32767) (hb : -1048576 ≤ b ∧ b ≤ 1048576) (w : World) : Calls Try.prog 27 #[.int .i64 a, .int .i64 b] w fun e w' => e = .returned (.int .i64 (farOf a b)) ∧ w = w' := by
  by_cases h : b < a
  · have hE := Lib.hid (show farOf a b = a - b by unfold farOf; rw [if_pos h])
    go_enter Try.func27, Try.ntmps27
    go_wp2
    go_ret
    exact ⟨ret_int (by rw [hE.out]), rfl⟩
  · have hE := Lib.hid (show farOf a b = b - a by unfold farOf; rw [if_neg h])
    go_enter Try.func27, Try.ntmps27
    go_wp2
    go_ret
    exact ⟨ret_int (by rw [hE.out]), rfl⟩

/-- The code that comes nearest, among the first n + 1. -/
def bestOf (l i v : Int) : Nat → Nat
  | 0 => 0
  | n + 1 => if farOf (nextL l i (n + 1)) v < farOf (nextL l i (bestOf l i v n)) v then n + 1 else bestOf l i v n
theorem bestOf_le (l i v : Int) (n : Nat) : bestOf l i v n ≤ n := by
  induction n with
  | zero => exact Nat.le_refl _
  | succ n ih => unfold bestOf; split <;> omega
theorem bestOf_take {l i v : Int} {n : Nat} (h : farOf (nextL l i (n + 1)) v < farOf (nextL l i (bestOf l i v n)) v) : bestOf l i v (n + 1) = n + 1 := if_pos h
theorem bestOf_keep {l i v : Int} {n : Nat} (h : ¬ farOf (nextL l i (n + 1)) v < farOf (nextL l i (bestOf l i v n)) v) : bestOf l i v (n + 1) = bestOf l i v n := if_neg h

theorem field0 (a b : Int) (w : World) : (Instr.field 23 (.agg #[.int .i64 a, .int .i64 b]) 0).run Try.prog w = .ok (.int .i64 a) w := by kernel_rfl
set_option maxRecDepth 100000 in
set_option maxHeartbeats 1000000 in
theorem lencode_any (l i v : Int) (hr : RightS l i) (hv : -1048576 ≤ v ∧ v ≤ 1048576) (w : World) :
    Calls Try.prog 16 #[.agg #[.int .i64 l, .int .i64 i], .int .i64 v] w fun e w' => e = .returned (.int .i64 (bestOf l i v 15 : Nat)) ∧ Below w.heap.size w w' := by
  have hf0 := field0
  go_enter Try.func16, Try.ntmps16
  go_wp2_with fail
  go_loopw [5, 6] (fun b k wr => ∃ n K : Nat, n ≤ 15 ∧ Hid (K = n + 1) ∧ K ≤ n + 1 ∧ n + 1 ≤ K ∧ k = .int .i64 K ∧ b = .int .i64 (bestOf l i v n : Nat) ∧ wr.cell? ⟨w.heap.size, 0, none⟩ = some (.int .i64 l) ∧ wr.cell? ⟨w.heap.size, 1, none⟩ = some (.int .i64 i) ∧ Below w.heap.size w wr) (fun _ k _ => (16 - intOf k).toNat)
  case atStart => exact ⟨0, 1, by omega, rfl, by omega, by omega, rfl, rfl, by simp [go_sem], by simp [go_sem], below_alloc _ _⟩
  case round =>
    obtain ⟨n, K, hn, hK, hK1, hK2, rfl, rfl, k0, k1, hb⟩ := hrel
    have hle := bestOf_le l i v n
    by_cases hlt : n < 15
    · obtain ⟨r1, r2, -, -⟩ := next_right l i K
      obtain ⟨r3, r4, -, -⟩ := next_right l i (bestOf l i v n)
      go_wp2_with fail
      go_region_held3 (fun w' => w'.cell? ⟨w.heap.size, 0, none⟩ = some (.int .i64 l) ∧ w'.cell? ⟨w.heap.size, 1, none⟩ = some (.int .i64 i)) (go_keep) (first | (go_at_call_of 14 (Value.int IntKind.i64 ((K : Nat) : Int)); refine (lnext_any _ _ K hr (by omega) _).mono ?_; rintro e w1 ⟨rfl, hb1⟩; have p0 : w1.cell? ⟨w.heap.size, 0, none⟩ = some (.int .i64 l) := cell_later hb1 (by assumption); have p1 : w1.cell? ⟨w.heap.size, 1, none⟩ = some (.int .i64 i) := cell_later hb1 (by assumption)) | (go_at_call 14; refine (lnext_any _ _ (bestOf l i v n) hr (by omega) _).mono ?_; rintro e w2 ⟨rfl, hb2⟩; have q0 : w2.cell? ⟨w.heap.size, 0, none⟩ = some (.int .i64 l) := cell_later hb2 (by assumption); have q1 : w2.cell? ⟨w.heap.size, 1, none⟩ = some (.int .i64 i) := cell_later hb2 (by assumption)) | (go_at_call 27; refine (far_any _ _ (by omega) hv _).mono ?_; rintro e w' ⟨rfl, rfl⟩))
      have hb2' : Below w.heap.size w w2 := bstep (bstep (hb.drew) hb1) hb2
      by_cases hc : farOf (nextL l i K) v < farOf (nextL l i (bestOf l i v n)) v
      · have hE := Lib.hid (show bestOf l i v (n + 1) = K by obtain rfl := hK.out; exact bestOf_take hc)
        go_wp2
        go_roundw
        case rel => exact ⟨n + 1, K + 1, by omega, by have := hK.out; unfold Hid; omega, by omega, by omega, by go_num, by rw [hE.out], q0, q1, hb2'⟩
        case measure => simp [intOf]; omega
      · have hE := Lib.hid (show bestOf l i v (n + 1) = bestOf l i v n by obtain rfl := hK.out; exact bestOf_keep hc)
        go_wp2
        go_roundw
        case rel => exact ⟨n + 1, K + 1, by omega, by have := hK.out; unfold Hid; omega, by omega, by omega, by go_num, by rw [hE.out], q0, q1, hb2'⟩
        case measure => simp [intOf]; omega
    · obtain rfl : n = 15 := by omega
      go_wp2_with fail
      go_ret
      exact ⟨rfl, hb⟩

/-- What Encode answers. -/
def EncPost (c : Int) (l i : Int) (w : World) (e : Ending) (w' : World) : Prop := e = .returned (.tuple #[.int .i64 c, .agg #[.int .i64 l, .int .i64 i]]) ∧ Below w.heap.size w w'
set_option maxRecDepth 100000 in
set_option maxHeartbeats 1000000 in
theorem encode_no (l i v : Int) (h : ¬ RightS l i) (w : World) : Calls Try.prog 15 #[.agg #[.int .i64 l, .int .i64 i], .int .i64 v] w (EncPost 0 0 0 w) := by
  go_enter Try.func15, Try.ntmps15
  go_wp2_with (go_at_call 10; refine (right_no _ _ h _).mono ?_; rintro e w1 ⟨rfl, hb1⟩; obtain ⟨z0, z1, f0, f1⟩ := two_cells ((hb1.block (w.heap.size + 1) (by simp)).trans (heap_alloc2_new _ _ _)))
  have hH := (hb1.block (w.heap.size + 1) (by simp)).trans (heap_alloc2_new _ _ _)
  obtain ⟨s0, s1, -⟩ := two_cells (two_same hH (.int .i64 0) (.int .i64 0))
  refine bodyPost_ret (v := .tuple #[.int .i64 0, .agg #[.int .i64 0, .int .i64 0]]) (by simp [results, Try.results15, go_sem, s0, s1]) rfl ⟨rfl, ?_⟩
  exact ((bstep (balloc (below_alloc _ _) _) hb1).setCell (Nat.le_succ _) _).setCell (Nat.le_succ _) _
set_option maxRecDepth 100000 in
set_option maxHeartbeats 1000000 in
theorem encode_any (l i v : Int) (hr : RightS l i) (hv : -1048576 ≤ v ∧ v ≤ 1048576) (w : World) :
    Calls Try.prog 15 #[.agg #[.int .i64 l, .int .i64 i], .int .i64 v] w (EncPost (bestOf l i v 15 : Nat) (nextL l i (bestOf l i v 15)) (nextI i (bestOf l i v 15)) w) := by
  have hf0 := field0
  go_enter Try.func15, Try.ntmps15
  go_wp2_with (go_at_call 10; refine (right_yes _ _ hr _).mono ?_; rintro e w1 ⟨rfl, hb1⟩)
  have hH := (hb1.block (w.heap.size + 1) (by simp)).trans (heap_alloc2_new _ _ _)
  have hS := (hb1.block w.heap.size (by simp; omega)).trans (heap_alloc2_old _ _ _)
  have hbel := bstep (balloc (below_alloc _ _) _) hb1
  have HH := Lib.hid hH
  have HS := Lib.hid hS
  clear hH hS hb1
  go_loopw [6, 7] (fun b k wr => ∃ n K : Nat, n ≤ 15 ∧ Hid (K = n + 1) ∧ K ≤ n + 1 ∧ n + 1 ≤ K ∧ k = .int .i64 K ∧ b = .int .i64 (bestOf l i v n : Nat) ∧ wr.heap[w.heap.size]? = some (.cells #[.int .i64 l, .int .i64 i] 23 (0, 0)) ∧ wr.heap[w.heap.size + 1]? = some (.cells #[.int .i64 0, .int .i64 0] 23 (0, 0)) ∧ Below w.heap.size w wr) (fun _ k _ => (16 - intOf k).toNat)
  case atStart => exact ⟨0, 1, by omega, rfl, by omega, by omega, rfl, rfl, HS.out, HH.out, hbel⟩
  case round =>
    clear HS HH hbel
    obtain ⟨n, K, hn, hK, hK1, hK2, rfl, rfl, hS, hH, hb⟩ := hrel
    have HS := Lib.hid hS
    have HH := Lib.hid hH
    obtain ⟨k0, k1, -⟩ := two_cells hS
    obtain ⟨z0, z1, f0, f1⟩ := two_cells hH
    have hle := bestOf_le l i v n
    clear hS hH
    by_cases hlt : n < 15
    · obtain ⟨r1, r2, -, -⟩ := next_right l i K
      obtain ⟨r3, r4, -, -⟩ := next_right l i (bestOf l i v n)
      have e1 : IntKind.i64.wrap (nextL l i K - v) = nextL l i K - v := IntWalk.i64_in _ (by omega)
      have e2 : IntKind.i64.wrap (nextL l i (bestOf l i v n) - v) = nextL l i (bestOf l i v n) - v := IntWalk.i64_in _ (by omega)
      clear z0 z1 f0 f1
      go_wp2_with fail
      go_region_held3 (fun w' => w'.cell? ⟨w.heap.size, 0, none⟩ = some (.int .i64 l) ∧ w'.cell? ⟨w.heap.size, 1, none⟩ = some (.int .i64 i)) (go_keep) (first | (go_at_call_of 24 (Value.int IntKind.i64 ((K : Nat) : Int)); refine (next_any _ _ K hr (by omega) _).mono ?_; rintro e w1 ⟨rfl, hb1⟩; have p0 : w1.cell? ⟨w.heap.size, 0, none⟩ = some (.int .i64 l) := cell_later hb1 (by assumption); have p1 : w1.cell? ⟨w.heap.size, 1, none⟩ = some (.int .i64 i) := cell_later hb1 (by assumption)) | (go_at_call 24; refine (next_any _ _ (bestOf l i v n) hr (by omega) _).mono ?_; rintro e w2 ⟨rfl, hb2⟩; have q0 : w2.cell? ⟨w.heap.size, 0, none⟩ = some (.int .i64 l) := cell_later hb2 (by assumption); have q1 : w2.cell? ⟨w.heap.size, 1, none⟩ = some (.int .i64 i) := cell_later hb2 (by assumption)) | (go_at_call 26; refine (abs_any _ _ (by omega) hv _).mono ?_; rintro e w' ⟨rfl, rfl⟩))
      have hb2' : Below w.heap.size w w2 := bstep (bstep (hb.drew) hb1) hb2
      have hS2 : w2.heap[w.heap.size]? = some (.cells #[.int .i64 l, .int .i64 i] 23 (0, 0)) := (hb2.block _ (Nat.lt_of_lt_of_le (lt_of_block HS.out) hb1.size)).trans ((hb1.block _ (lt_of_block HS.out)).trans HS.out)
      have hH2 : w2.heap[w.heap.size + 1]? = some (.cells #[.int .i64 0, .int .i64 0] 23 (0, 0)) := (hb2.block _ (Nat.lt_of_lt_of_le (lt_of_block HH.out) hb1.size)).trans ((hb1.block _ (lt_of_block HH.out)).trans HH.out)
      have HS2 := Lib.hid hS2
      have HH2 := Lib.hid hH2
      clear hS2 hH2 e1 e2
      by_cases hc : farOf (nextL l i K) v < farOf (nextL l i (bestOf l i v n)) v
      · have hE := Lib.hid (show bestOf l i v (n + 1) = K by obtain rfl := hK.out; exact bestOf_take hc)
        go_wp2
        go_roundw
        case rel => exact ⟨n + 1, K + 1, by omega, by have := hK.out; unfold Hid; omega, by omega, by omega, by go_num, by rw [hE.out], HS2.out, HH2.out, hb2'⟩
        case measure => simp [intOf]; omega
      · have hE := Lib.hid (show bestOf l i v (n + 1) = bestOf l i v n by obtain rfl := hK.out; exact bestOf_keep hc)
        go_wp2
        go_roundw
        case rel => exact ⟨n + 1, K + 1, by omega, by have := hK.out; unfold Hid; omega, by omega, by omega, by go_num, by rw [hE.out], HS2.out, HH2.out, hb2'⟩
        case measure => simp [intOf]; omega
    · obtain ⟨n2, hn2⟩ : ∃ n2, n2 = bestOf l i v n := ⟨_, rfl⟩
      obtain rfl : n = 15 := by omega
      rw [← hn2] at hle ⊢
      have HN := Lib.hid hn2
      clear hn2 hK
      go_wp2_with (go_at_call 24; refine (next_any _ _ n2 hr (by omega) _).mono ?_; rintro e w3 ⟨rfl, hb3⟩; obtain ⟨z0, z1, f0, f1⟩ := two_cells ((hb3.block _ (lt_of_block HH.out)).trans HH.out))
      have hH3 := (hb3.block _ (lt_of_block HH.out)).trans HH.out
      obtain ⟨s0, s1, -⟩ := two_cells (two_same hH3 (.int .i64 (nextL l i n2)) (.int .i64 (nextI i n2)))
      refine bodyPost_ret (v := .tuple #[.int .i64 n2, .agg #[.int .i64 (nextL l i n2), .int .i64 (nextI i n2)]]) (by simp [results, Try.results15, go_sem, s0, s1]) rfl ⟨by rw [← HN.out], ?_⟩
      exact ((bstep hb hb3).setCell (Nat.le_succ _) _).setCell (Nat.le_succ _) _

set_option maxRecDepth 100000 in
set_option maxHeartbeats 1000000 in
theorem adpcmNearest_any (l i v : Int) (w : World) : Calls Try.prog 4 #[.agg #[.int .i64 l, .int .i64 i], .int .i64 v] w (RightPost true w) := by
  by_cases h1 : v < -1048576
  · go_enter Try.func4, Try.ntmps4
    go_wp2_with (go_at_call 13; refine (awake_any _).mono ?_; rintro e w6 ⟨rfl, hb6⟩)
    go_ret
    exact ⟨rfl, bstep (below_alloc _ _) hb6⟩
  · by_cases h2 : 1048576 < v
    · go_enter Try.func4, Try.ntmps4
      go_wp2_with (go_at_call 13; refine (awake_any _).mono ?_; rintro e w6 ⟨rfl, hb6⟩)
      go_ret
      exact ⟨rfl, bstep (below_alloc _ _) hb6⟩
    · have hv : -1048576 ≤ v ∧ v ≤ 1048576 := by omega
      by_cases hr : RightS l i
      · go_enter Try.func4, Try.ntmps4
        go_wp2_with (first | (go_at_call 15; refine (encode_any _ _ _ hr hv _).mono ?_; rintro e w3 ⟨rfl, hb3⟩; have n0 : w3.cell? ⟨w.heap.size, 0, none⟩ = some (.int .i64 l) := cell_later hb3 (by go_simp); have n1 : w3.cell? ⟨w.heap.size, 1, none⟩ = some (.int .i64 i) := cell_later hb3 (by go_simp); have z3 := World.block_lt_of_cell? w3 _ n0) | (go_at_call 11; refine (lright_yes _ _ hr _).mono ?_; rintro e w4 ⟨rfl, hb4⟩; have m0 : w4.cell? ⟨w.heap.size, 0, none⟩ = some (.int .i64 l) := cell_later hb4 (by go_simp); have m1 : w4.cell? ⟨w.heap.size, 1, none⟩ = some (.int .i64 i) := cell_later hb4 (by go_simp); have m2 : w4.cell? ⟨w3.heap.size, 0, none⟩ = some (.int .i64 (nextL l i (bestOf l i v 15))) := cell_later hb4 (by go_simp); have m3 : w4.cell? ⟨w3.heap.size, 1, none⟩ = some (.int .i64 (nextI i (bestOf l i v 15))) := cell_later hb4 (by go_simp); have z4 := World.block_lt_of_cell? w4 _ m2) | (go_at_call 16; refine (lencode_any _ _ _ hr hv _).mono ?_; rintro e w5 ⟨rfl, hb5⟩; have p0 : w5.cell? ⟨w.heap.size, 0, none⟩ = some (.int .i64 l) := cell_later hb5 (by go_simp); have p1 : w5.cell? ⟨w.heap.size, 1, none⟩ = some (.int .i64 i) := cell_later hb5 (by go_simp); have p2 : w5.cell? ⟨w3.heap.size, 0, none⟩ = some (.int .i64 (nextL l i (bestOf l i v 15))) := cell_later hb5 (by go_simp); have p3 : w5.cell? ⟨w3.heap.size, 1, none⟩ = some (.int .i64 (nextI i (bestOf l i v 15))) := cell_later hb5 (by go_simp)))
        have hle := bestOf_le l i v 15
        have hbw5 := bstep (bstep (balloc (bstep (below_alloc _ _) hb3) _) hb4) hb5
        clear hb3 hb4 hb5 n0 n1 z3 m0 m1 m2 m3 z4 h1 h2 hv
        go_region_held3 (fun w' => w'.cell? ⟨w.heap.size, 0, none⟩ = some (.int .i64 l) ∧ w'.cell? ⟨w.heap.size, 1, none⟩ = some (.int .i64 i) ∧ w'.cell? ⟨w3.heap.size, 0, none⟩ = some (.int .i64 (nextL l i (bestOf l i v 15))) ∧ w'.cell? ⟨w3.heap.size, 1, none⟩ = some (.int .i64 (nextI i (bestOf l i v 15)))) (go_keep) (first | (go_at_call 14; refine (lnext_any _ _ (bestOf l i v 15) hr (by omega) _).mono ?_; rintro e w6 ⟨rfl, hb6⟩; have q0 : w6.cell? ⟨w.heap.size, 0, none⟩ = some (.int .i64 l) := cell_later hb6 (by assumption); have q1 : w6.cell? ⟨w.heap.size, 1, none⟩ = some (.int .i64 i) := cell_later hb6 (by assumption); have q2 : w6.cell? ⟨w3.heap.size, 0, none⟩ = some (.int .i64 (nextL l i (bestOf l i v 15))) := cell_later hb6 (by assumption); have q3 : w6.cell? ⟨w3.heap.size, 1, none⟩ = some (.int .i64 (nextI i (bestOf l i v 15))) := cell_later hb6 (by assumption)) | (go_at_call 13; refine (awake_any _).mono ?_; rintro e w7 ⟨rfl, hb7⟩; have r0 : w7.cell? ⟨w.heap.size, 0, none⟩ = some (.int .i64 l) := cell_later hb7 (by assumption); have r1 : w7.cell? ⟨w.heap.size, 1, none⟩ = some (.int .i64 i) := cell_later hb7 (by assumption); have r2 : w7.cell? ⟨w3.heap.size, 0, none⟩ = some (.int .i64 (nextL l i (bestOf l i v 15))) := cell_later hb7 (by assumption); have r3 : w7.cell? ⟨w3.heap.size, 1, none⟩ = some (.int .i64 (nextI i (bestOf l i v 15))) := cell_later hb7 (by assumption)))
        go_wp2
        go_ret
        exact ⟨rfl, bstep (bstep hbw5.drew hb6) hb7⟩
      · go_enter Try.func4, Try.ntmps4
        go_wp2_with (first | (go_at_call 15; refine (encode_no _ _ _ hr _).mono ?_; rintro e w3 ⟨rfl, hb3⟩; have n0 : w3.cell? ⟨w.heap.size, 0, none⟩ = some (.int .i64 l) := cell_later hb3 (by go_simp); have n1 : w3.cell? ⟨w.heap.size, 1, none⟩ = some (.int .i64 i) := cell_later hb3 (by go_simp); have z3 := World.block_lt_of_cell? w3 _ n0) | (go_at_call 11; refine (lright_no _ _ hr _).mono ?_; rintro e w4 ⟨rfl, hb4⟩; have m2 : w4.cell? ⟨w3.heap.size, 0, none⟩ = some (.int .i64 0) := cell_later hb4 (by go_simp); have m3 : w4.cell? ⟨w3.heap.size, 1, none⟩ = some (.int .i64 0) := cell_later hb4 (by go_simp)) | (go_at_call 13; refine (awake_any _).mono ?_; rintro e w6 ⟨rfl, hb6⟩))
        go_ret
        exact ⟨rfl, bstep (bstep (balloc (bstep (below_alloc _ _) hb3) _) hb4) hb6⟩
end Go.Proofs.Ytbhopghfglgibaa

/- The walk of cache's New. -/
import Derived.Test.YtbboljmmpbchgaaCno
namespace Go.Proofs.Ytbboljmmpbchgaa
open Go Go.RowKit Go.Calli Go.Dskp Go.Maps
set_option linter.unusedVariables false
set_option linter.unusedSimpArgs false
attribute [local irreducible] wpStill wpAnyH wpAnyS wpList Code.wp
theorem cnew_bad (db : Nat) (s r : Int) (hb : s < 1 ∨ 1024 < s ∨ r < 0 ∨ 8 < r) (w : World) : Calls Try.prog 17 #[.pointer (some ⟨db, 0, none⟩), .int .i64 s, .int .i64 r] w (Same (.tuple #[.pointer none, .int .i64 1]) w) := by
  have hc : s < 1 ∨ (1 ≤ s ∧ 1024 < s) ∨ (1 ≤ s ∧ s ≤ 1024 ∧ r < 0) ∨ (1 ≤ s ∧ s ≤ 1024 ∧ 0 ≤ r ∧ 8 < r) := by omega
  clear hb
  rcases hc with h1 | ⟨h1, h2⟩ | ⟨h1, h2, h3⟩ | ⟨h1, h2, h3, h4⟩
  all_goals
    go_enter Try.func17, Try.ntmps17
    go_wp2_with fail
    all_goals go_ret2
    all_goals exact ⟨rfl, rfl⟩
theorem infoSlot : (Try.prog.info? 67).map (fun i => (i.zero, i.size, i.bytes)) = some (some (.agg #[.int .i64 0, .bool false, .bool false, .slice none 0 0]), 4, 40) := by kernel_rfl
/-- The zero cells of n slots. -/
def slotZ (n : Nat) : Array Value := madeCells (Value.agg #[.int .i64 0, .bool false, .bool false, .slice none 0 0]).cells (n * 4)
theorem make_slots (n : Nat) (hn : n ≤ 1024) (w : World) : (Instr.makeSlice 45 (.int .i64 (n : Int)) (.int .i64 (n : Int))).run Try.prog w = .ok (.slice (some ⟨w.heap.size, 0, none⟩) n n) (w.alloc (.cells (slotZ n) 67)) := by
  obtain ⟨i, hi, hz, hsz, hby⟩ := info_parts infoSlot
  have hb2 : (i.bytes : Int) * (n : Int) ≤ 281474976710656 := by
    have h : ((i.bytes * n : Nat) : Int) ≤ 281474976710656 := by rw [hby]; omega
    rwa [Int.natCast_mul] at h
  have hr := run_make (P := Try.prog) w 45 67 i _ Try.underlying45 hi hz .i64 .i64 n n (by omega) (Int.le_refl _) hb2 (by omega)
  simp only [Int.toNat_natCast] at hr
  rw [hr, hsz]
  rfl
def CNewPost (db : Nat) (n : Nat) (r : Int) (w : World) (e : Ending) (w' : World) : Prop := ∃ cb sb, e = .returned (.tuple #[.pointer (some ⟨cb, 0, none⟩), .int .i64 0]) ∧ w'.heap[cb]? = some (.cells #[.int .i64 0, .int .i64 0, .int .i64 0, .int .i64 0, .pointer (some ⟨db, 0, none⟩), .slice (some ⟨sb, 0, none⟩) n n, .int .i64 0, .int .i64 r] 47 (0, 0)) ∧ w'.heap[sb]? = some (.cells (slotZ n) 67 (0, 0)) ∧ cb ≠ sb ∧ w.heap.size ≤ cb ∧ w.heap.size ≤ sb ∧ Below w.heap.size w w'
theorem cnew_good (db : Nat) (n : Nat) (r : Int) (h1 : 1 ≤ n) (h2 : n ≤ 1024) (h3 : 0 ≤ r) (h4 : r ≤ 8) (w : World) : Calls Try.prog 17 #[.pointer (some ⟨db, 0, none⟩), .int .i64 n, .int .i64 r] w (CNewPost db n r w) := by
  have hmk := make_slots n h2
  obtain ⟨Z, hZ⟩ : ∃ Z, Z = slotZ n := ⟨_, rfl⟩
  rw [← hZ] at hmk
  have HZ := Lib.hid hZ
  clear hZ
  go_enter Try.func17, Try.ntmps17
  go_wp2_with fail
  go_ret2
  obtain ⟨d1, d2⟩ := MapKept.heap_alloc (w.alloc (.cells Z 67)) (.cells #[.int .i64 0, .int .i64 0, .int .i64 0, .int .i64 0, .pointer (some ⟨db, 0, none⟩), .slice (some ⟨w.heap.size, 0, none⟩) n n, .int .i64 0, .int .i64 r] 47)
  have a1 := (MapKept.heap_alloc w (.cells Z 67)).1
  have e1 := (d2 w.heap.size (by rw [World.size_alloc]; omega)).trans a1
  rw [World.size_alloc] at d1
  rw [HZ.out] at e1 d1 ⊢
  exact ⟨w.heap.size + 1, w.heap.size, rfl, d1, e1, by omega, by omega, Nat.le_refl _, balloc (below_alloc _ _) _⟩
end Go.Proofs.Ytbboljmmpbchgaa

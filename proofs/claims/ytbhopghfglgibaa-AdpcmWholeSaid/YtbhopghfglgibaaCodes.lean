/- The walks of State's Right and Decode; the statement AdpcmCodes. -/
import Derived.Test.YtbhopghfglgibaaAdpcm
import Derived.Deep.RegionHeld3
namespace Go.Proofs.Ytbhopghfglgibaa
open Go.RowKit Go.Calli
set_option linter.unusedVariables false
def RightPost (b : Bool) (w : World) (e : Ending) (w' : World) : Prop := e = .returned (.bool b) ∧ Below w.heap.size w w'
theorem right_yes (l i : Int) (h : RightS l i) (w : World) : Calls Try.prog 10 #[.agg #[.int .i64 l, .int .i64 i]] w (RightPost true w) := by
  obtain ⟨r1, r2, r3, r4⟩ := h
  go_enter Try.func10, Try.ntmps10
  go_wp2
  go_ret
  exact ⟨rfl, below_alloc _ _⟩
theorem lright_yes (l i : Int) (h : RightS l i) (w : World) : Calls Try.prog 11 #[.agg #[.int .i64 l, .int .i64 i]] w (RightPost true w) := by
  obtain ⟨r1, r2, r3, r4⟩ := h
  go_enter Try.func11, Try.ntmps11
  go_wp2
  go_ret
  exact ⟨rfl, below_alloc _ _⟩
theorem right_no (l i : Int) (h : ¬ RightS l i) (w : World) : Calls Try.prog 10 #[.agg #[.int .i64 l, .int .i64 i]] w (RightPost false w) := by
  by_cases h1 : -32768 ≤ l
  · by_cases h2 : l ≤ 32767
    · by_cases h3 : 0 ≤ i
      · have h4 : ¬ i ≤ 48 := fun h4 => h ⟨h1, h2, h3, h4⟩
        clear h
        go_enter Try.func10, Try.ntmps10
        go_wp2
        go_ret
        exact ⟨rfl, below_alloc _ _⟩
      · clear h
        go_enter Try.func10, Try.ntmps10
        go_wp2
        go_ret
        exact ⟨rfl, below_alloc _ _⟩
    · clear h
      go_enter Try.func10, Try.ntmps10
      go_wp2
      go_ret
      exact ⟨rfl, below_alloc _ _⟩
  · clear h
    go_enter Try.func10, Try.ntmps10
    go_wp2
    go_ret
    exact ⟨rfl, below_alloc _ _⟩
theorem lright_no (l i : Int) (h : ¬ RightS l i) (w : World) : Calls Try.prog 11 #[.agg #[.int .i64 l, .int .i64 i]] w (RightPost false w) := by
  by_cases h1 : -32768 ≤ l
  · by_cases h2 : l ≤ 32767
    · by_cases h3 : 0 ≤ i
      · have h4 : ¬ i ≤ 48 := fun h4 => h ⟨h1, h2, h3, h4⟩
        clear h
        go_enter Try.func11, Try.ntmps11
        go_wp2
        go_ret
        exact ⟨rfl, below_alloc _ _⟩
      · clear h
        go_enter Try.func11, Try.ntmps11
        go_wp2
        go_ret
        exact ⟨rfl, below_alloc _ _⟩
    · clear h
      go_enter Try.func11, Try.ntmps11
      go_wp2
      go_ret
      exact ⟨rfl, below_alloc _ _⟩
  · clear h
    go_enter Try.func11, Try.ntmps11
    go_wp2
    go_ret
    exact ⟨rfl, below_alloc _ _⟩

/-- What Decode answers. -/
def DecPost (v l i : Int) (w : World) (e : Ending) (w' : World) : Prop := e = .returned (.tuple #[.int .i64 v, .agg #[.int .i64 l, .int .i64 i]]) ∧ Below w.heap.size w w'
set_option maxRecDepth 100000 in
set_option maxHeartbeats 1000000 in
theorem decode_no1 (l i c : Int) (h : ¬ RightS l i) (w : World) : Calls Try.prog 12 #[.agg #[.int .i64 l, .int .i64 i], .int .i64 c] w (DecPost 0 0 0 w) := by
  go_enter Try.func12, Try.ntmps12
  go_wp2_with (go_at_call 10; refine (right_no _ _ h _).mono ?_; rintro e w1 ⟨rfl, hb1⟩; obtain ⟨z0, z1, f0, f1⟩ := two_cells ((hb1.block (w.heap.size + 1) (by simp)).trans (heap_alloc2_new _ _ _)))
  have hH := (hb1.block (w.heap.size + 1) (by simp)).trans (heap_alloc2_new _ _ _)
  obtain ⟨s0, s1, -⟩ := two_cells (two_same hH (.int .i64 0) (.int .i64 0))
  refine bodyPost_ret (v := .tuple #[.int .i64 0, .agg #[.int .i64 0, .int .i64 0]]) (by simp [results, Try.results12, go_sem, s0, s1]) rfl ⟨rfl, ?_⟩
  exact ((((below_alloc _ _).alloc (by simp) _).trans (hb1.mono (by simp; omega))).setCell (Nat.le_succ _) _).setCell (Nat.le_succ _) _
set_option maxRecDepth 100000 in
set_option maxHeartbeats 1000000 in
theorem decode_no2 (l i c : Int) (h : RightS l i) (hc : c < 0 ∨ 15 < c) (w : World) : Calls Try.prog 12 #[.agg #[.int .i64 l, .int .i64 i], .int .i64 c] w (DecPost 0 0 0 w) := by
  by_cases hc0 : c < 0
  · clear hc
    go_enter Try.func12, Try.ntmps12
    go_wp2_with (go_at_call 10; refine (right_yes _ _ h _).mono ?_; rintro e w1 ⟨rfl, hb1⟩; obtain ⟨z0, z1, f0, f1⟩ := two_cells ((hb1.block (w.heap.size + 1) (by simp)).trans (heap_alloc2_new _ _ _)))
    have hH := (hb1.block (w.heap.size + 1) (by simp)).trans (heap_alloc2_new _ _ _)
    obtain ⟨s0, s1, -⟩ := two_cells (two_same hH (.int .i64 0) (.int .i64 0))
    refine bodyPost_ret (v := .tuple #[.int .i64 0, .agg #[.int .i64 0, .int .i64 0]]) (by simp [results, Try.results12, go_sem, s0, s1]) rfl ⟨rfl, ?_⟩
    exact ((((below_alloc _ _).alloc (by simp) _).trans (hb1.mono (by simp; omega))).setCell (Nat.le_succ _) _).setCell (Nat.le_succ _) _
  · have hc1 : 15 < c := by omega
    clear hc
    go_enter Try.func12, Try.ntmps12
    go_wp2_with (go_at_call 10; refine (right_yes _ _ h _).mono ?_; rintro e w1 ⟨rfl, hb1⟩; obtain ⟨z0, z1, f0, f1⟩ := two_cells ((hb1.block (w.heap.size + 1) (by simp)).trans (heap_alloc2_new _ _ _)))
    have hH := (hb1.block (w.heap.size + 1) (by simp)).trans (heap_alloc2_new _ _ _)
    obtain ⟨s0, s1, -⟩ := two_cells (two_same hH (.int .i64 0) (.int .i64 0))
    refine bodyPost_ret (v := .tuple #[.int .i64 0, .agg #[.int .i64 0, .int .i64 0]]) (by simp [results, Try.results12, go_sem, s0, s1]) rfl ⟨rfl, ?_⟩
    exact ((((below_alloc _ _).alloc (by simp) _).trans (hb1.mono (by simp; omega))).setCell (Nat.le_succ _) _).setCell (Nat.le_succ _) _
set_option maxRecDepth 100000 in
set_option maxHeartbeats 1000000 in
theorem decode_yes (l i : Int) (c : Nat) (h : RightS l i) (hc : c < 16) (w : World) : Calls Try.prog 12 #[.agg #[.int .i64 l, .int .i64 i], .int .i64 (c : Nat)] w (DecPost (nextL l i c) (nextL l i c) (nextI i c) w) := by
  go_enter Try.func12, Try.ntmps12
  go_wp2_with (first | (go_at_call 10; refine (right_yes _ _ h _).mono ?_; rintro e w1 ⟨rfl, hb1⟩; obtain ⟨z0, z1, -⟩ := two_cells ((hb1.block w.heap.size (by simp; omega)).trans (heap_alloc2_old _ _ _))) | (go_at_call 24; refine (next_any _ _ _ h hc _).mono ?_; rintro e w2 ⟨rfl, hb2⟩; obtain ⟨y0, y1, f0, f1⟩ := two_cells ((hb2.block (w.heap.size + 1) (by have := hb1.size; simp at this; omega)).trans ((hb1.block (w.heap.size + 1) (by simp)).trans (heap_alloc2_new _ _ _)))))
  have hH := (hb2.block (w.heap.size + 1) (by have := hb1.size; simp at this; omega)).trans ((hb1.block (w.heap.size + 1) (by simp)).trans (heap_alloc2_new _ _ _))
  have HH := Lib.hid hH
  have hsz := lt_of_block hH
  clear hH
  go_region
  go_wp2
  obtain ⟨s0, s1, -⟩ := two_cells (two_same HH.out (.int .i64 (nextL l i c)) (.int .i64 (nextI i c)))
  refine bodyPost_ret (v := .tuple #[.int .i64 (nextL l i c), .agg #[.int .i64 (nextL l i c), .int .i64 (nextI i c)]]) (by simp [results, Try.results12, go_sem, s0, s1, hsz]) rfl ⟨rfl, ?_⟩
  have hbw : Below w.heap.size w w2 := (((below_alloc _ _).alloc (by simp) _).trans (hb1.mono (by simp; omega))).trans (hb2.mono (by have := hb1.size; simp at this; omega))
  exact (((hbw.setCell (Nat.le_succ _) _).setCell (Nat.le_succ _) _).alloc (by simp [World.setCell]; omega) _).drew

theorem aw_l : nextL 0 0 7 = 30 := by decide +kernel
theorem aw_i : nextI 0 7 = 8 := by decide +kernel
set_option maxRecDepth 100000 in
set_option maxHeartbeats 1000000 in
theorem awake_any (w : World) : Calls Try.prog 13 #[] w (RightPost true w) := by
  have hc : Calls Try.prog 12 #[.agg #[.int .i64 0, .int .i64 0], .int .i64 7] w (DecPost 30 30 8 w) := by
    have := decode_yes 0 0 7 (by unfold RightS; omega) (by omega) w
    rw [aw_l, aw_i] at this; exact this
  go_enter Try.func13, Try.ntmps13
  go_wp2_with (go_at_call 12; refine hc.mono ?_; rintro e w1 ⟨rfl, hb1⟩)
  go_ret
  exact ⟨rfl, hb1.alloc hb1.size _⟩

set_option maxRecDepth 100000 in
set_option maxHeartbeats 1000000 in
theorem codes_one (l i c n : Int) (b : Bool) (hbr : (b = true ∧ RightS l i) ∨ (b = false ∧ ¬ RightS l i)) (w : World) (hb : ∀ w, Calls Try.prog 10 #[.agg #[.int .i64 l, .int .i64 i]] w (RightPost b w)) (hl : ∀ w, Calls Try.prog 11 #[.agg #[.int .i64 l, .int .i64 i]] w (RightPost b w)) :
    Calls Try.prog 3 #[.agg #[.int .i64 l, .int .i64 i], .int .i64 c, .int .i64 n] w (RightPost true w) := by
  have HB := Lib.hid hb
  have HL := Lib.hid hl
  have HBR := Lib.hid hbr
  clear hb hl hbr
  go_enter Try.func3, Try.ntmps3
  go_upto_region 1 with fail
  have c0 : (w.alloc (.cells #[.int .i64 l, .int .i64 i] 23)).cell? ⟨w.heap.size, 0, none⟩ = some (.int .i64 l) := by simp [go_sem]
  have c1 : (w.alloc (.cells #[.int .i64 l, .int .i64 i] 23)).cell? ⟨w.heap.size, 1, none⟩ = some (.int .i64 i) := by simp [go_sem]
  go_cut [21] (fun v wx => v = .bool false ∧ wx.cell? ⟨w.heap.size, 0, none⟩ = some (.int .i64 l) ∧ wx.cell? ⟨w.heap.size, 1, none⟩ = some (.int .i64 i) ∧ Below w.heap.size w wx)
  case first =>
    go_region_held3 (fun w' => w'.cell? ⟨w.heap.size, 0, none⟩ = some (.int .i64 l) ∧ w'.cell? ⟨w.heap.size, 1, none⟩ = some (.int .i64 i)) (go_keep) (first | (go_at_call 8; refine (step_any _ _).mono ?_; rintro e w' ⟨rfl, rfl⟩) | (go_at_call 9; refine (lstep_any _ _).mono ?_; rintro e w' ⟨rfl, rfl⟩) | (go_at_call 10; refine (HB.out _).mono ?_; rintro e w1 ⟨rfl, hb1⟩; have k0 : w1.cell? ⟨w.heap.size, 0, none⟩ = some (.int .i64 l) := cell_later hb1 (by assumption); have k1 : w1.cell? ⟨w.heap.size, 1, none⟩ = some (.int .i64 i) := cell_later hb1 (by assumption)) | (go_at_call 11; refine (HL.out _).mono ?_; rintro e w2 ⟨rfl, hb2⟩; have m0 : w2.cell? ⟨w.heap.size, 0, none⟩ = some (.int .i64 l) := cell_later hb2 (by assumption); have m1 : w2.cell? ⟨w.heap.size, 1, none⟩ = some (.int .i64 i) := cell_later hb2 (by assumption)))
    go_wp2_with fail
    go_meet
    exact ⟨rfl, m0, m1, (((below_alloc _ _).drew).trans (hb1.mono (by simp))).trans (hb2.mono (by have := hb1.size; simp at this; omega))⟩
  case rest =>
    obtain ⟨rfl, k0, k1, hbx⟩ := hcut
    clear c0 c1
    have hsx : w.heap.size < wc.heap.size := World.block_lt_of_cell? wc _ k0
    rcases HBR.out with ⟨rfl, hr⟩ | ⟨rfl, hr⟩
    · by_cases hc : 0 ≤ c ∧ c ≤ 15
      · obtain ⟨C, rfl⟩ : ∃ C : Nat, c = C := ⟨c.toNat, by omega⟩
        obtain ⟨hc1, hc2⟩ := hc
        have hC : C < 16 := by omega
        go_wp2_with (first | (go_at_call 12; refine (decode_yes _ _ _ hr hC _).mono ?_; rintro e w3 ⟨rfl, hb3⟩; have n0 : w3.cell? ⟨w.heap.size, 0, none⟩ = some (.int .i64 l) := cell_later hb3 (by go_simp); have n1 : w3.cell? ⟨w.heap.size, 1, none⟩ = some (.int .i64 i) := cell_later hb3 (by go_simp); have z3 := World.block_lt_of_cell? w3 _ n0) | (go_at_call 11; refine (HL.out _).mono ?_; rintro e w4 ⟨rfl, hb4⟩; have q0 : w4.cell? ⟨w.heap.size, 0, none⟩ = some (.int .i64 l) := cell_later hb4 (by go_simp); have q1 : w4.cell? ⟨w.heap.size, 1, none⟩ = some (.int .i64 i) := cell_later hb4 (by go_simp); have q2 : w4.cell? ⟨w3.heap.size, 0, none⟩ = some (.int .i64 (nextL l i C)) := cell_later hb4 (by go_simp); have q3 : w4.cell? ⟨w3.heap.size, 1, none⟩ = some (.int .i64 (nextI i C)) := cell_later hb4 (by go_simp); have z4 := World.block_lt_of_cell? w4 _ q2) | (go_at_call 14; refine (lnext_any _ _ _ hr hC _).mono ?_; rintro e w5 ⟨rfl, hb5⟩; have t2 : w5.cell? ⟨w3.heap.size, 0, none⟩ = some (.int .i64 (nextL l i C)) := cell_later hb5 (by go_simp); have t3 : w5.cell? ⟨w3.heap.size, 1, none⟩ = some (.int .i64 (nextI i C)) := cell_later hb5 (by go_simp); have z5 := World.block_lt_of_cell? w5 _ t2) | (go_at_call 13; refine (awake_any _).mono ?_; rintro e w6 ⟨rfl, hb6⟩))
        go_ret
        exact ⟨rfl, bstep (balloc (bstep (bstep (balloc (bstep hbx hb3) _) hb4) hb5) _) hb6⟩
      · have hc' : c < 0 ∨ 15 < c := by omega
        have HC := Lib.hid hc'
        clear hc'
        by_cases hc0 : c < 0
        · skip
          go_wp2_with (first | (go_at_call 12; refine (decode_no2 _ _ _ hr HC.out _).mono ?_; rintro e w3 ⟨rfl, hb3⟩; have n0 : w3.cell? ⟨w.heap.size, 0, none⟩ = some (.int .i64 l) := cell_later hb3 (by go_simp); have n1 : w3.cell? ⟨w.heap.size, 1, none⟩ = some (.int .i64 i) := cell_later hb3 (by go_simp); have z3 := World.block_lt_of_cell? w3 _ n0) | (go_at_call 11; refine (HL.out _).mono ?_; rintro e w4 ⟨rfl, hb4⟩; have q2 : w4.cell? ⟨w3.heap.size, 0, none⟩ = some (.int .i64 0) := cell_later hb4 (by go_simp); have q3 : w4.cell? ⟨w3.heap.size, 1, none⟩ = some (.int .i64 0) := cell_later hb4 (by go_simp); have z4 := World.block_lt_of_cell? w4 _ q2) | (go_at_call 13; refine (awake_any _).mono ?_; rintro e w6 ⟨rfl, hb6⟩))
          go_ret
          exact ⟨rfl, bstep (bstep (balloc (bstep hbx hb3) _) hb4) hb6⟩
        · have hc1 : 15 < c := by have := HC.out; omega
          go_wp2_with (first | (go_at_call 12; refine (decode_no2 _ _ _ hr HC.out _).mono ?_; rintro e w3 ⟨rfl, hb3⟩; have n0 : w3.cell? ⟨w.heap.size, 0, none⟩ = some (.int .i64 l) := cell_later hb3 (by go_simp); have n1 : w3.cell? ⟨w.heap.size, 1, none⟩ = some (.int .i64 i) := cell_later hb3 (by go_simp); have z3 := World.block_lt_of_cell? w3 _ n0) | (go_at_call 11; refine (HL.out _).mono ?_; rintro e w4 ⟨rfl, hb4⟩; have q2 : w4.cell? ⟨w3.heap.size, 0, none⟩ = some (.int .i64 0) := cell_later hb4 (by go_simp); have q3 : w4.cell? ⟨w3.heap.size, 1, none⟩ = some (.int .i64 0) := cell_later hb4 (by go_simp); have z4 := World.block_lt_of_cell? w4 _ q2) | (go_at_call 13; refine (awake_any _).mono ?_; rintro e w6 ⟨rfl, hb6⟩))
          go_ret
          exact ⟨rfl, bstep (bstep (balloc (bstep hbx hb3) _) hb4) hb6⟩
    · skip
      go_wp2_with (first | (go_at_call 12; refine (decode_no1 _ _ _ hr _).mono ?_; rintro e w3 ⟨rfl, hb3⟩; have n0 : w3.cell? ⟨w.heap.size, 0, none⟩ = some (.int .i64 l) := cell_later hb3 (by go_simp); have n1 : w3.cell? ⟨w.heap.size, 1, none⟩ = some (.int .i64 i) := cell_later hb3 (by go_simp); have z3 := World.block_lt_of_cell? w3 _ n0) | (go_at_call 11; refine (HL.out _).mono ?_; rintro e w4 ⟨rfl, hb4⟩; have q2 : w4.cell? ⟨w3.heap.size, 0, none⟩ = some (.int .i64 0) := cell_later hb4 (by go_simp); have q3 : w4.cell? ⟨w3.heap.size, 1, none⟩ = some (.int .i64 0) := cell_later hb4 (by go_simp); have z4 := World.block_lt_of_cell? w4 _ q2) | (go_at_call 13; refine (awake_any _).mono ?_; rintro e w6 ⟨rfl, hb6⟩))
      go_ret
      exact ⟨rfl, bstep (bstep (balloc (bstep hbx hb3) _) hb4) hb6⟩

theorem adpcmCodes_any (l i c n : Int) (w : World) : Calls Try.prog 3 #[.agg #[.int .i64 l, .int .i64 i], .int .i64 c, .int .i64 n] w (RightPost true w) := by
  by_cases h : RightS l i
  · exact codes_one l i c n true (.inl ⟨rfl, h⟩) w (right_yes l i h) (lright_yes l i h)
  · exact codes_one l i c n false (.inr ⟨rfl, h⟩) w (right_no l i h) (lright_no l i h)
end Go.Proofs.Ytbhopghfglgibaa

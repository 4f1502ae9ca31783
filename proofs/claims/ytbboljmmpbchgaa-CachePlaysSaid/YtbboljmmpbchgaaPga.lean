/- Cache's page; why; Disk. -/
import Derived.Test.YtbboljmmpbchgaaPag
import Derived.Test.YtbboljmmpbchgaaCpm
namespace Go.Proofs.Ytbboljmmpbchgaa
open Go Go.RowKit Go.Calli Go.Dskp Go.Maps
set_option linter.unusedVariables false
set_option linter.unusedSimpArgs false
attribute [local irreducible] wpStill wpAnyH wpAnyS wpList Code.wp
theorem page_any (A : Ad) (n : Nat) (hn1 : n ≤ 1024) (c : Ca) (k : Nat) (hk : k ≤ 100000) (hL : CLim k c) (p : Int) (hwp : (Lit.int .i64 p).wf = true) (w : World) (h : CaIs A w n c) : Calls Try.prog 23 #[.pointer (some ⟨A.cb, 0, none⟩), .int .i64 p] w (PgPost A n (pageC c p) w) := by
  have hl := h.len
  rcases findP_bd c.ss p c.ss.length 0 with e | ⟨e1, e2, e3, e4⟩
  · have hm := page_miss A n hn1 c k hk hL p hwp (by rw [← hl]; exact e) _ rfl w h
    unfold pageC
    rw [if_neg (by omega), hl]
    exact hm
  · have hm := page_hit A n hn1 c k hk hL p (findP c.ss p c.ss.length 0).toNat (by omega) e3 (by rw [← hl]; omega) w h
    unfold pageC
    rw [if_pos (by omega)]
    exact hm
theorem cnone_any (A : Ad) (n : Nat) (c : Ca) (w : World) (h : CaIs A w n c) : Calls Try.prog 24 #[.pointer (some ⟨A.cb, 0, none⟩)] w (Same (.bool false) w) := by
  obtain ⟨c0, c1, c2, c3, c4, c5, c6, c7⟩ := eight_cells h.row
  go_enter Try.func24, Try.ntmps24
  go_wp2_with fail
  all_goals go_ret
  all_goals exact ⟨rfl, rfl⟩
theorem cwhy_any (A : Ad) (n : Nat) (c : Ca) (hd : c.d.Ok) (p : Int) (w : World) (h : CaIs A w n c) : Calls Try.prog 22 #[.pointer (some ⟨A.cb, 0, none⟩), .int .i64 p] w (Same (.int .i64 (if c.d.out p then 5 else 0)) w) := by
  have hN := cnone_any A n c w h
  obtain ⟨m, -, hD⟩ := h.dsk
  have hP := pages_any A.b A.mb A.ib A.kap m c.d hd w hD
  obtain ⟨c0, c1, c2, c3, c4, c5, c6, c7⟩ := eight_cells h.row
  have hpb : (c.d.pages : Int) ≤ 65536 := by have := hd.1; unfold Dk.pages; omega
  by_cases h1 : p < 0
  · rw [if_pos (.inl h1)]
    clear h hD
    generalize c.d.pages = N at *
    go_enter Try.func22, Try.ntmps22
    go_wp2_with (first | (go_at_call 24; refine hN.mono ?_; rintro e w' ⟨rfl, rfl⟩) | (go_at_call 27; refine hP.mono ?_; rintro e w' ⟨rfl, rfl⟩))
    all_goals go_ret
    all_goals exact ⟨rfl, rfl⟩
  · by_cases h2 : (c.d.pages : Int) ≤ p
    · rw [if_pos (.inr h2)]
      clear h hD
      generalize c.d.pages = N at *
      go_enter Try.func22, Try.ntmps22
      go_wp2_with (first | (go_at_call 24; refine hN.mono ?_; rintro e w' ⟨rfl, rfl⟩) | (go_at_call 27; refine hP.mono ?_; rintro e w' ⟨rfl, rfl⟩))
      all_goals go_ret
      all_goals exact ⟨rfl, rfl⟩
    · rw [if_neg (by unfold Dk.out; omega)]
      clear h hD
      generalize c.d.pages = N at *
      go_enter Try.func22, Try.ntmps22
      go_wp2_with (first | (go_at_call 24; refine hN.mono ?_; rintro e w' ⟨rfl, rfl⟩) | (go_at_call 27; refine hP.mono ?_; rintro e w' ⟨rfl, rfl⟩))
      all_goals go_ret
      all_goals exact ⟨rfl, rfl⟩
theorem told_any (A : Ad) (n : Nat) (c : Ca) (w : World) (h : CaIs A w n c) : Calls Try.prog 12 #[.pointer (some ⟨A.cb, 0, none⟩)] w (fun e w' => e = .returned (.agg #[.int .i64 c.h, .int .i64 c.m, .int .i64 c.t, .int .i64 c.l]) ∧ Below w.heap.size w w') := by
  have hb : Below w.heap.size w (w.alloc (.cells #[.int .i64 0, .int .i64 0, .int .i64 0, .int .i64 0] 35)) := below_alloc _ _
  have h1 := h.keep0 hb
  have hN := cnone_any A n c _ h1
  obtain ⟨c0, c1, c2, c3, c4, c5, c6, c7⟩ := eight_cells h1.row
  obtain ⟨e0, e1, e2, e3, f0, f1⟩ := four_cells (MapKept.heap_alloc w (.cells #[.int .i64 0, .int .i64 0, .int .i64 0, .int .i64 0] 35)).1
  clear h h1
  go_enter Try.func12, Try.ntmps12
  go_wp2_with (go_at_call 24; refine hN.mono ?_; rintro e w' ⟨rfl, rfl⟩)
  exact bodyPost_ret (results_cell_row rfl _ _ _ _ _ _ _ rfl (MapKept.heap_alloc w _).1 Try.underlying35 rfl info35) rfl ⟨rfl, below_alloc _ _⟩
end Go.Proofs.Ytbboljmmpbchgaa

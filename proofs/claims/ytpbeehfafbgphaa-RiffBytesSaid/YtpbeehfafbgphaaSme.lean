/- The walks of wave.Meta and of the statements' same. -/
import Derived.Test.YtpbeehfafbgphaaFsm
namespace Go.Proofs.Ytpbeehfafbgphaa
open Go Go.RowKit Go.Calli
set_option linter.unusedVariables false
set_option linter.unusedSimpArgs false
attribute [local irreducible] wpStill wpAnyH wpAnyS wpList Code.wp
theorem info64 : (Try.prog.info? 64).map (·.size) = some 9 := by kernel_rfl
theorem nine_cells {w : World} {b T : Nat} {v0 v1 v2 v3 v4 v5 v6 v7 v8 : Value} (h : w.heap[b]? = some (.cells #[v0, v1, v2, v3, v4, v5, v6, v7, v8] T (0, 0))) : (w.cell? ⟨b, 0, none⟩ = some v0 ∧ w.cell? ⟨b, 1, none⟩ = some v1 ∧ w.cell? ⟨b, 2, none⟩ = some v2 ∧ w.cell? ⟨b, 3, none⟩ = some v3 ∧ w.cell? ⟨b, 4, none⟩ = some v4 ∧ w.cell? ⟨b, 5, none⟩ = some v5 ∧ w.cell? ⟨b, 6, none⟩ = some v6 ∧ w.cell? ⟨b, 7, none⟩ = some v7 ∧ w.cell? ⟨b, 8, none⟩ = some v8) ∧ w.frozen? ⟨b, 0, none⟩ = false ∧ w.frozen? ⟨b, 1, none⟩ = false ∧ w.frozen? ⟨b, 2, none⟩ = false ∧ w.frozen? ⟨b, 3, none⟩ = false ∧ w.frozen? ⟨b, 4, none⟩ = false ∧ w.frozen? ⟨b, 5, none⟩ = false ∧ w.frozen? ⟨b, 6, none⟩ = false ∧ w.frozen? ⟨b, 7, none⟩ = false ∧ w.frozen? ⟨b, 8, none⟩ = false :=
  ⟨⟨(cell_of_row _ _ _ _ _ _ h).trans rfl, (cell_of_row _ _ _ _ _ _ h).trans rfl, (cell_of_row _ _ _ _ _ _ h).trans rfl, (cell_of_row _ _ _ _ _ _ h).trans rfl, (cell_of_row _ _ _ _ _ _ h).trans rfl, (cell_of_row _ _ _ _ _ _ h).trans rfl, (cell_of_row _ _ _ _ _ _ h).trans rfl, (cell_of_row _ _ _ _ _ _ h).trans rfl, (cell_of_row _ _ _ _ _ _ h).trans rfl⟩, frozen_of_row _ _ _ _ _ h, frozen_of_row _ _ _ _ _ h, frozen_of_row _ _ _ _ _ h, frozen_of_row _ _ _ _ _ h, frozen_of_row _ _ _ _ _ h, frozen_of_row _ _ _ _ _ h, frozen_of_row _ _ _ _ _ h, frozen_of_row _ _ _ _ _ h, frozen_of_row _ _ _ _ _ h⟩
theorem nine_set {w : World} {b T : Nat} {e0 e1 e2 e3 e4 e5 e6 e7 e8 : Value} (h : w.heap[b]? = some (.cells #[e0, e1, e2, e3, e4, e5, e6, e7, e8] T (0, 0))) (v0 v1 v2 v3 v4 v5 v6 v7 v8 : Value) : (((((((((w.setCell ⟨b, 0, none⟩ v0).setCell ⟨b, 1, none⟩ v1).setCell ⟨b, 2, none⟩ v2).setCell ⟨b, 3, none⟩ v3).setCell ⟨b, 4, none⟩ v4).setCell ⟨b, 5, none⟩ v5).setCell ⟨b, 6, none⟩ v6).setCell ⟨b, 7, none⟩ v7).setCell ⟨b, 8, none⟩ v8).heap[b]? = some (.cells #[v0, v1, v2, v3, v4, v5, v6, v7, v8] T (0, 0)) := by
  have := setCells_block [v0, v1, v2, v3, v4, v5, v6, v7, v8] w b 0 _ T h
  rw [spl_all _ _ (by simp)] at this
  exact this
theorem nine_below {B : Nat} {a w : World} (h : Below B a w) {b : Nat} (hb : B ≤ b) (v0 v1 v2 v3 v4 v5 v6 v7 v8 : Value) : Below B a (((((((((w.setCell ⟨b, 0, none⟩ v0).setCell ⟨b, 1, none⟩ v1).setCell ⟨b, 2, none⟩ v2).setCell ⟨b, 3, none⟩ v3).setCell ⟨b, 4, none⟩ v4).setCell ⟨b, 5, none⟩ v5).setCell ⟨b, 6, none⟩ v6).setCell ⟨b, 7, none⟩ v7).setCell ⟨b, 8, none⟩ v8) :=
  ((((((((h.setCell (p := ⟨b, 0, none⟩) hb v0).setCell (p := ⟨b, 1, none⟩) hb v1).setCell (p := ⟨b, 2, none⟩) hb v2).setCell (p := ⟨b, 3, none⟩) hb v3).setCell (p := ⟨b, 4, none⟩) hb v4).setCell (p := ⟨b, 5, none⟩) hb v5).setCell (p := ⟨b, 6, none⟩) hb v6).setCell (p := ⟨b, 7, none⟩) hb v7).setCell (p := ⟨b, 8, none⟩) hb v8
set_option maxRecDepth 100000 in
set_option maxHeartbeats 4000000 in
theorem meta_any (nm : List Int) (rate : Int) (lp : Bool) (a b : Int) (d : List (List Int)) (ao : Option Addr) (n cap : Nat) (w : World) (h : SmIs w ⟨nm, rate, lp, a, b, d⟩ ⟨ao, n, cap⟩) : Calls Try.prog 27 #[.agg #[.string (strOfNums nm), .int .i64 rate, .bool lp, .int .i64 a, .int .i64 b, .slice ao n cap]] w fun e w' => e = .returned (.agg #[.string (strOfNums nm), .int .i64 (lenS ⟨nm, rate, lp, a, b, d⟩), .int .i64 rate, .int .i64 n, .bool lp, .int .i64 a, .int .i64 b, .int .i64 0, .int .i64 0]) ∧ Below w.heap.size w w' := by
  have hk0 := balloc (below_alloc w (.cells #[.string (strOfNums nm), .int .i64 rate, .bool lp, .int .i64 a, .int .i64 b, .slice ao n cap] 37)) (.cells #[.string (ByteArray.mk #[]), .int .i64 0, .int .i64 0, .int .i64 0, .bool false, .int .i64 0, .int .i64 0, .int .i64 0, .int .i64 0] 64)
  have hz0 := ((below_alloc (w.alloc (.cells #[.string (strOfNums nm), .int .i64 rate, .bool lp, .int .i64 a, .int .i64 b, .slice ao n cap] 37)) (.cells #[.string (ByteArray.mk #[]), .int .i64 0, .int .i64 0, .int .i64 0, .bool false, .int .i64 0, .int .i64 0, .int .i64 0, .int .i64 0] 64)).block w.heap.size (by simp)).trans (heap_alloc_new w _)
  have hz1 := heap_alloc_new (w.alloc (.cells #[.string (strOfNums nm), .int .i64 rate, .bool lp, .int .i64 a, .int .i64 b, .slice ao n cap] 37)) (.cells #[.string (ByteArray.mk #[]), .int .i64 0, .int .i64 0, .int .i64 0, .bool false, .int .i64 0, .int .i64 0, .int .i64 0, .int .i64 0] 64)
  rw [World.size_alloc] at hz1
  have hs := h.keep0 hk0
  have hle : n ≤ cap := h.le
  clear h
  go_enter Try.func27, Try.ntmps27
  go_upto_region 1 with fail
  generalize (w.alloc (.cells #[.string (strOfNums nm), .int .i64 rate, .bool lp, .int .i64 a, .int .i64 b, .slice ao n cap] 37)).alloc (.cells #[.string (ByteArray.mk #[]), .int .i64 0, .int .i64 0, .int .i64 0, .bool false, .int .i64 0, .int .i64 0, .int .i64 0, .int .i64 0] 64) = W at *
  have HS := Lib.hid hs
  clear hs
  obtain ⟨c0, c1, c2, c3, c4, c5⟩ := six_cells hz0
  obtain ⟨⟨e0, e1, e2, e3, e4, e5, e6, e7, e8⟩, f0, f1, f2, f3, f4, f5, f6, f7, f8⟩ := nine_cells hz1
  have HZ0 := Lib.hid hz0
  have HZ1 := Lib.hid hz1
  generalize hN : lenS ⟨nm, rate, lp, a, b, d⟩ = N at *
  have HN := Lib.hid hN
  have HLEN : Hid (∀ w', Below W.heap.size W w' → Calls Try.prog 24 #[.agg #[.string (strOfNums nm), .int .i64 rate, .bool lp, .int .i64 a, .int .i64 b, .slice ao n cap]] w' fun e w2 => e = .returned (.int .i64 N) ∧ Below w'.heap.size w' w2) := fun w' hb => by
    have := length_any ⟨nm, rate, lp, a, b, d⟩ ⟨ao, n, cap⟩ w' (HS.out.keep0 hb)
    rw [hN] at this
    exact this
  clear hz0 hz1 hN
  go_region_held3 (fun w' => w'.cell? ⟨w.heap.size, 0, none⟩ = some (.string (strOfNums nm)) ∧ w'.cell? ⟨w.heap.size, 1, none⟩ = some (.int .i64 rate) ∧ w'.cell? ⟨w.heap.size, 2, none⟩ = some (.bool lp) ∧ w'.cell? ⟨w.heap.size, 3, none⟩ = some (.int .i64 a) ∧ w'.cell? ⟨w.heap.size, 4, none⟩ = some (.int .i64 b) ∧ w'.cell? ⟨w.heap.size, 5, none⟩ = some (.slice ao n cap)) (go_keep) (first | (go_at_call 24; refine (HLEN.out _ (Below.refl _ _).drew).mono ?_; rintro e w2 ⟨rfl, hb2⟩; have hy0 := (hb2.block _ (lt_of_block HZ0.out)).trans HZ0.out; have hy1 := (hb2.block _ (lt_of_block HZ1.out)).trans HZ1.out; obtain ⟨c0, c1, c2, c3, c4, c5⟩ := six_cells hy0; obtain ⟨⟨e0, e1, e2, e3, e4, e5, e6, e7, e8⟩, f0, f1, f2, f3, f4, f5, f6, f7, f8⟩ := nine_cells hy1))
  have hs9 := nine_set hy1 (.string (strOfNums nm)) (.int .i64 N) (.int .i64 rate) (.int .i64 n) (.bool lp) (.int .i64 a) (.int .i64 b) (.int .i64 0) (.int .i64 0)
  have hb9 := nine_below (hk0.trans (((Below.refl w.heap.size W).drew).trans (hb2.mono hk0.size))) (b := w.heap.size + 1) (by omega) (.string (strOfNums nm)) (.int .i64 N) (.int .i64 rate) (.int .i64 n) (.bool lp) (.int .i64 a) (.int .i64 b) (.int .i64 0) (.int .i64 0)
  have HS9 := Lib.hid hs9
  have HB9 := Lib.hid hb9
  clear hs9 hb9
  go_wp2_with fail
  exact bodyPost_ret (results_cell_row rfl _ _ _ _ _ _ _ rfl HS9.out Try.underlying64 rfl info64) rfl ⟨by rw [HN.out], HB9.out⟩
set_option maxRecDepth 100000 in
set_option maxHeartbeats 4000000 in
theorem same_any (nm : List Int) (rate : Int) (lp : Bool) (a b : Int) (d : List (List Int)) (ao : Option Addr) (n cap : Nat) (ao2 : Option Addr) (n2 cap2 : Nat) (w : World) (h : SmIs w ⟨nm, rate, lp, a, b, d⟩ ⟨ao, n, cap⟩) (h2 : SmIs w ⟨nm, rate, lp, a, b, d⟩ ⟨ao2, n2, cap2⟩) : Calls Try.prog 16 #[.agg #[.string (strOfNums nm), .int .i64 rate, .bool lp, .int .i64 a, .int .i64 b, .slice ao n cap], .agg #[.string (strOfNums nm), .int .i64 rate, .bool lp, .int .i64 a, .int .i64 b, .slice ao2 n2 cap2]] w (TruePost w) := by
  have hnn : n2 = n := by have := h.rows.hlen; have := h2.rows.hlen; simp only at *; omega
  subst hnn
  have hk0 := balloc (below_alloc w (.cells #[.string (strOfNums nm), .int .i64 rate, .bool lp, .int .i64 a, .int .i64 b, .slice ao n2 cap] 37)) (.cells #[.string (strOfNums nm), .int .i64 rate, .bool lp, .int .i64 a, .int .i64 b, .slice ao2 n2 cap2] 37)
  have hz0 := ((below_alloc (w.alloc (.cells #[.string (strOfNums nm), .int .i64 rate, .bool lp, .int .i64 a, .int .i64 b, .slice ao n2 cap] 37)) (.cells #[.string (strOfNums nm), .int .i64 rate, .bool lp, .int .i64 a, .int .i64 b, .slice ao2 n2 cap2] 37)).block w.heap.size (by simp)).trans (heap_alloc_new w _)
  have hz1 := heap_alloc_new (w.alloc (.cells #[.string (strOfNums nm), .int .i64 rate, .bool lp, .int .i64 a, .int .i64 b, .slice ao n2 cap] 37)) (.cells #[.string (strOfNums nm), .int .i64 rate, .bool lp, .int .i64 a, .int .i64 b, .slice ao2 n2 cap2] 37)
  rw [World.size_alloc] at hz1
  have hs := h.keep0 hk0
  have hs2 := h2.keep0 hk0
  have hle := h.le
  have hle2 := h2.le
  simp only at hle hle2
  have hlim := h.rows.lim
  unfold maxLen at hlim
  simp only at hlim
  clear h h2
  go_enter Try.func16, Try.ntmps16
  go_upto_region 1 with fail
  generalize (w.alloc (.cells #[.string (strOfNums nm), .int .i64 rate, .bool lp, .int .i64 a, .int .i64 b, .slice ao n2 cap] 37)).alloc (.cells #[.string (strOfNums nm), .int .i64 rate, .bool lp, .int .i64 a, .int .i64 b, .slice ao2 n2 cap2] 37) = W at *
  have HS := Lib.hid hs
  have HS2 := Lib.hid hs2
  clear hs hs2
  obtain ⟨c0, c1, c2, c3, c4, c5⟩ := six_cells hz0
  obtain ⟨e0, e1, e2, e3, e4, e5⟩ := six_cells hz1
  have HZ0 := Lib.hid hz0
  have HZ1 := Lib.hid hz1
  have HM : Hid (∀ (ao : Option Addr) (n cap : Nat) w', SmIs w' ⟨nm, rate, lp, a, b, d⟩ ⟨ao, n, cap⟩ → Calls Try.prog 27 #[.agg #[.string (strOfNums nm), .int .i64 rate, .bool lp, .int .i64 a, .int .i64 b, .slice ao n cap]] w' fun e w2 => e = .returned (.agg #[.string (strOfNums nm), .int .i64 (lenS ⟨nm, rate, lp, a, b, d⟩), .int .i64 rate, .int .i64 n, .bool lp, .int .i64 a, .int .i64 b, .int .i64 0, .int .i64 0]) ∧ Below w'.heap.size w' w2) := fun ao n cap w' h => meta_any nm rate lp a b d ao n cap w' h
  clear hz0 hz1
  generalize lenS ⟨nm, rate, lp, a, b, d⟩ = N at *
  go_cut [20] (fun v wx => v = .bool false ∧ ∃ Wx, Wx = wx ∧ Below W.heap.size W Wx)
  case first =>
    go_region_held3 (fun w' => w'.cell? ⟨w.heap.size, 0, none⟩ = some (.string (strOfNums nm)) ∧ w'.cell? ⟨w.heap.size, 1, none⟩ = some (.int .i64 rate) ∧ w'.cell? ⟨w.heap.size, 2, none⟩ = some (.bool lp) ∧ w'.cell? ⟨w.heap.size, 3, none⟩ = some (.int .i64 a) ∧ w'.cell? ⟨w.heap.size, 4, none⟩ = some (.int .i64 b) ∧ w'.cell? ⟨w.heap.size, 5, none⟩ = some (.slice ao n2 cap) ∧ w'.cell? ⟨w.heap.size + 1, 0, none⟩ = some (.string (strOfNums nm)) ∧ w'.cell? ⟨w.heap.size + 1, 1, none⟩ = some (.int .i64 rate) ∧ w'.cell? ⟨w.heap.size + 1, 2, none⟩ = some (.bool lp) ∧ w'.cell? ⟨w.heap.size + 1, 3, none⟩ = some (.int .i64 a) ∧ w'.cell? ⟨w.heap.size + 1, 4, none⟩ = some (.int .i64 b) ∧ w'.cell? ⟨w.heap.size + 1, 5, none⟩ = some (.slice ao2 n2 cap2)) (go_keep) (first | (go_at_call 27; refine (HM.out _ _ _ _ (by first | exact HS.out.keep0 (by first | assumption | exact (Below.refl _ _).drew) | exact HS2.out.keep0 (by first | assumption | exact (Below.refl _ _).drew))).mono ?_; rintro e w2 ⟨rfl, hb2⟩; have hbW := bstep (a := W) (by first | assumption | exact (Below.refl _ _).drew) hb2; have hy0 := (hbW.block _ (lt_of_block HZ0.out)).trans HZ0.out; have hy1 := (hbW.block _ (lt_of_block HZ1.out)).trans HZ1.out; obtain ⟨c0, c1, c2, c3, c4, c5⟩ := six_cells hy0; obtain ⟨e0, e1, e2, e3, e4, e5⟩ := six_cells hy1))
    go_wp2_with fail
    go_meet
    exact ⟨rfl, _, rfl, by assumption⟩
  case rest =>
    obtain ⟨rfl, wx, rfl, hbx⟩ := hcut
    clear c0 c1 c2 c3 c4 c5 e0 e1 e2 e3 e4 e5 HM
    have hy0 := (hbx.block _ (lt_of_block HZ0.out)).trans HZ0.out
    have hy1 := (hbx.block _ (lt_of_block HZ1.out)).trans HZ1.out
    have hR1 := (HS.out.rows).keep0 hbx
    have hR2 := (HS2.out.rows).keep0 hbx
    simp only at hR1 hR2
    have hb0 := hk0.trans (hbx.mono hk0.size)
    clear HS HS2 HZ0 HZ1 hk0
    go_wp2_with fail
    go_loopw [5] (fun v5 wr => ∃ k : Nat, k ≤ n2 ∧ v5 = .int .i64 k ∧ Below wx.heap.size wx wr) (fun v5 _ => (n2 - (intOf v5).toNat))
    case atStart => exact ⟨0, by omega, rfl, Below.refl _ _⟩
    case round =>
      obtain ⟨k, hk, rfl, hbr⟩ := hrel
      have hx0 := (hbr.block _ (lt_of_block hy0)).trans hy0
      have hx1 := (hbr.block _ (lt_of_block hy1)).trans hy1
      obtain ⟨c0, c1, c2, c3, c4, c5⟩ := six_cells hx0
      obtain ⟨e0, e1, e2, e3, e4, e5⟩ := six_cells hx1
      clear c0 c1 c2 c3 c4 e0 e1 e2 e3 e4
      by_cases hlt : k < n2
      · obtain ⟨p, ro, rn, rc, rfl, hc, hrc, hI⟩ := hR1.cell k hlt
        obtain ⟨p2, ro2, rn2, rc2, rfl, hc2, hrc2, hI2⟩ := hR2.cell k hlt
        obtain rfl : rn2 = rn := hI2.hlen.symm.trans hI.hlen
        have q0 := (hbr.cell (World.block_lt_of_cell? wx _ hc)).trans hc
        have q1 := (hbr.cell (World.block_lt_of_cell? wx _ hc2)).trans hc2
        have hIm := hI.lim
        unfold maxLen at hIm
        clear hc hc2 hx0 hx1
        go_upto_region 6 with fail
        go_quiet (fail)
        have hbq : Below wx.heap.size wx (wr.drewN nq) := ⟨hbr.os, hbr.tape, hbr.output, hbr.size, hbr.block⟩
        clear q0 q1 c5 e5 hbr
        generalize wr.drewN nq = W1 at *
        have hx0 := (hbq.block _ (lt_of_block hy0)).trans hy0
        have hx1 := (hbq.block _ (lt_of_block hy1)).trans hy1
        obtain ⟨c0, c1, c2, c3, c4, c5⟩ := six_cells hx0
        obtain ⟨e0, e1, e2, e3, e4, e5⟩ := six_cells hx1
        clear c0 c1 c2 c3 c4 e0 e1 e2 e3 e4 hx0 hx1
        go_wp2_with fail
        go_loopw [6] (fun v6 wi => ∃ i : Nat, i ≤ rn2 ∧ v6 = .int .i64 i ∧ Below wx.heap.size wx wi) (fun v6 _ => (rn2 - (intOf v6).toNat))
        case atStart => exact ⟨0, by omega, rfl, hbq⟩
        case round =>
          clear c5 e5 hbq
          obtain ⟨i, hi, rfl, hbi⟩ := hrel
          have hx0 := (hbi.block _ (lt_of_block hy0)).trans hy0
          have hx1 := (hbi.block _ (lt_of_block hy1)).trans hy1
          obtain ⟨c0, c1, c2, c3, c4, c5⟩ := six_cells hx0
          obtain ⟨e0, e1, e2, e3, e4, e5⟩ := six_cells hx1
          obtain ⟨p', ro', rn', rc', hp', hc, _, hI'⟩ := (hR1.keep0 hbi).cell k hlt
          cases hp'
          obtain ⟨p'', ro'', rn'', rc'', hp'', hc2, _, hI2'⟩ := (hR2.keep0 hbi).cell k hlt
          cases hp''
          obtain rfl : rn'' = rn' := hI2'.hlen.symm.trans hI'.hlen
          obtain rfl : rn'' = rn2 := hI2'.hlen.symm.trans hI2.hlen
          clear c0 c1 c2 c3 c4 e0 e1 e2 e3 e4 hx0 hx1
          by_cases hlt2 : i < rn''
          · obtain ⟨z1, x, hz1, hx, hxc, _, _⟩ := hI'.int hlt2
            obtain ⟨z2, x2, hz2, hx2, hxc2, _, _⟩ := hI2'.int hlt2
            obtain rfl : x2 = x := hx2.out.symm.trans hx.out
            subst hz1
            subst hz2
            clear hI' hI2' hI hI2 hR1 hR2 hx hx2
            go_upto_region 11 with fail
            go_quiet (fail)
            have hbq : Below wx.heap.size wx (wr.drewN nq) := ⟨hbi.os, hbi.tape, hbi.output, hbi.size, hbi.block⟩
            go_wp2_with fail
            refine ⟨⟨i + 1, by omega, by go_num, hbq⟩, ?_⟩
            simp [intOf] <;> omega
          · obtain rfl : i = rn'' := by omega
            go_wp2_with fail
            refine ⟨⟨k + 1, by omega, by go_num, hbi⟩, ?_⟩
            simp [intOf] <;> omega
      · obtain rfl : k = n2 := by omega
        go_wp2_with fail
        go_ret
        exact ⟨rfl, hb0.trans (hbr.mono hb0.size)⟩
end Go.Proofs.Ytpbeehfafbgphaa

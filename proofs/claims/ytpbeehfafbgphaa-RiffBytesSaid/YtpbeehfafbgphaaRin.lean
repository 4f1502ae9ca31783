/- The walk of riff.ring. -/
import Derived.Test.YtpbeehfafbgphaaRrp
import Derived.Test.YtpbeehfafbgphaaFil
import Derived.Deep.RegionHeldLaw
namespace Go.Proofs.Ytpbeehfafbgphaa
open Go Go.RowKit Go.Calli
set_option linter.unusedVariables false
set_option linter.unusedSimpArgs false
attribute [local irreducible] wpStill wpAnyH wpAnyS wpList Code.wp
theorem blk_own {w : World} {b B n : Nat} {zs : List Int} (h : Blk .u8 w b 5 zs) (hn : zs.length = n) (hB : B ≤ b) (hm : n ≤ maxLen) : w.ownsRow B 5 1 (.slice (some ⟨b, 0, none⟩) n n) n (zs.map (Value.int .u8)) :=
  ⟨by simp [hn], .inr ⟨b, n, _, rfl, hB, h, Nat.le_refl _, hm, by simp [hn], by simp [hn, List.take_of_length_le]⟩⟩
/-- A chunk's bytes lie in a block of bytes. -/
def Dat (w : World) (m : ChM) : Prop := ∀ a, m.ao = some a → ∃ cs f, w.heap[a.block]? = some (.cells cs 5 f)
theorem Dat.keep0 {w w' : World} {m : ChM} (h : Dat w m) (hb : Below w.heap.size w w') : Dat w' m := fun a ha => by
  obtain ⟨cs, f, hcs⟩ := h a ha
  exact ⟨cs, f, (hb.block _ (lt_of_block hcs)).trans hcs⟩
/-- A chunk as a result. -/
def ChkM (c : Ch) (w : World) (e : Ending) (w' : World) : Prop := ∃ m : ChM, e = .returned (.agg #[.string (strOfNums m.s), .slice m.ao m.n m.cap]) ∧ m.Is w' c ∧ Dat w' m ∧ Below w.heap.size w w'
theorem info27 : (Try.prog.info? 27).map (·.size) = some 2 := by kernel_rfl
theorem two_set {w : World} {b T : Nat} {e0 e1 : Value} (h : w.heap[b]? = some (.cells #[e0, e1] T (0, 0))) (v0 v1 : Value) : ((w.setCell ⟨b, 0, none⟩ v0).setCell ⟨b, 1, none⟩ v1).heap[b]? = some (.cells #[v0, v1] T (0, 0)) :=
  heap_setCell_same _ _ _ _ _ _ (heap_setCell_same _ _ _ _ _ _ h)
theorem two_keeps {S : Nat → Prop} {a w : World} (h : Keeps S a w) {b : Nat} (hb : S b) (v0 v1 : Value) : Keeps S a ((w.setCell ⟨b, 0, none⟩ v0).setCell ⟨b, 1, none⟩ v1) :=
  (h.setCell (p := ⟨b, 0, none⟩) (.inr hb) v0).setCell (p := ⟨b, 1, none⟩) (.inr hb) v1
theorem two_below {B : Nat} {a w : World} (h : Below B a w) {b : Nat} (hb : B ≤ b) (v0 v1 : Value) : Below B a ((w.setCell ⟨b, 0, none⟩ v0).setCell ⟨b, 1, none⟩ v1) :=
  (h.setCell (p := ⟨b, 0, none⟩) hb v0).setCell (p := ⟨b, 1, none⟩) hb v1
theorem two_frozen {w : World} {b T : Nat} {cs : Array Value} (h : w.heap[b]? = some (.cells cs T (0, 0))) : w.frozen? ⟨b, 0, none⟩ = false ∧ w.frozen? ⟨b, 1, none⟩ = false := ⟨frozen_of_row _ _ _ _ _ h, frozen_of_row _ _ _ _ _ h⟩
theorem chk_fin {wr : World} {base b0 N cp : Nat} {o3 : Option Addr} {zs : List Int} {e0 e1 : Value} (hq : wr.heap[b0]? = some (.cells #[e0, e1] 27 (0, 0))) (ht : ∀ a, o3 = some a → base ≤ a.block ∧ ∃ cs, wr.heap[a.block]? = some (.cells cs 5 (0, 0))) (hI : Ints .u8 wr o3 N zs) (nm : List Int) (v0 v1 : Value) : Ints .u8 ((wr.setCell ⟨b0, 0, none⟩ v0).setCell ⟨b0, 1, none⟩ v1) o3 N zs ∧ Dat ((wr.setCell ⟨b0, 0, none⟩ v0).setCell ⟨b0, 1, none⟩ v1) ⟨nm, o3, N, cp⟩ := by
  have hk := two_keeps (Keeps.refl (fun k => k = b0) wr) (b := b0) rfl v0 v1
  have hne : ∀ g, o3 = some g → g.block ≠ b0 := fun g hg e => by
    obtain ⟨_, cs, hcs⟩ := ht g hg
    exact block_ne hq hcs (by decide) e.symm
  refine ⟨hI.kept hk hne, fun g hg => ?_⟩
  obtain ⟨_, cs, hcs⟩ := ht g hg
  exact ⟨cs, (0, 0), hk.heap hcs (hne g hg)⟩
set_option maxRecDepth 100000 in
set_option maxHeartbeats 4000000 in
theorem ring_any (nm : List Int) (rate : Int) (lp : Bool) (a b : Int) (so : Option Addr) (sn sc : Nat) (ha : 0 ≤ a) (ha2 : a < 9223372036854775808) (hb : 0 ≤ b) (hb2 : b < 9223372036854775808) (w : World) : Calls Try.prog 29 #[.agg #[.string (strOfNums nm), .int .i64 rate, .bool lp, .int .i64 a, .int .i64 b, .slice so sn sc]] w (ChkM ⟨nLoop, ringL a b⟩ w) := by
  have hk0 := balloc (below_alloc w (.cells #[.string (strOfNums nm), .int .i64 rate, .bool lp, .int .i64 a, .int .i64 b, .slice so sn sc] 37)) (.cells #[.string (ByteArray.mk #[]), .slice none 0 0] 27)
  have hz0 := ((below_alloc (w.alloc (.cells #[.string (strOfNums nm), .int .i64 rate, .bool lp, .int .i64 a, .int .i64 b, .slice so sn sc] 37)) (.cells #[.string (ByteArray.mk #[]), .slice none 0 0] 27)).block w.heap.size (by simp)).trans (heap_alloc_new w _)
  have hq0 := heap_alloc_new (w.alloc (.cells #[.string (strOfNums nm), .int .i64 rate, .bool lp, .int .i64 a, .int .i64 b, .slice so sn sc] 37)) (.cells #[.string (ByteArray.mk #[]), .slice none 0 0] 27)
  rw [World.size_alloc] at hq0
  have LA : Hid (∀ w, Calls Try.prog 19 #[.int .u64 (IntKind.u64.wrap a), .int .i64 4] w (LowPost a 4 w)) := fun w => by
    rw [IntWalk.u64_in a (by omega)]
    exact low_any a 4 (by omega) ha (by omega) w
  have LB : Hid (∀ w, Calls Try.prog 19 #[.int .u64 (IntKind.u64.wrap b), .int .i64 4] w (LowPost b 4 w)) := fun w => by
    rw [IntWalk.u64_in b (by omega)]
    exact low_any b 4 (by omega) hb (by omega) w
  go_enter Try.func29, Try.ntmps29
  go_upto_region 1 with fail
  generalize (w.alloc (.cells #[.string (strOfNums nm), .int .i64 rate, .bool lp, .int .i64 a, .int .i64 b, .slice so sn sc] 37)).alloc (.cells #[.string (ByteArray.mk #[]), .slice none 0 0] 27) = W at *
  have HZ0 := Lib.hid hz0
  have HQ0 := Lib.hid hq0
  have HK0 := Lib.hid hk0
  obtain ⟨c0, c1, c2, c3, c4, c5⟩ := six_cells hz0
  clear hz0 hq0 hk0
  go_region_held_law (fun w' => w'.cell? ⟨w.heap.size, 3, none⟩ = some (.int .i64 a) ∧ w'.cell? ⟨w.heap.size, 4, none⟩ = some (.int .i64 b)) (go_keep) (first | (go_at_call 19; first | ((with_reducible refine (LA.out _).mono ?_); rintro e w1 ⟨b1, rfl, hB1, hb1, hbb1⟩; have hbW := bstep (Below.refl W.heap.size W).drew hb1; have hz1 := (hbW.block _ (lt_of_block HZ0.out)).trans HZ0.out; obtain ⟨c0, c1, c2, c3, c4, c5⟩ := six_cells hz1) | ((with_reducible refine (LB.out _).mono ?_); rintro e w2 ⟨b2, rfl, hB2, hb2, hbb2⟩; have hbX := bstep hbW hb2; have hz2 := (hbX.block _ (lt_of_block HZ0.out)).trans HZ0.out; have hq2 := (hbX.block _ (lt_of_block HQ0.out)).trans HQ0.out; obtain ⟨c0, c1, c2, c3, c4, c5⟩ := six_cells hz2; have hown := blk_own (B := w.heap.size) (hB1.keep0 hb2) (lowL_len 4 a) (by have := HK0.out.size; have := hbW.size; simp at *; omega) (by unfold maxLen; omega); have hli := hB2.ints 4 (lowL_len 4 _) (by unfold maxLen; omega) (wf_of (lowL_byt 4 _)); obtain ⟨v3, w3, hr3, hown3, hk3⟩ := run_append_row (P := Try.prog) w2 25 25 5 Try.underlying25 infoByte rfl w.heap.size _ 4 _ hown (some ⟨b2, 0, none⟩) 4 4 _ hli.row (one_ints _ _) hli.nil_len (by omega) (by unfold maxLen; omega) (Nat.le_trans HK0.out.size hbX.size); obtain ⟨o3, cp3, rfl, hcp3, hrow3, hl3, hu3, ht3⟩ := own_slice hown3; have hz3 := blk_far hown hk3 hz2 (by decide); have hq3 := blk_far hown hk3 hq2 (by decide); obtain ⟨c0, c1, c2, c3, c4, c5⟩ := six_cells hz3; obtain ⟨q0, q1⟩ := two_cells hq3; obtain ⟨f0, f1⟩ := two_frozen hq3)) | (refine step_append_eq rfl (.tmp 6) (.tmp 10) 25 25 rfl rfl rfl hr3 ?_))
  have hk4 : Below w.heap.size w w3 := (HK0.out.trans (hbX.mono HK0.out.size)).trans (owns_below hown hk3 (Nat.le_trans HK0.out.size hbX.size))
  rw [← List.map_append] at hrow3
  have hI3 : Ints .u8 w3 o3 8 (ringL a b) := hrow3.ints hl3 (wf_of (ring_byt a b))
  have HI := Lib.hid (chk_fin (cp := cp3) hq3 ht3 hI3 nLoop (.string (ByteArray.mk #[108, 111, 111, 112])) (.slice o3 8 cp3))
  have HS := Lib.hid (two_set hq3 (.string (ByteArray.mk #[108, 111, 111, 112])) (.slice o3 8 cp3))
  have HB := Lib.hid (two_below hk4 (b := w.heap.size + 1) (by omega) (.string (ByteArray.mk #[108, 111, 111, 112])) (.slice o3 8 cp3))
  clear hI3 hrow3 ht3 hu3 hown3 hk3 hr3 hown hli
  go_wp2_with fail
  exact bodyPost_ret (results_cell_row rfl _ _ _ _ _ _ _ rfl HS.out Try.underlying27 rfl info27) rfl ⟨⟨nLoop, o3, 8, cp3⟩, rfl, ⟨rfl, (byt_of_small (l := nLoop) (by decide)), hcp3, HI.out.1⟩, HI.out.2, HB.out⟩
end Go.Proofs.Ytpbeehfafbgphaa

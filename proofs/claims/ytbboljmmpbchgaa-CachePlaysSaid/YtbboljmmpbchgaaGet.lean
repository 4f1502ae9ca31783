/- The walk of cache's Get. -/
import Derived.Test.YtbboljmmpbchgaaPga
namespace Go.Proofs.Ytbboljmmpbchgaa
open Go Go.RowKit Go.Calli Go.Dskp Go.Maps
set_option linter.unusedVariables false
set_option linter.unusedSimpArgs false
attribute [local irreducible] wpStill wpAnyH wpAnyS wpList Code.wp
/-- What gives new bytes. -/
def GtPost (A : Ad) (n : Nat) (R : PR) (w : World) (e : Ending) (w' : World) : Prop := ∃ ro rc, e = .returned (.tuple #[.slice ro R.b.length rc, .int .i64 R.e]) ∧ R.b.length ≤ rc ∧ CaIs A w' n R.c ∧ Ints .u8 w' ro R.b.length R.b ∧ (∀ a, ro = some a → w.heap.size ≤ a.block) ∧ Keeps A.S w w'
theorem get_any (A : Ad) (n : Nat) (hn1 : n ≤ 1024) (c : Ca) (k : Nat) (hk : k ≤ 100000) (hC : COk c) (hL : CLim k c) (p : Int) (hwp : (Lit.int .i64 p).wf = true) (w : World) (h : CaIs A w n c) : Calls Try.prog 10 #[.pointer (some ⟨A.cb, 0, none⟩), .int .i64 p] w (GtPost A n (getC c p) w) := by
  have hW := cwhy_any A n c hL.ok p w h
  unfold getC
  by_cases ho : c.d.out p
  · rw [if_pos ho] at hW ⊢
    have HH := Lib.hid h
    clear h
    go_enter Try.func10, Try.ntmps10
    go_wp2_with (go_at_call 22; refine hW.mono ?_; rintro e w' ⟨rfl, rfl⟩)
    go_ret2
    exact ⟨none, 0, rfl, Nat.le_refl _, HH.out, Ints.nil _ _ _, fun a ha => (by cases ha), Keeps.refl _ _⟩
  · rw [if_neg ho] at hW ⊢
    have hP := page_any A n hn1 c k hk hL p hwp w h
    obtain ⟨-, hb1, hb2, -⟩ := pageC_ok hC p hwp
    have hbl : (pageC c p).b.length ≤ 64 := by
      by_cases he : (pageC c p).e = 0
      · rw [hb1 he]; exact Nat.le_refl _
      · rw [hb2 he]; exact Nat.zero_le _
    have HH := Lib.hid h
    clear h hb1 hb2
    generalize pageC c p = R at *
    go_enter Try.func10, Try.ntmps10
    go_wp2_with (first | (go_at_call 22; refine hW.mono ?_; rintro e w' ⟨rfl, rfl⟩) | (go_at_call 23; refine hP.mono ?_; rintro e w1 ⟨bo, bc, rfl, hbc, hC1, hI1, hn1', hk1⟩; have hrow := hI1.row; have hnil := hI1.nil_len) | (at_builtin; refine wpList_append_row rfl _ _ 22 5 rfl Try.underlying22 infoByte rfl w1.heap.size (.slice none 0 0) 0 [] rfl (World.ownsRow_nil _ _ _ _) bo R.b.length bc (R.b.map (Value.int .u8)) rfl hrow (one_ints _ _) hnil (by omega) (by unfold maxLen; omega) (by simp) ?_; intro v' w2 hown hkp; rw [Nat.zero_add, List.nil_append] at hown; obtain ⟨io, ic, rfl, hic, hrow2, hlim, hund, hblk⟩ := own_slice hown))
    go_ret2
    have hI : Ints .u8 w2 io R.b.length R.b := hrow2.ints hlim hI1.wf
    have hB2 : Below w1.heap.size w1 w2 := hkp.toBelow (Nat.le_refl _) (fun k _ hk => by cases hk)
    have hs := hk1.size
    exact ⟨io, ic, rfl, hic, hC1.keep0 hB2, hI, fun a ha => Nat.le_trans hs (hblk a ha).1, hk1.below hB2 (by omega)⟩
end Go.Proofs.Ytbboljmmpbchgaa

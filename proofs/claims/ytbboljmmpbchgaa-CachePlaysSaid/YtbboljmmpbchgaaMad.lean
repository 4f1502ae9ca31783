/- The walk of the law's made; plain laws of Get. -/
import Derived.Test.YtbboljmmpbchgaaPgs
namespace Go.Proofs.Ytbboljmmpbchgaa
open Go Go.RowKit Go.Calli Go.Dskp Go.Maps
set_option linter.unusedVariables false
set_option linter.unusedSimpArgs false
attribute [local irreducible] wpStill wpAnyH wpAnyS wpList Code.wp
theorem getC_ok {c : Ca} (h : COk c) (p : Int) (hwp : (Lit.int .i64 p).wf = true) : COk (getC c p).c ∧ (getC c p).c.ss.length = c.ss.length ∧ (getC c p).c.d.img = c.d.img ∧ (getC c p).c.retry = c.retry ∧ (getC c p).b.length ≤ 64 := by
  unfold getC
  split
  · exact ⟨h, rfl, rfl, rfl, by simp⟩
  · obtain ⟨h1, h2, h3, h4, h5, h6⟩ := pageC_ok h p hwp
    refine ⟨h1, h4, h5, h6, ?_⟩
    by_cases he : (pageC c p).e = 0
    · rw [h2 he]; exact Nat.le_refl _
    · rw [h3 he]; exact Nat.zero_le _
theorem CLim.get {k : Nat} {c : Ca} (h : CLim k c) (p : Int) : CLim (k + 1) (getC c p).c := by
  unfold getC
  split
  · exact h.mono (by omega)
  · exact h.page p
/-- A new cache. -/
def newC (zs : List Int) (n : Nat) (r : Int) : Ca := ⟨0, 0, 0, 0, ⟨zs, fun _ => none, 0, 0⟩, List.replicate n q0, 0, r, 0⟩
theorem newC_ok (zs : List Int) (n : Nat) (r : Int) : COk (newC zs n r) := fun i hi => by
  show SOk ((List.replicate n q0).getD i q0)
  rw [getD_rep]
  exact SOk.q0
theorem newC_lim (zs : List Int) (hz : zs.length ≤ 4194304) (n : Nat) (r : Int) (h0 : 0 ≤ r) (h1 : r ≤ 8) : CLim 0 (newC zs n r) := ⟨Int.le_refl _, Int.le_refl _, Int.le_refl _, Int.le_refl _, Int.le_refl _, Int.le_refl _, Int.le_refl _, Int.le_refl _, ⟨hz, Int.le_refl _, Int.le_refl _, Int.le_refl _, by rintro k t ⟨⟩⟩, Int.le_refl _, Nat.le_refl _, h0, h1⟩
def MadePost (zs : List Int) (n : Nat) (r : Int) (w : World) (e : Ending) (w' : World) : Prop := ∃ A : Ad, e = .returned (.tuple #[.pointer (some ⟨A.b, 0, none⟩), .pointer (some ⟨A.cb, 0, none⟩)]) ∧ CaIs A w' n (newC zs n r) ∧ (∀ k, A.S k → w.heap.size ≤ k) ∧ (∀ a, A.ib = some a → w.heap.size ≤ a.block) ∧ (∀ k, ¬ A.x k) ∧ Below w.heap.size w w'
theorem made_good (ao : Option Addr) (m cap : Nat) (zs : List Int) (hm : m ≤ 500) (n : Nat) (r : Int) (h1 : 1 ≤ n) (h2 : n ≤ 1024) (h3 : 0 ≤ r) (h4 : r ≤ 8) (w : World) (h : Ints .u8 w ao m zs) : Calls Try.prog 8 #[.slice ao m cap, .int .i64 n, .int .i64 r] w (MadePost zs n r w) := by
  have hN := new_any ao m cap zs hm w h
  go_enter Try.func8, Try.ntmps8
  go_upto_region 2 with (go_at_call 19; refine hN.mono ?_; rintro e w2 ⟨b, mb, ib, kap, rfl, hD, hb, hmb, hib, hB⟩)
  go_wp2_with (go_at_call 17; refine (cnew_good b n r h1 h2 h3 h4 w2).mono ?_; rintro e w3 ⟨cb, sb, rfl, hc, hs, hne, hcb, hsb, hB3⟩)
  go_ret2
  have hs2 := hB.size
  have hlt := hD.lt
  have hmlt := hD.2.2.2.1.lt
  rw [slotZ_flat] at hs
  refine ⟨⟨cb, sb, b, mb, ib, kap, fun _ => False⟩, rfl, ⟨hc, ⟨List.replicate n Slot.none, ⟨by simp, hs⟩, ⟨by simp [newC], fun i hi => ?_⟩⟩, ⟨0, Nat.le_refl _, hD.keep0 hB3⟩, by simp [newC], by show 0 < n; omega, ?_, ⟨fun a ha => Nat.lt_of_lt_of_le (hib a ha).2 hB3.size, fun k hx => hx.elim⟩⟩, ?_, fun a ha => (hib a ha).1, fun k hx => hx, bstep hB hB3⟩
  · rw [getD_rep, show (newC zs n r).ss = List.replicate n q0 from rfl, getD_rep]
    exact ⟨rfl, rfl, rfl, fun hf => by cases hf⟩
  · refine ⟨hne, by show b ≠ cb; omega, by show mb ≠ cb; omega, by show b ≠ sb; omega, by show mb ≠ sb; omega, ?_⟩
    intro a ha
    have hal : a.block < w2.heap.size := (hib a ha).2
    exact ⟨by show _ ≠ cb; omega, by show _ ≠ sb; omega⟩
  · rintro k (rfl | rfl | rfl | rfl)
    · exact Nat.le_trans hs2 hcb
    · exact Nat.le_trans hs2 hsb
    · exact hb
    · exact hmb
theorem made_bad (ao : Option Addr) (m cap : Nat) (zs : List Int) (hm : m ≤ 500) (n r : Int) (hbad : n < 1 ∨ 1024 < n ∨ r < 0 ∨ 8 < r) (w : World) (h : Ints .u8 w ao m zs) : Calls Try.prog 8 #[.slice ao m cap, .int .i64 n, .int .i64 r] w (fun e w' => e = .returned (.tuple #[.pointer none, .pointer none]) ∧ Below w.heap.size w w') := by
  have hN := new_any ao m cap zs hm w h
  go_enter Try.func8, Try.ntmps8
  go_upto_region 2 with (go_at_call 19; refine hN.mono ?_; rintro e w2 ⟨b, mb, ib, kap, rfl, hD, hb, hmb, hib, hB⟩)
  go_wp2_with (go_at_call 17; refine (cnew_bad b n r hbad w2).mono ?_; rintro e w3 ⟨rfl, rfl⟩)
  go_ret2
  exact ⟨rfl, hB⟩
end Go.Proofs.Ytbboljmmpbchgaa

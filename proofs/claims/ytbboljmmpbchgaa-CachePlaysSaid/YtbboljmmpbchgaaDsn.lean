/- The walk of disk's New. -/
import Derived.Test.YtbboljmmpbchgaaDsr
namespace Go.Proofs.Ytbboljmmpbchgaa
open Go Go.RowKit Go.Calli Go.Dskp Go.Maps
set_option linter.unusedVariables false
set_option linter.unusedSimpArgs false
attribute [local irreducible] wpStill wpAnyH wpAnyS wpList Code.wp
theorem infoByte : (Try.prog.info? 5).map (fun i => (i.zero, i.size, i.bytes)) = some (some (.int .u8 0), 1, 1) := by kernel_rfl
def NewPost (zs : List Int) (w : World) (e : Ending) (w' : World) : Prop := ∃ b mb ib kap, e = .returned (.tuple #[.pointer (some ⟨b, 0, none⟩), .int .i64 0]) ∧ Dsk w' b mb ib kap 0 ⟨zs, fun _ => none, 0, 0⟩ ∧ w.heap.size ≤ b ∧ w.heap.size ≤ mb ∧ (∀ a, ib = some a → w.heap.size ≤ a.block ∧ a.block < w'.heap.size) ∧ Below w.heap.size w w'
set_option maxRecDepth 100000 in
theorem new_any (ao : Option Addr) (n cap : Nat) (zs : List Int) (hn : n ≤ 500) (w : World) (h : Ints .u8 w ao n zs) : Calls Try.prog 19 #[.slice ao n cap] w (NewPost zs w) := by
  have hmm := @run_makeMap Try.prog
  have hrow := h.row
  have hnil := h.nil_len
  go_enter Try.func19, Try.ntmps19
  go_wp2_with (at_builtin; refine wpList_append_row rfl _ _ 22 5 rfl Try.underlying22 infoByte rfl w.heap.size (.slice none 0 0) 0 [] rfl (World.ownsRow_nil _ _ _ _) ao n cap (zs.map (Value.int .u8)) rfl hrow (one_ints _ _) hnil (by omega) (by unfold maxLen; omega) (by simp) ?_; intro v' w2 hown hkp; rw [Nat.zero_add, List.nil_append] at hown; obtain ⟨io, ic, rfl, hic, hrow2, hlim, hund, hblk⟩ := own_slice hown)
  go_ret2
  have hI : Ints .u8 w2 io n zs := hrow2.ints hlim h.wf
  have hB2 : Below w.heap.size w w2 := hkp.toBelow (Nat.le_refl _) (fun k _ hk => by cases hk)
  have hB3 : Below w2.heap.size w2 ((w2.alloc (.map #[] 0)).alloc (.cells #[.slice io n ic, .map (some w2.heap.size), .int .i64 0, .int .i64 0] 65)) := balloc ((Below.refl _ _).alloc (Nat.le_refl _) _) _
  have hzl := h.hlen
  have ha := MapKept.heap_alloc (w2.alloc (.map #[] 0)) (.cells #[.slice io n ic, .map (some w2.heap.size), .int .i64 0, .int .i64 0] 65)
  rw [World.size_alloc] at ha
  have hF := (FMap.made (P := Try.prog) (K := 3) w2).keep0 ((Below.refl _ _).alloc (Nat.le_refl _) (.cells #[.slice io n ic, .map (some w2.heap.size), .int .i64 0, .int .i64 0] 65))
  subst hzl
  have hs2 := hB2.size
  exact ⟨w2.heap.size + 1, w2.heap.size, io, ic, rfl, ⟨ha.1, hI.keep0 hB3, hic, hF, by omega, fun a ha => by have := hund a ha; exact ⟨by omega, by omega⟩⟩, by omega, hs2, fun a ha => ⟨(hblk a ha).1, by have := hund a ha; have := hB3.size; omega⟩, bstep hB2 hB3⟩
end Go.Proofs.Ytbboljmmpbchgaa

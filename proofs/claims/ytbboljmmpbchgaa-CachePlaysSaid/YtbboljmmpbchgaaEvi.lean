/- The walk of cache's Evict, Empty. -/
import Derived.Test.YtbboljmmpbchgaaGet
namespace Go.Proofs.Ytbboljmmpbchgaa
open Go Go.RowKit Go.Calli Go.Dskp Go.Maps
set_option linter.unusedVariables false
set_option linter.unusedSimpArgs false
attribute [local irreducible] wpStill wpAnyH wpAnyS wpList Code.wp
theorem getD_rep {α : Type} (n i : Nat) (x : α) : (List.replicate n x).getD i x = x := by
  rw [List.getD_eq_getElem?_getD, List.getElem?_replicate]
  split <;> rfl
def zSlot : Value := .agg #[.int .i64 0, .bool false, .bool false, .slice none 0 0]
theorem slotZ_flat (n : Nat) : slotZ n = (flatS (List.replicate n Slot.none)).toArray := by
  apply Array.toList_inj.1
  apply List.ext_getElem?
  intro k
  by_cases hk : k < n * 4
  · have e := flatS_get (List.replicate n Slot.none) (k / 4) (k % 4) (by simp; omega) (Nat.mod_lt _ (by decide))
    rw [show k / 4 * 4 + k % 4 = k by omega, getD_rep] at e
    rw [e]
    have h4 : k % 4 < 4 := Nat.mod_lt _ (by decide)
    have e2 : (slotZ n).toList[k]? = some ((#[Value.int .i64 0, .bool false, .bool false, .slice none 0 0] : Array Value)[k % 4]!) := by
      simp [slotZ, madeCells, Value.cells, hk]
    rw [e2]
    generalize k % 4 = j at *
    match j, h4 with
    | 0, _ => rfl
    | 1, _ => rfl
    | 2, _ => rfl
    | 3, _ => rfl
  · rw [List.getElem?_eq_none (by simp [slotZ, madeCells]; omega), List.getElem?_eq_none (by simp [flatS_len]; omega)]
theorem zero67 (w : World) : (zeroValue 67).run Try.prog w = .ok zSlot w := by kernel_rfl
theorem flatS_one (ss : List Slot) : ∀ u ∈ flatS ss, u.oneCell' = true := by
  intro u hu
  simp only [flatS, List.mem_flatMap, svals] at hu
  obtain ⟨s, -, hu⟩ := hu
  simp only [List.mem_cons, List.not_mem_nil, or_false] at hu
  rcases hu with rfl | rfl | rfl | rfl <;> rfl
theorem clear_slots (w : World) (sb n : Nat) (ms : List Slot) (hS : Slots w sb n ms) (hn : 0 < n) (ty : TypeId) : (Builtin.clear_ #[45] ty #[.slice (some ⟨sb, 0, none⟩) n n]).run Try.prog w = .ok (.tuple #[]) (w.setCells sb 0 (flatS (List.replicate n Slot.none))) := by
  have hzc : (Builtin.zeroCells zSlot.cells n).toList = flatS (List.replicate n Slot.none) := by
    have : Builtin.zeroCells zSlot.cells n = slotZ n := rfl
    rw [this, slotZ_flat]
  have hst := run_storeCells_cells (P := Try.prog) sb 0 (flatS (List.replicate n Slot.none)) 0 w (by
    intro j hj
    rw [flatS_len, List.length_replicate] at hj
    rw [cell_of_row _ _ _ _ _ _ hS.2]
    simp [flatS_len, hS.1, hj]) (fun j _ => frozen_of_row _ _ _ _ _ hS.2) (flatS_one _)
  simp only [Nat.add_zero] at hst
  obtain ⟨m, rfl⟩ : ∃ m, n = m + 1 := ⟨n - 1, by omega⟩
  have hzc' : (Builtin.zeroCells (Value.agg #[.int .i64 0, .bool false, .bool false, .slice none 0 0]).cells (m + 1)).toList = flatS (List.replicate (m + 1) Slot.none) := hzc
  simp [Builtin.clear_, run_underlying Try.underlying45, zero67, hzc', hst]
theorem slots_zero {w : World} {sb n : Nat} {ms : List Slot} (hS : Slots w sb n ms) : Slots (w.setCells sb 0 (flatS (List.replicate n Slot.none))) sb n (List.replicate n Slot.none) := by
  refine ⟨by simp, ?_⟩
  rw [setCells_block _ _ _ _ _ _ hS.2, spl_all _ _ (by simp [flatS_len, hS.1])]
def EvPost (A : Ad) (n : Nat) (v : Value) (c : Ca) (w : World) (e : Ending) (w' : World) : Prop := e = .returned v ∧ CaIs A w' n c ∧ Keeps A.S w w'
theorem CaIs.slots_put {A : Ad} {w w' : World} {n : Nat} {c : Ca} (h : CaIs A w n c) {ms : List Slot} {qs : List PS} (hS : Slots w' A.sb n ms) (hM : SlotsAre A w ms qs) (hk : Keeps (fun k => k = A.sb) w w') : CaIs A w' n { c with ss := qs } := by
  obtain ⟨m, hm, hD⟩ := h.dsk
  obtain ⟨d1, d2, d3, d4, d5, d6⟩ := h.dist
  exact ⟨hk.heap h.row d1, ⟨ms, hS, hM.kept (hk.mono fun k _ h => .inr (.inl h))⟩, ⟨m, hm, hD.kept hk d4 d5 (fun a ha => (d6 a ha).2)⟩, by rw [← hS.1, hM.len], h.hand, h.dist, h.away.mono hk.size⟩
theorem evict_any (A : Ad) (n : Nat) (hn1 : n ≤ 1024) (c : Ca) (p : Int) (w : World) (h : CaIs A w n c) : Calls Try.prog 14 #[.pointer (some ⟨A.cb, 0, none⟩), .int .i64 p] w (EvPost A n (.bool (evB c p)) (evC c p) w) := by
  have hN := cnone_any A n c w h
  obtain ⟨ms, hS, hM⟩ := h.slots
  have hF := find_any A.cb A.sb n ms p _ _ _ _ _ _ _ hn1 w h.row hS
  unfold FindPost at hF
  rw [find_rel hM p n 0 (by rw [h.len]; omega)] at hF
  have HH := Lib.hid h
  have hl := h.len
  have hb := findP_bd c.ss p n 0
  have eB : evB c p = decide (0 ≤ findP c.ss p n 0) := by unfold evB; rw [hl]
  have eC : evC c p = if 0 ≤ findP c.ss p n 0 then { c with ss := c.ss.set (findP c.ss p n 0).toNat q0 } else c := by unfold evC; rw [hl]
  rw [eB, eC]
  clear eB eC h hS hM
  obtain ⟨i, hi⟩ : ∃ i : Int, findP c.ss p n 0 = i := ⟨_, rfl⟩
  rw [hi] at hF hb ⊢
  clear hi
  by_cases h0 : 0 ≤ i
  · rw [if_pos h0, decide_eq_true h0]
    obtain ⟨j, rfl⟩ : ∃ j : Nat, i = j := ⟨i.toNat, by omega⟩
    have hj : j < n := by omega
    rw [Int.toNat_natCast]
    clear hb h0
    go_enter Try.func14, Try.ntmps14
    go_upto_region 4 with (first | (go_at_call 24; refine hN.mono ?_; rintro e w' ⟨rfl, rfl⟩) | (go_at_call 26; refine hF.mono ?_; rintro e w1 ⟨rfl, hb1⟩))
    have h1 := HH.out.keep0 hb1
    obtain ⟨ms, hS1, hM1⟩ := h1.slots
    obtain ⟨c0, c1, c2, c3, c4, c5, c6, c7⟩ := eight_cells h1.row
    obtain ⟨s0, s1, s2, s3⟩ := hS1.at_ j hj
    have f0 := frozen_of_row _ _ (j * 4) _ _ hS1.2
    have f1 := frozen_of_row _ _ (j * 4 + 1) _ _ hS1.2
    have f2 := frozen_of_row _ _ (j * 4 + 2) _ _ hS1.2
    have f3 := frozen_of_row _ _ (j * 4 + 3) _ _ hS1.2
    have hS2 : Slots ((((w1.setCell ⟨A.sb, j * 4, none⟩ (.int .i64 0)).setCell ⟨A.sb, j * 4 + 1, none⟩ (.bool false)).setCell ⟨A.sb, j * 4 + 2, none⟩ (.bool false)).setCell ⟨A.sb, j * 4 + 3, none⟩ (.slice none 0 0)) A.sb n (ms.set j Slot.none) := hS1.put j hj Slot.none
    have hk2 : Keeps (fun k => k = A.sb) w1 ((((w1.setCell ⟨A.sb, j * 4, none⟩ (.int .i64 0)).setCell ⟨A.sb, j * 4 + 1, none⟩ (.bool false)).setCell ⟨A.sb, j * 4 + 2, none⟩ (.bool false)).setCell ⟨A.sb, j * 4 + 3, none⟩ (.slice none 0 0)) := ((((Keeps.refl (fun k => k = A.sb) w1).setCell (p := ⟨A.sb, j * 4, none⟩) (.inr rfl) _).setCell (p := ⟨A.sb, j * 4 + 1, none⟩) (.inr rfl) _).setCell (p := ⟨A.sb, j * 4 + 2, none⟩) (.inr rfl) _).setCell (p := ⟨A.sb, j * 4 + 3, none⟩) (.inr rfl) _
    have HFIN : Hid (CaIs A _ n { c with ss := c.ss.set j q0 }) := h1.slots_put hS2 (hM1.set j (s := Slot.none) (q := q0) ⟨rfl, rfl, rfl, fun hf => by cases hf⟩) hk2
    have HKK := Lib.hid ((Keeps.ofBelow (S := A.S) hb1 (Nat.le_refl _)).trans (hk2.mono fun k _ h => .inr (.inl h)))
    clear hS2 hk2 hS1 hM1 h1
    go_wp2_with fail
    go_ret
    exact ⟨rfl, HFIN.out, HKK.out⟩
  · have hi : i = -1 := by omega
    subst hi
    rw [if_neg (by omega), decide_eq_false (by omega)]
    go_enter Try.func14, Try.ntmps14
    go_wp2_with (first | (go_at_call 24; refine hN.mono ?_; rintro e w' ⟨rfl, rfl⟩) | (go_at_call 26; refine hF.mono ?_; rintro e w1 ⟨rfl, hb1⟩))
    go_ret
    exact ⟨rfl, HH.out.keep0 hb1, Keeps.ofBelow hb1 (Nat.le_refl _)⟩
theorem empty_any (A : Ad) (n : Nat) (hn1 : n ≤ 1024) (c : Ca) (w : World) (h : CaIs A w n c) : Calls Try.prog 15 #[.pointer (some ⟨A.cb, 0, none⟩)] w (EvPost A n (.tuple #[]) (emC c) w) := by
  have hN := cnone_any A n c w h
  obtain ⟨c0, c1, c2, c3, c4, c5, c6, c7⟩ := eight_cells h.row
  obtain ⟨ms, hS, hM⟩ := h.slots
  have hn : 0 < n := by have := h.hand; omega
  have hcl := clear_slots w A.sb n ms hS hn
  have hS2 := slots_zero hS
  have hk2 : Keeps (fun k => k = A.sb) w (w.setCells A.sb 0 (flatS (List.replicate n Slot.none))) := (Keeps.refl (fun k => k = A.sb) w).setCells _ (.inr rfl) _
  have HFIN : Hid (CaIs A _ n { c with ss := List.replicate n q0 }) := h.slots_put (ms := List.replicate n Slot.none) hS2 ⟨by simp, fun i hi => by
    rw [List.length_replicate] at hi
    rw [getD_rep, getD_rep]
    exact ⟨rfl, rfl, rfl, fun hf => by cases hf⟩⟩ hk2
  have HKK := Lib.hid hk2
  have hl := h.len
  unfold emC
  rw [hl]
  clear h hS hM hS2 hk2
  go_enter Try.func15, Try.ntmps15
  go_wp2_with (go_at_call 24; refine hN.mono ?_; rintro e w' ⟨rfl, rfl⟩)
  all_goals go_end0
  all_goals exact ⟨rfl, HFIN.out, HKK.out.mono fun k _ h => .inr (.inl h)⟩
end Go.Proofs.Ytbboljmmpbchgaa

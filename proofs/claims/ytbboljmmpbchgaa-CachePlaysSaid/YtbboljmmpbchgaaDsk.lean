/- The walks of disk's functions. -/
import Derived.Test.YtbboljmmpbchgaaRows
import Derived.Test.YtbboljmmpbchgaaApp
import Derived.Test.YtbboljmmpbchgaaDpl
import Derived.Test.YtbboljmmpbchgaaRest
import Derived.Laws.Bits128
import Derived.StillTailTactics
import Derived.Deep.RegionHeld3
import Derived.Deep.RegionWith
import Derived.OwnWalk
namespace Go.Proofs.Ytbboljmmpbchgaa
open Go Go.RowKit Go.Calli Go.Dskp Go.Maps
set_option linter.unusedVariables false
set_option linter.unusedSimpArgs false
attribute [local irreducible] wpStill wpAnyH wpAnyS wpList Code.wp
theorem flip {P : Program} {F : FuncId} {args : Array Value} {w : World} {v : Value} (h : Calls P F args w fun e w' => e = .returned v ∧ w = w') : Calls P F args w fun e w' => e = .returned v ∧ w' = w := h.mono fun _ _ ⟨a, b⟩ => ⟨a, b.symm⟩
theorem law3 : Keyed Try.prog 3 := int_keyed Try.underlying3
theorem zero62 (w : World) : (zeroValue 62).run Try.prog w = .ok (fval Flt.zero) w := by kernel_rfl
/-- A disk in memory. -/
def Dsk (w : World) (b mb : Nat) (ib : Option Addr) (kap m : Nat) (s : Dk) : Prop :=
  w.heap[b]? = some (.cells #[.slice ib s.img.length kap, .map (some mb), .int .i64 s.r, .int .i64 s.g] 65 (0, 0)) ∧ Ints .u8 w ib s.img.length s.img ∧ s.img.length ≤ kap ∧ FMap Try.prog 3 w mb m s.F ∧ b ≠ mb ∧ ∀ a, ib = some a → a.block ≠ b ∧ a.block ≠ mb
theorem four_cells {w : World} {b : Nat} {v0 v1 v2 v3 : Value} {T : Nat} (h : w.heap[b]? = some (.cells #[v0, v1, v2, v3] T (0, 0))) :
    w.cell? ⟨b, 0, none⟩ = some v0 ∧ w.cell? ⟨b, 1, none⟩ = some v1 ∧ w.cell? ⟨b, 2, none⟩ = some v2 ∧ w.cell? ⟨b, 3, none⟩ = some v3 ∧ w.frozen? ⟨b, 2, none⟩ = false ∧ w.frozen? ⟨b, 3, none⟩ = false :=
  ⟨(cell_of_row _ _ _ _ _ _ h).trans rfl, (cell_of_row _ _ _ _ _ _ h).trans rfl, (cell_of_row _ _ _ _ _ _ h).trans rfl, (cell_of_row _ _ _ _ _ _ h).trans rfl, frozen_of_row _ _ _ _ _ h, frozen_of_row _ _ _ _ _ h⟩
theorem Dsk.kept {w w' : World} {b mb : Nat} {ib : Option Addr} {kap m : Nat} {s : Dk} (h : Dsk w b mb ib kap m s) {S : Nat → Prop} (hk : Keeps S w w') (h0 : ¬ S b) (h1 : ¬ S mb) (h2 : ∀ a, ib = some a → ¬ S a.block) : Dsk w' b mb ib kap m s := by
  obtain ⟨a1, a2, a3, a4, a5, a6⟩ := h
  exact ⟨hk.heap a1 h0, a2.kept hk h2, a3, a4.kept hk h1, a5, a6⟩
theorem Dsk.keep0 {w w' : World} {b mb : Nat} {ib : Option Addr} {kap m : Nat} {s : Dk} (h : Dsk w b mb ib kap m s) (hb : Below w.heap.size w w') : Dsk w' b mb ib kap m s :=
  h.kept (S := fun _ => False) (Keeps.ofBelow hb (Nat.le_refl _)) id id (fun _ _ => id)
theorem Dsk.drew {w : World} {b mb : Nat} {ib : Option Addr} {kap m : Nat} {s : Dk} (h : Dsk w b mb ib kap m s) : Dsk w.drew b mb ib kap m s := h.keep0 (Below.refl _ _).drew
def Same (v : Value) (w : World) (e : Ending) (w' : World) : Prop := e = .returned v ∧ w = w'
theorem map_none (w : World) : (binOp BinOp.eql 63 (.map none) (.map none)).run Try.prog w = .ok (.bool true) w := by kernel_rfl
theorem map_some (b : Nat) (w : World) : (binOp BinOp.eql 63 (.map (some b)) (.map none)).run Try.prog w = .ok (.bool false) w := by kernel_rfl
theorem none_nil (w : World) : Calls Try.prog 25 #[.pointer none] w (Same (.bool true) w) := by
  go_enter Try.func25, Try.ntmps25
  go_wp2_with fail
  all_goals go_ret
  all_goals exact ⟨rfl, rfl⟩
theorem none_zero (b : Nat) (v0 v2 v3 : Value) (w : World) (h : w.heap[b]? = some (.cells #[v0, .map none, v2, v3] 65 (0, 0))) : Calls Try.prog 25 #[.pointer (some ⟨b, 0, none⟩)] w (Same (.bool true) w) := by
  obtain ⟨c0, c1, c2, c3, f2, f3⟩ := four_cells h
  have e1 := map_none w
  go_enter Try.func25, Try.ntmps25
  go_wp2_with fail
  all_goals go_ret
  all_goals exact ⟨rfl, rfl⟩
theorem none_any (b mb : Nat) (ib : Option Addr) (kap m : Nat) (s : Dk) (w : World) (h : Dsk w b mb ib kap m s) : Calls Try.prog 25 #[.pointer (some ⟨b, 0, none⟩)] w (Same (.bool false) w) := by
  obtain ⟨c0, c1, c2, c3, f2, f3⟩ := four_cells h.1
  have e1 := map_none w
  have e2 := map_some mb w
  go_enter Try.func25, Try.ntmps25
  go_wp2_with fail
  all_goals go_ret
  all_goals exact ⟨rfl, rfl⟩
theorem pages_any (b mb : Nat) (ib : Option Addr) (kap m : Nat) (s : Dk) (hs : s.Ok) (w : World) (h : Dsk w b mb ib kap m s) : Calls Try.prog 27 #[.pointer (some ⟨b, 0, none⟩)] w (Same (.int .i64 s.pages) w) := by
  obtain ⟨c0, c1, c2, c3, f2, f3⟩ := four_cells h.1
  have h1 := hs.1
  have hN := fun w h => none_any b mb ib kap m s w h
  have hl : IntKind.i64.wrap ((s.img.length : Int) + 64) = (s.img.length : Int) + 64 := IntWalk.i64_in _ (by omega)
  have hl2 : IntKind.i64.wrap ((s.img.length : Int) + 63) = (s.img.length : Int) + 63 := IntWalk.i64_in _ (by omega)
  go_enter Try.func27, Try.ntmps27
  go_wp2_with (go_at_call 25; refine (hN w h).mono ?_; rintro e w' ⟨rfl, rfl⟩)
  all_goals go_ret
  all_goals exact ⟨by unfold Dk.pages; exact ret_int (by omega), rfl⟩
theorem reads_any (b mb : Nat) (ib : Option Addr) (kap m : Nat) (s : Dk) (w : World) (h : Dsk w b mb ib kap m s) : Calls Try.prog 13 #[.pointer (some ⟨b, 0, none⟩)] w (Same (.int .i64 s.r) w) := by
  obtain ⟨c0, c1, c2, c3, f2, f3⟩ := four_cells h.1
  have hN := fun w h => none_any b mb ib kap m s w h
  go_enter Try.func13, Try.ntmps13
  go_wp2_with (go_at_call 25; refine (hN w h).mono ?_; rintro e w' ⟨rfl, rfl⟩)
  all_goals go_ret
  all_goals exact ⟨rfl, rfl⟩
theorem why_any (b mb : Nat) (ib : Option Addr) (kap m : Nat) (s : Dk) (hs : s.Ok) (page : Int) (w : World) (h : Dsk w b mb ib kap m s) : Calls Try.prog 21 #[.pointer (some ⟨b, 0, none⟩), .int .i64 page] w (Same (.int .i64 (flE s page)) w) := by
  obtain ⟨c0, c1, c2, c3, f2, f3⟩ := four_cells h.1
  have hN := fun w h => none_any b mb ib kap m s w h
  have hP := fun w h => pages_any b mb ib kap m s hs w h
  have HE : Hid (flE s page = if s.out page then 5 else 0) := rfl
  by_cases h0 : page < 0
  · rw [if_pos (show s.out page from Or.inl h0)] at HE
    go_enter Try.func21, Try.ntmps21
    go_wp2_with (first | (go_at_call 25; refine (hN w h).mono ?_; rintro e w' ⟨rfl, rfl⟩) | (go_at_call 27; refine (hP _ h).mono ?_; rintro e w' ⟨rfl, rfl⟩))
    all_goals go_ret
    all_goals exact ⟨by rw [HE.out] <;> rfl, rfl⟩
  · by_cases h1 : (s.pages : Int) ≤ page
    · rw [if_pos (show s.out page from Or.inr h1)] at HE
      go_enter Try.func21, Try.ntmps21
      go_wp2_with (first | (go_at_call 25; refine (hN w h).mono ?_; rintro e w' ⟨rfl, rfl⟩) | (go_at_call 27; refine (hP _ h).mono ?_; rintro e w' ⟨rfl, rfl⟩))
      all_goals go_ret
      all_goals exact ⟨by rw [HE.out] <;> rfl, rfl⟩
    · rw [if_neg (by unfold Dk.out; omega)] at HE
      go_enter Try.func21, Try.ntmps21
      go_wp2_with (first | (go_at_call 25; refine (hN w h).mono ?_; rintro e w' ⟨rfl, rfl⟩) | (go_at_call 27; refine (hP _ h).mono ?_; rintro e w' ⟨rfl, rfl⟩))
      all_goals go_ret
      all_goals exact ⟨by rw [HE.out] <;> rfl, rfl⟩
def SetPost (b mb : Nat) (ib : Option Addr) (kap m : Nat) (s' : Dk) (E : Int) (w : World) (e : Ending) (w' : World) : Prop := e = .returned (.int .i64 E) ∧ (∃ m', m' ≤ m + 1 ∧ Dsk w' b mb ib kap m' s') ∧ Keeps (fun k => k = b ∨ k = mb) w w'
theorem Dsk.stored {w w' : World} {b mb : Nat} {ib : Option Addr} {kap m m' : Nat} {s : Dk} {F : Int → Option Flt} (h : Dsk w b mb ib kap m s) (hf : FMap Try.prog 3 w' mb m' F) (hk : Keeps (fun i => i = mb) w w') : Dsk w' b mb ib kap m' { s with F := F } := by
  obtain ⟨a1, a2, a3, a4, a5, a6⟩ := h
  exact ⟨hk.heap a1 a5, a2.kept hk (fun a ha => (a6 a ha).2), a3, hf, a5, a6⟩
theorem new_fault {b mb : Nat} {ib : Option Addr} {kap m : Nat} {s : Dk} (w : World) (v0 v1 v2 : Value) (h : Dsk w b mb ib kap m s) :
    (w.alloc (.cells #[v0, v1, v2] 62)).cell? ⟨w.heap.size, 0, none⟩ = some v0 ∧ (w.alloc (.cells #[v0, v1, v2] 62)).cell? ⟨w.heap.size, 1, none⟩ = some v1 ∧ (w.alloc (.cells #[v0, v1, v2] 62)).cell? ⟨w.heap.size, 2, none⟩ = some v2 ∧ Dsk (w.alloc (.cells #[v0, v1, v2] 62)) b mb ib kap m s ∧ Below w.heap.size w (w.alloc (.cells #[v0, v1, v2] 62)) := by
  have hb : Below w.heap.size w (w.alloc (.cells #[v0, v1, v2] 62)) := (Below.refl _ _).alloc (Nat.le_refl _) _
  have hh : (w.alloc (.cells #[v0, v1, v2] 62)).heap[w.heap.size]? = some (.cells #[v0, v1, v2] 62 (0, 0)) := (MapKept.heap_alloc w _).1
  exact ⟨(cell_of_row _ _ _ _ _ _ hh).trans rfl, (cell_of_row _ _ _ _ _ _ hh).trans rfl, (cell_of_row _ _ _ _ _ _ hh).trans rfl, h.keep0 hb, hb⟩
theorem fail_any (b mb : Nat) (ib : Option Addr) (kap m : Nat) (s : Dk) (hs : s.Ok) (hm : m < 1000000000) (page n : Int) (hwp : (Lit.int .i64 page).wf = true) (w : World) (h : Dsk w b mb ib kap m s) : Calls Try.prog 9 #[.pointer (some ⟨b, 0, none⟩), .int .i64 page, .int .i64 n] w (SetPost b mb ib kap m (flS s page n) (flE s page) w) := by
  obtain ⟨c0, c1, c2, c3, f2, f3⟩ := four_cells h.1
  have hW := fun w h => why_any b mb ib kap m s hs page w h
  have hlk := h.2.2.2.1.look law3 Try.underlying3 Try.underlying63 zero62 hwp
  have HE : Hid (flE s page = if s.out page then 5 else 0) := rfl
  have HS : Hid (flS s page n = if s.out page then s else { s with F := put s.F page (some { s.t page with f := max n (-1) }) }) := rfl
  by_cases ho : s.out page
  · rw [if_pos ho] at HE HS
    have hE := HE.out
    rw [hE] at hW
    go_enter Try.func9, Try.ntmps9
    go_wp2_with (go_at_call 21; refine (hW w h).mono ?_; rintro e w' ⟨rfl, rfl⟩)
    go_ret
    exact ⟨by rw [hE] <;> rfl, ⟨m, by omega, by rw [HS.out]; exact h⟩, Keeps.refl _ _⟩
  · rw [if_neg ho] at HE HS
    have hE := HE.out
    rw [hE] at hW
    unfold fval at hlk
    have HF : Hid (s.t page = (s.F page).getD Flt.zero) := rfl
    rw [← HF.out] at hlk
    obtain ⟨n', hn'⟩ : ∃ n', n' = max n (-1) := ⟨_, rfl⟩
    rw [← hn'] at HS
    have hcase : (n < -1 ∧ n' = -1) ∨ (-1 ≤ n ∧ n' = n) := by omega
    clear hn'
    rcases hcase with ⟨hn1, rfl⟩ | ⟨hn1, rfl⟩
    all_goals
      go_enter Try.func9, Try.ntmps9
      go_wp2_with (go_at_call 21; refine (hW w h).mono ?_; rintro e w' ⟨rfl, rfl⟩)
      obtain ⟨d0, d1, d2, hD1, hb1⟩ := new_fault w _ _ _ h
      obtain ⟨e0, e1, e2, e3, -, -⟩ := four_cells hD1.1
      generalize w.alloc _ = w1 at *
      go_still_tail 6, (by kernel_rfl)
      repeat still_step
      try refine wpStill_nil ?_
      change wpList _ _ _ _ _ w1.drew
      refine wpList_mapUpdate_fmap (T := 63) (K := 3) (e := 62) rfl _ _ _ rfl law3 Try.underlying3 Try.underlying63 rfl hD1.drew.2.2.2.1 (by unfold maxLen; omega) page ⟨_, (s.t page).a, (s.t page).x⟩ rfl rfl hwp ?_; intro w2 hF2 hk2
      go_wp2_with fail
      go_ret
      exact ⟨by rw [hE] <;> rfl, ⟨m + 1, by omega, by rw [HS.out]; exact hD1.drew.stored hF2 hk2⟩, ((Keeps.ofBelow hb1 (Nat.le_refl _)).drew.andThen hk2 fun _ _ => id).mono fun _ _ => Or.inr⟩
theorem spoil_any (b mb : Nat) (ib : Option Addr) (kap m : Nat) (s : Dk) (hs : s.Ok) (hm : m < 1000000000) (page n x : Int) (hwp : (Lit.int .i64 page).wf = true) (w : World) (h : Dsk w b mb ib kap m s) : Calls Try.prog 36 #[.pointer (some ⟨b, 0, none⟩), .int .i64 page, .int .i64 n, .int .u8 x] w (SetPost b mb ib kap m (spS s page n x) (spE s page n) w) := by
  obtain ⟨c0, c1, c2, c3, f2, f3⟩ := four_cells h.1
  have hW := fun w h => why_any b mb ib kap m s hs page w h
  have hlk := h.2.2.2.1.look law3 Try.underlying3 Try.underlying63 zero62 hwp
  have HW : Hid (flE s page = if s.out page then 5 else 0) := rfl
  have HE : Hid (spE s page n = if s.out page then 5 else if n < 0 ∨ 64 ≤ n then 1 else 0) := rfl
  have HS : Hid (spS s page n x = if s.out page then s else if n < 0 ∨ 64 ≤ n then s else { s with F := put s.F page (some { s.t page with a := n, x := x }) }) := rfl
  by_cases ho : s.out page
  · rw [if_pos ho] at HE HS HW
    have hE := HE.out
    rw [HW.out] at hW
    go_enter Try.func36, Try.ntmps36
    go_wp2_with (go_at_call 21; refine (hW w h).mono ?_; rintro e w' ⟨rfl, rfl⟩)
    go_ret
    exact ⟨by rw [hE] <;> rfl, ⟨m, by omega, by rw [HS.out]; exact h⟩, Keeps.refl _ _⟩
  · rw [if_neg ho] at HE HS HW
    rw [HW.out] at hW
    by_cases hn : n < 0 ∨ 64 ≤ n
    · rw [if_pos hn] at HE HS
      have hE := HE.out
      rcases hn with hn | hn
      all_goals
        go_enter Try.func36, Try.ntmps36
        go_wp2_with (go_at_call 21; refine (hW w h).mono ?_; rintro e w' ⟨rfl, rfl⟩)
        go_ret
        exact ⟨by rw [hE] <;> rfl, ⟨m, by omega, by rw [HS.out]; exact h⟩, Keeps.refl _ _⟩
    · rw [if_neg hn] at HE HS
      have hE := HE.out
      have hn1 : 0 ≤ n := by omega
      have hn2 : n < 64 := by omega
      clear hn
      unfold fval at hlk
      have HF : Hid (s.t page = (s.F page).getD Flt.zero) := rfl
      rw [← HF.out] at hlk
      go_enter Try.func36, Try.ntmps36
      go_wp2_with (go_at_call 21; refine (hW w h).mono ?_; rintro e w' ⟨rfl, rfl⟩)
      obtain ⟨d0, d1, d2, hD1, hb1⟩ := new_fault w _ _ _ h
      obtain ⟨e0, e1, e2, e3, -, -⟩ := four_cells hD1.1
      generalize w.alloc _ = w1 at *
      go_still_tail 6, (by kernel_rfl)
      repeat still_step
      try refine wpStill_nil ?_
      change wpList _ _ _ _ _ w1.drew
      refine wpList_mapUpdate_fmap (T := 63) (K := 3) (e := 62) rfl _ _ _ rfl law3 Try.underlying3 Try.underlying63 rfl hD1.drew.2.2.2.1 (by unfold maxLen; omega) page ⟨(s.t page).f, n, x⟩ rfl rfl hwp ?_; intro w2 hF2 hk2
      go_wp2_with fail
      go_ret
      exact ⟨by rw [hE] <;> rfl, ⟨m + 1, by omega, by rw [HS.out]; exact hD1.drew.stored hF2 hk2⟩, ((Keeps.ofBelow hb1 (Nat.le_refl _)).drew.andThen hk2 fun _ _ => id).mono fun _ _ => Or.inr⟩
theorem heal_any (b mb : Nat) (ib : Option Addr) (kap m : Nat) (s : Dk) (hs : s.Ok) (page : Int) (hwp : (Lit.int .i64 page).wf = true) (w : World) (h : Dsk w b mb ib kap m s) : Calls Try.prog 37 #[.pointer (some ⟨b, 0, none⟩), .int .i64 page] w (SetPost b mb ib kap m (hlS s page) (flE s page) w) := by
  obtain ⟨c0, c1, c2, c3, f2, f3⟩ := four_cells h.1
  have hW := fun w h => why_any b mb ib kap m s hs page w h
  have HE : Hid (flE s page = if s.out page then 5 else 0) := rfl
  have HS : Hid (hlS s page = if s.out page then s else { s with F := put s.F page none }) := rfl
  by_cases ho : s.out page
  · rw [if_pos ho] at HE HS
    have hE := HE.out
    rw [hE] at hW
    go_enter Try.func37, Try.ntmps37
    go_wp2_with (go_at_call 21; refine (hW w h).mono ?_; rintro e w' ⟨rfl, rfl⟩)
    go_ret
    exact ⟨by rw [hE] <;> rfl, ⟨m, by omega, by rw [HS.out]; exact h⟩, Keeps.refl _ _⟩
  · rw [if_neg ho] at HE HS
    have hE := HE.out
    rw [hE] at hW
    go_enter Try.func37, Try.ntmps37
    go_wp2_with (first | (go_at_call 21; refine (hW w h).mono ?_; rintro e w' ⟨rfl, rfl⟩) | (at_delete; refine wpList_delete_fmap (T := 63) (K := 3) (e := 62) rfl _ _ rfl law3 Try.underlying3 Try.underlying63 rfl h.2.2.2.1 page rfl hwp ?_; intro w2 hF2 hk2))
    go_ret
    exact ⟨by rw [hE] <;> rfl, ⟨m, by omega, by rw [HS.out]; exact h.stored hF2 hk2⟩, hk2.mono fun _ _ => Or.inr⟩
end Go.Proofs.Ytbboljmmpbchgaa

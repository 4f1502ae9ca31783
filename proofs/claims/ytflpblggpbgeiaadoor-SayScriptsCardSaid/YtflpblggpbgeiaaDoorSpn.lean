/- Plain: steps, their text, and what it is read as. No program in sight. -/
import Derived.Test.YtflpblggpbgeiaaDoorTxt
namespace Go.Proofs.YtflpblggpbgeiaaDoor
open Go Go.RowKit Go.Calli
set_option linter.unusedVariables false
def cutA (a : Ac) : Ac := ⟨a.k, a.v, a.nm.take 200, a.n, a.m, a.p, a.x⟩
def lnsL (os : List Ac) : List (List Int) := os.flatMap (fun a => if lineL a = [] then [] else [lineL a])
def wantL (os : List Ac) : List Ac := os.flatMap (fun a => if lineL a = [] then [] else [cleanL a])
theorem wordL_no10 (l : List Int) (hb : Byt l) : ∀ z ∈ wordL l, z ≠ 10 := by
  intro z hz
  unfold wordL at hz
  rcases List.mem_cons.1 hz with rfl | hz
  · decide
  · obtain ⟨c, hc, hz⟩ := List.mem_flatMap.1 hz
    have h := hb c hc
    unfold encB at hz
    by_cases hp : plainB c = true
    · rw [if_pos hp] at hz
      simp only [List.mem_singleton] at hz
      subst hz
      have := of_decide_eq_true hp
      omega
    · rw [if_neg hp] at hz
      simp only [List.mem_cons, List.not_mem_nil, or_false] at hz
      have h1 : ∀ d, 0 ≤ d → d < 16 → hx d ≠ 10 := fun d _ _ => by unfold hx; split <;> omega
      rcases hz with rfl | rfl | rfl
      · decide
      · exact h1 _ (by omega) (by omega)
      · exact h1 _ (by omega) (by omega)
theorem numD_no10 (n : Int) : ∀ z ∈ numD n, z ≠ 10 := by
  intro z hz
  unfold numD at hz
  split at hz
  · rcases List.mem_cons.1 hz with rfl | hz
    · decide
    · have := digL_dig _ z hz; omega
  · have := digL_dig _ z hz; omega
theorem putL_no10 (a : Ac) (f : Int) (h : OkA a) : ∀ z ∈ putL a f, z ≠ 10 := by
  unfold putL
  repeat' split
  · exact wordL_no10 _ h.nm
  all_goals exact numD_no10 _
theorem vW_no10 (k : Int) : ∀ z ∈ vW k, z ≠ 10 := by
  by_cases h : 1 ≤ k ∧ k ≤ 12
  · rcases (show k = 1 ∨ k = 2 ∨ k = 3 ∨ k = 4 ∨ k = 5 ∨ k = 6 ∨ k = 7 ∨ k = 8 ∨ k = 9 ∨ k = 10 ∨ k = 11 ∨ k = 12 by omega) with rfl | rfl | rfl | rfl | rfl | rfl | rfl | rfl | rfl | rfl | rfl | rfl <;> decide
  · rw [(out_vW k h).1]; intro z hz; simp at hz
theorem lineL_no10 (a : Ac) (h : OkA a) : ∀ z ∈ lineL a, z ≠ 10 := by
  intro z hz
  unfold lineL at hz
  rcases List.mem_append.1 hz with hz | hz
  · exact vW_no10 _ z hz
  · obtain ⟨f, hf, hz⟩ := List.mem_flatMap.1 hz
    rcases List.mem_cons.1 hz with rfl | hz
    · decide
    · exact putL_no10 _ _ h z hz
theorem line_kind {a : Ac} (h : lineL a ≠ []) : 1 ≤ a.k ∧ a.k ≤ 12 := by
  by_cases hk : 1 ≤ a.k ∧ a.k ≤ 12
  · exact hk
  · exact absurd (line_out hk) h
theorem text_spl (ot : List Int) (hot : ∀ z ∈ ot, z ≠ 10) : ∀ os : List Ac, (∀ a ∈ os, OkA a) → spl 10 (textL os ++ ot) = lnsL os ++ [ot]
  | [], _ => by
    show spl 10 ([] ++ ot) = [ot]
    rw [List.nil_append, splc_none 10 ot hot]
  | a :: r, h => by
    have ih := text_spl ot hot r (fun a ha => h a (by simp [ha]))
    unfold textL lnsL at ih ⊢
    rw [List.flatMap_cons, List.flatMap_cons]
    unfold lnT at ih ⊢
    by_cases hl : lineL a = []
    · rw [if_pos hl, if_pos hl, List.nil_append, List.nil_append]; exact ih
    · rw [if_neg hl, if_neg hl, List.append_assoc, List.append_assoc, List.singleton_append, splc_some 10 _ _ (lineL_no10 a (h a (by simp))), ih]
      rfl
theorem lns_ne (os : List Ac) : ∀ x ∈ lnsL os, x ≠ [] := by
  intro x hx
  obtain ⟨a, ha, hx⟩ := List.mem_flatMap.1 hx
  split at hx
  · simp at hx
  · simp at hx; subst hx; assumption
theorem cut_lns (os : List Ac) (ot : List Int) : cutL (lnsL os ++ [ot]) = if ot = [] then lnsL os else lnsL os ++ [ot] := by
  unfold cutL
  have hl : (lnsL os ++ [ot]).length - 1 = (lnsL os).length := by simp
  rw [hl, show (lnsL os ++ [ot]).getD (lnsL os).length [] = ot by simp [List.getD]]
  split
  · rw [List.take_left' rfl]
  · rfl
theorem scan_lns (t : List (List Int)) : ∀ os : List Ac, (∀ a ∈ os, OkA a) → scanL (lnsL os ++ t) = wantL os ++ scanL t
  | [], _ => rfl
  | a :: r, h => by
    have ih := scan_lns t r (fun a ha => h a (by simp [ha]))
    unfold lnsL wantL at ih ⊢
    rw [List.flatMap_cons, List.flatMap_cons]
    by_cases hl : lineL a = []
    · rw [if_pos hl, if_pos hl, List.nil_append, List.nil_append]; exact ih
    · rw [if_neg hl, if_neg hl, List.singleton_append, List.cons_append, List.singleton_append, List.cons_append]
      rw [scanL, parse_line (h a (by simp)) (line_kind hl), ih]
theorem lns_want (os : List Ac) : (lnsL os).length = (wantL os).length := by
  induction os with
  | nil => rfl
  | cons a r ih =>
    unfold lnsL wantL at ih ⊢
    rw [List.flatMap_cons, List.flatMap_cons, List.length_append, List.length_append, ih]
    split <;> rfl
theorem want_le (os : List Ac) : (wantL os).length ≤ os.length := by
  induction os with
  | nil => exact Nat.le_refl _
  | cons a r ih =>
    unfold wantL at ih ⊢
    rw [List.flatMap_cons, List.length_append, List.length_cons]
    split <;> simp only [List.length_nil, List.length_cons] <;> omega
theorem want_take (os : List Ac) (j : Nat) (h : j < os.length) : wantL (os.take (j + 1)) = wantL (os.take j) ++ (if lineL (os.getD j ac0) = [] then [] else [cleanL (os.getD j ac0)]) := by
  unfold wantL
  rw [List.take_succ_eq_append_getElem h, List.flatMap_append]
  simp [List.getD, h]
theorem want_take_le (os : List Ac) (j : Nat) : (wantL (os.take j)).length ≤ j := by
  have := want_le (os.take j)
  rw [List.length_take] at this; omega
theorem textL_len (os : List Ac) (h : ∀ a ∈ os, OkA a ∧ a.nm.length ≤ 200) : (textL os).length ≤ os.length * 2001 := by
  induction os with
  | nil => simp [textL]
  | cons a r ih =>
    have h1 := ih (fun a ha => h a (by simp [ha]))
    have h2 := lineL_len a (h a (by simp)).1 (h a (by simp)).2
    unfold textL lnT at h1 ⊢
    rw [List.flatMap_cons, List.length_append, List.length_cons, Nat.add_mul]
    split
    · simp only [List.length_nil]; omega
    · simp only [List.length_append, List.length_cons, List.length_nil]; omega
theorem textL_byt (os : List Ac) (h : ∀ a ∈ os, OkA a) : Byt (textL os) := by
  intro z hz
  obtain ⟨a, ha, hz⟩ := List.mem_flatMap.1 hz
  unfold lnT at hz
  split at hz
  · simp at hz
  · rcases List.mem_append.1 hz with hz | hz
    · exact lineL_byt a (h a ha) z hz
    · simp at hz; omega
theorem cutA_ok (a : Ac) (hnb : Byt a.nm) (hv : i64 a.v) (hn : i64 a.n) (hm : i64 a.m) (hp : i64 a.p) (hx : i64 a.x) : OkA (cutA a) ∧ (cutA a).nm.length ≤ 200 := by
  have : (a.nm.take 200).length ≤ 200 := by rw [List.length_take]; omega
  exact ⟨⟨hnb.take 200, by unfold cutA; simp only; omega, hv, hn, hm, hp, hx⟩, this⟩
end Go.Proofs.YtflpblggpbgeiaaDoor

/- Plain: the longest row of renderings with losses, found in two ways. No program in sight. -/
import Derived.Test.YtidjcbmdmecajaaPln
namespace Go.Proofs.Ytidjcbmdmecajaa
open Go Go.RowKit Go.Calli
set_option linter.unusedVariables false
/-- A row of m from i on. -/
def Blo (f : Nat → Bool) (N i m : Nat) : Prop := i + m ≤ N ∧ ∀ j, i ≤ j → j < i + m → f j = true
/-- The first longest row. -/
def Chr (f : Nat → Bool) (N : Nat) (best fr : Int) : Prop :=
  (best = 0 ∧ fr = -1 ∧ ∀ j, j < N → f j = false) ∨ ∃ a b : Nat, 0 < b ∧ best = b ∧ fr = a ∧ Blo f N a b ∧ ∀ i m, Blo f N i m → m ≤ b ∧ (m = b → a ≤ i)
theorem chr_unique {f : Nat → Bool} {N : Nat} {b1 f1 b2 f2 : Int} (h1 : Chr f N b1 f1) (h2 : Chr f N b2 f2) : b1 = b2 ∧ f1 = f2 := by
  rcases h1 with ⟨x1, x2, x3⟩ | ⟨a, b, x0, x1, x2, x3, x4⟩ <;> rcases h2 with ⟨y1, y2, y3⟩ | ⟨c, d, y0, y1, y2, y3, y4⟩
  · omega
  · have := y3.2 c (Nat.le_refl _) (by omega)
    have h := x3 c (by have := y3.1; omega)
    rw [h] at this; cases this
  · have := x3.2 a (Nat.le_refl _) (by omega)
    have h := y3 a (by have := x3.1; omega)
    rw [h] at this; cases this
  · have p1 := x4 c d y3
    have p2 := y4 a b x3
    have : b = d := by omega
    have q1 := p1.2 (by omega)
    have q2 := p2.2 (by omega)
    omega
/-- The code's way, with flags. -/
def rrf (f : Nat → Bool) : Nat → Rw
  | 0 => ⟨0, -1, 0⟩
  | k + 1 => rstep (f k) k (rrf f k)
theorem rrf_ok (f : Nat → Bool) : ∀ N, Chr f N (rrf f N).best (rrf f N).fr ∧ ∃ n : Nat, (rrf f N).n = n ∧ n ≤ N ∧ Blo f N (N - n) n ∧ (n < N → f (N - n - 1) = false) := by
  intro N
  induction N with
  | zero => exact ⟨.inl ⟨rfl, rfl, fun j hj => by omega⟩, 0, rfl, Nat.le_refl _, ⟨by omega, fun j h1 h2 => by omega⟩, fun h => by omega⟩
  | succ N ih =>
    obtain ⟨hc, n, hn, hnN, hb, hl⟩ := ih
    simp only [rrf]
    generalize rrf f N = s at *
    obtain ⟨best, fr, sn⟩ := s
    simp only at hc hn
    subst hn
    by_cases hf : f N = true
    · -- the row that ends here has n + 1
      have hrow : Blo f (N + 1) (N - n) (n + 1) := ⟨by omega, fun j h1 h2 => by
        by_cases hj : j = N
        · rw [hj]; exact hf
        · exact hb.2 j h1 (by omega)⟩
      have hend : ∀ i m, i + m = N + 1 → Blo f (N + 1) i m → m ≤ n + 1 := fun i m he hB => by
        rcases Nat.lt_or_ge (n + 1) m with h | h
        · have h3 := hl (by omega)
          have h4 := hB.2 (N - n - 1) (by omega) (by omega)
          rw [h3] at h4; cases h4
        · exact h
      have hold : ∀ i m, i + m ≤ N → Blo f (N + 1) i m → Blo f N i m := fun i m he hB => ⟨he, hB.2⟩
      have hnn : ∃ n2 : Nat, ((n : Int) + 1) = n2 ∧ n2 ≤ N + 1 ∧ Blo f (N + 1) (N + 1 - n2) n2 ∧ (n2 < N + 1 → f (N + 1 - n2 - 1) = false) := ⟨n + 1, by omega, by omega, by rw [show N + 1 - (n + 1) = N - n by omega]; exact hrow, fun h => by rw [show N + 1 - (n + 1) - 1 = N - n - 1 by omega]; exact hl (by omega)⟩
      simp only [rstep, hf, if_true]
      by_cases hg : (n : Int) + 1 > best
      · rw [if_pos hg]
        refine ⟨.inr ⟨N - n, n + 1, by omega, by simp, by simp only; omega, hrow, fun i m hB => ?_⟩, hnn⟩
        by_cases he : i + m = N + 1
        · exact ⟨hend i m he hB, fun h => by omega⟩
        · have hB2 := hold i m (by have := hB.1; omega) hB
          rcases hc with ⟨x1, x2, x3⟩ | ⟨a, b, x0, x1, x2, x3, x4⟩
          · by_cases hm : m = 0
            · exact ⟨by omega, fun h => by omega⟩
            · have h5 := hB2.2 i (Nat.le_refl _) (by omega)
              rw [x3 i (by have := hB2.1; omega)] at h5; cases h5
          · have := (x4 i m hB2).1
            exact ⟨by omega, fun h => by omega⟩
      · rw [if_neg hg]
        refine ⟨?_, hnn⟩
        rcases hc with ⟨x1, x2, x3⟩ | ⟨a, b, x0, x1, x2, x3, x4⟩
        · omega
        · refine .inr ⟨a, b, x0, x1, x2, ⟨by have := x3.1; omega, x3.2⟩, fun i m hB => ?_⟩
          by_cases he : i + m = N + 1
          · have h6 := hend i m he hB
            have h7 := x3.1
            exact ⟨by omega, fun h => by omega⟩
          · exact x4 i m (hold i m (by have := hB.1; omega) hB)
    · have hf : f N = false := by simpa using hf
      simp only [rstep, hf, Bool.false_eq_true, if_false]
      refine ⟨?_, 0, rfl, by omega, ⟨by omega, fun j h1 h2 => by omega⟩, fun h => by simpa using hf⟩
      have hold : ∀ i m, 0 < m → Blo f (N + 1) i m → Blo f N i m := fun i m hm hB => ⟨by
        rcases Nat.lt_or_ge N (i + m) with h | h
        · have := hB.2 N (by have := hB.1; omega) (by omega)
          rw [hf] at this; cases this
        · exact h, hB.2⟩
      rcases hc with ⟨x1, x2, x3⟩ | ⟨a, b, x0, x1, x2, x3, x4⟩
      · refine .inl ⟨x1, x2, fun j hj => ?_⟩
        by_cases h : j = N
        · rw [h]; exact hf
        · exact x3 j (by omega)
      · refine .inr ⟨a, b, x0, x1, x2, ⟨by have := x3.1; omega, x3.2⟩, fun i m hB => ?_⟩
        by_cases hm : m = 0
        · exact ⟨by omega, fun h => by omega⟩
        · exact x4 i m (hold i m (by omega) hB)
/-- The law's way, up to place i. -/
def Lch (f : Nat → Bool) (N i : Nat) (best fr : Int) : Prop :=
  (best = 0 ∧ fr = -1 ∧ ∀ j, j < i → f j = false) ∨ ∃ a b : Nat, 0 < b ∧ a < i ∧ best = b ∧ fr = a ∧ Blo f N a b ∧ ∀ i' m, i' < i → Blo f N i' m → m ≤ b ∧ (m = b → a ≤ i')
theorem lch_zero (f : Nat → Bool) (N : Nat) : Lch f N 0 0 (-1) := .inl ⟨rfl, rfl, fun j hj => by omega⟩
/-- One place more: k is where its row ends. -/
theorem lch_step {f : Nat → Bool} {N i k : Nat} {best fr : Int} (h : Lch f N i best fr) (hi : i < N) (hik : i ≤ k) (hkN : k ≤ N) (hr : ∀ j, i ≤ j → j < k → f j = true) (he : k < N → f k = false) :
    ((k : Int) - i > best → Lch f N (i + 1) ((k : Int) - i) i) ∧ (¬ (k : Int) - i > best → Lch f N (i + 1) best fr) := by
  have hown : ∀ m, Blo f N i m → m ≤ k - i := fun m hB => by
    rcases Nat.lt_or_ge (k - i) m with h1 | h1
    · have h2 := he (by have := hB.1; omega)
      have h3 := hB.2 k hik (by omega)
      rw [h2] at h3; cases h3
    · exact h1
  have hrow : Blo f N i (k - i) := ⟨by omega, fun j h1 h2 => hr j h1 (by omega)⟩
  refine ⟨fun hg => ?_, fun hg => ?_⟩
  · have hb0 : 0 ≤ best := by rcases h with ⟨x1, _, _⟩ | ⟨a, b, x0, _, x1, _⟩ <;> omega
    refine .inr ⟨i, k - i, by omega, by omega, by omega, rfl, hrow, fun i' m hi' hB => ?_⟩
    by_cases h1 : i' = i
    · subst h1
      exact ⟨hown m hB, fun _ => Nat.le_refl _⟩
    · rcases h with ⟨x1, x2, x3⟩ | ⟨a, b, x0, xa, x1, x2, x3, x4⟩
      · by_cases hm : m = 0
        · exact ⟨by omega, fun h => by omega⟩
        · have h5 := hB.2 i' (Nat.le_refl _) (by omega)
          rw [x3 i' (by omega)] at h5; cases h5
      · have := (x4 i' m (by omega) hB).1
        exact ⟨by omega, fun h => by omega⟩
  · rcases h with ⟨x1, x2, x3⟩ | ⟨a, b, x0, xa, x1, x2, x3, x4⟩
    · refine .inl ⟨x1, x2, fun j hj => ?_⟩
      by_cases h1 : j = i
      · rw [h1]; obtain rfl : k = i := by omega
        exact he hi
      · exact x3 j (by omega)
    · refine .inr ⟨a, b, x0, by omega, x1, x2, x3, fun i' m hi' hB => ?_⟩
      by_cases h1 : i' = i
      · subst h1
        have := hown m hB
        exact ⟨by omega, fun h => by omega⟩
      · exact x4 i' m (by omega) hB
theorem lch_end {f : Nat → Bool} {N : Nat} {best fr : Int} (h : Lch f N N best fr) : Chr f N best fr := by
  rcases h with ⟨x1, x2, x3⟩ | ⟨a, b, x0, xa, x1, x2, x3, x4⟩
  · exact .inl ⟨x1, x2, x3⟩
  · refine .inr ⟨a, b, x0, x1, x2, x3, fun i m hB => ?_⟩
    by_cases hi : i < N
    · exact x4 i m hi hB
    · have := hB.1
      exact ⟨by omega, fun h => by omega⟩
/-- The two ways agree. -/
theorem rows_agree {f : Nat → Bool} {N : Nat} {best fr : Int} (h : Lch f N N best fr) : (rrf f N).best = best ∧ (rrf f N).fr = fr := chr_unique (rrf_ok f N).1 (lch_end h)
/-- Has rendering i losses? -/
def flg (l : List Rp) (i : Nat) : Bool := !((l.getD i r0).lost.isEmpty)
theorem noteL_any (l : List Rp) (i : Nat) : anyG (noteL g0 l) i = (decide (i < l.length) && flg l i) := by
  suffices h : ∀ k, k ≤ l.length → anyG (noteL g0 (l.take k)) i = (decide (i < k) && flg l i) by
    have := h l.length (Nat.le_refl _)
    rwa [List.take_length] at this
  intro k
  induction k with
  | zero => intro _; simp [noteL, anyG, g0]
  | succ k ih =>
    intro hk
    have hr : (noteL g0 (l.take k)).renders = k := by
      rw [noteL_renders, List.length_take]
      show (0 : Int) + _ = _
      omega
    rw [noteL_take g0 l k (by omega)]
    have hA : anyG (note (noteL g0 (l.take k)) (l.getD k r0)) i = (anyG (noteL g0 (l.take k)) i || (decide ((i : Int) = k) && !((l.getD k r0).lost.isEmpty))) := by
      simp only [anyG, note, List.any_append, hr]
      congr 1
      unfold ents
      cases (l.getD k r0).lost with
      | nil => simp
      | cons x t =>
        by_cases he : i = k
        · simp [he]
        · have h1 : ¬ (k : Int) = i := by omega
          have h2 : ¬ (i : Int) = k := by omega
          simp [h1, h2]
    rw [hA, ih (by omega)]
    by_cases he : i = k
    · subst he; simp [flg]
    · by_cases h1 : i < k
      · simp [h1, show i < k + 1 by omega, show ¬ (i : Int) = k by omega]
      · simp [h1, show ¬ i < k + 1 by omega, show ¬ (i : Int) = k by omega]
theorem rrun_rrf (l : List Rp) : ∀ k, k ≤ l.length → rrun (noteL g0 l) k = rrf (flg l) k := by
  intro k
  induction k with
  | zero => intro _; rfl
  | succ k ih =>
    intro hk
    simp only [rrun, rrf]
    rw [ih (by omega), noteL_any]
    simp [show k < l.length by omega]
theorem rows_law {l : List Rp} {best fr : Int} (h : Lch (flg l) l.length l.length best fr) : (rrun (noteL g0 l) l.length).best = best ∧ (rrun (noteL g0 l) l.length).fr = fr := by
  rw [rrun_rrf l _ (Nat.le_refl _)]
  exact rows_agree h
/-- The losses told so far: those of the first i renderings, and k of the next. -/
def preE (l : List Rp) (i k : Nat) : List En := (noteL g0 (l.take i)).lost ++ ents i ((l.getD i r0).lost.take k)
theorem preE_full (l : List Rp) (i : Nat) (hi : i < l.length) : preE l i (l.getD i r0).lost.length = preE l (i + 1) 0 := by
  have hr : (noteL g0 (l.take i)).renders = i := by
    rw [noteL_renders, List.length_take]
    show (0 : Int) + _ = _
    omega
  unfold preE
  rw [List.take_length, noteL_take g0 l i hi]
  simp [note, hr, ents]
theorem lost_prefix (l : List Rp) : ∀ k i, i ≤ k → k ≤ l.length → ∃ t, (noteL g0 (l.take k)).lost = (noteL g0 (l.take i)).lost ++ t := by
  intro k
  induction k with
  | zero => intro i hi _; obtain rfl : i = 0 := by omega
            exact ⟨[], by simp⟩
  | succ k ih =>
    intro i hi hk
    by_cases h : i = k + 1
    · subst h; exact ⟨[], by simp⟩
    · obtain ⟨t, ht⟩ := ih i (by omega) (by omega)
      rw [noteL_take g0 l k (by omega)]
      refine ⟨t ++ ents (noteL g0 (l.take k)).renders (l.getD k r0).lost, ?_⟩
      simp only [note, ht, List.append_assoc]
theorem preE_prefix (l : List Rp) (i k : Nat) (hi : i < l.length) (hk : k ≤ (l.getD i r0).lost.length) : ∃ t, (noteL g0 l).lost = preE l i k ++ t := by
  obtain ⟨t, ht⟩ := lost_prefix l l.length (i + 1) (by omega) (Nat.le_refl _)
  rw [List.take_length] at ht
  have hf := preE_full l i hi
  have h0 : preE l (i + 1) 0 = (noteL g0 (l.take (i + 1))).lost := by simp [preE, ents]
  rw [← h0, ← hf] at ht
  refine ⟨ents i ((l.getD i r0).lost.drop k) ++ t, ?_⟩
  rw [ht, ← List.append_assoc]
  congr 1
  unfold preE
  rw [List.take_length, List.append_assoc]
  congr 1
  unfold ents
  rw [← List.map_append, List.take_append_drop]
theorem ofL_append (a b : List En) (x y : Int) : ofL (a ++ b) x y = ofL a x y ++ ofL b x y := by simp [ofL, List.filter_append]
theorem preE_succ (l : List Rp) (i k : Nat) (hk : k < (l.getD i r0).lost.length) : preE l i (k + 1) = preE l i k ++ [⟨i, (l.getD i r0).lost.getD k l0⟩] := by
  unfold preE
  rw [List.take_succ_eq_append_getElem hk]
  unfold ents
  rw [List.map_append, ← List.append_assoc]
  congr 1
  rw [show (l.getD i r0).lost.getD k l0 = (l.getD i r0).lost[k] by rw [List.getD, List.getElem?_eq_getElem hk]; rfl]
  rfl
/-- How many of a voice's losses have been met. -/
def cnt (l : List Rp) (a b : Int) (i k : Nat) : Nat := (ofL (preE l i k) a b).length
theorem cnt_skip (l : List Rp) (a b : Int) (i k : Nat) (hk : k < (l.getD i r0).lost.length) (h : ¬ ((i : Int) = a ∧ ((l.getD i r0).lost.getD k l0).v = b)) : cnt l a b i (k + 1) = cnt l a b i k := by
  unfold cnt
  rw [preE_succ l i k hk, ofL_snoc, if_neg h, List.append_nil]
theorem cnt_hit (l : List Rp) (a b : Int) (i k : Nat) (hi : i < l.length) (hk : k < (l.getD i r0).lost.length) (h : (i : Int) = a ∧ ((l.getD i r0).lost.getD k l0).v = b) : cnt l a b i (k + 1) = cnt l a b i k + 1 ∧ cnt l a b i k < (ofL (noteL g0 l).lost a b).length ∧ (ofL (noteL g0 l).lost a b).getD (cnt l a b i k) l0 = (l.getD i r0).lost.getD k l0 := by
  obtain ⟨t, ht⟩ := preE_prefix l i (k + 1) hi hk
  have e : ofL (noteL g0 l).lost a b = ofL (preE l i k) a b ++ ((l.getD i r0).lost.getD k l0 :: ofL t a b) := by
    rw [ht, ofL_append, preE_succ l i k hk, ofL_snoc, if_pos h]; simp
  unfold cnt
  refine ⟨by rw [preE_succ l i k hk, ofL_snoc, if_pos h]; simp, by rw [e]; simp, by rw [e]; simp [List.getD]⟩
theorem cnt_next (l : List Rp) (a b : Int) (i : Nat) (hi : i < l.length) : cnt l a b i (l.getD i r0).lost.length = cnt l a b (i + 1) 0 := by unfold cnt; rw [preE_full l i hi]
theorem cnt_zero (l : List Rp) (a b : Int) : cnt l a b 0 0 = 0 := by simp [cnt, preE, ofL, noteL, g0, ents]
theorem cnt_end (l : List Rp) (a b : Int) : cnt l a b l.length 0 = (ofL (noteL g0 l).lost a b).length := by simp [cnt, preE, ents]
end Go.Proofs.Ytidjcbmdmecajaa

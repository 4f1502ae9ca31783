/- Plain law of layer 37: messages' bytes are read as the messages, and what is read as messages is their bytes. No program in sight. -/
import Derived.Test.YtmhlmaimmbopfaaPln
namespace Go.Proofs.Ytmhlmaimmbopfaa
open Go Go.RowKit Go.Calli
set_option linter.unusedVariables false
def encL : Int → Int → List Msg → List Int
  | _, _, [] => []
  | t, s, m :: r => enc t s m ++ encL m.t (m.k + m.c) r
def GoodL : Int → List Msg → Prop
  | _, [] => True
  | t, m :: r => m.ok = true ∧ t ≤ m.t ∧ GoodL m.t r
/-- Bytes, read as messages: an error, or messages. -/
def decL : Nat → Int → Int → List Int → Int × List Msg
  | 0, _, _, _ => (0, [])
  | f + 1, t, s, L => if L = [] then (0, [])
    else if (rdM t s L).1 ≠ 0 then ((rdM t s L).1, [])
    else if (decL f (rdM t s L).2.1.t ((rdM t s L).2.1.k + (rdM t s L).2.1.c) (rdM t s L).2.2).1 ≠ 0 then ((decL f (rdM t s L).2.1.t ((rdM t s L).2.1.k + (rdM t s L).2.1.c) (rdM t s L).2.2).1, [])
    else (0, (rdM t s L).2.1 :: (decL f (rdM t s L).2.1.t ((rdM t s L).2.1.k + (rdM t s L).2.1.c) (rdM t s L).2.2).2)
theorem numL_pos (v : Nat) : 0 < (numL v).length := (numL_len v).2
theorem enc_len (t s : Int) (m : Msg) : 2 ≤ (enc t s m).length := by
  have := numL_pos (m.t - t).toNat
  unfold enc; simp only [List.length_append, List.length_cons]; omega
theorem enc_len_le (t s : Int) (m : Msg) : (enc t s m).length ≤ 8 := by
  have := (numL_len (m.t - t).toNat).1
  unfold enc; simp only [List.length_append, List.length_cons]
  split <;> split <;> simp <;> omega
theorem enc_ne (t s : Int) (m : Msg) (R : List Int) : enc t s m ++ R ≠ [] := by
  have := enc_len t s m
  intro h
  have h2 := congrArg List.length h
  rw [List.length_append, List.length_nil] at h2; omega
theorem dec_enc (l : List Msg) : ∀ (f : Nat) (t s : Int), l.length ≤ f → 0 ≤ t → GoodL t l → decL f t s (encL t s l) = (0, l) := by
  induction l with
  | nil => intro f t s _ _ _; cases f <;> simp [decL, encL]
  | cons m r ih =>
    intro f t s hf h0 hg
    obtain ⟨f, rfl⟩ : ∃ g, f = g + 1 := ⟨f - 1, by simp at hf; omega⟩
    have hM := rdM_enc t s m (encL m.t (m.k + m.c) r) hg.1 hg.2.1 h0
    have hr := ih f m.t (m.k + m.c) (by simp at hf; omega) (by have := hg.2.1; omega) hg.2.2
    show decL (f + 1) t s (enc t s m ++ encL m.t (m.k + m.c) r) = _
    rw [decL, if_neg (enc_ne _ _ _ _), hM]
    simp only [ne_eq, not_true, if_false, hr]
theorem rdM_len {t s : Int} {L R : List Int} {m : Msg} (hL : Bytes8 L) (ht0 : 0 ≤ t) (hs : SOk s) (h : rdM t s L = (0, m, R)) : R.length + 2 ≤ L.length := by
  obtain ⟨e, _⟩ := rdM_back hL ht0 hs h
  have := enc_len t s m
  rw [e, List.length_append]; omega
theorem dec_back : ∀ (f : Nat) (t s : Int) (L : List Int) (xs : List Msg), L.length ≤ f → Bytes8 L → 0 ≤ t → SOk s → decL f t s L = (0, xs) → L = encL t s xs ∧ GoodL t xs := by
  intro f
  induction f with
  | zero =>
    intro t s L xs hf hL h0 hs h
    have : L = [] := List.eq_nil_of_length_eq_zero (by omega)
    subst this
    simp [decL] at h; subst h
    exact ⟨rfl, trivial⟩
  | succ f ih =>
    intro t s L xs hf hL h0 hs h
    rw [decL] at h
    by_cases hn : L = []
    · rw [if_pos hn] at h
      simp at h; subst h; subst hn
      exact ⟨rfl, trivial⟩
    · rw [if_neg hn] at h
      rcases hM : rdM t s L with ⟨E, m, R⟩
      simp only [hM] at h
      by_cases hE : E = 0
      · subst hE
        obtain ⟨g1, g2, g3, g4, g5⟩ := rdM_back hL h0 hs hM
        have hl := rdM_len hL h0 hs hM
        simp only [ne_eq, not_true, if_false] at h
        rcases hD : decL f m.t (m.k + m.c) R with ⟨E2, ys⟩
        simp only [hD] at h
        by_cases hE2 : E2 = 0
        · subst hE2
          simp only [not_true, if_false, Prod.mk.injEq, true_and] at h
          subst h
          obtain ⟨k1, k2⟩ := ih m.t (m.k + m.c) R ys (by omega) g5 (by omega) g4 hD
          exact ⟨by rw [g1]; show _ = enc t s m ++ encL m.t (m.k + m.c) ys; rw [← k1], g2, g3, k2⟩
        · simp only [hE2, not_false_iff, if_true, Prod.mk.injEq, false_and] at h
      · simp only [ne_eq, hE, not_false_iff, if_true, Prod.mk.injEq, false_and] at h
theorem decL_err (f : Nat) : ∀ (t s : Int) (L : List Int), (decL f t s L).1 = 0 ∨ (decL f t s L).1 = 2 ∨ (decL f t s L).1 = 4 ∨ (decL f t s L).1 = 5 := by
  induction f with
  | zero => intro t s L; simp [decL]
  | succ f ih =>
    intro t s L
    rw [decL]
    split
    · simp
    · split
      · exact rdM_err t s L
      · split
        · exact ih _ _ _
        · simp
theorem decL_nil (f : Nat) : ∀ (t s : Int) (L : List Int), (decL f t s L).1 ≠ 0 → (decL f t s L).2 = [] := by
  intro t s L h
  cases f with
  | zero => simp [decL] at h
  | succ f =>
    rw [decL] at h ⊢
    split
    · rfl
    · rename_i h1
      rw [if_neg h1] at h
      split
      · rfl
      · rename_i h2
        rw [if_neg h2] at h
        split
        · rfl
        · rename_i h3
          rw [if_neg h3] at h
          simp at h
/-- What has been read, and what is still to be read, together. -/
def comb (xs : List Msg) (d : Int × List Msg) : Int × List Msg := if d.1 ≠ 0 then (d.1, []) else (0, xs ++ d.2)
theorem comb_nil (d : Int × List Msg) (h : d.1 ≠ 0 → d.2 = []) : comb [] d = d := by
  unfold comb; split
  · rename_i h1; rw [← h h1]
  · rename_i h1
    have : d.1 = 0 := by simpa using h1
    rw [← this]; rfl
theorem comb_step (xs : List Msg) (f : Nat) (t s : Int) (L R : List Int) (m : Msg) (hL : L ≠ []) (h : rdM t s L = (0, m, R)) : comb xs (decL (f + 1) t s L) = comb (xs ++ [m]) (decL f m.t (m.k + m.c) R) := by
  rw [decL, if_neg hL, h]
  simp only [ne_eq, not_true, if_false]
  unfold comb
  by_cases hE : (decL f m.t (m.k + m.c) R).1 = 0
  · simp [hE]
  · simp [hE]
theorem comb_err (xs : List Msg) (f : Nat) (t s : Int) (L : List Int) (hL : L ≠ []) (h : (rdM t s L).1 ≠ 0) : comb xs (decL (f + 1) t s L) = ((rdM t s L).1, []) := by
  rw [decL, if_neg hL, if_pos h]
  unfold comb
  simp [h]
theorem comb_end (xs : List Msg) (f : Nat) (t s : Int) : comb xs (decL f t s []) = (0, xs) := by
  cases f <;> simp [decL, comb]
theorem getD_drop (l : List Msg) (k : Nat) (h : k < l.length) : l.drop k = l.getD k m0 :: l.drop (k + 1) := by
  rw [List.drop_eq_getElem_cons h]; simp [h]
theorem out_enc (l : List Msg) (k : Nat) (h : k ≤ l.length) : out l k ++ encL (tm l k) (ss l k) (l.drop k) = encL 0 0 l := by
  induction k with
  | zero => rfl
  | succ k ih =>
    rw [← ih (by omega), getD_drop l k (by omega)]
    simp only [out, encL, tm, ss, List.append_assoc]
theorem out_all (l : List Msg) : out l l.length = encL 0 0 l := by
  have := out_enc l l.length (Nat.le_refl _)
  rw [List.drop_of_length_le (Nat.le_refl _)] at this
  simpa [encL] using this
theorem good_list (l : List Msg) : Good l l.length ↔ GoodL 0 l := by
  have key : ∀ k, k ≤ l.length → (Good l k ∧ GoodL (tm l k) (l.drop k) ↔ GoodL 0 l) := by
    intro k
    induction k with
    | zero => intro _; exact ⟨fun h => h.2, fun h => ⟨fun i hi => by omega, h⟩⟩
    | succ k ih =>
      intro hk
      rw [← ih (by omega), getD_drop l k (by omega)]
      constructor
      · rintro ⟨h1, h2⟩
        have := h1 k (by omega)
        exact ⟨fun i hi => h1 i (by omega), this.1, this.2, h2⟩
      · rintro ⟨h1, h2, h3, h4⟩
        refine ⟨fun i hi => ?_, h4⟩
        by_cases e : i = k
        · subst e; exact ⟨h2, h3⟩
        · exact h1 i (by omega)
  have := key l.length (Nat.le_refl _)
  rw [List.drop_of_length_le (Nat.le_refl _)] at this
  rw [← this]
  exact ⟨fun h => ⟨h, trivial⟩, fun h => h.1⟩
theorem out_len (l : List Msg) (k : Nat) : (out l k).length ≤ 8 * k := by
  induction k with
  | zero => simp [out]
  | succ k ih =>
    have := enc_len_le (tm l k) (ss l k) (l.getD k m0)
    simp only [out, List.length_append]; omega
theorem enc_bytes {t s : Int} {m : Msg} (hm : m.ok = true) : ∀ z ∈ enc t s m, (Lit.int .u8 z).wf = true := by
  intro z hz
  have h := (ok_iff m).1 hm
  have hk := kind_of hm
  unfold enc at hz
  rcases List.mem_append.1 hz with hz | hz
  · rcases List.mem_append.1 hz with hz | hz
    · exact numL_wf _ z hz
    · by_cases hs : m.k + m.c = s
      · rw [if_pos hs] at hz; simp at hz
      · rw [if_neg hs] at hz; simp at hz; subst hz; exact WalkArith.wf_u8 (by omega)
  · rcases List.mem_cons.1 hz with hz | hz
    · subst hz; exact WalkArith.wf_u8 (by omega)
    · by_cases h2 : twoB m.k = true
      · rw [if_pos h2] at hz; simp at hz; subst hz; exact WalkArith.wf_u8 (by omega)
      · rw [if_neg h2] at hz; simp at hz
theorem out_wf (l : List Msg) (k : Nat) (hg : Good l k) : ∀ z ∈ out l k, (Lit.int .u8 z).wf = true := by
  induction k with
  | zero => intro z hz; simp [out] at hz
  | succ k ih =>
    intro z hz
    rcases List.mem_append.1 hz with hz | hz
    · exact ih (fun i hi => hg i (by omega)) z hz
    · exact enc_bytes (hg k (by omega)).1 z hz
end Go.Proofs.Ytmhlmaimmbopfaa

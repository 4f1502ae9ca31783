/- Plain law of layer 37: a message's bytes are read as the message, and what is read as one is its bytes. No program in sight. -/
import Derived.Test.YtmhlmaimmbopfaaPlm
namespace Go.Proofs.Ytmhlmaimmbopfaa
open Go Go.RowKit Go.Calli
set_option linter.unusedVariables false
theorem two_no {k : Int} (h : ¬ (k = 128 ∨ k = 144 ∨ k = 176 ∨ k = 224)) : twoB k = false := by
  rw [← Bool.not_eq_true]; exact fun e => h ((two_iff k).1 e)
theorem rd7_cons (c : Int) (r : List Int) : rd7 (c :: r) = if 127 < c then (4, 0, r) else (0, c, r) := rfl
theorem rdS_cons (s c : Int) (r : List Int) : rdS s (c :: r) = if 128 ≤ c then (if c = s then 4 else 0, c, r) else (0, s, c :: r) := rfl
theorem rd7_ok (a : Int) (R : List Int) (h : a ≤ 127) : rd7 (a :: R) = (0, a, R) := by
  rw [rd7_cons, if_neg (by omega)]
theorem rdT_enc (m : Msg) (R : List Int) (hm : m.ok = true) : rdT m.t (m.k + m.c) (m.a :: (if twoB m.k = true then [m.b] else []) ++ R) = (0, m, R) := by
  have h := (ok_iff m).1 hm
  have hk := kind_of hm
  have e1 : (m.k + m.c) / 16 * 16 = m.k := by omega
  have e2 : (m.k + m.c) % 16 = m.c := by omega
  unfold rdT
  rw [e1, e2]
  by_cases h2 : twoB m.k = true
  · rw [if_neg (by rw [h2]; simp)]
    simp only [h2, if_true, List.cons_append, List.nil_append]
    rw [rd7_ok m.a _ (by omega)]
    simp only [ne_eq, not_true, if_false]
    rw [rd7_ok m.b _ (by omega)]
    simp
  · have h3 : m.k = 192 ∧ m.b = 0 := by
      rcases h.1 with h | h
      · exact absurd h h2
      · exact h
    have h4 : twoB m.k = false := by simpa using h2
    rw [if_neg (by rw [h3.1]; simp)]
    simp only [h4, List.cons_append, List.nil_append, Bool.false_eq_true, if_false]
    rw [rd7_ok m.a _ (by omega)]
    simp only [ne_eq, not_true, if_false]
    obtain ⟨t, k, c, a, b⟩ := m
    obtain ⟨_, rfl⟩ := h3
    rfl
theorem rdM_enc (t s : Int) (m : Msg) (R : List Int) (hm : m.ok = true) (ht : t ≤ m.t) (h0 : 0 ≤ t) : rdM t s (enc t s m ++ R) = (0, m, R) := by
  have h := (ok_iff m).1 hm
  have hk := kind_of hm
  have hT := rdT_enc m R hm
  have hv : ((m.t - t).toNat : Int) = m.t - t := by omega
  unfold rdM enc
  rw [List.append_assoc, List.append_assoc, rdN_num _ (by omega)]
  simp only [ne_eq, not_true, if_false, hv]
  rw [if_neg (by omega)]
  have ht2 : t + (m.t - t) = m.t := by omega
  rw [ht2]
  by_cases hs : m.k + m.c = s
  · simp only [hs, if_true, List.nil_append, List.cons_append]
    have e : rdS s (m.a :: ((if twoB m.k = true then [m.b] else []) ++ R)) = (0, s, m.a :: ((if twoB m.k = true then [m.b] else []) ++ R)) := by
      rw [rdS_cons, if_neg (by omega)]
    rw [e]
    simp only [not_true, if_false]
    rw [hs] at hT
    exact hT
  · simp only [hs, if_false, List.nil_append, List.cons_append]
    have e : rdS s ((m.k + m.c) :: (m.a :: ((if twoB m.k = true then [m.b] else []) ++ R))) = (0, m.k + m.c, m.a :: ((if twoB m.k = true then [m.b] else []) ++ R)) := by
      rw [rdS_cons, if_pos (by omega), if_neg hs]
    rw [e]
    simp only [not_true, if_false]
    exact hT
/-- What may stand as a kind and a channel. -/
def SOk (s : Int) : Prop := 0 ≤ s ∧ s < 256
theorem rd7_back {L R : List Int} {a : Int} (hL : Bytes8 L) (h : rd7 L = (0, a, R)) : L = a :: R ∧ 0 ≤ a ∧ a ≤ 127 ∧ Bytes8 R := by
  match L, hL, h with
  | [], _, h => simp [rd7] at h
  | c :: r, hL, h =>
    rw [rd7_cons] at h
    by_cases hc : 127 < c
    · rw [if_pos hc] at h; simp at h
    · rw [if_neg hc] at h
      simp only [Prod.mk.injEq, true_and] at h
      obtain ⟨rfl, rfl⟩ := h
      have := hL c (by simp)
      exact ⟨rfl, by omega, by omega, fun z hz => hL z (by simp [hz])⟩
theorem rd7_err (L : List Int) : (rd7 L).1 = 0 ∨ (rd7 L).1 = 2 ∨ (rd7 L).1 = 4 := by
  cases L with
  | nil => simp [rd7]
  | cons c r => rw [rd7_cons]; split <;> simp
theorem rdT_back {t s : Int} {L R : List Int} {m : Msg} (hL : Bytes8 L) (ht0 : 0 ≤ t) (ht1 : t ≤ 268435455) (hs : SOk s) (h : rdT t s L = (0, m, R)) : m.t = t ∧ m.k + m.c = s ∧ m.ok = true ∧ L = m.a :: (if twoB m.k = true then [m.b] else []) ++ R ∧ Bytes8 R := by
  unfold rdT at h
  unfold SOk at hs
  by_cases hk : twoB (s / 16 * 16) = false ∧ s / 16 * 16 ≠ 192
  · rw [if_pos hk] at h; simp at h
  · rw [if_neg hk] at h
    rcases h7 : rd7 L with ⟨E, a, R1⟩
    simp only [h7] at h
    by_cases hE : E = 0
    · subst hE
      obtain ⟨rfl, ha0, ha1, hB1⟩ := rd7_back hL h7
      simp only [ne_eq, not_true, if_false] at h
      by_cases h2 : twoB (s / 16 * 16) = true
      · simp only [h2, if_true] at h
        rcases h8 : rd7 R1 with ⟨E2, b, R2⟩
        simp only [h8] at h
        by_cases hE2 : E2 = 0
        · subst hE2
          obtain ⟨rfl, hb0, hb1, hB2⟩ := rd7_back hB1 h8
          simp only [not_true, if_false, Prod.mk.injEq, true_and] at h
          obtain ⟨rfl, rfl⟩ := h
          refine ⟨rfl, by simp only; omega, (ok_iff _).2 ⟨.inl h2, ht0, ht1, by simp only; omega, by simp only; omega, ha0, ha1, hb0, hb1⟩, ?_, hB2⟩
          simp only [h2, if_true]
          rfl
        · simp only [hE2, not_false_iff, if_true, Prod.mk.injEq, false_and] at h
      · have h3 : twoB (s / 16 * 16) = false := by simpa using h2
        have h192 : s / 16 * 16 = 192 := by
          rcases Decidable.em (s / 16 * 16 = 192) with h | h
          · exact h
          · exact absurd ⟨h3, h⟩ hk
        simp only [h3, Bool.false_eq_true, if_false, Prod.mk.injEq, true_and] at h
        obtain ⟨rfl, rfl⟩ := h
        refine ⟨rfl, by simp only; omega, (ok_iff _).2 ⟨.inr ⟨h192, rfl⟩, ht0, ht1, by simp only; omega, by simp only; omega, ha0, ha1, by simp, by simp⟩, ?_, hB1⟩
        simp only [h3, Bool.false_eq_true, if_false]
        rfl
    · simp only [ne_eq, hE, not_false_iff, if_true, Prod.mk.injEq, false_and] at h
theorem rdM_back {t s : Int} {L R : List Int} {m : Msg} (hL : Bytes8 L) (ht0 : 0 ≤ t) (hs : SOk s) (h : rdM t s L = (0, m, R)) : L = enc t s m ++ R ∧ m.ok = true ∧ t ≤ m.t ∧ SOk (m.k + m.c) ∧ Bytes8 R := by
  unfold rdM at h
  rcases hN : rdN 0 0 L with ⟨E, v, R1⟩
  simp only [hN] at h
  by_cases hE : E = 0
  · subst hE
    obtain ⟨hv, rfl⟩ := num_back L v R1 hL hN
    have hB1 : Bytes8 R1 := fun z hz => hL z (by simp [hz])
    simp only [ne_eq, not_true, if_false] at h
    by_cases hr : 268435455 < t + (v : Int)
    · rw [if_pos hr] at h; simp at h
    · rw [if_neg hr] at h
      rcases hS : rdS s R1 with ⟨E2, s', R2⟩
      simp only [hS] at h
      by_cases hE2 : E2 = 0
      · subst hE2
        simp only [not_true, if_false] at h
        have hcase : (s' = s ∧ R1 = R2) ∨ (s' ≠ s ∧ R1 = s' :: R2 ∧ 128 ≤ s') := by
          cases R1 with
          | nil => simp [rdS] at hS; exact .inl ⟨hS.1.symm, hS.2.symm⟩
          | cons c r =>
            rw [rdS_cons] at hS
            by_cases hc : 128 ≤ c
            · rw [if_pos hc] at hS
              simp only [Prod.mk.injEq] at hS
              obtain ⟨h1, rfl, rfl⟩ := hS
              refine .inr ⟨fun e => ?_, rfl, hc⟩
              rw [if_pos e] at h1; simp at h1
            · rw [if_neg hc] at hS
              simp only [Prod.mk.injEq, true_and] at hS
              exact .inl ⟨hS.1.symm, hS.2⟩
        have hs' : SOk s' ∧ Bytes8 R2 := by
          rcases hcase with ⟨rfl, rfl⟩ | ⟨_, rfl, _⟩
          · exact ⟨hs, hB1⟩
          · exact ⟨hB1 s' (by simp), fun z hz => hB1 z (by simp [hz])⟩
        obtain ⟨g1, g2, g3, g4, g5⟩ := rdT_back hs'.2 (by omega) (by omega) hs'.1 h
        refine ⟨?_, g3, by omega, by rw [g2]; exact hs'.1, g5⟩
        have hvt : (m.t - t).toNat = v := by omega
        unfold enc
        rw [hvt, g2]
        rcases hcase with ⟨rfl, rfl⟩ | ⟨hne, rfl, _⟩
        · simp only [if_true, List.append_nil, List.append_assoc]
          rw [g4]
        · rw [if_neg hne, g4]
          simp
      · rw [if_pos hE2] at h; simp at h
  · simp only [ne_eq, hE, not_false_iff, if_true, Prod.mk.injEq, false_and] at h
theorem rdM_err (t s : Int) (L : List Int) : (rdM t s L).1 = 0 ∨ (rdM t s L).1 = 2 ∨ (rdM t s L).1 = 4 ∨ (rdM t s L).1 = 5 := by
  unfold rdM
  have h1 := rdN_err L 0 0
  split
  · rcases h1 with h | h | h <;> simp [h]
  · split
    · simp
    · split
      · simp
      · unfold rdT
        have h2 := rd7_err (rdS s (rdN 0 0 L).2.2).2.2
        have h3 := rd7_err (rd7 (rdS s (rdN 0 0 L).2.2).2.2).2.2
        split
        · simp
        · split
          · rcases h2 with h | h | h <;> simp [h]
          · split
            · split
              · rcases h3 with h | h | h <;> simp [h]
              · simp
            · simp
end Go.Proofs.Ytmhlmaimmbopfaa

/- Plain: texts as words, and read again. No program in sight. -/
import Derived.Test.YtflpblggpbgeiaaDoorNpl
namespace Go.Proofs.YtflpblggpbgeiaaDoor
open Go Go.RowKit Go.Calli
def plainB (c : Int) : Bool := decide (32 < c ∧ c < 127 ∧ c ≠ 37)
def hx (d : Int) : Int := if d < 10 then 48 + d else 87 + d
def sgnB (c : Int) : Int := if 48 ≤ c ∧ c ≤ 57 then c - 48 else if 97 ≤ c ∧ c ≤ 102 then c - 87 else -1
def encB (c : Int) : List Int := if plainB c = true then [c] else [37, hx (c / 16), hx (c % 16)]
def encW (l : List Int) : List Int := l.flatMap encB
def wordL (l : List Int) : List Int := 61 :: encW l
theorem sgn_hx (d : Int) (h0 : 0 ≤ d) (h1 : d < 16) : sgnB (hx d) = d := by
  unfold hx sgnB
  split
  · rw [if_pos (by omega)]; omega
  · rw [if_neg (by omega), if_pos (by omega)]; omega
theorem hx_sgn (c : Int) (h : 0 ≤ sgnB c) : hx (sgnB c) = c ∧ sgnB c < 16 := by
  unfold sgnB at *
  by_cases h1 : 48 ≤ c ∧ c ≤ 57
  · rw [if_pos h1] at *
    unfold hx
    rw [if_pos (by omega)]; omega
  · rw [if_neg h1] at *
    by_cases h2 : 97 ≤ c ∧ c ≤ 102
    · rw [if_pos h2] at *
      unfold hx
      rw [if_neg (by omega)]; omega
    · rw [if_neg h2] at h; omega
def escV (r : List Int) : Int := 16 * sgnB (r.getD 0 0) + sgnB (r.getD 1 0)
def escB (c : Int) (r : List Int) : Bool := decide (c = 37 ∧ 2 ≤ r.length ∧ 0 ≤ sgnB (r.getD 0 0) ∧ 0 ≤ sgnB (r.getD 1 0) ∧ plainB (escV r) = false)
def dec (l : List Int) : Option (List Int) :=
  match l with
  | [] => some []
  | c :: r => if plainB c = true then (dec r).map (fun x => c :: x) else if escB c r = true then (dec (r.drop 2)).map (fun x => escV r :: x) else none
termination_by l.length
decreasing_by
  · simp
  · simp; omega
theorem dec_nil : dec [] = some [] := by rw [dec]
theorem dec_cons (c : Int) (r : List Int) : dec (c :: r) = if plainB c = true then (dec r).map (fun x => c :: x) else if escB c r = true then (dec (r.drop 2)).map (fun x => escV r :: x) else none := by rw [dec]
theorem dec_plain {c : Int} {r : List Int} (h : plainB c = true) : dec (c :: r) = (dec r).map (fun x => c :: x) := by rw [dec_cons, if_pos h]
theorem dec_esc {c a b : Int} {q : List Int} (h : plainB c = false) : dec (c :: a :: b :: q) = if c = 37 ∧ 0 ≤ sgnB a ∧ 0 ≤ sgnB b ∧ plainB (16 * sgnB a + sgnB b) = false then (dec q).map (fun x => (16 * sgnB a + sgnB b) :: x) else none := by
  rw [dec_cons, if_neg (by rw [h]; decide)]
  have e : (escB c (a :: b :: q) = true) = (c = 37 ∧ 0 ≤ sgnB a ∧ 0 ≤ sgnB b ∧ plainB (16 * sgnB a + sgnB b) = false) := by
    unfold escB escV
    rw [decide_eq_true_eq]
    simp
  simp only [e]
  rfl
theorem dec_short {c : Int} {r : List Int} (h : plainB c = false) (hl : r.length < 2) : dec (c :: r) = none := by
  rw [dec_cons, if_neg (by rw [h]; decide), if_neg]
  unfold escB
  rw [decide_eq_true_eq]
  intro h; omega
theorem plain37 : plainB 37 = false := by decide
theorem dec_enc (l : List Int) (hb : Byt l) : dec (encW l) = some l := by
  induction l with
  | nil => exact dec_nil
  | cons c r ih =>
    have ih2 := ih (fun z hz => hb z (by simp [hz]))
    have hc := hb c (by simp)
    have e : encW (c :: r) = encB c ++ encW r := by simp [encW]
    rw [e]
    unfold encB
    by_cases hp : plainB c = true
    · rw [if_pos hp, List.singleton_append, dec_plain hp, ih2]; rfl
    · rw [if_neg hp]
      have h1 := sgn_hx (c / 16) (by omega) (by omega)
      have h2 := sgn_hx (c % 16) (by omega) (by omega)
      simp only [List.cons_append, List.nil_append]
      rw [dec_esc plain37, h1, h2, show 16 * (c / 16) + c % 16 = c by omega, if_pos ⟨rfl, by omega, by omega, by simpa using hp⟩, ih2]; rfl
theorem enc_dec (k : Nat) : ∀ (w l : List Int), w.length ≤ k → Byt w → dec w = some l → encW l = w ∧ Byt l := by
  induction k with
  | zero =>
    intro w l hk _ h
    have := List.eq_nil_of_length_eq_zero (Nat.le_zero.1 hk)
    subst this
    rw [dec_nil] at h
    cases h
    exact ⟨rfl, fun z hz => by simp at hz⟩
  | succ k ih =>
    intro w l hk hb h
    match w, hk, hb, h with
    | [], _, _, h =>
      rw [dec_nil] at h
      cases h
      exact ⟨rfl, fun z hz => by simp at hz⟩
    | c :: r, hk, hb, h =>
      by_cases hp : plainB c = true
      · rw [dec_plain hp] at h
        rcases hd : dec r with _ | x
        · rw [hd] at h; cases h
        · rw [hd] at h
          simp only [Option.map_some, Option.some.injEq] at h
          subst h
          obtain ⟨h1, h2⟩ := ih r x (by simp at hk; omega) (fun z hz => hb z (by simp [hz])) hd
          refine ⟨?_, fun z hz => ?_⟩
          · have e : encW (c :: x) = encB c ++ encW x := by simp [encW]
            rw [e, h1]
            unfold encB
            rw [if_pos hp]; rfl
          · rcases List.mem_cons.1 hz with rfl | hz
            · exact hb _ (by simp)
            · exact h2 z hz
      · have hp2 : plainB c = false := by simpa using hp
        match r, hk, hb, h with
        | [], _, _, h => rw [dec_short hp2 (by simp)] at h; cases h
        | [_], _, _, h => rw [dec_short hp2 (by simp)] at h; cases h
        | a :: b :: q, hk, hb, h =>
          rw [dec_esc hp2] at h
          by_cases hc : c = 37 ∧ 0 ≤ sgnB a ∧ 0 ≤ sgnB b ∧ plainB (16 * sgnB a + sgnB b) = false
          · rw [if_pos hc] at h
            rcases hd : dec q with _ | x
            · rw [hd] at h; cases h
            · rw [hd] at h
              simp only [Option.map_some, Option.some.injEq] at h
              subst h
              obtain ⟨h1, h2⟩ := ih q x (by simp at hk; omega) (fun z hz => hb z (by simp [hz])) hd
              obtain ⟨rfl, ha, hb', hv⟩ := hc
              obtain ⟨a1, a2⟩ := hx_sgn a ha
              obtain ⟨b1, b2⟩ := hx_sgn b hb'
              refine ⟨?_, fun z hz => ?_⟩
              · have e : encW ((16 * sgnB a + sgnB b) :: x) = encB (16 * sgnB a + sgnB b) ++ encW x := by simp [encW]
                rw [e, h1]
                unfold encB
                rw [if_neg (by rw [hv]; decide), show (16 * sgnB a + sgnB b) / 16 = sgnB a by omega, show (16 * sgnB a + sgnB b) % 16 = sgnB b by omega, a1, b1]; rfl
              · rcases List.mem_cons.1 hz with rfl | hz
                · omega
                · exact h2 z hz
          · rw [if_neg hc] at h; cases h
def readW (l : List Int) : Option (List Int) := if l.getD 0 0 = 61 then dec (l.drop 1) else none
theorem read_word {l : List Int} (hb : Byt l) : readW (wordL l) = some l := by
  unfold readW wordL
  simp only [List.getD_cons_zero, if_true, List.drop_succ_cons, List.drop_zero]
  exact dec_enc l hb
theorem word_read {w l : List Int} (hb : Byt w) (h : readW w = some l) : wordL l = w ∧ Byt l := by
  unfold readW at h
  by_cases hc : w.getD 0 0 = 61
  · rw [if_pos hc] at h
    rcases w with _ | ⟨c, r⟩
    · simp at hc
    · have hc2 : c = 61 := hc
      subst hc2
      obtain ⟨h1, h2⟩ := enc_dec r.length r l (Nat.le_refl _) (fun z hz => hb z (by simp [hz])) h
      exact ⟨by unfold wordL; rw [h1], h2⟩
  · rw [if_neg hc] at h; cases h
theorem hx_byt {d : Int} (h0 : 0 ≤ d) (h1 : d < 16) : 0 ≤ hx d ∧ hx d < 256 := by unfold hx; split <;> omega
theorem encB_byt {c : Int} (h : 0 ≤ c ∧ c < 256) : Byt (encB c) := by
  unfold encB
  split
  · intro z hz; simp only [List.mem_singleton] at hz; subst hz; exact h
  · intro z hz
    have h1 := hx_byt (d := c / 16) (by omega) (by omega)
    have h2 := hx_byt (d := c % 16) (by omega) (by omega)
    simp only [List.mem_cons, List.not_mem_nil, or_false] at hz
    rcases hz with rfl | rfl | rfl
    · omega
    · exact h1
    · exact h2
theorem encW_byt {l : List Int} (h : Byt l) : Byt (encW l) := fun z hz => by
  obtain ⟨c, hc, hz⟩ := List.mem_flatMap.1 hz
  exact encB_byt (h c hc) z hz
theorem wordL_byt {l : List Int} (h : Byt l) : Byt (wordL l) := fun z hz => by
  rcases List.mem_cons.1 hz with rfl | hz
  · omega
  · exact encW_byt h z hz
theorem encB_len (c : Int) : (encB c).length ≤ 3 := by unfold encB; split <;> simp
theorem encW_len (l : List Int) : (encW l).length ≤ 3 * l.length := by
  induction l with
  | nil => simp [encW]
  | cons c r ih =>
    have e : encW (c :: r) = encB c ++ encW r := by simp [encW]
    have := encB_len c
    rw [e, List.length_append, List.length_cons]; omega
theorem encW_snoc (l : List Int) (c : Int) : encW (l ++ [c]) = encW l ++ encB c := by simp [encW]
end Go.Proofs.YtflpblggpbgeiaaDoor

/- Plain: numbers as digits, and read again. No program in sight. -/
import Derived.Test.YtflpblggpbgeiaaDoorStr
import Derived.Lib.Bytes
namespace Go.Proofs.YtflpblggpbgeiaaDoor
open Go Go.RowKit Go.Calli
def Byt (l : List Int) : Prop := ∀ z ∈ l, 0 ≤ z ∧ z < 256
theorem Byt.app {a b : List Int} (ha : Byt a) (hb : Byt b) : Byt (a ++ b) := fun z hz => (List.mem_append.1 hz).elim (ha z) (hb z)
theorem Byt.drop {l : List Int} (h : Byt l) (k : Nat) : Byt (l.drop k) := fun z hz => h z (List.mem_of_mem_drop hz)
theorem Byt.take {l : List Int} (h : Byt l) (k : Nat) : Byt (l.take k) := fun z hz => h z (List.mem_of_mem_take hz)
def digR (n : Nat) : List Int := if h : n < 10 then [48 + (n : Int)] else (48 + ((n % 10 : Nat) : Int)) :: digR (n / 10)
termination_by n
decreasing_by omega
theorem digR_step (n : Nat) : digR n = (48 + ((n % 10 : Nat) : Int)) :: (if n / 10 = 0 then [] else digR (n / 10)) := by
  rw [digR]
  by_cases h : n < 10
  · rw [dif_pos h, if_pos (by omega), Nat.mod_eq_of_lt h]
  · rw [dif_neg h, if_neg (by omega)]
theorem digR_len (k : Nat) : ∀ n, n < 10 ^ (k + 1) → (digR n).length ≤ k + 1 := by
  induction k with
  | zero =>
    intro n hn
    rw [digR_step, if_pos (by omega)]; simp
  | succ k ih =>
    intro n hn
    rw [digR_step]
    split
    · simp
    · have := ih (n / 10) (by rw [Nat.pow_succ] at hn; omega)
      simp only [List.length_cons]; omega
theorem digR_ind {p : Nat → Prop} (h : ∀ n, (n / 10 ≠ 0 → p (n / 10)) → p n) : ∀ n, p n := by
  intro n
  induction n using Nat.strongRecOn with
  | _ n ih => exact h n (fun h0 => ih _ (by omega))
theorem digR_dig (n : Nat) : ∀ z ∈ digR n, 48 ≤ z ∧ z ≤ 57 := by
  refine digR_ind (p := fun n => ∀ z ∈ digR n, 48 ≤ z ∧ z ≤ 57) (fun n ih z hz => ?_) n
  rw [digR_step] at hz
  rcases List.mem_cons.1 hz with rfl | hz
  · omega
  · split at hz
    · simp at hz
    · exact ih (by assumption) z hz
theorem digR_ne (n : Nat) : digR n ≠ [] := by rw [digR_step]; simp
def digL (n : Nat) : List Int := (digR n).reverse
theorem digL_step (n : Nat) : digL n = (if n / 10 = 0 then [] else digL (n / 10)) ++ [48 + ((n % 10 : Nat) : Int)] := by
  unfold digL
  rw [digR_step, List.reverse_cons]
  split <;> simp
theorem digL_ne (n : Nat) : digL n ≠ [] := by unfold digL; simpa using digR_ne n
theorem digL_dig (n : Nat) : ∀ z ∈ digL n, 48 ≤ z ∧ z ≤ 57 := fun z hz => digR_dig n z (by unfold digL at hz; simpa using hz)
theorem digL_byt (n : Nat) : Byt (digL n) := fun z hz => by have := digL_dig n z hz; omega
theorem digL_len (n : Nat) (h : n < 10 ^ 19) : (digL n).length ≤ 19 := by unfold digL; rw [List.length_reverse]; exact digR_len 18 n h
theorem digL_head (n : Nat) : n ≠ 0 → (digL n).getD 0 0 ≠ 48 := by
  refine digR_ind (p := fun n => n ≠ 0 → (digL n).getD 0 0 ≠ 48) (fun n ih h0 => ?_) n
  rw [digL_step]
  split
  · simp only [List.nil_append, List.getD_cons_zero]; omega
  · rename_i h
    have hne := digL_ne (n / 10)
    have := ih h h
    rcases hd : digL (n / 10) with _ | ⟨c, r⟩
    · exact absurd hd hne
    · rw [hd] at this
      simpa using this
theorem digL_zero : digL 0 = [48] := by rw [digL_step]; simp
def numD (n : Int) : List Int := if n < 0 then 45 :: digL n.natAbs else digL n.natAbs
theorem numD_byt (n : Int) : Byt (numD n) := by
  unfold numD
  split
  · intro z hz
    rcases List.mem_cons.1 hz with rfl | hz
    · omega
    · exact digL_byt _ z hz
  · exact digL_byt _
def valD (l : List Int) : Nat := l.foldl (fun v z => 10 * v + (z - 48).toNat) 0
theorem valD_snoc (l : List Int) (z : Int) : valD (l ++ [z]) = 10 * valD l + (z - 48).toNat := by unfold valD; rw [List.foldl_append]; rfl
theorem valD_digL (n : Nat) : valD (digL n) = n := by
  refine digR_ind (p := fun n => valD (digL n) = n) (fun n ih => ?_) n
  rw [digL_step, valD_snoc]
  split
  · have : valD [] = 0 := rfl
    omega
  · rw [ih (by assumption)]; omega
def isDig (z : Int) : Bool := decide (48 ≤ z ∧ z ≤ 57)
theorem foldl_ge (l : List Int) : ∀ v : Nat, v ≤ l.foldl (fun v z => 10 * v + (z - 48).toNat) v := by
  induction l with
  | nil => intro v; exact Nat.le_refl _
  | cons c r ih => intro v; rw [List.foldl_cons]; exact Nat.le_trans (by omega) (ih _)
theorem valD_pos {l : List Int} (h : l.getD 0 0 ≠ 48) (hd : ∀ z ∈ l, 48 ≤ z ∧ z ≤ 57) (h0 : l ≠ []) : 0 < valD l := by
  rcases l with _ | ⟨c, r⟩
  · exact absurd rfl h0
  · have h1 := foldl_ge r (10 * 0 + (c - 48).toNat)
    have h2 := hd c (by simp)
    have h3 : c ≠ 48 := h
    unfold valD
    rw [List.foldl_cons]
    omega
theorem valD_lt (l : List Int) (hd : ∀ z ∈ l, 48 ≤ z ∧ z ≤ 57) : valD l < 10 ^ l.length := by
  rw [← List.reverse_reverse l] at hd ⊢
  generalize l.reverse = m at *
  induction m with
  | nil => simp [valD]
  | cons c r ih =>
    rw [List.reverse_cons, valD_snoc, List.length_append]
    have h1 := ih (fun z hz => hd z (by rw [List.reverse_cons]; exact List.mem_append_left _ hz))
    have h2 := hd c (by simp)
    simp only [List.length_cons, List.length_nil, Nat.zero_add, Nat.pow_succ]
    omega
theorem digL_valD (m : List Int) : ∀ l : List Int, l = m.reverse → (∀ z ∈ l, 48 ≤ z ∧ z ≤ 57) → l ≠ [] → (l.getD 0 0 ≠ 48 ∨ l.length = 1) → digL (valD l) = l := by
  induction m with
  | nil => intro l hl _ h0; exact absurd hl h0
  | cons c r ih =>
    intro l hl hd h0 hh
    rw [List.reverse_cons] at hl
    subst hl
    have hc := hd c (by simp)
    rw [valD_snoc, digL_step]
    by_cases hr : r.reverse = []
    · rw [hr]
      have : valD [] = 0 := rfl
      rw [if_pos (by omega), this]
      simp only [List.nil_append, List.cons.injEq, and_true]
      omega
    · have hdr : ∀ z ∈ r.reverse, 48 ≤ z ∧ z ≤ 57 := fun z hz => hd z (List.mem_append_left _ hz)
      have hg : (r.reverse ++ [c]).getD 0 0 = r.reverse.getD 0 0 := by
        rcases hrr : r.reverse with _ | ⟨x, y⟩
        · exact absurd hrr hr
        · simp
      have hne : r.reverse.getD 0 0 ≠ 48 := by
        rcases hh with hh | hh
        · rwa [hg] at hh
        · have : r.reverse.length = 0 := by rw [List.length_append] at hh; simpa using hh
          exact absurd (List.eq_nil_of_length_eq_zero this) hr
      have hp := valD_pos hne hdr hr
      rw [if_neg (by omega), show (10 * valD r.reverse + (c - 48).toNat) / 10 = valD r.reverse by omega, ih _ rfl hdr hr (.inl hne)]
      congr 2
      omega
def badN (l : List Int) (neg : Bool) : Bool := decide (l = [] ∨ 19 < l.length ∨ (l.getD 0 0 = 48 ∧ (1 < l.length ∨ neg = true)))
def readU (l : List Int) (neg : Bool) : Option Int :=
  if badN l neg = true then none else if l.all isDig = false then none
  else if neg then (if valD l ≤ 9223372036854775808 then some (-(valD l : Int)) else none) else (if valD l < 9223372036854775808 then some (valD l : Int) else none)
def readN (l : List Int) : Option Int := if l.getD 0 0 = 45 then readU (l.drop 1) true else readU l false
theorem all_dig {l : List Int} : l.all isDig = true ↔ ∀ z ∈ l, 48 ≤ z ∧ z ≤ 57 := by
  rw [List.all_eq_true]
  exact ⟨fun h z hz => of_decide_eq_true (h z hz), fun h z hz => decide_eq_true (h z hz)⟩
theorem readU_dig {n : Nat} {neg : Bool} (h : n < 10 ^ 19) (h0 : neg = true → n ≠ 0) : badN (digL n) neg = false ∧ (digL n).all isDig = true := by
  refine ⟨decide_eq_false (fun hb => ?_), all_dig.2 (digL_dig n)⟩
  have h1 := digL_ne n
  have h2 := digL_len n h
  rcases hb with hb | hb | ⟨hb, hc⟩
  · exact h1 hb
  · omega
  · by_cases hn : n = 0
    · subst hn
      rw [digL_zero] at hc
      rcases hc with hc | hc
      · simp at hc
      · exact h0 hc rfl
    · exact digL_head n hn hb
theorem getD_dig (n : Nat) : (digL n).getD 0 0 ≠ 45 := by
  rcases hd : digL n with _ | ⟨c, r⟩
  · exact absurd hd (digL_ne n)
  · have := digL_dig n c (by rw [hd]; simp)
    simp only [List.getD_cons_zero]; omega
/-- A number's digits are read as it. -/
theorem read_num {n : Int} (h1 : -9223372036854775808 ≤ n) (h2 : n < 9223372036854775808) : readN (numD n) = some n := by
  have hb : n.natAbs < 10 ^ 19 := by omega
  unfold readN numD
  by_cases hn : n < 0
  · rw [if_pos hn]
    simp only [List.getD_cons_zero, List.drop_succ_cons, List.drop_zero, if_true]
    obtain ⟨h3, h4⟩ := readU_dig (neg := true) hb (fun _ => by omega)
    unfold readU
    rw [if_neg (by rw [h3]; decide), if_neg (by rw [h4]; decide), if_pos rfl, valD_digL, if_pos (by omega)]
    congr 1; omega
  · rw [if_neg hn, if_neg (getD_dig _)]
    obtain ⟨h3, h4⟩ := readU_dig (neg := false) hb (fun e => by cases e)
    unfold readU
    rw [if_neg (by rw [h3]; decide), if_neg (by rw [h4]; decide), if_neg (by decide), valD_digL, if_pos (by omega)]
    congr 1; omega
theorem readU_some {l : List Int} {neg : Bool} {y : Int} (h : readU l neg = some y) : l ≠ [] ∧ (∀ z ∈ l, 48 ≤ z ∧ z ≤ 57) ∧ (l.getD 0 0 ≠ 48 ∨ l.length = 1) ∧ (neg = true → l.getD 0 0 ≠ 48) ∧ (neg = true → valD l ≤ 9223372036854775808 ∧ y = -(valD l : Int)) ∧ (neg = false → valD l < 9223372036854775808 ∧ y = valD l) := by
  unfold readU at h
  by_cases hb : badN l neg = true
  · rw [if_pos hb] at h; cases h
  rw [if_neg hb] at h
  have hb2 : ¬ (l = [] ∨ 19 < l.length ∨ (l.getD 0 0 = 48 ∧ (1 < l.length ∨ neg = true))) := fun e => hb (decide_eq_true e)
  by_cases ha : l.all isDig = false
  · rw [if_pos ha] at h; cases h
  rw [if_neg ha] at h
  have h0 : l ≠ [] := fun e => hb2 (.inl e)
  have hl : 0 < l.length := List.length_pos_iff.2 h0
  refine ⟨h0, all_dig.1 (by simpa using ha), ?_, fun e hc => hb2 (.inr (.inr ⟨hc, .inr e⟩)), fun e => ?_, fun e => ?_⟩
  · by_cases hc : l.getD 0 0 = 48
    · right
      have : ¬ 1 < l.length := fun hx => hb2 (.inr (.inr ⟨hc, .inl hx⟩))
      omega
    · exact .inl hc
  · subst e
    rw [if_pos rfl] at h
    by_cases hv : valD l ≤ 9223372036854775808
    · rw [if_pos hv] at h; exact ⟨hv, (Option.some.inj h).symm⟩
    · rw [if_neg hv] at h; cases h
  · subst e
    rw [if_neg (by decide)] at h
    by_cases hv : valD l < 9223372036854775808
    · rw [if_pos hv] at h; exact ⟨hv, (Option.some.inj h).symm⟩
    · rw [if_neg hv] at h; cases h
/-- What is read has just these digits. -/
theorem num_read {l : List Int} {y : Int} (h : readN l = some y) : numD y = l ∧ -9223372036854775808 ≤ y ∧ y < 9223372036854775808 := by
  unfold readN at h
  by_cases hc : l.getD 0 0 = 45
  · rw [if_pos hc] at h
    obtain ⟨h0, hd, hh, hne, hv, -⟩ := readU_some h
    obtain ⟨hv1, rfl⟩ := hv rfl
    have hp := valD_pos (hne rfl) hd h0
    have hdl := digL_valD _ _ (List.reverse_reverse _).symm hd h0 hh
    unfold numD
    rw [if_pos (by omega), Int.natAbs_neg, Int.natAbs_natCast, hdl]
    refine ⟨?_, by omega, by omega⟩
    rcases l with _ | ⟨c, r⟩
    · simp at hc
    · simp only [List.getD_cons_zero] at hc
      rw [hc]; rfl
  · rw [if_neg hc] at h
    obtain ⟨h0, hd, hh, -, -, hv⟩ := readU_some h
    obtain ⟨hv1, rfl⟩ := hv rfl
    have hdl := digL_valD _ _ (List.reverse_reverse _).symm hd h0 hh
    unfold numD
    rw [if_neg (by omega), Int.natAbs_natCast, hdl]
    exact ⟨rfl, by omega, by omega⟩
end Go.Proofs.YtflpblggpbgeiaaDoor

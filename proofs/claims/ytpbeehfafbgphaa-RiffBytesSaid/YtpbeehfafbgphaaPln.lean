/- Plain: chunks as bytes, and bytes as chunks. No program in sight. -/
import Derived.Test.YtpbeehfafbgphaaCommon
namespace Go.Proofs.Ytpbeehfafbgphaa
open Go Go.RowKit Go.Calli
set_option linter.unusedVariables false
/-- A chunk: its name's bytes, and its data. -/
structure Ch where
  nm : List Int
  dt : List Int
def c0 : Ch := ⟨[], []⟩
def lowL : Nat → Int → List Int
  | 0, _ => []
  | k + 1, v => v % 256 :: lowL k (v / 256)
def numL : List Int → Int
  | [] => 0
  | b :: r => b + 256 * numL r
def Byt (l : List Int) : Prop := ∀ z ∈ l, 0 ≤ z ∧ z < 256
theorem lowL_len (k : Nat) : ∀ v, (lowL k v).length = k := by
  induction k with
  | zero => intro v; rfl
  | succ k ih => intro v; simp [lowL, ih]
theorem lowL_byt (k : Nat) : ∀ v, Byt (lowL k v) := by
  induction k with
  | zero => intro v z hz; simp [lowL] at hz
  | succ k ih =>
    intro v z hz
    simp only [lowL, List.mem_cons] at hz
    rcases hz with rfl | hz
    · omega
    · exact ih _ z hz
theorem numL_nonneg {l : List Int} (h : Byt l) : 0 ≤ numL l ∧ numL l < 256 ^ l.length := by
  induction l with
  | nil => simp [numL]
  | cons b r ih =>
    have hb := h b (by simp)
    have hr := ih (fun z hz => h z (by simp [hz]))
    simp only [numL, List.length_cons]
    have e : (256 : Int) ^ (r.length + 1) = 256 ^ r.length * 256 := by rw [Int.pow_succ]
    rw [e]; omega
theorem numL_lt {l : List Int} (h : Byt l) {k : Nat} (hk : l.length ≤ k) : 0 ≤ numL l ∧ numL l < 256 ^ k := by
  have h1 := numL_nonneg h
  have h2 : ((256 ^ l.length : Nat) : Int) ≤ ((256 ^ k : Nat) : Int) := Int.ofNat_le.2 (Nat.pow_le_pow_right (by decide) hk)
  rw [Int.natCast_pow, Int.natCast_pow] at h2
  exact ⟨h1.1, Int.lt_of_lt_of_le h1.2 h2⟩
theorem low_num {l : List Int} (h : Byt l) : lowL l.length (numL l) = l := by
  induction l with
  | nil => rfl
  | cons b r ih =>
    have hb := h b (by simp)
    simp only [numL, List.length_cons, lowL]
    rw [show (b + 256 * numL r) % 256 = b by omega, show (b + 256 * numL r) / 256 = numL r by omega, ih (fun z hz => h z (by simp [hz]))]
theorem num_low (k : Nat) : ∀ v : Int, 0 ≤ v → v < 256 ^ k → numL (lowL k v) = v := by
  induction k with
  | zero => intro v h0 h1; simp at h1; simp [lowL, numL]; omega
  | succ k ih =>
    intro v h0 h1
    rw [Int.pow_succ] at h1
    simp only [lowL, numL]
    rw [ih (v / 256) (by omega) (by omega)]
    omega
def name4 (nm : List Int) : List Int := (nm ++ [32, 32, 32, 32]).take 4
theorem name4_len (nm : List Int) : (name4 nm).length = 4 := by unfold name4; rw [List.length_take]; simp
theorem name4_self {nm : List Int} (h : nm.length = 4) : name4 nm = nm := by unfold name4; rw [List.take_append_of_le_length (by omega), List.take_of_length_le (by omega)]
def padL (n : Nat) : List Int := if n % 2 = 1 then [0] else []
def encC (c : Ch) : List Int := name4 c.nm ++ (lowL 4 c.dt.length ++ (c.dt ++ padL c.dt.length))
def joinL (l : List Ch) : List Int := l.flatMap encC
theorem joinL_snoc (l : List Ch) (c : Ch) : joinL (l ++ [c]) = joinL l ++ encC c := by simp [joinL]
/-- How many bytes the data of what comes next has. -/
def nxt (b : List Int) : Int := numL ((b.drop 4).take 4)
/-- Bytes as chunks; the fuel is their count. -/
def splitL : Nat → List Int → Int × List Ch
  | 0, _ => (0, [])
  | f + 1, b =>
    if b = [] then (0, []) else if b.length < 8 then (2, []) else if nxt b > b.length - 8 then (2, []) else
    if (nxt b).toNat % 2 = 1 then
      match b.drop (8 + (nxt b).toNat) with
      | [] => (2, [])
      | x :: r => if x = 0 then ((splitL f r).1, ⟨b.take 4, (b.drop 8).take (nxt b).toNat⟩ :: (splitL f r).2) else (4, [])
    else ((splitL f (b.drop (8 + (nxt b).toNat))).1, ⟨b.take 4, (b.drop 8).take (nxt b).toNat⟩ :: (splitL f (b.drop (8 + (nxt b).toNat))).2)
theorem splitL_nil (f : Nat) : splitL f [] = (0, []) := by cases f <;> simp [splitL]
theorem encC_len (c : Ch) : (encC c).length = 8 + c.dt.length + (padL c.dt.length).length := by
  unfold encC; simp [name4_len, lowL_len]; omega
theorem padL_len (n : Nat) : (padL n).length = n % 2 := by unfold padL; split <;> simp <;> omega
/-- What the next chunk is, of bytes that begin with one. -/
theorem enc_parts (c : Ch) (r : List Int) (hc : (c.dt.length : Int) < 4294967296) : nxt (encC c ++ r) = c.dt.length ∧ (encC c ++ r).take 4 = name4 c.nm ∧ ((encC c ++ r).drop 8).take c.dt.length = c.dt ∧ (encC c ++ r).drop (8 + c.dt.length) = padL c.dt.length ++ r := by
  have h4 := name4_len c.nm
  have hl := lowL_len 4 c.dt.length
  have e : encC c ++ r = name4 c.nm ++ (lowL 4 c.dt.length ++ (c.dt ++ (padL c.dt.length ++ r))) := by unfold encC; simp
  have e4 : (encC c ++ r).drop 4 = lowL 4 c.dt.length ++ (c.dt ++ (padL c.dt.length ++ r)) := by rw [e, List.drop_left' h4]
  have e8 : (encC c ++ r).drop 8 = c.dt ++ (padL c.dt.length ++ r) := by rw [show (8 : Nat) = 4 + 4 from rfl, ← List.drop_drop, e4, List.drop_left' hl]
  refine ⟨?_, ?_, ?_, ?_⟩
  · unfold nxt; rw [e4, List.take_left' hl, num_low 4 _ (by omega) (by simpa using hc)]
  · rw [e, List.take_left' h4]
  · rw [e8, List.take_left' rfl]
  · rw [← List.drop_drop, e8, List.drop_left' rfl]
theorem split_join (l : List Ch) : ∀ f, (joinL l).length ≤ f → (∀ c ∈ l, (c.dt.length : Int) < 4294967296) → splitL f (joinL l) = (0, l.map fun c => ⟨name4 c.nm, c.dt⟩) := by
  induction l with
  | nil => intro f _ _; exact splitL_nil f
  | cons c l ih =>
    intro f hf hl
    have hc := hl c (by simp)
    have e : joinL (c :: l) = encC c ++ joinL l := by simp [joinL]
    have hlen := encC_len c
    rw [e] at hf ⊢
    obtain ⟨h1, h2, h3, h4⟩ := enc_parts c (joinL l) hc
    rw [List.length_append] at hf
    obtain ⟨f, rfl⟩ : ∃ g, f = g + 1 := ⟨f - 1, by omega⟩
    have ih' := ih f (by omega) (fun c hc => hl c (by simp [hc]))
    have hne : encC c ++ joinL l ≠ [] := by
      intro h; have := congrArg List.length h; rw [List.length_append, List.length_nil] at this; omega
    have hlc : (encC c ++ joinL l).length = (encC c).length + (joinL l).length := List.length_append
    unfold splitL
    rw [if_neg hne, if_neg (by omega), if_neg (by rw [h1]; omega), h1]
    simp only [Int.toNat_natCast]
    rw [h2, h3, h4]
    by_cases hp : c.dt.length % 2 = 1
    · rw [if_pos hp]
      have hpl : padL c.dt.length = [0] := by unfold padL; rw [if_pos hp]
      simp only [hpl, List.cons_append, List.nil_append, if_pos, ih', List.map_cons]
    · rw [if_neg hp]
      have hpl : padL c.dt.length = [] := by unfold padL; rw [if_neg hp]
      simp only [hpl, List.nil_append, ih', List.map_cons]
theorem Byt.drop {l : List Int} (h : Byt l) (k : Nat) : Byt (l.drop k) := fun z hz => h z (List.mem_of_mem_drop hz)
theorem Byt.take {l : List Int} (h : Byt l) (k : Nat) : Byt (l.take k) := fun z hz => h z (List.mem_of_mem_take hz)
/-- Bytes are what their first chunk has, and what is left. -/
theorem chunk_back {b : List Int} (hb : Byt b) (h8 : 8 ≤ b.length) (hn : nxt b ≤ b.length - 8) :
    name4 (b.take 4) ++ (lowL 4 ((b.drop 8).take (nxt b).toNat).length ++ ((b.drop 8).take (nxt b).toNat ++ b.drop (8 + (nxt b).toNat))) = b := by
  have hl4 : ((b.drop 4).take 4).length = 4 := by simp; omega
  have h0 := numL_nonneg ((hb.drop 4).take 4)
  have h0' : 0 ≤ nxt b := h0.1
  have hlen : ((b.drop 8).take (nxt b).toNat).length = (nxt b).toNat := by rw [List.length_take, List.length_drop]; omega
  rw [hlen, name4_self (by simp; omega), show (((nxt b).toNat : Nat) : Int) = nxt b by omega]
  have hlow : lowL 4 (nxt b) = (b.drop 4).take 4 := by
    have := low_num ((hb.drop 4).take 4)
    rw [hl4] at this; exact this
  rw [hlow, ← List.drop_drop, List.take_append_drop]
  have e : b.drop 8 = (b.drop 4).drop 4 := by rw [List.drop_drop]
  rw [e, List.take_append_drop, List.take_append_drop]
theorem join_split : ∀ (f : Nat) (b : List Int) (l : List Ch), b.length ≤ f → Byt b → splitL f b = (0, l) → joinL l = b ∧ ∀ c ∈ l, c.nm.length = 4 ∧ c.dt.length ≤ b.length ∧ Byt c.nm ∧ Byt c.dt := by
  intro f
  induction f with
  | zero =>
    intro b l hf hb h
    have : b = [] := List.eq_nil_of_length_eq_zero (by omega)
    subst this
    simp [splitL] at h; subst h
    exact ⟨rfl, fun c hc => by simp at hc⟩
  | succ f ih =>
    intro b l hf hb h
    unfold splitL at h
    by_cases h0 : b = []
    · subst h0
      simp at h; subst h
      exact ⟨rfl, fun c hc => by simp at hc⟩
    rw [if_neg h0] at h
    by_cases h8 : b.length < 8
    · rw [if_pos h8] at h; simp at h
    rw [if_neg h8] at h
    by_cases hn : nxt b > b.length - 8
    · rw [if_pos hn] at h; simp at h
    rw [if_neg hn] at h
    have hbk := chunk_back hb (by omega) (by omega)
    have h0' : 0 ≤ nxt b := (numL_nonneg ((hb.drop 4).take 4)).1
    have hlen : ((b.drop 8).take (nxt b).toNat).length = (nxt b).toNat := by rw [List.length_take, List.length_drop]; omega
    by_cases hp : (nxt b).toNat % 2 = 1
    · rw [if_pos hp] at h
      rcases hd : b.drop (8 + (nxt b).toNat) with _ | ⟨x, r⟩
      · rw [hd] at h; simp at h
      · rw [hd] at h
        simp only at h
        have hrl : r.length + 1 + 8 ≤ b.length := by
          have := congrArg List.length hd
          simp only [List.length_drop, List.length_cons] at this; omega
        by_cases hx : x = 0
        · subst hx
          rw [if_pos rfl] at h
          rcases hs : splitL f r with ⟨E, l'⟩
          rw [hs] at h
          simp only [Prod.mk.injEq] at h
          obtain ⟨rfl, rfl⟩ := h
          have hbr : Byt r := fun z hz => hb z (List.mem_of_mem_drop (by rw [hd]; simp [hz]))
          obtain ⟨i1, i2⟩ := ih r l' (by omega) hbr hs
          refine ⟨?_, fun c hc => ?_⟩
          · show encC _ ++ joinL l' = b
            rw [i1]
            conv => rhs; rw [← hbk, hd]
            unfold encC padL
            rw [if_pos (by rw [hlen]; exact hp)]
            simp
          · rcases List.mem_cons.1 hc with rfl | hc
            · exact ⟨by simp; omega, by simp only; rw [hlen]; omega, hb.take 4, (hb.drop 8).take _⟩
            · have := i2 c hc
              exact ⟨this.1, by omega, this.2.2⟩
        · rw [if_neg hx] at h; simp at h
    · rw [if_neg hp] at h
      rcases hs : splitL f (b.drop (8 + (nxt b).toNat)) with ⟨E, l'⟩
      rw [hs] at h
      simp only [Prod.mk.injEq] at h
      obtain ⟨rfl, rfl⟩ := h
      obtain ⟨i1, i2⟩ := ih _ l' (by rw [List.length_drop]; omega) (hb.drop _) hs
      refine ⟨?_, fun c hc => ?_⟩
      · show encC _ ++ joinL l' = b
        rw [i1]
        conv => rhs; rw [← hbk]
        unfold encC padL
        rw [if_neg (by rw [hlen]; exact hp)]
        simp
      · rcases List.mem_cons.1 hc with rfl | hc
        · exact ⟨by simp; omega, by simp only; rw [hlen]; omega, hb.take 4, (hb.drop 8).take _⟩
        · have := i2 c hc
          rw [List.length_drop] at this
          exact ⟨this.1, by omega, this.2.2⟩
end Go.Proofs.Ytpbeehfafbgphaa

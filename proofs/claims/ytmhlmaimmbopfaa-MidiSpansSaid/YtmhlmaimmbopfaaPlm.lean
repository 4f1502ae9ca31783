/- Plain law of layer 37: messages as bytes, and bytes as messages. No program in sight. -/
import Derived.Test.YtmhlmaimmbopfaaMid
namespace Go.Proofs.Ytmhlmaimmbopfaa
open Go Go.RowKit Go.Calli
set_option linter.unusedVariables false
/-- A message. -/
structure Msg where
  t : Int
  k : Int
  c : Int
  a : Int
  b : Int
def Msg.ok (m : Msg) : Bool := rightB m.t m.k m.c m.a m.b
def m0 : Msg := ⟨0, 0, 0, 0, 0⟩
/-- A message's bytes. -/
def enc (t s : Int) (m : Msg) : List Int := numL (m.t - t).toNat ++ (if m.k + m.c = s then [] else [m.k + m.c]) ++ m.a :: (if twoB m.k = true then [m.b] else [])
/-- What has been told when so many messages are written. -/
def tm (l : List Msg) : Nat → Int
  | 0 => 0
  | k + 1 => (l.getD k m0).t
def ss (l : List Msg) : Nat → Int
  | 0 => 0
  | k + 1 => (l.getD k m0).k + (l.getD k m0).c
def out (l : List Msg) : Nat → List Int
  | 0 => []
  | k + 1 => out l k ++ enc (tm l k) (ss l k) (l.getD k m0)
/-- So many messages may be, in order. -/
def Good (l : List Msg) (k : Nat) : Prop := ∀ i, i < k → (l.getD i m0).ok = true ∧ tm l i ≤ (l.getD i m0).t
theorem ok_iff (m : Msg) : m.ok = true ↔ (twoB m.k = true ∨ (m.k = 192 ∧ m.b = 0)) ∧ 0 ≤ m.t ∧ m.t ≤ 268435455 ∧ 0 ≤ m.c ∧ m.c ≤ 15 ∧ 0 ≤ m.a ∧ m.a ≤ 127 ∧ 0 ≤ m.b ∧ m.b ≤ 127 := decide_eq_true_iff
theorem two_iff (k : Int) : twoB k = true ↔ (k = 128 ∨ k = 144 ∨ k = 176 ∨ k = 224) := decide_eq_true_iff
theorem kind_of {m : Msg} (h : m.ok = true) : m.k = 128 ∨ m.k = 144 ∨ m.k = 176 ∨ m.k = 192 ∨ m.k = 224 := by
  rcases ((ok_iff m).1 h).1 with h | h
  · have := (two_iff _).1 h; omega
  · omega
/-- A number, read: an error or none, the number, and what is left. -/
def rdN : Nat → Nat → List Int → Int × Nat × List Int
  | _, _, [] => (2, 0, [])
  | i, v, c :: r => if (i = 0 ∧ c = 128) ∨ 3 < i then (4, 0, r) else if c < 128 then (0, v * 128 + (c % 128).toNat, r) else rdN (i + 1) (v * 128 + (c % 128).toNat) r
/-- A kind and a channel, where they stand. -/
def rdS (s : Int) : List Int → Int × Int × List Int
  | [] => (0, s, [])
  | c :: r => if 128 ≤ c then (if c = s then 4 else 0, c, r) else (0, s, c :: r)
/-- A number of seven bits. -/
def rd7 : List Int → Int × Int × List Int
  | [] => (2, 0, [])
  | c :: r => if 127 < c then (4, 0, r) else (0, c, r)
/-- The numbers behind a kind. -/
def rdT (t s : Int) (L : List Int) : Int × Msg × List Int :=
  if twoB (s / 16 * 16) = false ∧ s / 16 * 16 ≠ 192 then (4, m0, [])
  else if (rd7 L).1 ≠ 0 then ((rd7 L).1, m0, [])
  else if twoB (s / 16 * 16) = true then
    (if (rd7 (rd7 L).2.2).1 ≠ 0 then ((rd7 (rd7 L).2.2).1, m0, []) else (0, ⟨t, s / 16 * 16, s % 16, (rd7 L).2.1, (rd7 (rd7 L).2.2).2.1⟩, (rd7 (rd7 L).2.2).2.2))
  else (0, ⟨t, s / 16 * 16, s % 16, (rd7 L).2.1, 0⟩, (rd7 L).2.2)
/-- A message, read. -/
def rdM (t s : Int) (L : List Int) : Int × Msg × List Int :=
  if (rdN 0 0 L).1 ≠ 0 then ((rdN 0 0 L).1, m0, [])
  else if 268435455 < t + ((rdN 0 0 L).2.1 : Int) then (5, m0, [])
  else if (rdS s (rdN 0 0 L).2.2).1 ≠ 0 then (4, m0, [])
  else rdT (t + ((rdN 0 0 L).2.1 : Int)) (rdS s (rdN 0 0 L).2.2).2.1 (rdS s (rdN 0 0 L).2.2).2.2
theorem numL1 (v : Nat) (h : v < 128) : numL v = [(v : Int)] := by
  have h1 : v / 128 = 0 := by omega
  have h2 : v % 128 = v := by omega
  simp [numL, h1, h2, ext]
theorem numL2 (v : Nat) (h1 : 128 ≤ v) (h : v < 16384) : numL v = [((v / 128 + 128 : Nat) : Int), ((v % 128 : Nat) : Int)] := by
  have e1 : v / 128 ≠ 0 := by omega
  have e2 : v / 128 / 128 = 0 := by omega
  have e3 : v / 128 % 128 = v / 128 := by omega
  simp only [numL, ext, e1, if_false, e2, if_true, e3, List.nil_append, List.cons_append]
theorem numL3 (v : Nat) (h1 : 16384 ≤ v) (h : v < 2097152) : numL v = [((v / 16384 + 128 : Nat) : Int), ((v / 128 % 128 + 128 : Nat) : Int), ((v % 128 : Nat) : Int)] := by
  have e1 : v / 128 ≠ 0 := by omega
  have e2 : v / 128 / 128 ≠ 0 := by omega
  have e4 : v / 128 / 128 / 128 = 0 := by omega
  have e3 : v / 128 / 128 % 128 = v / 16384 := by omega
  simp only [numL, ext, e1, if_false, e2, if_true, e3, e4, List.nil_append, List.cons_append]
theorem numL4 (v : Nat) (h1 : 2097152 ≤ v) (h : v < 268435456) : numL v = [((v / 2097152 + 128 : Nat) : Int), ((v / 16384 % 128 + 128 : Nat) : Int), ((v / 128 % 128 + 128 : Nat) : Int), ((v % 128 : Nat) : Int)] := by
  have e1 : v / 128 ≠ 0 := by omega
  have e2 : v / 128 / 128 ≠ 0 := by omega
  have e4 : v / 128 / 128 / 128 ≠ 0 := by omega
  have e5 : v / 128 / 128 / 128 / 128 = 0 := by omega
  have e3 : v / 128 / 128 % 128 = v / 16384 % 128 := by omega
  have e6 : v / 128 / 128 / 128 % 128 = v / 2097152 := by omega
  simp only [numL, ext, e1, if_false, e2, if_true, e3, e4, e5, e6, List.nil_append, List.cons_append]
theorem rdN_more (i v : Nat) (c : Int) (r : List Int) (h : ¬ ((i = 0 ∧ c = 128) ∨ 3 < i)) (h2 : ¬ c < 128) : rdN i v (c :: r) = rdN (i + 1) (v * 128 + (c % 128).toNat) r := by
  rw [rdN, if_neg h, if_neg h2]
theorem rdN_last (i v : Nat) (c : Int) (r : List Int) (h : ¬ ((i = 0 ∧ c = 128) ∨ 3 < i)) (h2 : c < 128) : rdN i v (c :: r) = (0, v * 128 + (c % 128).toNat, r) := by
  rw [rdN, if_neg h, if_pos h2]
theorem got_eq {a b : Nat} {R : List Int} (h : a = b) : ((0 : Int), a, R) = (0, b, R) := by rw [h]
theorem rdN_num (v : Nat) (h : v ≤ 268435455) (R : List Int) : rdN 0 0 (numL v ++ R) = (0, v, R) := by
  by_cases h1 : v < 128
  · rw [numL1 v h1]
    show rdN 0 0 ((v : Int) :: R) = _
    rw [rdN_last _ _ _ _ (by omega) (by omega)]
    exact got_eq (by omega)
  · by_cases h2 : v < 16384
    · rw [numL2 v (by omega) h2]
      show rdN 0 0 (((v / 128 + 128 : Nat) : Int) :: ((v % 128 : Nat) : Int) :: R) = _
      rw [rdN_more _ _ _ _ (by omega) (by omega), rdN_last _ _ _ _ (by omega) (by omega)]
      exact got_eq (by omega)
    · by_cases h3 : v < 2097152
      · rw [numL3 v (by omega) h3]
        show rdN 0 0 (((v / 16384 + 128 : Nat) : Int) :: ((v / 128 % 128 + 128 : Nat) : Int) :: ((v % 128 : Nat) : Int) :: R) = _
        rw [rdN_more _ _ _ _ (by omega) (by omega), rdN_more _ _ _ _ (by omega) (by omega), rdN_last _ _ _ _ (by omega) (by omega)]
        exact got_eq (by omega)
      · rw [numL4 v (by omega) (by omega)]
        show rdN 0 0 (((v / 2097152 + 128 : Nat) : Int) :: ((v / 16384 % 128 + 128 : Nat) : Int) :: ((v / 128 % 128 + 128 : Nat) : Int) :: ((v % 128 : Nat) : Int) :: R) = _
        rw [rdN_more _ _ _ _ (by omega) (by omega), rdN_more _ _ _ _ (by omega) (by omega), rdN_more _ _ _ _ (by omega) (by omega), rdN_last _ _ _ _ (by omega) (by omega)]
        exact got_eq (by omega)
def Bytes8 (L : List Int) : Prop := ∀ z ∈ L, 0 ≤ z ∧ z < 256
theorem rdN_err (L : List Int) : ∀ i v, (rdN i v L).1 = 0 ∨ (rdN i v L).1 = 2 ∨ (rdN i v L).1 = 4 := by
  induction L with
  | nil => intro i v; simp [rdN]
  | cons c r ih =>
    intro i v
    unfold rdN
    split
    · simp
    · split
      · simp
      · exact ih _ _
theorem num_back (L : List Int) (v : Nat) (R : List Int) (hL : Bytes8 L) (h : rdN 0 0 L = (0, v, R)) : v ≤ 268435455 ∧ L = numL v ++ R := by
  match L, hL, h with
  | [], _, h => simp [rdN] at h
  | c0 :: L1, hL, h =>
    have b0 := hL c0 (by simp)
    unfold rdN at h
    by_cases e0 : c0 = 128
    · rw [if_pos (by omega)] at h; simp at h
    · rw [if_neg (by omega)] at h
      by_cases l0 : c0 < 128
      · rw [if_pos l0] at h
        simp only [Prod.mk.injEq, true_and] at h
        obtain ⟨hv, rfl⟩ := h
        have hv2 : (v : Int) = c0 := by omega
        refine ⟨by omega, ?_⟩
        rw [numL1 v (by omega)]
        simp [hv2]
      · rw [if_neg l0] at h
        match L1, hL, h with
        | [], _, h => simp [rdN] at h
        | c1 :: L2, hL, h =>
          have b1 := hL c1 (by simp)
          unfold rdN at h
          rw [if_neg (by omega)] at h
          by_cases l1 : c1 < 128
          · rw [if_pos l1] at h
            simp only [Prod.mk.injEq, true_and] at h
            obtain ⟨hv, rfl⟩ := h
            refine ⟨by omega, ?_⟩
            rw [numL2 v (by omega) (by omega)]
            simp only [List.cons_append, List.nil_append, List.cons.injEq, and_true]
            omega
          · rw [if_neg l1] at h
            match L2, hL, h with
            | [], _, h => simp [rdN] at h
            | c2 :: L3, hL, h =>
              have b2 := hL c2 (by simp)
              unfold rdN at h
              rw [if_neg (by omega)] at h
              by_cases l2 : c2 < 128
              · rw [if_pos l2] at h
                simp only [Prod.mk.injEq, true_and] at h
                obtain ⟨hv, rfl⟩ := h
                refine ⟨by omega, ?_⟩
                rw [numL3 v (by omega) (by omega)]
                simp only [List.cons_append, List.nil_append, List.cons.injEq, and_true]
                omega
              · rw [if_neg l2] at h
                match L3, hL, h with
                | [], _, h => simp [rdN] at h
                | c3 :: L4, hL, h =>
                  have b3 := hL c3 (by simp)
                  unfold rdN at h
                  rw [if_neg (by omega)] at h
                  by_cases l3 : c3 < 128
                  · rw [if_pos l3] at h
                    simp only [Prod.mk.injEq, true_and] at h
                    obtain ⟨hv, rfl⟩ := h
                    refine ⟨by omega, ?_⟩
                    rw [numL4 v (by omega) (by omega)]
                    simp only [List.cons_append, List.nil_append, List.cons.injEq, and_true]
                    omega
                  · rw [if_neg l3] at h
                    match L4, h with
                    | [], h => simp [rdN] at h
                    | c4 :: L5, h =>
                      unfold rdN at h
                      rw [if_pos (by omega)] at h
                      simp at h
end Go.Proofs.Ytmhlmaimmbopfaa

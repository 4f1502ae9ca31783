/- Plain: a sample as a file, and a file as a sample. No program in sight. -/
import Derived.Test.YtpbeehfafbgphaaPln
import Derived.Test.YtpbeehfafbgphaaRec
namespace Go.Proofs.Ytpbeehfafbgphaa
open Go Go.RowKit Go.Calli
set_option linter.unusedVariables false
set_option linter.unusedSimpArgs false
theorem flatG {α β : Type} (f : α → List β) (size : Nat) (hf : ∀ x, (f x).length = size) (d : α) (ms : List α) : ∀ (i j : Nat), i < ms.length → j < size → (ms.flatMap f)[i * size + j]? = (f (ms.getD i d))[j]? := by
  induction ms with
  | nil => intro i j hi; simp at hi
  | cons m r ih =>
    intro i j hi hj
    have hl := hf m
    rw [List.flatMap_cons]
    cases i with
    | zero =>
      rw [Nat.zero_mul, Nat.zero_add, List.getElem?_append_left (by omega)]
      simp
    | succ i =>
      have e : (i + 1) * size = i * size + size := Nat.succ_mul i size
      rw [List.getElem?_append_right (by omega), hl, show (i + 1) * size + j - size = i * size + j by omega, ih i j (by simpa using hi) hj]
      simp
theorem lenG {α β : Type} (f : α → List β) (size : Nat) (hf : ∀ x, (f x).length = size) (ms : List α) : (ms.flatMap f).length = ms.length * size := by
  induction ms with
  | nil => simp
  | cons m r ih => rw [List.flatMap_cons, List.length_append, ih, hf, List.length_cons, Nat.succ_mul]; omega
structure Sm where
  nm : List Int
  rate : Int
  lp : Bool
  a : Int
  b : Int
  d : List (List Int)
def s0 : Sm := ⟨[], 0, false, 0, 0, []⟩
def nmOk (nm : List Int) : Bool := decide (1 ≤ nm.length ∧ nm.length ≤ 32) && nm.all (fun z => decide (32 < z ∧ z < 127))
def lpOk (is : Bool) (f t n : Int) : Bool := if is then decide (0 ≤ f ∧ f < t ∧ t ≤ n) else decide (f = 0 ∧ t = 0)
def lenS (s : Sm) : Nat := (s.d.getD 0 []).length
def chk (s : Sm) : Int := if nmOk s.nm = false then 10 else if s.rate < 1 ∨ 192000 < s.rate then 14 else if s.d.length < 1 ∨ 2 < s.d.length ∨ lenS s < 1 ∨ 1048576 < lenS s then 12 else if lpOk s.lp s.a s.b (lenS s) = false then 13 else if ¬ (∀ l ∈ s.d, l.length = lenS s) then 12 else if ¬ (∀ l ∈ s.d, ∀ v ∈ l, -32768 ≤ v ∧ v < 32768) then 5 else 0
structure Good (s : Sm) : Prop where
  nm : nmOk s.nm = true
  rate : 1 ≤ s.rate ∧ s.rate ≤ 192000
  n : 1 ≤ s.d.length ∧ s.d.length ≤ 2
  len : 1 ≤ lenS s ∧ lenS s ≤ 1048576
  lp : lpOk s.lp s.a s.b (lenS s) = true
  all : ∀ l ∈ s.d, l.length = lenS s
  v : ∀ l ∈ s.d, ∀ v ∈ l, -32768 ≤ v ∧ v < 32768
theorem chk_zero (s : Sm) : chk s = 0 ↔ Good s := by
  unfold chk
  constructor
  · intro h
    by_cases h1 : nmOk s.nm = false
    · rw [if_pos h1] at h; cases h
    rw [if_neg h1] at h
    by_cases h2 : s.rate < 1 ∨ 192000 < s.rate
    · rw [if_pos h2] at h; cases h
    rw [if_neg h2] at h
    by_cases h3 : s.d.length < 1 ∨ 2 < s.d.length ∨ lenS s < 1 ∨ 1048576 < lenS s
    · rw [if_pos h3] at h; cases h
    rw [if_neg h3] at h
    by_cases h4 : lpOk s.lp s.a s.b (lenS s) = false
    · rw [if_pos h4] at h; cases h
    rw [if_neg h4] at h
    by_cases h5 : ∀ l ∈ s.d, l.length = lenS s
    · rw [if_neg (fun e => e h5)] at h
      by_cases h6 : ∀ l ∈ s.d, ∀ v ∈ l, -32768 ≤ v ∧ v < 32768
      · exact ⟨by simpa using h1, by omega, by omega, by omega, by simpa using h4, h5, h6⟩
      · rw [if_pos h6] at h; cases h
    · rw [if_pos h5] at h; cases h
  · intro h
    rw [if_neg (by rw [h.nm]; decide), if_neg (by have := h.rate; omega), if_neg (by have := h.n; have := h.len; omega), if_neg (by rw [h.lp]; decide), if_neg (fun e => e h.all), if_neg (fun e => e h.v)]
theorem Good.loop {s : Sm} (h : Good s) : 0 ≤ s.a ∧ s.a ≤ 1048576 ∧ 0 ≤ s.b ∧ s.b ≤ 1048576 ∧ (s.lp = false → s.a = 0 ∧ s.b = 0) := by
  have := h.lp
  have hl := h.len
  unfold lpOk at this
  cases hlp : s.lp with
  | true => rw [hlp, if_pos rfl] at this; have := of_decide_eq_true this; exact ⟨by omega, by omega, by omega, by omega, fun e => by cases e⟩
  | false => rw [hlp, if_neg (by decide)] at this; have := of_decide_eq_true this; exact ⟨by omega, by omega, by omega, by omega, fun _ => this⟩
def nRIFF : List Int := [82, 73, 70, 70]
def nWAVE : List Int := [87, 65, 86, 69]
def nFmt : List Int := [102, 109, 116, 32]
def nName : List Int := [110, 97, 109, 101]
def nLoop : List Int := [108, 111, 111, 112]
def nData : List Int := [100, 97, 116, 97]
def fmtL (n : Nat) (rate : Int) : List Int := lowL 2 1 ++ (lowL 2 n ++ (lowL 4 rate ++ (lowL 4 (rate * n * 2) ++ (lowL 2 (n * 2) ++ lowL 2 16))))
def enc2 (x : Int) : List Int := lowL 2 ((x + 65536) % 65536)
def bodyL (rows : List (List Int)) (len : Nat) : List Int := (List.range len).flatMap (fun i => rows.flatMap (fun l => enc2 (l.getD i 0)))
def ringL (a b : Int) : List Int := lowL 4 a ++ lowL 4 b
def chunksL (s : Sm) : List Ch := ⟨nFmt, fmtL s.d.length s.rate⟩ :: ⟨nName, s.nm⟩ :: ((if s.lp then [⟨nLoop, ringL s.a s.b⟩] else []) ++ [⟨nData, bodyL s.d (lenS s)⟩])
def fileL (s : Sm) : List Int := encC ⟨nRIFF, nWAVE ++ joinL (chunksL s)⟩
/-- Reading. -/
def shN (f : List Int) : Int := numL ((f.drop 2).take 2)
def shR (f : List Int) : Int := numL ((f.drop 4).take 4)
def shOk (f : List Int) : Bool := decide (f.length = 16 ∧ numL (f.take 2) = 1 ∧ (shN f = 1 ∨ shN f = 2) ∧ numL ((f.drop 8).take 4) = shR f * shN f * 2 ∧ numL ((f.drop 12).take 2) = shN f * 2 ∧ numL (f.drop 14) = 16)
def sgn (v : Int) : Int := if 32768 ≤ v then v - 65536 else v
def fillL (d : List Int) (n : Nat) : List (List Int) := (List.range n).map (fun k => (List.range (d.length / (2 * n))).map (fun j => sgn (numL ((d.drop (2 * (j * n + k))).take 2))))
/-- The last chunk. -/
def readD (nm : List Int) (n : Nat) (rate : Int) (lp : Bool) (a b : Int) (l : List Ch) : Int × Sm :=
  match l with
  | [c] => if c.nm = nData ∧ c.dt.length % (2 * n) = 0 then (if chk ⟨nm, rate, lp, a, b, fillL c.dt n⟩ = 0 then (0, ⟨nm, rate, lp, a, b, fillL c.dt n⟩) else (chk ⟨nm, rate, lp, a, b, fillL c.dt n⟩, s0)) else (4, s0)
  | _ => (4, s0)
def readR (nm : List Int) (n : Nat) (rate : Int) (l : List Ch) : Int × Sm :=
  if (l.getD 0 c0).nm = nLoop then (if (l.getD 0 c0).dt.length = 8 then readD nm n rate true (numL ((l.getD 0 c0).dt.take 4)) (numL ((l.getD 0 c0).dt.drop 4)) (l.drop 1) else (4, s0)) else readD nm n rate false 0 0 l
def readC (l : List Ch) : Int × Sm :=
  if (l.getD 0 c0).nm = nFmt ∧ shOk (l.getD 0 c0).dt = true ∧ (l.getD 1 c0).nm = nName then readR (l.getD 1 c0).dt (shN (l.getD 0 c0).dt).toNat (shR (l.getD 0 c0).dt) (l.drop 2) else (4, s0)
def readL (b : List Int) : Int × Sm :=
  if (splitL b.length b).1 ≠ 0 then ((splitL b.length b).1, s0)
  else match (splitL b.length b).2 with
  | [c] => if c.nm = nRIFF ∧ 4 ≤ c.dt.length ∧ c.dt.take 4 = nWAVE then (if (splitL (c.dt.drop 4).length (c.dt.drop 4)).1 ≠ 0 then ((splitL (c.dt.drop 4).length (c.dt.drop 4)).1, s0) else readC (splitL (c.dt.drop 4).length (c.dt.drop 4)).2) else (4, s0)
  | _ => (4, s0)
theorem enc2_len (x : Int) : (enc2 x).length = 2 := lowL_len _ _
theorem enc2_num (x : Int) (h1 : -32768 ≤ x) (h2 : x < 32768) : sgn (numL (enc2 x)) = x := by
  unfold enc2
  rw [num_low 2 _ (by omega) (by omega)]
  unfold sgn
  split <;> omega
theorem enc2_sgn (v : Int) (h1 : 0 ≤ v) (h2 : v < 65536) : enc2 (sgn v) = lowL 2 v := by
  unfold enc2 sgn
  split
  · rw [show (v - 65536 + 65536) % 65536 = v by omega]
  · rw [show (v + 65536) % 65536 = v by omega]
theorem body_at (rows : List (List Int)) (len : Nat) (j k t : Nat) (hj : j < len) (hk : k < rows.length) (ht : t < 2) : (bodyL rows len)[j * (rows.length * 2) + (k * 2 + t)]? = (enc2 ((rows.getD k []).getD j 0))[t]? := by
  have hin : ∀ i, (rows.flatMap (fun l => enc2 (l.getD i 0))).length = rows.length * 2 := fun i => lenG (fun l => enc2 (l.getD i 0)) 2 (fun l => enc2_len _) rows
  have h1 := flatG (fun i => rows.flatMap (fun l => enc2 (l.getD i 0))) (rows.length * 2) hin 0 (List.range len) j (k * 2 + t) (by simpa using hj) (by omega)
  unfold bodyL
  rw [h1, show (List.range len).getD j 0 = j by simp [List.getD, hj]]
  exact flatG (fun l => enc2 (l.getD j 0)) 2 (fun l => enc2_len _) [] rows k t hk ht
theorem body_len (rows : List (List Int)) (len : Nat) : (bodyL rows len).length = len * (rows.length * 2) := by
  have hin : ∀ i, (rows.flatMap (fun l => enc2 (l.getD i 0))).length = rows.length * 2 := fun i => lenG (fun l => enc2 (l.getD i 0)) 2 (fun l => enc2_len _) rows
  have := lenG (fun i => rows.flatMap (fun l => enc2 (l.getD i 0))) (rows.length * 2) hin (List.range len)
  rw [List.length_range] at this
  exact this
theorem fill_body (rows : List (List Int)) (len : Nat) (hn : 1 ≤ rows.length) (hl : ∀ l ∈ rows, l.length = len) (hv : ∀ l ∈ rows, ∀ v ∈ l, -32768 ≤ v ∧ v < 32768) : fillL (bodyL rows len) rows.length = rows := by
  have hdiv : (bodyL rows len).length / (2 * rows.length) = len := by
    rw [body_len, Nat.mul_comm 2, Nat.mul_div_cancel _ (by omega)]
  unfold fillL
  rw [hdiv]
  apply List.ext_getElem
  · simp
  · intro k h1 h2
    have hrow := hl _ (List.getElem_mem h2)
    have hvv := hv _ (List.getElem_mem h2)
    simp only [List.getElem_map, List.getElem_range]
    apply List.ext_getElem
    · simp [hrow]
    · intro j h3 h4
      simp only [List.getElem_map, List.getElem_range]
      have hj : j < len := by rw [← hrow]; exact h4
      have e : ((bodyL rows len).drop (2 * (j * rows.length + k))).take 2 = enc2 (rows[k][j]) := by
        apply List.ext_getElem?
        intro t
        rw [List.getElem?_take]
        by_cases ht : t < 2
        · rw [if_pos ht, List.getElem?_drop]
          have := body_at rows len j k t hj h2 ht
          rw [show j * (rows.length * 2) + (k * 2 + t) = 2 * (j * rows.length + k) + t by rw [Nat.mul_add, ← Nat.mul_assoc]; rw [Nat.mul_comm (j * rows.length) 2]; omega] at this
          rw [this]
          simp [List.getD, h2, h4]
        · rw [if_neg ht, List.getElem?_eq_none (by rw [enc2_len]; omega)]
      rw [e, enc2_num _ (hvv _ (List.getElem_mem h4)).1 (hvv _ (List.getElem_mem h4)).2]
theorem fill_len (d : List Int) (n : Nat) : (fillL d n).length = n := by simp [fillL]
theorem fill_row (d : List Int) (n : Nat) : ∀ l ∈ fillL d n, l.length = d.length / (2 * n) := by
  intro l hl
  obtain ⟨k, -, rfl⟩ := List.mem_map.1 hl
  simp
theorem body_fill (d : List Int) (n : Nat) (hn : 1 ≤ n) (hb : Byt d) (hd : d.length % (2 * n) = 0) : bodyL (fillL d n) (d.length / (2 * n)) = d := by
  have hL : d.length = d.length / (2 * n) * (2 * n) := by have := Nat.div_add_mod d.length (2 * n); rw [hd, Nat.add_zero, Nat.mul_comm] at this; exact this.symm
  generalize hlen : d.length / (2 * n) = len at *
  apply List.ext_getElem?
  intro p
  by_cases hp : p < d.length
  · obtain ⟨j, hj⟩ : ∃ j, j = p / (2 * n) := ⟨_, rfl⟩
    obtain ⟨r, hr⟩ : ∃ r, r = p % (2 * n) := ⟨_, rfl⟩
    have hrl : r < 2 * n := by rw [hr]; exact Nat.mod_lt _ (by omega)
    have hpe : p = j * (2 * n) + r := by rw [hj, hr, Nat.mul_comm]; exact (Nat.div_add_mod p (2 * n)).symm
    have hjl : j < len := by rw [hj]; rw [hL] at hp; exact Nat.div_lt_of_lt_mul (by rw [Nat.mul_comm]; exact hp)
    have hb1 := body_at (fillL d n) len j (r / 2) (r % 2) hjl (by rw [fill_len]; omega) (by omega)
    rw [fill_len, show j * (n * 2) + (r / 2 * 2 + r % 2) = p by rw [hpe, Nat.mul_comm n 2]; omega] at hb1
    rw [hb1]
    have hg : ((fillL d n).getD (r / 2) []).getD j 0 = sgn (numL ((d.drop (2 * (j * n + r / 2))).take 2)) := by
      unfold fillL
      rw [hlen]
      simp [List.getD, show r / 2 < n by omega, hjl]
    rw [hg]
    have hpos : 2 * (j * n + r / 2) + r % 2 = p := by rw [hpe, Nat.mul_add, Nat.mul_left_comm]; omega
    have hpl : 2 * (j * n + r / 2) + 2 ≤ d.length := by
      have h1 : (j + 1) * (2 * n) ≤ len * (2 * n) := Nat.mul_le_mul_right _ hjl
      rw [Nat.add_mul, Nat.one_mul] at h1
      have h2 : 2 * (j * n) = j * (2 * n) := by rw [Nat.mul_left_comm]
      omega
    have hl2 : ((d.drop (2 * (j * n + r / 2))).take 2).length = 2 := by rw [List.length_take, List.length_drop]; omega
    have hbb := numL_lt ((hb.drop (2 * (j * n + r / 2))).take 2) (k := 2) (by rw [hl2]; exact Nat.le_refl _)
    have hln := low_num ((hb.drop (2 * (j * n + r / 2))).take 2)
    rw [hl2] at hln
    rw [enc2_sgn _ hbb.1 (by simpa using hbb.2), hln, List.getElem?_take, if_pos (by omega), List.getElem?_drop, hpos]
  · rw [List.getElem?_eq_none (by rw [body_len, fill_len]; rw [hL] at hp; rw [Nat.mul_comm n 2]; omega), List.getElem?_eq_none (by omega)]
end Go.Proofs.Ytpbeehfafbgphaa

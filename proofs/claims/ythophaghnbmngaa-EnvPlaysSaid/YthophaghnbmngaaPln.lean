/- Plain numbers of layer 22: how a shape's level goes on, sample by sample. No program in sight. -/
import Derived.WalkKit
namespace Go.Envp
set_option linter.unusedVariables false

/-- A shape. -/
structure Sh where
  a : Int
  d : Int
  s : Int
  r : Int

def Sh.Ok (x : Sh) : Prop := 0 ≤ x.a ∧ x.a ≤ 1048576 ∧ 0 ≤ x.d ∧ x.d ≤ 1048576 ∧ 0 ≤ x.r ∧ x.r ≤ 1048576 ∧ 0 ≤ x.s ∧ x.s ≤ 256

def low (x : Sh) : Int := x.s * 65536
/-- A slope. -/
def slp (over n : Int) : Int := if n < 1 then over else max ((over + n - 1) / n) 1

/-- What stands ahead of a sample: parts of no length are passed over. -/
def z0 (x : Sh) (t L : Int) : Int × Int := if t = 0 ∧ x.a = 0 then (1, 16777216) else (t, L)
def z1 (x : Sh) (t L : Int) : Int × Int := if t = 1 ∧ x.d = 0 then (2, low x) else (t, L)
def z3 (x : Sh) (t L : Int) : Int × Int := if t = 3 ∧ x.r = 0 then (4, 0) else (t, L)
def zz (x : Sh) (t L : Int) : Int × Int :=
  let p := z0 x t L
  let q := z1 x p.1 p.2
  z3 x q.1 q.2
def val (L : Int) : Int := (L + 32768) / 65536
def mv (x : Sh) (t L : Int) : Int × Int :=
  if t = 0 then (if 16777216 ≤ L + slp 16777216 x.a then (1, 16777216) else (0, L + slp 16777216 x.a))
  else if t = 1 then (if L - slp (16777216 - low x) x.d ≤ low x then (2, low x) else (1, L - slp (16777216 - low x) x.d))
  else if t = 3 then (if L - slp 16777216 x.r ≤ 0 then (4, 0) else (3, L - slp 16777216 x.r))
  else (t, L)
/-- The state behind a sample, and the sample. -/
def nx (x : Sh) (p : Int × Int) : Int × Int := let q := zz x p.1 p.2; mv x q.1 q.2
def vl (x : Sh) (p : Int × Int) : Int := val (zz x p.1 p.2).2
/-- Let go. -/
def rel (p : Int × Int) : Int × Int := if p.1 = 4 then p else (3, p.2)

/-- States that may be. -/
def St (p : Int × Int) : Prop := 0 ≤ p.1 ∧ p.1 ≤ 4 ∧ 0 ≤ p.2 ∧ p.2 ≤ 16777216

theorem slp_pos (over n : Int) (h : 0 ≤ over) : 0 ≤ slp over n := by
  unfold slp; split
  · exact h
  · omega
theorem slp_le (over n : Int) (h : 0 ≤ over) (h2 : over ≤ 16777216) : slp over n ≤ 16777216 ∨ over = 0 := by
  unfold slp; split
  · exact .inl h2
  · rename_i hn
    by_cases h0 : over = 0
    · exact .inr h0
    · refine .inl ?_
      have : (over + n - 1) / n ≤ over := by
        apply Int.le_of_lt_add_one
        rw [Int.ediv_lt_iff_lt_mul (by omega)]
        have h1 : (over + 1) * n = over * n + n := by rw [Int.add_mul]; omega
        have h2 : over * 1 ≤ over * n := Int.mul_le_mul_of_nonneg_left (by omega) h
        omega
      omega
theorem slp_bd (over n : Int) (h : 0 ≤ over) (h2 : over ≤ 16777216) : 0 ≤ slp over n ∧ slp over n ≤ 16777216 := by
  refine ⟨slp_pos over n h, ?_⟩
  rcases slp_le over n h h2 with h | rfl
  · exact h
  · unfold slp; split
    · omega
    · have : ((0 : Int) + n - 1) / n = 0 := Int.ediv_eq_zero_of_lt (by omega) (by omega)
      rw [this]; decide
theorem low_bd {x : Sh} (h : x.Ok) : 0 ≤ low x ∧ low x ≤ 16777216 := by
  unfold Sh.Ok at h; unfold low; omega
theorem zz_st {x : Sh} (h : x.Ok) {t L : Int} (hs : St (t, L)) : St (zz x t L) := by
  have hl := low_bd h
  unfold St zz z0 z1 z3 at *
  simp only at hs ⊢
  repeat' split
  all_goals (simp only at *; omega)
theorem mv_st {x : Sh} (h : x.Ok) {t L : Int} (hs : St (t, L)) : St (mv x t L) := by
  have hl := low_bd h
  have h1 := slp_pos 16777216 x.a (by omega)
  have h2 := slp_pos (16777216 - low x) x.d (by omega)
  have h3 := slp_pos 16777216 x.r (by omega)
  unfold St mv at *
  simp only at hs ⊢
  repeat' split
  all_goals (simp only at *; omega)
theorem nx_st {x : Sh} (h : x.Ok) {p : Int × Int} (hs : St p) : St (nx x p) := mv_st h (zz_st h hs)
theorem rel_st {p : Int × Int} (hs : St p) : St (rel p) := by
  unfold rel St at *; split
  · exact hs
  · exact ⟨by simp, by simp, hs.2.2.1, hs.2.2.2⟩
theorem vl_bd {x : Sh} (h : x.Ok) {p : Int × Int} (hs : St p) : 0 ≤ vl x p ∧ vl x p ≤ 256 := by
  have := zz_st h hs
  unfold St at this
  unfold vl val; omega

/-- States sample by sample. -/
def go (x : Sh) (p : Int × Int) : Nat → Int × Int
  | 0 => p
  | k + 1 => nx x (go x p k)
theorem go_st {x : Sh} (h : x.Ok) {p : Int × Int} (hs : St p) (k : Nat) : St (go x p k) := by
  induction k with
  | zero => exact hs
  | succ k ih => exact nx_st h ih
def vals (x : Sh) (p : Int × Int) (n : Nat) : List Int := (List.range n).map fun i => vl x (go x p i)
theorem vals_snoc (x : Sh) (p : Int × Int) (n : Nat) : vals x p (n + 1) = vals x p n ++ [vl x (go x p n)] := by
  unfold vals; rw [List.range_succ, List.map_append]; rfl
theorem vals_len (x : Sh) (p : Int × Int) (n : Nat) : (vals x p n).length = n := by simp [vals]
theorem vals_get (x : Sh) (p : Int × Int) (n i : Nat) (h : i < n) : (vals x p n).getD i 0 = vl x (go x p i) := by
  unfold vals; simp [h]

/-- The law's slope. -/
theorem slope_law (over n : Int) (h : 0 ≤ over) (hn : 1 ≤ n) :
    slp over n = (if (if over / n * n < over then over / n + 1 else over / n) < 1 then 1 else (if over / n * n < over then over / n + 1 else over / n)) := by
  unfold slp
  rw [if_neg (by omega)]
  have e := Int.mul_ediv_add_emod over n
  have r0 := Int.emod_nonneg over (show n ≠ 0 by omega)
  have r1 := Int.emod_lt_of_pos over (show 0 < n by omega)
  have hq : (over + n - 1) / n = if over / n * n < over then over / n + 1 else over / n := by
    split
    · rename_i hlt
      have e2 : over + n - 1 = (over % n - 1) + n * (over / n + 1) := by rw [Int.mul_add]; omega
      rw [e2, Int.add_mul_ediv_left _ _ (show n ≠ 0 by omega), Int.ediv_eq_zero_of_lt (by rw [Int.mul_comm] at hlt; omega) (by omega)]
      omega
    · rename_i hlt
      have e2 : over + n - 1 = (over % n + n - 1) + n * (over / n) := by omega
      rw [e2, Int.add_mul_ediv_left _ _ (show n ≠ 0 by omega), Int.ediv_eq_zero_of_lt (by omega) (by rw [Int.mul_comm] at hlt; omega)]
      omega
  rw [hq]
  split <;> split <;> omega

/-- Enough steps of a slope go all the way. -/
theorem slp_all (over n : Int) (h : 0 ≤ over) (hn : 1 ≤ n) : over ≤ n * slp over n := by
  unfold slp
  rw [if_neg (by omega)]
  have e := Int.mul_ediv_add_emod (over + n - 1) n
  have r1 := Int.emod_lt_of_pos (over + n - 1) (show 0 < n by omega)
  have : n * ((over + n - 1) / n) ≤ n * max ((over + n - 1) / n) 1 := Int.mul_le_mul_of_nonneg_left (by omega) (by omega)
  omega

/-- While it is held: the round's head. -/
def Held (x : Sh) (i : Nat) (p : Int × Int) (last : Int) : Prop :=
  St p ∧ ((p.1 = 0 ∧ p.2 = (i : Int) * slp 16777216 x.a ∧ ((i : Int) < x.a ∨ (x.a = 0 ∧ i = 0)) ∧ last ≤ val p.2) ∨
    ((p.1 = 1 ∨ p.1 = 2) ∧ low x ≤ p.2 ∧ ((i : Int) ≤ x.a ∨ val p.2 ≤ last)))
theorem held_zero {x : Sh} (h : x.Ok) : Held x 0 (0, 0) 0 := by
  unfold Sh.Ok at h
  refine ⟨⟨by decide, by decide, by decide, by decide⟩, .inl ⟨rfl, by simp, ?_, by decide⟩⟩
  by_cases h0 : x.a = 0
  · exact .inr ⟨h0, rfl⟩
  · exact .inl (by omega)
/-- What the law asks of a round. -/
theorem held_vl {x : Sh} (h : x.Ok) {i : Nat} {p : Int × Int} {last : Int} (H : Held x i p last) :
    (p.1 = 0 → 0 < x.a → last ≤ vl x p) ∧ (x.a < (i : Int) → vl x p ≤ last) ∧ (x.a ≤ (i : Int) → (nx x p).1 ≠ 0) := by
  have hl := low_bd h
  obtain ⟨t, L⟩ := p
  obtain ⟨hs, H⟩ := H
  unfold St at hs
  simp only at hs H ⊢
  unfold Sh.Ok at h
  refine ⟨fun h0 ha => ?_, fun hi => ?_, fun hi => ?_⟩
  · unfold vl zz z0 z1 z3
    simp only [h0, show ¬ (x.a = 0) by omega]
    rcases H with H | H
    · simpa using H.2.2.2
    · omega
  · rcases H with H | ⟨ht, hlo, H⟩
    · omega
    · rcases H with H | H
      · omega
      · unfold vl zz z0 z1 z3
        rcases ht with rfl | rfl
        · by_cases hd : x.d = 0
          · simp [hd]; unfold val at *; omega
          · simp [hd]; exact H
        · simp; exact H
  · unfold nx
    rcases H with ⟨rfl, hL, hi2, -⟩ | ⟨ht, hlo, H⟩
    · rcases hi2 with hi2 | ⟨ha, _⟩
      · omega
      · unfold zz z0 z1 z3 mv
        by_cases hd : x.d = 0
        · simp [ha, hd]
        · simp only [ha, hd]
          simp
          split <;> simp
    · unfold zz z0 z1 z3 mv
      rcases ht with rfl | rfl
      · by_cases hd : x.d = 0
        · simp [hd]
        · simp only [hd]
          simp
          split <;> simp
      · simp
theorem held_next {x : Sh} (h : x.Ok) {i : Nat} {p : Int × Int} {last : Int} (H : Held x i p last) : Held x (i + 1) (nx x p) (vl x p) := by
  have hst := nx_st h H.1
  refine ⟨hst, ?_⟩
  have hl := low_bd h
  have hsl := slp_pos (16777216 - low x) x.d (by omega)
  have hsa := slp_all 16777216 x.a (by omega)
  have hk := slp_pos 16777216 x.a (by omega)
  obtain ⟨t, L⟩ := p
  obtain ⟨hs, H⟩ := H
  unfold St at hs
  simp only at hs H ⊢
  unfold Sh.Ok at h
  unfold nx vl
  rcases H with ⟨rfl, hL, hi2, -⟩ | ⟨ht, hlo, H⟩
  · rcases hi2 with hi2 | ⟨ha, hi0⟩
    · have e : zz x 0 L = (0, L) := by unfold zz z0 z1 z3; simp [show ¬ (x.a = 0) by omega]
      rw [e]
      have e2 : (((i + 1 : Nat)) : Int) * slp 16777216 x.a = L + slp 16777216 x.a := by
        rw [hL]; push_cast; rw [Int.add_mul]; omega
      unfold mv
      simp only [if_true]
      split
      · rename_i hge
        refine .inr ⟨.inl rfl, hl.2, .inl ?_⟩
        push_cast; omega
      · rename_i hge
        refine .inl ⟨rfl, e2.symm, .inl ?_, by unfold val; omega⟩
        have h1 : x.a ≤ (i : Int) + 1 → x.a * slp 16777216 x.a ≤ ((i : Int) + 1) * slp 16777216 x.a := fun h => Int.mul_le_mul_of_nonneg_right h hk
        have h2 := hsa (by omega)
        push_cast at e2 ⊢
        by_cases hc : x.a ≤ (i : Int) + 1
        · have := h1 hc; omega
        · omega
    · refine .inr ?_
      unfold zz z0 z1 z3 mv
      by_cases hd : x.d = 0
      · simp [ha, hd]
      · simp only [ha, hd]
        simp
        split
        · simp; unfold val; omega
        · simp; unfold val; omega
  · refine .inr ?_
    unfold zz z0 z1 z3 mv
    rcases ht with rfl | rfl
    · by_cases hd : x.d = 0
      · simp [hd]
      · simp only [hd]
        simp
        split
        · simp; unfold val; omega
        · simp; unfold val; omega
    · simp; omega
/-- Held ones are in one of three stages. -/
theorem held_stage {x : Sh} {i : Nat} {p : Int × Int} {last : Int} (H : Held x i p last) : p.1 = 0 ∨ p.1 = 1 ∨ p.1 = 2 := by
  rcases H.2 with H | H
  · exact .inl H.1
  · exact .inr H.1

/-- Let go: the round's head. -/
def Gone (x : Sh) (j : Nat) (p : Int × Int) : Prop :=
  St p ∧ ((p.1 = 3 ∧ p.2 + (j : Int) * slp 16777216 x.r ≤ 16777216 ∧ (j = 0 ∨ (0 < p.2 ∧ x.r ≠ 0))) ∨ (p.1 = 4 ∧ p.2 = 0))
theorem gone_zero {x : Sh} {p : Int × Int} (hs : St p) (h4 : p.1 ≠ 4) : Gone x 0 (rel p) := by
  refine ⟨rel_st hs, .inl ?_⟩
  unfold rel; rw [if_neg h4]
  unfold St at hs
  exact ⟨rfl, by simp; omega, .inl rfl⟩
theorem gone_next {x : Sh} (h : x.Ok) {j : Nat} {p : Int × Int} (H : Gone x j p) : Gone x (j + 1) (nx x p) := by
  refine ⟨nx_st h H.1, ?_⟩
  have hk := slp_pos 16777216 x.r (by omega)
  obtain ⟨t, L⟩ := p
  obtain ⟨hs, H⟩ := H
  unfold St at hs
  simp only at hs H ⊢
  unfold nx
  rcases H with ⟨rfl, hL, hj⟩ | ⟨rfl, rfl⟩
  · by_cases hr : x.r = 0
    · refine .inr ?_
      unfold zz z0 z1 z3 mv; simp [hr]
    · have e : zz x 3 L = (3, L) := by unfold zz z0 z1 z3; simp [hr]
      rw [e]
      have e2 : (((j + 1 : Nat)) : Int) * slp 16777216 x.r = (j : Int) * slp 16777216 x.r + slp 16777216 x.r := by
        push_cast; rw [Int.add_mul]; omega
      unfold mv
      simp only [show ¬ ((3 : Int) = 0) by decide, show ¬ ((3 : Int) = 1) by decide, if_false, if_true]
      split
      · exact .inr ⟨rfl, rfl⟩
      · exact .inl ⟨rfl, by simp only; omega, .inr ⟨by simp only; omega, hr⟩⟩
  · refine .inr ?_
    unfold zz z0 z1 z3 mv; simp
theorem gone_end {x : Sh} (h : x.Ok) {j : Nat} {p : Int × Int} (H : Gone x j p) (hj : x.r < (j : Int)) : p = (4, 0) := by
  have hk := slp_pos 16777216 x.r (by omega)
  obtain ⟨t, L⟩ := p
  obtain ⟨hs, H⟩ := H
  unfold St at hs
  unfold Sh.Ok at h
  simp only at hs H
  rcases H with ⟨rfl, hL, hj0⟩ | ⟨rfl, rfl⟩
  · rcases hj0 with hj0 | ⟨h0, hr⟩
    · omega
    · have h2 := slp_all 16777216 x.r (by omega) (by omega)
      have h1 : x.r * slp 16777216 x.r ≤ (j : Int) * slp 16777216 x.r := Int.mul_le_mul_of_nonneg_right (by omega) hk
      omega
  · rfl
theorem over_nx (x : Sh) : nx x (4, 0) = (4, 0) := by unfold nx zz z0 z1 z3 mv; simp
theorem over_vl (x : Sh) : vl x (4, 0) = 0 := by unfold vl zz z0 z1 z3 val; simp
end Go.Envp

/- The law's own disk beside the program's: plain laws. No program in sight. -/
import Derived.Test.YtagaljjiiinjmaaCle
namespace Go.Dskp
open Go Go.Calli Go.Proofs.Ytagaljjiiinjmaa
set_option linter.unusedVariables false
set_option linter.unusedSimpArgs false
structure Pl where
  img : List Int
  fl : List Int
  al : List Int
  xl : List Int
  r : Int
  g : Int
def Pl.out (q : Pl) (p : Int) : Prop := p < 0 ∨ (q.fl.length : Int) ≤ p
instance (q : Pl) (p : Int) : Decidable (q.out p) := inferInstanceAs (Decidable (_ ∨ _))
def oE (q : Pl) (k p n : Int) : Int := if q.out p then 5 else if k = 4 then (if n < 0 ∨ 63 < n then 1 else 0) else 0
def oS (q : Pl) (k p n x : Int) : Pl := if q.out p then q else if k = 3 then { q with fl := q.fl.set p.toNat (if n < 0 then -1 else n) } else if k = 4 then (if n < 0 ∨ 63 < n then q else { q with al := q.al.set p.toNat n, xl := q.xl.set p.toNat x }) else { q with fl := q.fl.set p.toNat 0, xl := q.xl.set p.toNat 0 }
def Pl.f (q : Pl) (p : Int) : Int := q.fl.getD p.toNat 0
def Pl.a (q : Pl) (p : Int) : Int := q.al.getD p.toNat 0
def Pl.x (q : Pl) (p : Int) : Int := q.xl.getD p.toNat 0
def prE (q : Pl) (p : Int) : Int := if q.out p then 5 else if q.f p ≠ 0 then 8 else 0
def ppg (q : Pl) (p : Int) : List Int := (q.img.drop (64 * p.toNat)).take 64
def prB (q : Pl) (p : Int) : List Int := if q.out p then [] else if q.f p ≠ 0 then [] else (ppg q p).set (q.a p).toNat (bx ((ppg q p).getD (q.a p).toNat 0) (q.x p))
def prS (q : Pl) (p : Int) : Pl := if q.out p then q else if q.f p ≠ 0 then { q with r := q.r + 1, g := q.g + 1, fl := if 0 < q.f p then q.fl.set p.toNat (q.f p - 1) else q.fl } else { q with r := q.r + 1 }
structure Rel (s : Dk) (q : Pl) : Prop where
  hf : q.fl.length = s.pages
  ha : q.al.length = s.pages
  hx : q.xl.length = s.pages
  hi : q.img.length = 64 * s.pages
  img : ∀ i, q.img.getD i 0 = s.img.getD i 0
  at_ : ∀ p, p < s.pages → q.fl.getD p 0 = (s.t p).f ∧ q.xl.getD p 0 = (s.t p).x ∧ 0 ≤ q.al.getD p 0 ∧ q.al.getD p 0 < 64 ∧ ((s.t p).x ≠ 0 → q.al.getD p 0 = (s.t p).a)
  r : q.r = s.r
  g : q.g = s.g
theorem Rel.out {s : Dk} {q : Pl} (h : Rel s q) (p : Int) : q.out p ↔ s.out p := by unfold Pl.out Dk.out; rw [h.hf]
theorem t_put (F : Int → Option Flt) (p : Int) (v : Option Flt) (j : Int) : (put F p v j).getD Flt.zero = if j = p then v.getD Flt.zero else (F j).getD Flt.zero := by
  unfold put; split <;> rfl
theorem mkRel {s : Dk} {q : Pl} (h : Rel s q) (F : Int → Option Flt) (fl al xl : List Int) (R G R' G' : Int) (hR : R' = R) (hG : G' = G) (lf : fl.length = q.fl.length) (la : al.length = q.al.length) (lx : xl.length = q.xl.length)
    (hat : ∀ j : Nat, j < s.pages → fl.getD j 0 = ((F j).getD Flt.zero).f ∧ xl.getD j 0 = ((F j).getD Flt.zero).x ∧ 0 ≤ al.getD j 0 ∧ al.getD j 0 < 64 ∧ (((F j).getD Flt.zero).x ≠ 0 → al.getD j 0 = ((F j).getD Flt.zero).a)) : Rel ⟨s.img, F, R, G⟩ ⟨q.img, fl, al, xl, R', G'⟩ :=
  ⟨lf.trans h.hf, la.trans h.ha, lx.trans h.hx, h.hi, h.img, hat, hR, hG⟩
theorem set_getD (l : List Int) (i j : Nat) (v : Int) (hi : i < l.length) : (l.set i v).getD j 0 = if j = i then v else l.getD j 0 := by
  simp only [List.getD_eq_getElem?_getD, List.getElem?_set]
  by_cases h : i = j
  · subst h; simp [hi]
  · simp [h, Ne.symm h]
theorem rel_fl {s : Dk} {q : Pl} (h : Rel s q) (p n x : Int) : Rel (flS s p n) (oS q 3 p n x) ∧ flE s p = oE q 3 p n := by
  by_cases ho : s.out p
  · have ho2 := (h.out p).2 ho
    have e1 : flS s p n = s := if_pos ho
    have e2 : oS q 3 p n x = q := if_pos ho2
    have e3 : flE s p = 5 := if_pos ho
    have e4 : oE q 3 p n = 5 := if_pos ho2
    rw [e1, e2, e3, e4]
    exact ⟨h, rfl⟩
  · have ho2 : ¬ q.out p := fun e => ho ((h.out p).1 e)
    have e1 : flS s p n = ⟨s.img, put s.F p (some ⟨max n (-1), (s.t p).a, (s.t p).x⟩), s.r, s.g⟩ := if_neg ho
    have e2 : oS q 3 p n x = ⟨q.img, q.fl.set p.toNat (if n < 0 then -1 else n), q.al, q.xl, q.r, q.g⟩ := (if_neg ho2).trans (if_pos rfl)
    have e3 : flE s p = 0 := if_neg ho
    have e4 : oE q 3 p n = 0 := (if_neg ho2).trans (if_neg (show ¬ (3 : Int) = 4 by decide))
    rw [e1, e2, e3, e4]
    refine ⟨mkRel h _ _ _ _ _ _ _ _ h.r h.g (by simp) rfl rfl fun j hj => ?_, rfl⟩
    obtain ⟨a1, a2, a3, a4, a5⟩ := h.at_ j hj
    have hpl : p.toNat < q.fl.length := by rw [h.hf]; unfold Dk.out at ho; omega
    rw [t_put, set_getD _ _ _ _ hpl]
    by_cases hjp : (j : Int) = p
    · subst hjp
      rw [if_pos (by simp), if_pos rfl]
      exact ⟨by show (if n < 0 then -1 else n) = max n (-1); split <;> omega, a2, a3, a4, a5⟩
    · rw [if_neg (by unfold Dk.out at ho; omega), if_neg hjp]
      exact ⟨a1, a2, a3, a4, a5⟩
theorem rel_sp {s : Dk} {q : Pl} (h : Rel s q) (p n x : Int) : Rel (spS s p n x) (oS q 4 p n x) ∧ spE s p n = oE q 4 p n := by
  by_cases ho : s.out p
  · have ho2 := (h.out p).2 ho
    have e1 : spS s p n x = s := if_pos ho
    have e2 : oS q 4 p n x = q := if_pos ho2
    have e3 : spE s p n = 5 := if_pos ho
    have e4 : oE q 4 p n = 5 := if_pos ho2
    rw [e1, e2, e3, e4]
    exact ⟨h, rfl⟩
  · have ho2 : ¬ q.out p := fun e => ho ((h.out p).1 e)
    by_cases hn : n < 0 ∨ 64 ≤ n
    · have hn2 : n < 0 ∨ 63 < n := by omega
      have e1 : spS s p n x = s := (if_neg ho).trans (if_pos hn)
      have e2 : oS q 4 p n x = q := ((if_neg ho2).trans (if_neg (show ¬ (4 : Int) = 3 by decide))).trans ((if_pos rfl).trans (if_pos hn2))
      have e3 : spE s p n = 1 := (if_neg ho).trans (if_pos hn)
      have e4 : oE q 4 p n = 1 := (if_neg ho2).trans ((if_pos rfl).trans (if_pos hn2))
      rw [e1, e2, e3, e4]
      exact ⟨h, rfl⟩
    have hn2 : ¬ (n < 0 ∨ 63 < n) := by omega
    have e1 : spS s p n x = ⟨s.img, put s.F p (some ⟨(s.t p).f, n, x⟩), s.r, s.g⟩ := (if_neg ho).trans (if_neg hn)
    have e2 : oS q 4 p n x = ⟨q.img, q.fl, q.al.set p.toNat n, q.xl.set p.toNat x, q.r, q.g⟩ := ((if_neg ho2).trans (if_neg (show ¬ (4 : Int) = 3 by decide))).trans ((if_pos rfl).trans (if_neg hn2))
    have e3 : spE s p n = 0 := (if_neg ho).trans (if_neg hn)
    have e4 : oE q 4 p n = 0 := (if_neg ho2).trans ((if_pos rfl).trans (if_neg hn2))
    rw [e1, e2, e3, e4]
    refine ⟨mkRel h _ _ _ _ _ _ _ _ h.r h.g rfl (by simp) (by simp) fun j hj => ?_, rfl⟩
    obtain ⟨a1, a2, a3, a4, a5⟩ := h.at_ j hj
    have hpl : p.toNat < q.al.length := by rw [h.ha]; unfold Dk.out at ho; omega
    have hpx : p.toNat < q.xl.length := by rw [h.hx]; unfold Dk.out at ho; omega
    rw [t_put, set_getD _ _ _ _ hpl, set_getD _ _ _ _ hpx]
    by_cases hjp : (j : Int) = p
    · subst hjp
      simp only [Int.toNat_natCast, ↓reduceIte, Option.getD_some, Option.getD_none]
      exact ⟨a1, trivial, by omega, by omega, fun _ => trivial⟩
    · have hjn : ¬ j = p.toNat := by unfold Dk.out at ho; omega
      simp only [if_neg hjn, if_neg hjp]
      exact ⟨a1, a2, a3, a4, a5⟩
theorem rel_hl {s : Dk} {q : Pl} (h : Rel s q) (k p n x : Int) (hk3 : k ≠ 3) (hk4 : k ≠ 4) : Rel (hlS s p) (oS q k p n x) ∧ flE s p = oE q k p n := by
  by_cases ho : s.out p
  · have ho2 := (h.out p).2 ho
    have e1 : hlS s p = s := if_pos ho
    have e2 : oS q k p n x = q := if_pos ho2
    have e3 : flE s p = 5 := if_pos ho
    have e4 : oE q k p n = 5 := if_pos ho2
    rw [e1, e2, e3, e4]
    exact ⟨h, rfl⟩
  · have ho2 : ¬ q.out p := fun e => ho ((h.out p).1 e)
    have e1 : hlS s p = ⟨s.img, put s.F p none, s.r, s.g⟩ := if_neg ho
    have e2 : oS q k p n x = ⟨q.img, q.fl.set p.toNat 0, q.al, q.xl.set p.toNat 0, q.r, q.g⟩ := (if_neg ho2).trans ((if_neg hk3).trans (if_neg hk4))
    have e3 : flE s p = 0 := if_neg ho
    have e4 : oE q k p n = 0 := (if_neg ho2).trans (if_neg hk4)
    rw [e1, e2, e3, e4]
    refine ⟨mkRel h _ _ _ _ _ _ _ _ h.r h.g (by simp) rfl (by simp) fun j hj => ?_, rfl⟩
    obtain ⟨a1, a2, a3, a4, a5⟩ := h.at_ j hj
    have hpl : p.toNat < q.fl.length := by rw [h.hf]; unfold Dk.out at ho; omega
    have hpx : p.toNat < q.xl.length := by rw [h.hx]; unfold Dk.out at ho; omega
    rw [t_put, set_getD _ _ _ _ hpl, set_getD _ _ _ _ hpx]
    by_cases hjp : (j : Int) = p
    · subst hjp
      simp only [Int.toNat_natCast, ↓reduceIte, Option.getD_some, Option.getD_none]
      exact ⟨rfl, rfl, a3, a4, fun e => absurd rfl e⟩
    · have hjn : ¬ j = p.toNat := by unfold Dk.out at ho; omega
      simp only [if_neg hjn, if_neg hjp]
      exact ⟨a1, a2, a3, a4, a5⟩
theorem ppg_eq {s : Dk} {q : Pl} (h : Rel s q) (p : Nat) (hp : p < s.pages) : ppg q p = pgB s.img p := by
  unfold ppg
  apply List.ext_getElem
  · rw [pgB_len]; simp [h.hi]; omega
  · intro i h1 h2
    rw [pgB_len] at h2
    have h3 := pgB_at s.img p i h2
    rw [← h.img (64 * p + i)] at h3
    have h4 : (pgB s.img p).getD i 0 = (pgB s.img p)[i]'(by rw [pgB_len]; exact h2) := by simp [List.getD_eq_getElem?_getD, pgB_len, h2]
    rw [← h4, h3]
    have h5 : 64 * p + i < q.img.length := by rw [h.hi]; omega
    simp [List.getD_eq_getElem?_getD, h5]
theorem set_same (l : List Int) (i : Nat) : l.set i (l.getD i 0) = l := by
  apply List.ext_getElem
  · simp
  · intro j h1 h2
    rw [List.getElem_set]
    split
    · rename_i h3; subst h3; simp [List.getD_eq_getElem?_getD, h2]
    · rfl
theorem rel_rd {s : Dk} {q : Pl} (h : Rel s q) (hs : s.Ok) (hw : ∀ z ∈ s.img, (Lit.int .u8 z).wf = true) (p : Int) : Rel (rdS s p) (prS q p) ∧ rdE s p = prE q p ∧ rdB s p = prB q p := by
  by_cases ho : s.out p
  · have ho2 := (h.out p).2 ho
    have e1 : rdS s p = s := if_pos ho
    have e2 : prS q p = q := if_pos ho2
    have e3 : rdE s p = 5 := if_pos ho
    have e4 : prE q p = 5 := if_pos ho2
    have e5 : rdB s p = [] := if_pos ho
    have e6 : prB q p = [] := if_pos ho2
    rw [e1, e2, e3, e4, e5, e6]
    exact ⟨h, rfl, rfl⟩
  · have ho2 : ¬ q.out p := fun e => ho ((h.out p).1 e)
    obtain ⟨p, rfl⟩ : ∃ k : Nat, p = (k : Int) := ⟨p.toNat, by unfold Dk.out at ho; omega⟩
    have hp : p < s.pages := by unfold Dk.out at ho; omega
    obtain ⟨a1, a2, a3, a4, a5⟩ := h.at_ p hp
    have hqf : q.f p = (s.t p).f := a1
    have hqx : q.x p = (s.t p).x := a2
    have ht := hs.t p
    by_cases hf : (s.t p).f ≠ 0
    · have hf2 : q.f p ≠ 0 := by rw [hqf]; exact hf
      have e1 : rdS s p = ⟨s.img, put s.F p (some ⟨max ((s.t p).f - 1) (-1), (s.t p).a, (s.t p).x⟩), s.r + 1, s.g + 1⟩ := (if_neg ho).trans (if_pos hf)
      have e2 : prS q p = ⟨q.img, if 0 < q.f p then q.fl.set (p : Int).toNat (q.f p - 1) else q.fl, q.al, q.xl, q.r + 1, q.g + 1⟩ := (if_neg ho2).trans (if_pos hf2)
      have e3 : rdE s p = 8 := (if_neg ho).trans (if_pos hf)
      have e4 : prE q p = 8 := (if_neg ho2).trans (if_pos hf2)
      have e5 : rdB s p = [] := (if_neg ho).trans (if_pos hf)
      have e6 : prB q p = [] := (if_neg ho2).trans (if_pos hf2)
      rw [e1, e2, e3, e4, e5, e6]
      refine ⟨mkRel h _ _ _ _ _ _ _ _ (by rw [h.r]) (by rw [h.g]) (by split <;> simp) rfl rfl fun j hj => ?_, rfl, rfl⟩
      obtain ⟨b1, b2, b3, b4, b5⟩ := h.at_ j hj
      have hpl : p < q.fl.length := by rw [h.hf]; exact hp
      rw [hqf]
      have e1 : (if 0 < (s.t p).f then q.fl.set (p : Int).toNat ((s.t p).f - 1) else q.fl).getD j 0 = if j = p then max ((s.t p).f - 1) (-1) else q.fl.getD j 0 := by
        obtain ⟨_, _, c1, _, _, _⟩ := ht
        rw [Int.toNat_natCast]
        split
        · rw [set_getD _ _ _ _ hpl]
          split
          · omega
          · rfl
        · split
          · rename_i h3; subst h3; rw [a1]; omega
          · rfl
      rw [e1, t_put]
      by_cases hjp : j = p
      · subst hjp
        rw [if_pos rfl, if_pos rfl]
        exact ⟨rfl, b2, b3, b4, b5⟩
      · rw [if_neg hjp, if_neg (by omega)]
        exact ⟨b1, b2, b3, b4, b5⟩
    · have hf2 : ¬ q.f p ≠ 0 := by rw [hqf]; exact hf
      have e1 : rdS s p = ⟨s.img, s.F, s.r + 1, s.g⟩ := (if_neg ho).trans (if_neg hf)
      have e2 : prS q p = ⟨q.img, q.fl, q.al, q.xl, q.r + 1, q.g⟩ := (if_neg ho2).trans (if_neg hf2)
      have e3 : rdE s p = 0 := (if_neg ho).trans (if_neg hf)
      have e4 : prE q p = 0 := (if_neg ho2).trans (if_neg hf2)
      have e5 : rdB s p = (pgB s.img (p : Int).toNat).set (s.t p).a.toNat (bx ((pgB s.img (p : Int).toNat).getD (s.t p).a.toNat 0) (s.t p).x) := (if_neg ho).trans (if_neg hf)
      have e6 : prB q p = (ppg q p).set (q.a p).toNat (bx ((ppg q p).getD (q.a p).toNat 0) (q.x p)) := (if_neg ho2).trans (if_neg hf2)
      rw [e1, e2, e3, e4, e5, e6]
      refine ⟨mkRel h _ _ _ _ _ _ _ _ (by rw [h.r]) h.g rfl rfl rfl h.at_, rfl, ?_⟩
      rw [ppg_eq h p hp, Int.toNat_natCast, hqx]
      by_cases hx : (s.t p).x = 0
      · rw [hx, bx_zero (getD_wf (pgB_wf hw p) (by decide) _), bx_zero (getD_wf (pgB_wf hw p) (by decide) _), set_same, set_same]
      · rw [show q.a p = (s.t p).a from a5 hx]
end Go.Dskp

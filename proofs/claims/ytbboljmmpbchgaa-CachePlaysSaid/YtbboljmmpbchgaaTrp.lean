/- Tries: plain laws. -/
import Derived.Test.YtbboljmmpbchgaaAwk
namespace Go.Proofs.Ytbboljmmpbchgaa
open Go Go.RowKit Go.Calli Go.Dskp Go.Maps
set_option linter.unusedVariables false
set_option linter.unusedSimpArgs false
/-- The cache behind a fault of its disk. -/
def fC (c : Ca) (d : Dk) : Ca := { c with d := d, mx := c.mx + 1 }
theorem CaIs.fault {A : Ad} {w w' : World} {n : Nat} {c : Ca} (h : CaIs A w n c) {m m' : Nat} {d : Dk} (hm : m ≤ c.mx) (hm' : m' ≤ m + 1) (hD : Dsk w' A.b A.mb A.ib A.kap m' d) (hk : Keeps (fun k => k = A.b ∨ k = A.mb) w w') : CaIs A w' n (fC c d) := by
  obtain ⟨d1, d2, d3, d4, d5, d6⟩ := h.dist
  obtain ⟨ms, hS, hM⟩ := h.slots
  exact ⟨hk.heap h.row (fun e => e.elim (fun e => d2 e.symm) (fun e => d3 e.symm)), ⟨ms, hS.kept hk (fun e => e.elim (fun e => d4 e.symm) (fun e => d5 e.symm)), hM.kept (hk.mono fun k _ h => .inr (.inr h))⟩, ⟨m', by show m' ≤ c.mx + 1; omega, hD⟩, h.len, h.hand, h.dist, h.away.mono hk.size⟩
theorem CLim.fault {k : Nat} {c : Ca} (h : CLim k c) {d : Dk} (hd : d.Ok) (hr : d.r = c.d.r) : CLim (k + 1) (fC c d) := by
  have h1 := h.h1; have h2 := h.m1; have h3 := h.t1; have h4 := h.l1; have h5 := h.r; have h6 := h.mx
  exact ⟨h.h0, by show c.h ≤ _; omega, h.m0, by show c.m ≤ _; omega, h.t0, by show c.t ≤ _; omega, h.l0, by show c.l ≤ _; omega, hd, by show d.r ≤ _; omega, by show c.mx + 1 ≤ _; omega, h.r0, h.r1⟩
theorem fC_ok {c : Ca} (h : COk c) (d : Dk) : COk (fC c d) := h
theorem rdS_out (d : Dk) (p q : Int) : (rdS d p).out q ↔ d.out q := by
  have := (rdS_r d p).2
  unfold Dk.out Dk.pages
  rw [this]
theorem tryD_flt (p : Int) : ∀ (k : Nat) (d : Dk) (f : Nat) (e : Int), ¬ d.out p → (d.t p).f = f → (k ≤ f → (tryD p k d e).e = (if k = 0 then e else 8) ∧ (tryD p k d e).n = k ∧ (tryD p k d e).d.r = d.r + k ∧ (tryD p k d e).b = []) ∧ (f < k → (tryD p k d e).e = 0 ∧ (tryD p k d e).n = f + 1) := by
  intro k
  induction k with
  | zero => intro d f e ho hf; exact ⟨fun _ => ⟨rfl, rfl, by simp [tryD], rfl⟩, fun h => by omega⟩
  | succ k ih =>
    intro d f e ho hf
    simp only [tryD]
    by_cases h0 : f = 0
    · subst h0
      have hE : rdE d p = 0 := by unfold rdE; rw [if_neg ho, if_neg (by rw [hf]; decide)]
      rw [if_pos hE]
      exact ⟨fun h => by omega, fun _ => ⟨rfl, rfl⟩⟩
    · obtain ⟨g, rfl⟩ : ∃ g, f = g + 1 := ⟨f - 1, by omega⟩
      have hne : (d.t p).f ≠ 0 := by rw [hf]; omega
      have hE : rdE d p = 8 := by unfold rdE; rw [if_neg ho, if_pos hne]
      rw [if_neg (by rw [hE]; decide)]
      have hr : (rdS d p).r = d.r + 1 := by unfold rdS; rw [if_neg ho, if_pos hne]
      have ht : ((rdS d p).t p).f = (g : Int) := by
        unfold rdS; rw [if_neg ho, if_pos hne]
        show ((put _ _ _ _).getD _).f = _
        unfold put
        rw [if_pos rfl]
        show max ((d.t p).f - 1) (-1) = _
        rw [hf]; omega
      have := ih (rdS d p) g (rdE d p) (fun h => ho ((rdS_out d p p).1 h)) ht
      refine ⟨fun h => ?_, fun h => ?_⟩
      · obtain ⟨a1, a2, a3, a4⟩ := this.1 (by omega)
        refine ⟨?_, by simp only [a2]; omega, by simp only [a3, hr]; omega, a4⟩
        show (tryD p k (rdS d p) (rdE d p)).e = _
        rw [a1, hE, if_neg (Nat.succ_ne_zero k)]
        split <;> rfl
      · obtain ⟨a1, a2⟩ := this.2 (by omega)
        exact ⟨a1, by simp only [a2]; omega⟩
/-- The cache of the law, its page failing so often. -/
def tC (zs : List Int) (r n : Int) : Ca := fC (newC zs 3 r) (flS (newC zs 3 r).d 0 n)
theorem tC_out (zs : List Int) (h1 : 1 ≤ zs.length) (r n : Int) : ¬ (newC zs 3 r).d.out 0 ∧ ¬ (tC zs r n).d.out 0 := by
  have h : ¬ (newC zs 3 r).d.out 0 := by
    unfold Dk.out Dk.pages newC
    simp only
    omega
  refine ⟨h, ?_⟩
  unfold tC fC flS
  simp only
  rw [if_neg h]
  exact h
theorem tC_f (zs : List Int) (h1 : 1 ≤ zs.length) (r : Int) (n : Nat) : ((tC zs r n).d.t 0).f = n ∧ (tC zs r n).d.r = 0 := by
  have h := (tC_out zs h1 r n).1
  unfold tC fC flS
  simp only
  rw [if_neg h]
  refine ⟨?_, rfl⟩
  simp only [Dk.t, put, if_true, Option.getD_some]
  omega
theorem tries_plain (zs : List Int) (h1 : 1 ≤ zs.length) (r n : Nat) : (r < n → (getC (tC zs r n) 0).e = 8 ∧ (getC (tC zs r n) 0).b = [] ∧ pgsC (getC (tC zs r n) 0).c = [-1, -1, -1] ∧ (getC (tC zs r n) 0).c.h = 0 ∧ (getC (tC zs r n) 0).c.m = 1 ∧ (getC (tC zs r n) 0).c.t = (r : Int) + 1 ∧ (getC (tC zs r n) 0).c.l = 1 ∧ (getC (tC zs r n) 0).c.d.r = (r : Int) + 1) ∧
    (n ≤ r → (getC (tC zs r n) 0).e = 0 ∧ (getC (tC zs r n) 0).b.length = 64 ∧ pgsC (getC (tC zs r n) 0).c = [0, -1, -1] ∧ (getC (tC zs r n) 0).c.h = 0 ∧ (getC (tC zs r n) 0).c.m = 1 ∧ (getC (tC zs r n) 0).c.t = (n : Int) + 1 ∧ (getC (tC zs r n) 0).c.l = 0) := by
  have ho := (tC_out zs h1 r n).2
  have hf := tC_f zs h1 r n
  have ht := tryD_flt 0 (r + 1) (tC zs r n).d n 8 ho hf.1
  have hl := tryD_len 0 (r + 1) (tC zs r n).d 8 (by decide)
  have hfi : findP (tC zs r n).ss 0 3 0 = -1 := rfl
  have hg : getC (tC zs r n) 0 = if (tryD 0 (r + 1) (tC zs r n).d 8).e = 0 then ⟨0, (tryD 0 (r + 1) (tC zs r n).d 8).b, tookC (tC zs r n) 0 (tryD 0 (r + 1) (tC zs r n).d 8) (0, [q0, q0, q0], 1)⟩ else ⟨(tryD 0 (r + 1) (tC zs r n).d 8).e, [], lostC (tC zs r n) (tryD 0 (r + 1) (tC zs r n).d 8)⟩ := by
    unfold getC
    rw [if_neg ho]
    rfl
  rw [hg, hf.2] at *
  generalize tryD 0 (r + 1) (tC zs r n).d 8 = R at *
  refine ⟨fun h => ?_, fun h => ?_⟩
  · obtain ⟨a1, a2, a3, a4⟩ := ht.1 (by omega)
    rw [if_neg (by omega)] at a1
    rw [if_neg (by rw [a1]; decide)]
    refine ⟨a1, rfl, rfl, rfl, rfl, ?_, rfl, ?_⟩
    · show 0 + R.n = _; rw [a2]; omega
    · show R.d.r = _; rw [a3]; omega
  · obtain ⟨a1, a2⟩ := ht.2 (by omega)
    rw [if_pos a1]
    refine ⟨rfl, (hl a1).1, rfl, rfl, rfl, ?_, rfl⟩
    show 0 + R.n = _; rw [a2]; omega
end Go.Proofs.Ytbboljmmpbchgaa

/- The cache: plain laws of what it gives. -/
import Derived.Test.YtbboljmmpbchgaaCpl
namespace Go.Proofs.Ytbboljmmpbchgaa
open Go Go.RowKit Go.Calli Go.Dskp Go.Maps
set_option linter.unusedVariables false
set_option linter.unusedSimpArgs false
def AllS (P : PS → Prop) (ss : List PS) : Prop := ∀ i, i < ss.length → P (ss.getD i q0)
theorem AllS.set {P : PS → Prop} {ss : List PS} (h : AllS P ss) (i : Nat) {q : PS} (hq : P q) : AllS P (ss.set i q) := by
  intro j hj
  rw [List.length_set] at hj
  by_cases e : j = i
  · subst e
    rw [show (ss.set j q).getD j q0 = q by simp [List.getD, hj]]
    exact hq
  · rw [show (ss.set i q).getD j q0 = ss.getD j q0 by simp [List.getD, List.getElem?_set, Ne.symm e]]
    exact h j hj
theorem AllS.vic {P : PS → Prop} (hd : ∀ q, P q → P q.drop) (n : Nat) : ∀ (k : Nat) (ss : List PS) (h : Nat), AllS P ss → AllS P (vicP n k ss h).2.1 := by
  intro k
  induction k with
  | zero => intro ss h hs; exact hs
  | succ k ih =>
    intro ss h hs
    simp only [vicP]
    split
    · rename_i hu
      refine ih _ _ (hs.set h ?_)
      by_cases hl : h < ss.length
      · exact hd _ (hs h hl)
      · rw [show ss.getD h q0 = q0 by simp [List.getD, Nat.not_lt.1 hl]] at hu
        cases hu
    · exact hs
theorem vicP_len (n : Nat) : ∀ (k : Nat) (ss : List PS) (h : Nat), (vicP n k ss h).2.1.length = ss.length := by
  intro k
  induction k with
  | zero => intro ss h; rfl
  | succ k ih =>
    intro ss h
    simp only [vicP]
    split
    · rw [ih, List.length_set]
    · rfl
def SOk (q : PS) : Prop := q.f = true → q.bs.length = 64 ∧ 0 ≤ q.p ∧ (Lit.int .i64 q.p).wf = true
def COk (c : Ca) : Prop := AllS SOk c.ss
theorem rdB_len (d : Dk) (p : Int) (h : rdE d p = 0) : (rdB d p).length = 64 ∧ 0 ≤ p := by
  unfold rdE at h
  split at h
  · cases h
  · rename_i ho
    split at h
    · cases h
    · rename_i hf
      unfold rdB
      rw [if_neg ho, if_neg hf, List.length_set, pgB_len]
      exact ⟨rfl, by unfold Dk.out at ho; omega⟩
theorem tryD_len (p : Int) : ∀ (k : Nat) (d : Dk) (e : Int), e ≠ 0 → (tryD p k d e).e = 0 → (tryD p k d e).b.length = 64 ∧ 0 ≤ p := by
  intro k
  induction k with
  | zero => intro d e he h; exact absurd h he
  | succ k ih =>
    intro d e he
    simp only [tryD]
    split
    · rename_i h; intro _; exact rdB_len d p h
    · rename_i h; intro h2; exact ih _ _ h h2
theorem pageC_ok {c : Ca} (h : COk c) (p : Int) (hwp : (Lit.int .i64 p).wf = true) : COk (pageC c p).c ∧ ((pageC c p).e = 0 → (pageC c p).b.length = 64) ∧ ((pageC c p).e ≠ 0 → (pageC c p).b = []) ∧ (pageC c p).c.ss.length = c.ss.length ∧ (pageC c p).c.d.img = c.d.img ∧ (pageC c p).c.retry = c.retry := by
  have ht := tryD_len p (c.retry.toNat + 1) c.d 8 (by decide)
  have hi : ∀ (k : Nat) (d : Dk) (e : Int), (tryD p k d e).d.img = d.img := by
    intro k
    induction k with
    | zero => intro d e; rfl
    | succ k ih =>
      intro d e
      simp only [tryD]
      split
      · exact (rdS_r d p).2
      · exact (ih _ _).trans (rdS_r d p).2
  have hi := hi (c.retry.toNat + 1) c.d 8
  unfold pageC
  split
  · rename_i h0
    rcases findP_bd c.ss p c.ss.length 0 with e | ⟨e1, e2, e3, e4⟩
    · omega
    · have := h (findP c.ss p c.ss.length 0).toNat (by omega)
      exact ⟨h.set _ this, fun _ => (this e3).1, fun hne => absurd rfl hne, by simp [hitC], rfl, rfl⟩
  · split
    · rename_i he
      refine ⟨(AllS.vic (fun q hq => hq) _ _ _ _ h).set _ (fun _ => ⟨(ht he).1, (ht he).2, hwp⟩), fun _ => (ht he).1, fun hne => absurd rfl hne, ?_, hi, rfl⟩
      show (((vicP _ _ _ _).2.1).set _ _).length = _
      rw [List.length_set, vicP_len]
    · exact ⟨h, fun he => absurd he (by assumption), fun _ => rfl, rfl, hi, rfl⟩
/-- Get. -/
def getC (c : Ca) (p : Int) : PR := if c.d.out p then ⟨5, [], c⟩ else pageC c p
/-- Span's loop. -/
def spanL : Nat → Ca → Nat → Nat → List Int → PR
  | 0, c, _, _, out => ⟨0, out, c⟩
  | k + 1, c, at_, n, out => if n = 0 then ⟨0, out, c⟩ else if (pageC c ((at_ / 64 : Nat) : Int)).e ≠ 0 then ⟨(pageC c ((at_ / 64 : Nat) : Int)).e, [], (pageC c ((at_ / 64 : Nat) : Int)).c⟩ else spanL k (pageC c ((at_ / 64 : Nat) : Int)).c (at_ + min (64 - at_ % 64) n) (n - min (64 - at_ % 64) n) (out ++ (((pageC c ((at_ / 64 : Nat) : Int)).b.drop (at_ % 64)).take n))
def spanC (c : Ca) (at_ n : Int) : PR := if at_ < 0 ∨ n < 0 ∨ (c.d.pages : Int) * 64 < at_ ∨ (c.d.pages : Int) * 64 - at_ < n then ⟨5, [], c⟩ else spanL n.toNat c at_.toNat n.toNat []
/-- Evict. -/
def evB (c : Ca) (p : Int) : Bool := decide (0 ≤ findP c.ss p c.ss.length 0)
def evC (c : Ca) (p : Int) : Ca := if 0 ≤ findP c.ss p c.ss.length 0 then { c with ss := c.ss.set (findP c.ss p c.ss.length 0).toNat q0 } else c
/-- Empty. -/
def emC (c : Ca) : Ca := { c with ss := List.replicate c.ss.length q0 }
/-- Pages. -/
def pgsC (c : Ca) : List Int := c.ss.map (fun q => if q.f then q.p else -1)
theorem SOk.q0 : SOk q0 := fun h => by cases h
theorem evC_ok {c : Ca} (h : COk c) (p : Int) : COk (evC c p) ∧ (evC c p).ss.length = c.ss.length := by
  unfold evC
  split
  · exact ⟨h.set _ SOk.q0, by simp⟩
  · exact ⟨h, rfl⟩
theorem emC_ok (c : Ca) : COk (emC c) ∧ (emC c).ss.length = c.ss.length := ⟨fun i hi => by
  simp only [emC, List.length_replicate] at hi
  simp only [emC]
  rw [show (List.replicate c.ss.length q0).getD i q0 = q0 by simp [List.getD, hi]]
  exact SOk.q0, by simp [emC]⟩
theorem CLim.mono {k j : Nat} {c : Ca} (h : CLim k c) (hj : k ≤ j) : CLim j c := by
  have h1 := h.h1; have h2 := h.m1; have h3 := h.t1; have h4 := h.l1; have h5 := h.r; have h6 := h.mx
  exact ⟨h.h0, by omega, h.m0, by omega, h.t0, by omega, h.l0, by omega, h.ok, by omega, by omega, h.r0, h.r1⟩
theorem CLim.ss {k : Nat} {c : Ca} (h : CLim k c) (ss : List PS) : CLim k { c with ss := ss } := ⟨h.h0, h.h1, h.m0, h.m1, h.t0, h.t1, h.l0, h.l1, h.ok, h.r, h.mx, h.r0, h.r1⟩
theorem CLim.ev {k : Nat} {c : Ca} (h : CLim k c) (p : Int) : CLim k (evC c p) := by
  unfold evC
  split
  · exact h.ss _
  · exact h
theorem spanL_ok : ∀ (k : Nat) (c : Ca) (at_ n : Nat) (out : List Int) (K : Nat), (at_ + n : Int) ≤ 9223372036854775807 → COk c → CLim K c → COk (spanL k c at_ n out).c ∧ CLim (K + k) (spanL k c at_ n out).c ∧ (spanL k c at_ n out).c.ss.length = c.ss.length ∧ (spanL k c at_ n out).c.d.img = c.d.img ∧ (spanL k c at_ n out).c.retry = c.retry := by
  intro k
  induction k with
  | zero => intro c at_ n out K hb h hL; exact ⟨h, hL, rfl, rfl, rfl⟩
  | succ k ih =>
    intro c at_ n out K hb h hL
    have hp := pageC_ok h ((at_ / 64 : Nat) : Int) (WalkArith.wf_i64 (by omega))
    have hl := hL.page ((at_ / 64 : Nat) : Int)
    simp only [spanL]
    split
    · exact ⟨h, hL.mono (by omega), rfl, rfl, rfl⟩
    · split
      · exact ⟨hp.1, hl.mono (by omega), hp.2.2.2⟩
      · have := ih (pageC c ((at_ / 64 : Nat) : Int)).c (at_ + min (64 - at_ % 64) n) (n - min (64 - at_ % 64) n) (out ++ (((pageC c ((at_ / 64 : Nat) : Int)).b.drop (at_ % 64)).take n)) (K + 1) (by omega) hp.1 hl
        exact ⟨this.1, this.2.1.mono (by omega), this.2.2.1.trans hp.2.2.2.1, this.2.2.2.1.trans hp.2.2.2.2.1, this.2.2.2.2.trans hp.2.2.2.2.2⟩
theorem pgsC_wf {c : Ca} (h : COk c) : ∀ z ∈ pgsC c, (Lit.int .i64 z).wf = true := by
  intro z hz
  obtain ⟨q, hq, rfl⟩ := List.mem_map.1 hz
  obtain ⟨i, hi, e⟩ := List.getElem_of_mem hq
  have := h i hi
  rw [show c.ss.getD i q0 = q by simp [List.getD, hi, e]] at this
  cases hf : q.f with
  | false => rfl
  | true => exact (this hf).2.2
end Go.Proofs.Ytbboljmmpbchgaa

/- The cache: its plain state, and the state in memory. -/
import Derived.Test.YtbboljmmpbchgaaTry
import Derived.Test.YtbboljmmpbchgaaFnd
namespace Go.Proofs.Ytbboljmmpbchgaa
open Go Go.RowKit Go.Calli Go.Dskp Go.Maps
set_option linter.unusedVariables false
set_option linter.unusedSimpArgs false
/-- A slot, without addresses. -/
structure PS where
  p : Int
  u : Bool
  f : Bool
  bs : List Int
def q0 : PS := ⟨0, false, false, []⟩
structure Ca where
  h : Int
  m : Int
  t : Int
  l : Int
  d : Dk
  ss : List PS
  hand : Nat
  retry : Int
  mx : Nat
def findP (ss : List PS) (page : Int) : Nat → Nat → Int
  | 0, _ => -1
  | k + 1, i => if (ss.getD i q0).f = true ∧ (ss.getD i q0).p = page then (i : Int) else findP ss page k (i + 1)
theorem findP_bd (ss : List PS) (page : Int) : ∀ k i, findP ss page k i = -1 ∨ ((i : Int) ≤ findP ss page k i ∧ findP ss page k i < i + k ∧ (ss.getD (findP ss page k i).toNat q0).f = true ∧ (ss.getD (findP ss page k i).toNat q0).p = page) := by
  intro k
  induction k with
  | zero => intro i; exact .inl rfl
  | succ k ih =>
    intro i
    simp only [findP]
    split
    · rename_i h
      exact .inr ⟨Int.le_refl _, by omega, by simpa using h.1, by simpa using h.2⟩
    · rcases ih (i + 1) with h | ⟨h1, h2, h3⟩
      · exact .inl h
      · exact .inr ⟨by omega, by omega, h3⟩
def PS.used (s : PS) : Bool := s.f && s.u
def PS.drop (s : PS) : PS := { s with u := false }
def cntP (ss : List PS) : Nat := (ss.filter PS.used).length
def vicP (n : Nat) : Nat → List PS → Nat → Nat × List PS × Nat
  | 0, ss, h => (h, ss, (h + 1) % n)
  | k + 1, ss, h => if (ss.getD h q0).used = true then vicP n k (ss.set h (ss.getD h q0).drop) ((h + 1) % n) else (h, ss, (h + 1) % n)
/-- Where things lie. -/
structure Ad where
  cb : Nat
  sb : Nat
  b : Nat
  mb : Nat
  ib : Option Addr
  kap : Nat
  /-- Blocks that are others'. -/
  x : Nat → Prop
def Ad.S (A : Ad) (k : Nat) : Prop := k = A.cb ∨ k = A.sb ∨ k = A.b ∨ k = A.mb
def Ad.T (A : Ad) (k : Nat) : Prop := A.S k ∨ A.x k
structure SlotIs (A : Ad) (w : World) (s : Slot) (q : PS) : Prop where
  p : s.p = q.p
  u : s.u = q.u
  f : s.f = q.f
  bs : q.f = true → s.bn = q.bs.length ∧ s.bn ≤ s.bc ∧ Ints .u8 w s.bo s.bn q.bs ∧ ∀ a, s.bo = some a → ¬ A.T a.block
theorem SlotIs.keptT {A : Ad} {w w' : World} {s : Slot} {q : PS} (h : SlotIs A w s q) (hk : Keeps A.T w w') : SlotIs A w' s q := ⟨h.p, h.u, h.f, fun hf => by
  obtain ⟨a1, a2, a4, a5⟩ := h.bs hf
  exact ⟨a1, a2, a4.kept hk a5, a5⟩⟩
theorem SlotIs.kept {A : Ad} {w w' : World} {s : Slot} {q : PS} (h : SlotIs A w s q) (hk : Keeps A.S w w') : SlotIs A w' s q := h.keptT (hk.mono fun k _ h => .inl h)
structure SlotsAre (A : Ad) (w : World) (ms : List Slot) (qs : List PS) : Prop where
  len : ms.length = qs.length
  is : ∀ i, i < qs.length → SlotIs A w (ms.getD i Slot.none) (qs.getD i q0)
theorem SlotsAre.keptT {A : Ad} {w w' : World} {ms : List Slot} {qs : List PS} (h : SlotsAre A w ms qs) (hk : Keeps A.T w w') : SlotsAre A w' ms qs := ⟨h.len, fun i hi => (h.is i hi).keptT hk⟩
theorem SlotsAre.kept {A : Ad} {w w' : World} {ms : List Slot} {qs : List PS} (h : SlotsAre A w ms qs) (hk : Keeps A.S w w') : SlotsAre A w' ms qs := ⟨h.len, fun i hi => (h.is i hi).kept hk⟩
theorem SlotsAre.set {A : Ad} {w : World} {ms : List Slot} {qs : List PS} (h : SlotsAre A w ms qs) (i : Nat) {s : Slot} {q : PS} (hs : SlotIs A w s q) : SlotsAre A w (ms.set i s) (qs.set i q) := ⟨by rw [List.length_set, List.length_set, h.len], fun j hj => by
  rw [List.length_set] at hj
  by_cases e : j = i
  · subst e
    rw [show (ms.set j s).getD j Slot.none = s by simp [List.getD, h.len, hj], show (qs.set j q).getD j q0 = q by simp [List.getD, hj]]
    exact hs
  · rw [show (ms.set i s).getD j Slot.none = ms.getD j Slot.none by simp [List.getD, List.getElem?_set, Ne.symm e], show (qs.set i q).getD j q0 = qs.getD j q0 by simp [List.getD, List.getElem?_set, Ne.symm e]]
    exact h.is j hj⟩
theorem find_rel {A : Ad} {w : World} {ms : List Slot} {qs : List PS} (h : SlotsAre A w ms qs) (page : Int) : ∀ k i, i + k ≤ qs.length → findS ms page k i = findP qs page k i := by
  intro k
  induction k with
  | zero => intro i _; rfl
  | succ k ih =>
    intro i hi
    have hs := h.is i (by omega)
    simp only [findS, findP]
    rw [hs.f, hs.p, ih (i + 1) (by omega)]
theorem cnt_rel {A : Ad} {w : World} : ∀ {ms : List Slot} {qs : List PS} (h : SlotsAre A w ms qs), cnt ms = cntP qs := by
  intro ms
  induction ms with
  | nil => intro qs h; have := h.len; obtain rfl : qs = [] := List.eq_nil_of_length_eq_zero (by simpa using this.symm); rfl
  | cons s ms ih =>
    intro qs h
    cases qs with
    | nil => have := h.len; simp at this
    | cons q qs =>
      have h0 := h.is 0 (by simp)
      have e0 : s.used = q.used := by
        have hf : s.f = q.f := h0.f
        have hu : s.u = q.u := h0.u
        unfold Slot.used PS.used; rw [hf, hu]
      have ht : SlotsAre A w ms qs := ⟨by have := h.len; simpa using this, fun i hi => by have := h.is (i + 1) (by simpa using hi); simpa using this⟩
      have := ih ht
      unfold cnt cntP at *
      by_cases hu : q.used = true
      · rw [List.filter_cons_of_pos (by rw [e0]; exact hu), List.filter_cons_of_pos hu, List.length_cons, List.length_cons, this]
      · rw [List.filter_cons_of_neg (by rw [e0]; exact hu), List.filter_cons_of_neg hu, this]
theorem vic_rel {A : Ad} {w : World} {n : Nat} (hn : 0 < n) : ∀ (k : Nat) {ms : List Slot} {qs : List PS} (h : SlotsAre A w ms qs) (hl : qs.length = n) (g : Nat) (hg : g < n), (vic n k ms g).1 = (vicP n k qs g).1 ∧ (vic n k ms g).2.2 = (vicP n k qs g).2.2 ∧ SlotsAre A w (vic n k ms g).2.1 (vicP n k qs g).2.1 ∧ (vicP n k qs g).1 < n ∧ (vicP n k qs g).2.2 < n ∧ (vicP n k qs g).2.1.length = n := by
  intro k
  induction k with
  | zero => intro ms qs h hl g hg; exact ⟨rfl, rfl, h, hg, Nat.mod_lt _ hn, hl⟩
  | succ k ih =>
    intro ms qs h hl g hg
    have hs := h.is g (by omega)
    have eu : (ms.getD g Slot.none).used = (qs.getD g q0).used := by unfold Slot.used PS.used; rw [hs.f, hs.u]
    simp only [vic, vicP]
    rw [eu]
    by_cases hu : (qs.getD g q0).used = true
    · rw [if_pos hu, if_pos hu]
      exact ih (h.set g (s := (ms.getD g Slot.none).drop) (q := (qs.getD g q0).drop) ⟨hs.p, rfl, hs.f, hs.bs⟩) (by rw [List.length_set]; exact hl) _ (Nat.mod_lt _ hn)
    · rw [if_neg hu, if_neg hu]
      exact ⟨rfl, rfl, h, hg, Nat.mod_lt _ hn, hl⟩
/-- A page's bytes: the error, the bytes, the cache behind. -/
structure PR where
  e : Int
  b : List Int
  c : Ca
def hitC (c : Ca) (i : Nat) : Ca := { c with h := c.h + 1, ss := c.ss.set i { c.ss.getD i q0 with u := true } }
def lostC (c : Ca) (R : TR) : Ca := { c with m := c.m + 1, t := c.t + R.n, d := R.d, l := c.l + 1, mx := c.mx + 9 }
def tookC (c : Ca) (p : Int) (R : TR) (V : Nat × List PS × Nat) : Ca := { c with m := c.m + 1, t := c.t + R.n, d := R.d, ss := V.2.1.set V.1 ⟨p, true, true, R.b⟩, hand := V.2.2, mx := c.mx + 9 }
def pageC (c : Ca) (p : Int) : PR :=
  if 0 ≤ findP c.ss p c.ss.length 0 then ⟨0, (c.ss.getD (findP c.ss p c.ss.length 0).toNat q0).bs, hitC c (findP c.ss p c.ss.length 0).toNat⟩
  else if (tryD p (c.retry.toNat + 1) c.d 8).e = 0 then ⟨0, (tryD p (c.retry.toNat + 1) c.d 8).b, tookC c p (tryD p (c.retry.toNat + 1) c.d 8) (vicP c.ss.length (cntP c.ss) c.ss c.hand)⟩
  else ⟨(tryD p (c.retry.toNat + 1) c.d 8).e, [], lostC c (tryD p (c.retry.toNat + 1) c.d 8)⟩
/-- Where others' blocks lie. -/
def Aw (A : Ad) (w : World) : Prop := (∀ a, A.ib = some a → a.block < w.heap.size) ∧ ∀ k, A.x k → k < w.heap.size ∧ ¬ A.S k ∧ ∀ a, A.ib = some a → a.block ≠ k
theorem Aw.mono {A : Ad} {w w' : World} (h : Aw A w) (hs : w.heap.size ≤ w'.heap.size) : Aw A w' := ⟨fun a ha => Nat.lt_of_lt_of_le (h.1 a ha) hs, fun k hx => ⟨Nat.lt_of_lt_of_le (h.2 k hx).1 hs, (h.2 k hx).2⟩⟩
/-- A cache in memory. -/
structure CaIs (A : Ad) (w : World) (n : Nat) (c : Ca) : Prop where
  row : w.heap[A.cb]? = some (.cells #[.int .i64 c.h, .int .i64 c.m, .int .i64 c.t, .int .i64 c.l, .pointer (some ⟨A.b, 0, none⟩), .slice (some ⟨A.sb, 0, none⟩) n n, .int .i64 c.hand, .int .i64 c.retry] 47 (0, 0))
  slots : ∃ ms, Slots w A.sb n ms ∧ SlotsAre A w ms c.ss
  dsk : ∃ m, m ≤ c.mx ∧ Dsk w A.b A.mb A.ib A.kap m c.d
  len : c.ss.length = n
  hand : c.hand < n
  dist : A.cb ≠ A.sb ∧ A.b ≠ A.cb ∧ A.mb ≠ A.cb ∧ A.b ≠ A.sb ∧ A.mb ≠ A.sb ∧ ∀ a, A.ib = some a → a.block ≠ A.cb ∧ a.block ≠ A.sb
  away : Aw A w
theorem CaIs.keep0 {A : Ad} {w w' : World} {n : Nat} {c : Ca} (h : CaIs A w n c) (hb : Below w.heap.size w w') : CaIs A w' n c := by
  have hk := Keeps.ofBelow (S := fun _ => False) hb (Nat.le_refl _)
  obtain ⟨ms, h1, h2⟩ := h.slots
  obtain ⟨m, h3, h4⟩ := h.dsk
  exact ⟨hk.heap h.row id, ⟨ms, h1.kept hk id, h2.kept (hk.mono fun k _ h => h.elim)⟩, ⟨m, h3, h4.keep0 hb⟩, h.len, h.hand, h.dist, h.away.mono hk.size⟩
theorem CaIs.inW {A : Ad} {w : World} {n : Nat} {c : Ca} (h : CaIs A w n c) : ∀ k, A.S k → k < w.heap.size := by
  obtain ⟨ms, h1, h2⟩ := h.slots
  obtain ⟨m, h3, h4⟩ := h.dsk
  rintro k (rfl | rfl | rfl | rfl)
  · exact lt_of_block h.row
  · exact lt_of_block h1.2
  · exact h4.lt
  · exact h4.2.2.2.1.lt
/-- So many pages have been asked for. -/
structure CLim (k : Nat) (c : Ca) : Prop where
  h0 : 0 ≤ c.h
  h1 : c.h ≤ k
  m0 : 0 ≤ c.m
  m1 : c.m ≤ k
  t0 : 0 ≤ c.t
  t1 : c.t ≤ 9 * k
  l0 : 0 ≤ c.l
  l1 : c.l ≤ k
  ok : c.d.Ok
  r : c.d.r ≤ 9 * k
  mx : c.mx ≤ 9 * k
  r0 : 0 ≤ c.retry
  r1 : c.retry ≤ 8
theorem tryD_lim (p : Int) : ∀ (k : Nat) (d : Dk) (e : Int), d.Ok → (tryD p k d e).d.Ok ∧ 0 ≤ (tryD p k d e).n ∧ (tryD p k d e).n ≤ k ∧ (tryD p k d e).d.r ≤ d.r + k := by
  intro k
  induction k with
  | zero => intro d e hd; exact ⟨hd, Int.le_refl _, Int.le_refl _, by simp [tryD]⟩
  | succ k ih =>
    intro d e hd
    have hr := (rdS_r d p).1
    simp only [tryD]
    split
    · exact ⟨rdS_ok hd p, by simp only; omega, by simp only; omega, by simp only; omega⟩
    · have := ih (rdS d p) (rdE d p) (rdS_ok hd p)
      exact ⟨this.1, by simp only; omega, by simp only; omega, by simp only; omega⟩
theorem CLim.page {k : Nat} {c : Ca} (h : CLim k c) (p : Int) : CLim (k + 1) (pageC c p).c := by
  have ht := tryD_lim p (c.retry.toNat + 1) c.d 8 h.ok
  have h1 := h.h0; have h2 := h.h1; have h3 := h.m0; have h4 := h.m1; have h5 := h.t0; have h6 := h.t1; have h7 := h.l0; have h8 := h.l1; have h9 := h.ok; have h10 := h.r; have h11 := h.mx; have h12 := h.r0; have h13 := h.r1
  unfold pageC
  generalize tryD p (c.retry.toNat + 1) c.d 8 = R at *
  obtain ⟨t1, t2, t3, t4⟩ := ht
  split
  · constructor <;> simp only [hitC] <;> first | omega | assumption
  · split
    · constructor <;> simp only [tookC] <;> first | omega | assumption
    · constructor <;> simp only [lostC] <;> first | omega | assumption
end Go.Proofs.Ytbboljmmpbchgaa

/- Plain: what renderings told, put together; rows of renderings with losses. No program in sight. -/
import Derived.Test.YtidjcbmdmecajaaCommon
namespace Go.Proofs.Ytidjcbmdmecajaa
open Go Go.RowKit Go.Calli
set_option linter.unusedVariables false
/-- A loss: voice, channel, block. -/
structure Ls where
  v : Int
  c : Int
  b : Int
  deriving DecidableEq
def l0 : Ls := ⟨0, 0, 0⟩
/-- What a rendering told. -/
structure Rp where
  out : Nat
  lost : List Ls
  ended : List Int
  frames : Int
  reads : Int
def r0 : Rp := ⟨0, [], [], 0, 0⟩
/-- An entry of the log. -/
structure En where
  i : Int
  l : Ls
  deriving DecidableEq
def e0 : En := ⟨0, l0⟩
structure Ed where
  i : Int
  v : Int
  deriving DecidableEq
def d0 : Ed := ⟨0, 0⟩
structure Lg where
  samples : Int
  renders : Int
  frames : Int
  reads : Int
  lost : List En
  ended : List Ed
  worst : Int
def g0 : Lg := ⟨0, 0, 0, 0, [], [], 0⟩
def ents (k : Int) (l : List Ls) : List En := l.map fun x => ⟨k, x⟩
def ends (k : Int) (l : List Int) : List Ed := l.map fun x => ⟨k, x⟩
def note (g : Lg) (r : Rp) : Lg := ⟨g.samples + r.out, g.renders + 1, g.frames + r.frames, g.reads + r.reads, g.lost ++ ents g.renders r.lost, g.ended ++ ends g.renders r.ended, max g.worst r.frames⟩
def noteL (g : Lg) (l : List Rp) : Lg := l.foldl note g
/-- A report that few gives. -/
structure Sm (r : Rp) : Prop where
  out : r.out ≤ 20
  lost : r.lost.length ≤ 20
  ended : r.ended.length ≤ 20
  f0 : 0 ≤ r.frames
  f1 : r.frames ≤ 1073741823
  r0 : 0 ≤ r.reads
  r1 : r.reads ≤ 1073741823
/-- A log of k renderings. -/
structure Lim (k : Nat) (g : Lg) : Prop where
  s0 : 0 ≤ g.samples
  s1 : g.samples ≤ 20 * k
  n : g.renders = k
  f0 : 0 ≤ g.frames
  f1 : g.frames ≤ 1073741823 * k
  r0 : 0 ≤ g.reads
  r1 : g.reads ≤ 1073741823 * k
  l : g.lost.length ≤ 20 * k
  e : g.ended.length ≤ 20 * k
  w0 : 0 ≤ g.worst
  w1 : g.worst ≤ 1073741823
theorem Lim.zero : Lim 0 g0 := by constructor <;> simp [g0]
theorem Lim.note {k : Nat} {g : Lg} {r : Rp} (h : Lim k g) (s : Sm r) : Lim (k + 1) (note g r) := by
  have h1 := h.s0; have h2 := h.s1; have h3 := h.n; have h4 := h.f0; have h5 := h.f1; have h6 := h.r0; have h7 := h.r1; have h8 := h.l; have h9 := h.e; have h10 := h.w0; have h11 := h.w1
  have s1 := s.out; have s2 := s.lost; have s3 := s.ended; have s4 := s.f0; have s5 := s.f1; have s6 := s.r0; have s7 := s.r1
  constructor <;> simp only [Proofs.Ytidjcbmdmecajaa.note, ents, ends, List.length_append, List.length_map] <;> omega
theorem Lim.noteL {l : List Rp} : ∀ {k : Nat} {g : Lg} (h : Lim k g) (s : ∀ r ∈ l, Sm r), Lim (k + l.length) (noteL g l) := by
  induction l with
  | nil => intro k g h s; exact h
  | cons r l ih =>
    intro k g h s
    have := ih (h.note (s r (by simp))) (fun x hx => s x (by simp [hx]))
    rw [List.length_cons, show k + (l.length + 1) = k + 1 + l.length by omega]
    exact this
theorem noteL_snoc (g : Lg) (l : List Rp) (r : Rp) : noteL g (l ++ [r]) = note (noteL g l) r := by simp [noteL]
theorem noteL_take (g : Lg) (l : List Rp) (k : Nat) (h : k < l.length) : noteL g (l.take (k + 1)) = note (noteL g (l.take k)) (l.getD k r0) := by
  rw [List.take_succ_eq_append_getElem h, noteL_snoc]; simp [List.getD, h]
theorem noteL_renders (g : Lg) (l : List Rp) : (noteL g l).renders = g.renders + l.length := by
  induction l generalizing g with
  | nil => simp [noteL]
  | cons r l ih =>
    have := ih (note g r)
    simp only [noteL, List.foldl_cons, List.length_cons] at this ⊢
    rw [this]; simp only [note]; omega
/-- Was something lost in rendering i? -/
def anyG (g : Lg) (i : Int) : Bool := g.lost.any fun e => e.i == i
/-- One step of the longest row: best, from, n. -/
structure Rw where
  best : Int
  fr : Int
  n : Int
def rstep (b : Bool) (i : Int) (s : Rw) : Rw := if b then (if s.n + 1 > s.best then ⟨s.n + 1, i - (s.n + 1) + 1, s.n + 1⟩ else ⟨s.best, s.fr, s.n + 1⟩) else ⟨s.best, s.fr, 0⟩
def rrun (g : Lg) : Nat → Rw
  | 0 => ⟨0, -1, 0⟩
  | k + 1 => rstep (anyG g k) k (rrun g k)
theorem rrun_n (g : Lg) : ∀ k, 0 ≤ (rrun g k).n ∧ (rrun g k).n ≤ k ∧ 0 ≤ (rrun g k).best ∧ (rrun g k).best ≤ k ∧ -1 ≤ (rrun g k).fr ∧ (rrun g k).fr ≤ k := by
  intro k
  induction k with
  | zero => simp [rrun]
  | succ k ih =>
    simp only [rrun, rstep]
    split
    · split <;> simp only <;> omega
    · simp only; omega
/-- The frames that a voice lost in a rendering. -/
def ofL (l : List En) (render voice : Int) : List Ls := (l.filter fun e => e.i == render && e.l.v == voice).map En.l
theorem ofL_len (l : List En) (a b : Int) : (ofL l a b).length ≤ l.length := by simp only [ofL, List.length_map]; exact List.length_filter_le _ _
theorem ofL_snoc (l : List En) (e : En) (a b : Int) : ofL (l ++ [e]) a b = ofL l a b ++ (if e.i = a ∧ e.l.v = b then [e.l] else []) := by
  unfold ofL
  rw [List.filter_append, List.map_append]
  congr 1
  by_cases h : e.i = a ∧ e.l.v = b
  · rw [if_pos h]; simp [h.1, h.2]
  · rw [if_neg h]; simp only [List.filter_cons, List.filter_nil]
    rw [if_neg (by simpa using h)]; rfl
end Go.Proofs.Ytidjcbmdmecajaa

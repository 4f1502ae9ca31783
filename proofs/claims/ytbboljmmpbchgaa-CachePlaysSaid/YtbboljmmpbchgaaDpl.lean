/- The document's disk: plain laws. No program in sight. -/
import Derived.Test.YtbboljmmpbchgaaFmap
namespace Go.Dskp
open Go Go.Calli
set_option linter.unusedVariables false
/-- A byte spoilt. -/
def bx (a x : Int) : Int := bits BinOp.xor IntKind.u8 a x
structure Dk where
  img : List Int
  F : Int → Option Flt
  r : Int
  g : Int
def Dk.pages (s : Dk) : Nat := (s.img.length + 63) / 64
def Dk.t (s : Dk) (p : Int) : Flt := (s.F p).getD Flt.zero
def pgB (img : List Int) (p : Nat) : List Int := (List.range 64).map (fun i => img.getD (64 * p + i) 0)
def put (F : Int → Option Flt) (p : Int) (v : Option Flt) : Int → Option Flt := fun j => if j = p then v else F j
def FOk (t : Flt) : Prop := 0 ≤ t.a ∧ t.a < 64 ∧ -1 ≤ t.f ∧ t.f ≤ 9223372036854775807 ∧ 0 ≤ t.x ∧ t.x ≤ 255
def Dk.Ok (s : Dk) : Prop := s.img.length ≤ 4194304 ∧ 0 ≤ s.r ∧ 0 ≤ s.g ∧ s.g ≤ s.r ∧ ∀ k t, s.F k = some t → FOk t
def Dk.out (s : Dk) (p : Int) : Prop := p < 0 ∨ (s.pages : Int) ≤ p
instance (s : Dk) (p : Int) : Decidable (s.out p) := inferInstanceAs (Decidable (_ ∨ _))
def rdE (s : Dk) (p : Int) : Int := if s.out p then 5 else if (s.t p).f ≠ 0 then 8 else 0
def rdB (s : Dk) (p : Int) : List Int := if s.out p then [] else if (s.t p).f ≠ 0 then [] else (pgB s.img p.toNat).set (s.t p).a.toNat (bx ((pgB s.img p.toNat).getD (s.t p).a.toNat 0) (s.t p).x)
def rdS (s : Dk) (p : Int) : Dk := if s.out p then s else if (s.t p).f ≠ 0 then { s with r := s.r + 1, g := s.g + 1, F := put s.F p (some { s.t p with f := max ((s.t p).f - 1) (-1) }) } else { s with r := s.r + 1 }
/-- Fail. -/
def flS (s : Dk) (p n : Int) : Dk := if s.out p then s else { s with F := put s.F p (some { s.t p with f := max n (-1) }) }
def flE (s : Dk) (p : Int) : Int := if s.out p then 5 else 0
/-- Spoil. -/
def spS (s : Dk) (p a x : Int) : Dk := if s.out p then s else if a < 0 ∨ 64 ≤ a then s else { s with F := put s.F p (some { s.t p with a := a, x := x }) }
def spE (s : Dk) (p a : Int) : Int := if s.out p then 5 else if a < 0 ∨ 64 ≤ a then 1 else 0
/-- Heal. -/
def hlS (s : Dk) (p : Int) : Dk := if s.out p then s else { s with F := put s.F p none }
theorem FOk.zero : FOk Flt.zero := ⟨by decide, by decide, by decide, by decide, by decide, by decide⟩
theorem Dk.Ok.t {s : Dk} (h : s.Ok) (p : Int) : FOk (s.t p) := by
  unfold Dk.t
  cases hF : s.F p with
  | none => exact FOk.zero
  | some t => exact h.2.2.2.2 p t hF
theorem put_ok {F : Int → Option Flt} (h : ∀ k t, F k = some t → FOk t) {p : Int} {v : Option Flt} (hv : ∀ t, v = some t → FOk t) : ∀ k t, put F p v k = some t → FOk t := by
  intro k t hk
  unfold put at hk
  split at hk
  · exact hv t hk
  · exact h k t hk
theorem rdS_ok {s : Dk} (h : s.Ok) (p : Int) : (rdS s p).Ok := by
  obtain ⟨h1, h2, h3, h4, h5⟩ := h
  have ht := Dk.Ok.t ⟨h1, h2, h3, h4, h5⟩ p
  unfold rdS
  split
  · exact ⟨h1, h2, h3, h4, h5⟩
  · split
    · refine ⟨h1, by show 0 ≤ s.r + 1; omega, by show 0 ≤ s.g + 1; omega, by show s.g + 1 ≤ s.r + 1; omega, put_ok h5 ?_⟩
      rintro t ⟨⟩
      obtain ⟨a, b, c, d, e, f⟩ := ht
      exact ⟨a, b, by show -1 ≤ max _ (-1); omega, by show max _ (-1) ≤ _; omega, e, f⟩
    · exact ⟨h1, by show 0 ≤ s.r + 1; omega, h3, by show s.g ≤ s.r + 1; omega, h5⟩
theorem flS_ok {s : Dk} (h : s.Ok) (p n : Int) (hn : n ≤ 9223372036854775807) : (flS s p n).Ok := by
  obtain ⟨h1, h2, h3, h4, h5⟩ := h
  have ht := Dk.Ok.t ⟨h1, h2, h3, h4, h5⟩ p
  unfold flS
  split
  · exact ⟨h1, h2, h3, h4, h5⟩
  · refine ⟨h1, h2, h3, h4, put_ok h5 ?_⟩
    rintro t ⟨⟩
    obtain ⟨a, b, c, d, e, f⟩ := ht
    exact ⟨a, b, by show -1 ≤ max _ (-1); omega, by show max _ (-1) ≤ _; omega, e, f⟩
theorem spS_ok {s : Dk} (h : s.Ok) (p a x : Int) (hx : 0 ≤ x) (hx2 : x ≤ 255) : (spS s p a x).Ok := by
  obtain ⟨h1, h2, h3, h4, h5⟩ := h
  have ht := Dk.Ok.t ⟨h1, h2, h3, h4, h5⟩ p
  unfold spS
  split
  · exact ⟨h1, h2, h3, h4, h5⟩
  · split
    · exact ⟨h1, h2, h3, h4, h5⟩
    · refine ⟨h1, h2, h3, h4, put_ok h5 ?_⟩
      rintro t ⟨⟩
      obtain ⟨_, _, c, d, e, f⟩ := ht
      exact ⟨by show 0 ≤ a; omega, by show a < 64; omega, c, d, hx, hx2⟩
theorem hlS_ok {s : Dk} (h : s.Ok) (p : Int) : (hlS s p).Ok := by
  obtain ⟨h1, h2, h3, h4, h5⟩ := h
  unfold hlS
  split
  · exact ⟨h1, h2, h3, h4, h5⟩
  · exact ⟨h1, h2, h3, h4, put_ok h5 (by rintro t ⟨⟩)⟩
end Go.Dskp

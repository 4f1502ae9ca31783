/- AdpcmWhole, for every input: the statement, out of the walk in YtbhopghfglgibaaWhl. No condition. -/
import Derived.Test.YtbhopghfglgibaaRows
import Derived.Test.YtbhopghfglgibaaWhl
import Derived.Test.YtbhopghfglgibaaLegible
import Derived.ChangeOld
import Derived.WideShapes
namespace Go.Proofs.Ytbhopghfglgibaa.adpcmWhole
open Go.ChangeShapes Go.WideShapes Go.ChangeAt Go.RowKit Go.Calli
set_option linter.unusedVariables false

theorem own : ownKnob Try.prog.godebug = none := by kernel_rfl
theorem laidOut : laidOutB Try.prog = true := by kernel_rfl

theorem walk (a0 : Option Addr) (l0 c0 : Nat) (a1 : Option Addr) (l1 c1 : Nat) (w : World) (g0 : Legible Try.prog w 34 [.slice a0 l0 c0]) (g1 : Legible Try.prog w 33 [.slice a1 l1 c1]) :
    Calls Try.prog 7 #[.slice a0 l0 c0, .slice a1 l1 c1] w fun e w' => e = .returned (.bool true) ∧ Below w.heap.size w w' := by
  obtain ⟨hl0, zs, h⟩ := g0.ints Try.underlying34 Try.underlying3 (by kernel_rfl)
  obtain ⟨hl1, bs, hb⟩ := g1.ints Try.underlying33 Try.underlying5 (by kernel_rfl)
  have hc0 : c0 ≤ maxLen := by
    rcases g0.slice Try.underlying34 with h | ⟨a, l, c, h, _, hm, _⟩
    · simp at h; obtain ⟨_, _, rfl⟩ := h; unfold maxLen; omega
    · simp at h; obtain ⟨_, _, rfl⟩ := h; exact hm
  have hc1 : c1 ≤ maxLen := by
    rcases g1.slice Try.underlying33 with h | ⟨a, l, c, h, _, hm, _⟩
    · simp at h; obtain ⟨_, _, rfl⟩ := h; unfold maxLen; omega
    · simp at h; obtain ⟨_, _, rfl⟩ := h; exact hm
  exact wholes_any _ _ _ _ _ _ _ _ hl0 hc0 hl1 hc1 w h hb

set_option maxRecDepth 100000 in
theorem lifted (os : Os) (started : os.Started) (H : Type) (enc : TypeId × Value → H) :
    ReturnsInHanded {} Try.checked os 7 .any (Rows.adpcmWholeSpec.pre6 enc Try.prog Try.f7 Rows.adpcmWholeRow.domain false) (Rows.adpcmWholeSpec.post enc Try.prog Try.f7 false true false false) := by
  refine returnsInHanded_of_change (C := Try.checked) own started (by kernel_rfl) Try.func7
    (ChangeSpec.witness6 (enc := enc) (C := Try.checked) false ⟨#[], #[.slice none 0 0, .slice none 0 0], []⟩ 8 (by kernel_rfl) (by kernel_rfl) (by kernel_rfl) (by kernel_rfl)) ?_
  intro W base args ds gs before hval0 hW hcnd _
  have hval : ∀ (j : Nat) t v, Try.f7.params[j]? = some t → args[j]? = some v → Value.okWide Try.prog W .any base t v := hval0
  have hW' := hW
  obtain ⟨p, q, hA0, hV, rfl, hfz, hnd⟩ := hW
  have hA : DataW.TrodAll enc Try.prog W 0 (fun _ => true) true Try.f7.params.toList args.toList ds p := hA0
  rw [Try.params7] at hA hval
  obtain ⟨v0, vs0, d0, ds0, p0, q0, hargs, rfl, rfl, h0, r0⟩ := trodAll_cons hA
  obtain ⟨v1, vs1, d1, ds1, p1, q1, rfl, rfl, rfl, h1, r1⟩ := trodAll_cons r0
  obtain ⟨rfl, rfl, rfl⟩ := trodAll_nil r1
  obtain rfl : args = #[v0, v1] := by cases args; simp_all
  obtain ⟨rfl, rfl⟩ := trodVars_none hV
  obtain ⟨a0, l0, c0, rfl⟩ := okWide_slice Try.underlying34 (hval 0 34 v0 rfl rfl)
  have lt0 : ∀ x ∈ p0, x.block < W.heap.size := by obtain ⟨m, hm⟩ := h0; exact DataW.trod_lt m _ _ _ hm
  obtain ⟨a1, l1, c1, rfl⟩ := okWide_slice Try.underlying33 (hval 1 33 v1 rfl rfl)
  have lt1 : ∀ x ∈ p1, x.block < W.heap.size := by obtain ⟨m, hm⟩ := h1; exact DataW.trod_lt m _ _ _ hm
  clear hA0 hval0
  refine (walk a0 l0 c0 a1 l1 c1 W (Legible.of_trod h0) (Legible.of_trod h1)).mono fun e W' ⟨he, bel⟩ => ?_
  subst he
  exact ⟨_, rfl, _, _, _, [], _, [], hW', trodAll_mk1 (shut_bool Try.underlying4 _), (trodAll_cons_mk (Below.trod laidOut (by kernel_rfl) (of_decide_eq_true (by kernel_rfl)) h0 bel lt0) (trodAll_cons_mk (Below.trod laidOut (by kernel_rfl) (of_decide_eq_true (by kernel_rfl)) h1 bel lt1) trodAll_mk0)), rfl, bel.frame _, fun h => by cases h⟩

theorem over : Rows.adpcmWholeRow.holds Try.pinned (OpenSpec.ofChange Rows.adpcmWholeSpec) :=
  OpenClaim.holds_of_wide 7 Try.f7 rfl rfl rfl rfl rfl rfl rfl ⟨rfl, rfl, rfl, rfl, rfl⟩ rfl rfl rfl rfl rfl (by kernel_rfl) Try.func7 (by kernel_rfl)
    (of_decide_eq_true (by kernel_rfl)) (by unfold Func.isWrapper; first | (rw [if_pos (by decide +kernel)]; kernel_rfl) | (rw [if_neg (by decide +kernel)]; exact ⟨rfl, rfl⟩))
    (fun os started H enc _ => lifted os started H enc)

/-- THE STATEMENT. -/
theorem proved : Rows.AdpcmWholeSaid :=
  over
#print axioms proved
end Go.Proofs.Ytbhopghfglgibaa.adpcmWhole

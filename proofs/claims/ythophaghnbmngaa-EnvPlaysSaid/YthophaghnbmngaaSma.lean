/- The walks of env's small functions: Release, Stage, Level, Right, New, and of the statement's right. -/
import Derived.Test.YthophaghnbmngaaNxt
namespace Go.Proofs.Ythophaghnbmngaa
open Go.RowKit Go.Calli Go.Envp
set_option linter.unusedVariables false
theorem rel_any (b : Nat) (x : Sh) (t L : Int) (w : World) (h : Sx 41 w b x (t, L)) : Calls Try.prog 10 #[.pointer (some ⟨b, 0, none⟩)] w (MovPost 41 b x (rel (t, L)) w) := by
  obtain ⟨c0, c1, c2, c3, c4, c5, f4, f5⟩ := six_cells h
  have HX := Lib.hid h
  clear h
  by_cases h4 : t = 4
  · subst h4
    go_enter Try.func10, Try.ntmps10
    go_wp2_with fail
    go_end0
    exact ⟨rfl, HX.out, Keeps.refl _ _⟩
  · have hb4 : (t == 4) = false := by simpa using h4
    have hr := Lib.hid (show rel (t, L) = (3, L) by unfold rel; rw [if_neg h4])
    clear h4
    go_enter Try.func10, Try.ntmps10
    go_wp2_with fail
    go_end0
    exact ⟨rfl, by rw [hr.out]; exact HX.out.stage _, (Keeps.refl (fun k => k = b) w).setCell (p := ⟨b, 4, none⟩) (.inr rfl) _⟩
theorem rel_nil (w : World) : Calls Try.prog 10 #[.pointer none] w fun e w' => e = .returned (.tuple #[]) ∧ w = w' := by
  go_enter Try.func10, Try.ntmps10
  go_wp2_with fail
  go_end0
  exact ⟨rfl, rfl⟩
theorem next_nil (w : World) : Calls Try.prog 11 #[.pointer none] w fun e w' => e = .returned (.int .i64 0) ∧ w = w' := by
  go_enter Try.func11, Try.ntmps11
  go_wp2_with fail
  go_ret
  exact ⟨rfl, rfl⟩
theorem stage_any (b : Nat) (x : Sh) (t L : Int) (w : World) (h : Sx 41 w b x (t, L)) : Calls Try.prog 13 #[.pointer (some ⟨b, 0, none⟩)] w fun e w' => e = .returned (.int .i64 t) ∧ w = w' := by
  obtain ⟨c0, c1, c2, c3, c4, c5, f4, f5⟩ := six_cells h
  clear h
  go_enter Try.func13, Try.ntmps13
  go_wp2_with fail
  go_ret
  exact ⟨rfl, rfl⟩
theorem stage_nil (w : World) : Calls Try.prog 13 #[.pointer none] w fun e w' => e = .returned (.int .i64 4) ∧ w = w' := by
  go_enter Try.func13, Try.ntmps13
  go_wp2_with fail
  go_ret
  exact ⟨rfl, rfl⟩
theorem level_any (b : Nat) (x : Sh) (t L : Int) (w : World) (h : Sx 41 w b x (t, L)) : Calls Try.prog 14 #[.pointer (some ⟨b, 0, none⟩)] w fun e w' => e = .returned (.int .i64 L) ∧ w = w' := by
  obtain ⟨c0, c1, c2, c3, c4, c5, f4, f5⟩ := six_cells h
  clear h
  go_enter Try.func14, Try.ntmps14
  go_wp2_with fail
  go_ret
  exact ⟨rfl, rfl⟩
theorem level_nil (w : World) : Calls Try.prog 14 #[.pointer none] w fun e w' => e = .returned (.int .i64 0) ∧ w = w' := by
  go_enter Try.func14, Try.ntmps14
  go_wp2_with fail
  go_ret
  exact ⟨rfl, rfl⟩
/-- May a shape be? -/
def okB (x : Sh) : Bool := decide (0 ≤ x.a ∧ x.a ≤ 1048576 ∧ 0 ≤ x.d ∧ x.d ≤ 1048576 ∧ 0 ≤ x.r ∧ x.r ≤ 1048576 ∧ 0 ≤ x.s ∧ x.s ≤ 256)
theorem okB_iff (x : Sh) : okB x = true ↔ x.Ok := decide_eq_true_iff
def shv (x : Sh) : Value := .agg #[.int .i64 x.a, .int .i64 x.d, .int .i64 x.s, .int .i64 x.r]
def OkPost (x : Sh) (w : World) (e : Ending) (w' : World) : Prop := e = .returned (.bool (okB x)) ∧ Below w.heap.size w w'
set_option maxHeartbeats 4000000 in
theorem lright_any (x : Sh) (w : World) : Calls Try.prog 8 #[.agg #[.int .i64 x.a, .int .i64 x.d, .int .i64 x.s, .int .i64 x.r]] w (OkPost x w) := by
  go_enter Try.func8, Try.ntmps8
  go_wp2_with fail
  all_goals go_ret
  all_goals exact ⟨ret_bool (by rw [Bool.eq_iff_iff]; simp [okB] <;> omega), below_alloc _ _⟩
end Go.Proofs.Ythophaghnbmngaa

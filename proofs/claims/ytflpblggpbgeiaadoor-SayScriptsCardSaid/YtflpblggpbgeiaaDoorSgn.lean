/- The walks of say's plain and sign. -/
import Derived.Test.YtflpblggpbgeiaaDoorRdn
import Derived.Test.YtflpblggpbgeiaaDoorWpl
namespace Go.Proofs.YtflpblggpbgeiaaDoor
open Go Go.RowKit Go.Calli
set_option linter.unusedVariables false
set_option linter.unusedSimpArgs false
attribute [local irreducible] wpStill wpAnyH wpAnyS wpList Code.wp
theorem plain_any (c : Int) (w : World) : Calls Tryd.prog 28 #[.int .u8 c] w fun e w' => e = .returned (.bool (plainB c)) ∧ w = w' := by
  by_cases h1 : 32 < c
  · by_cases h2 : c < 127
    · by_cases h3 : c = 37
      · subst h3
        rw [plain37]
        go_enter Tryd.func28, Tryd.ntmps28
        go_wp2_with fail
        go_ret
        exact ⟨rfl, rfl⟩
      · have hp : plainB c = true := decide_eq_true ⟨h1, h2, h3⟩
        have g3 : (c != 37) = true := by simpa using h3
        have g1 : decide (32 < c) = true := decide_eq_true h1
        have g2 : decide (c < 127) = true := decide_eq_true h2
        rw [hp]
        clear hp h3
        go_enter Tryd.func28, Tryd.ntmps28
        go_wp2_with fail
        go_ret
        exact ⟨rfl, rfl⟩
    · have hp : plainB c = false := decide_eq_false (fun h => h2 h.2.1)
      have g1 : decide (32 < c) = true := decide_eq_true h1
      have g2 : decide (c < 127) = false := decide_eq_false h2
      rw [hp]
      clear hp
      go_enter Tryd.func28, Tryd.ntmps28
      go_wp2_with fail
      go_ret
      exact ⟨rfl, rfl⟩
  · have hp : plainB c = false := decide_eq_false (fun h => h1 h.1)
    have g1 : decide (32 < c) = false := decide_eq_false h1
    rw [hp]
    clear hp
    go_enter Tryd.func28, Tryd.ntmps28
    go_wp2_with fail
    go_ret
    exact ⟨rfl, rfl⟩
theorem sign_any (c : Int) (hc : 0 ≤ c ∧ c < 256) (w : World) : Calls Tryd.prog 29 #[.int .u8 c] w fun e w' => e = .returned (.int .i64 (sgnB c)) ∧ w = w' := by
  by_cases h1 : 48 ≤ c
  · by_cases h2 : c ≤ 57
    · have hs : sgnB c = c - 48 := by unfold sgnB; rw [if_pos ⟨h1, h2⟩]
      have g1 : decide (48 ≤ c) = true := decide_eq_true h1
      have g2 : decide (c ≤ 57) = true := decide_eq_true h2
      rw [hs]
      clear hs
      go_enter Tryd.func29, Tryd.ntmps29
      go_wp2_with fail
      go_ret
      exact ⟨rfl, rfl⟩
    · by_cases h3 : 97 ≤ c
      · by_cases h4 : c ≤ 102
        · have hs : sgnB c = c - 97 + 10 := by unfold sgnB; rw [if_neg (by omega), if_pos ⟨h3, h4⟩]; omega
          have g1 : decide (48 ≤ c) = true := decide_eq_true h1
          have g2 : decide (c ≤ 57) = false := decide_eq_false h2
          have g3 : decide (97 ≤ c) = true := decide_eq_true h3
          have g4 : decide (c ≤ 102) = true := decide_eq_true h4
          rw [hs]
          clear hs
          go_enter Tryd.func29, Tryd.ntmps29
          go_wp2_with fail
          go_ret
          exact ⟨rfl, rfl⟩
        · have hs : sgnB c = -1 := by unfold sgnB; rw [if_neg (by omega), if_neg (by omega)]
          have g1 : decide (48 ≤ c) = true := decide_eq_true h1
          have g2 : decide (c ≤ 57) = false := decide_eq_false h2
          have g3 : decide (97 ≤ c) = true := decide_eq_true h3
          have g4 : decide (c ≤ 102) = false := decide_eq_false h4
          rw [hs]
          clear hs
          go_enter Tryd.func29, Tryd.ntmps29
          go_wp2_with fail
          go_ret
          exact ⟨rfl, rfl⟩
      · have hs : sgnB c = -1 := by unfold sgnB; rw [if_neg (by omega), if_neg (by omega)]
        have g1 : decide (48 ≤ c) = true := decide_eq_true h1
        have g2 : decide (c ≤ 57) = false := decide_eq_false h2
        have g3 : decide (97 ≤ c) = false := decide_eq_false h3
        rw [hs]
        clear hs
        go_enter Tryd.func29, Tryd.ntmps29
        go_wp2_with fail
        go_ret
        exact ⟨rfl, rfl⟩
  · have hs : sgnB c = -1 := by unfold sgnB; rw [if_neg (by omega), if_neg (by omega)]
    have g1 : decide (48 ≤ c) = false := decide_eq_false h1
    have h3 : ¬ 97 ≤ c := by omega
    have g3 : decide (97 ≤ c) = false := decide_eq_false h3
    rw [hs]
    clear hs
    go_enter Tryd.func29, Tryd.ntmps29
    go_wp2_with fail
    go_ret
    exact ⟨rfl, rfl⟩
end Go.Proofs.YtflpblggpbgeiaaDoor

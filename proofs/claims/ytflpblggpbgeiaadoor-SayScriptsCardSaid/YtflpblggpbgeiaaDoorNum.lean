/- The walks of say.Number and of the law's number. -/
import Derived.Test.YtflpblggpbgeiaaDoorDig
namespace Go.Proofs.YtflpblggpbgeiaaDoor
open Go Go.RowKit Go.Calli
set_option linter.unusedVariables false
set_option linter.unusedSimpArgs false
attribute [local irreducible] wpStill wpAnyH wpAnyS wpList Code.wp
theorem str_cons (c : Int) (l : List Int) : strOfNums [c] ++ strOfNums l = strOfNums (c :: l) := by rw [strOfNums_append]; rfl
theorem digL_size (n : Nat) (h : n < 18446744073709551616) : (strOfNums (digL n)).size ≤ 20 := by
  rw [strOfNums_size]; unfold digL; rw [List.length_reverse]; exact digR_len 19 n (by omega)
def StrP (s : List Int) (w : World) (e : Ending) (w' : World) : Prop := e = .returned (.string (strOfNums s)) ∧ Below w.heap.size w w'
set_option maxRecDepth 100000 in
set_option maxHeartbeats 4000000 in
theorem number_any (n : Int) (h1 : -9223372036854775808 ≤ n) (h2 : n < 9223372036854775808) (w : World) : Calls Tryd.prog 18 #[.int .i64 n] w (StrP (numD n) w) := by
  have hsz := digL_size n.natAbs (by omega)
  by_cases hn : n < 0
  · have hD : numD n = 45 :: digL n.natAbs := by unfold numD; rw [if_pos hn]
    have hneg : IntKind.u64.wrap (-(IntKind.u64.wrap n)) = (n.natAbs : Int) := by rw [IntKind.wrap_u64, IntKind.wrap_u64]; omega
    have HS : Hid (ByteArray.mk #[45] ++ strOfNums (digL n.natAbs) = strOfNums (numD n)) := by unfold Hid; rw [hD, ← str_cons]; rfl
    have DG := Lib.hid (fun w => digits_any n.natAbs (by omega) w)
    have hbig : ¬ 9223372036854775807 < 1 + (strOfNums (digL n.natAbs)).size := by omega
    have hbig1 : ¬ 9223372036854775807 < (ByteArray.mk #[45]).size + (strOfNums (digL n.natAbs)).size := hbig
    generalize n.natAbs = m at *
    clear hD
    go_enter Tryd.func18, Tryd.ntmps18
    go_wp2_with (go_at_call 30; refine (DG.out _).mono ?_; rintro e w1 ⟨rfl, hb1⟩)
    go_ret
    exact ⟨by rw [HS.out] <;> rfl, hb1⟩
  · have hD : numD n = digL n.natAbs := by unfold numD; rw [if_neg hn]
    have hw : IntKind.u64.wrap n = (n.natAbs : Int) := by rw [IntKind.wrap_u64]; omega
    have hm : n = (n.natAbs : Int) := by omega
    have DG := Lib.hid (fun w => digits_any n.natAbs (by omega) w)
    rw [hD]
    generalize n.natAbs = m at *
    subst hm
    clear hw hD
    go_enter Tryd.func18, Tryd.ntmps18
    go_wp2_with (go_at_call 30; refine (DG.out _).mono ?_; rintro e w1 ⟨rfl, hb1⟩)
    go_ret
    exact ⟨rfl, hb1⟩
end Go.Proofs.YtflpblggpbgeiaaDoor

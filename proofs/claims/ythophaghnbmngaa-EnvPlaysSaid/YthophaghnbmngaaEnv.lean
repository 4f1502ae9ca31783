/- The walks of env's functions, and of the statements' own. -/
import Derived.Test.YthophaghnbmngaaRows
import Derived.Test.YthophaghnbmngaaApp
import Derived.Test.YthophaghnbmngaaPln
import Derived.Laws.Bits128
import Derived.StillTailTactics
import Derived.Deep.RegionHeld3
import Derived.Deep.RegionWith
import Derived.OwnWalk
namespace Go.Proofs.Ythophaghnbmngaa
open Go.RowKit Go.Calli Go.Envp
set_option linter.unusedVariables false
theorem flip {P : Program} {F : FuncId} {args : Array Value} {w : World} {v : Value} (h : Calls P F args w fun e w' => e = .returned v ∧ w = w') : Calls P F args w fun e w' => e = .returned v ∧ w' = w := h.mono fun _ _ ⟨a, b⟩ => ⟨a, b.symm⟩
theorem i64_and1 (n : Int) : bits .and .i64 n 1 = n % 2 := by
  have h127 : (BitVec.ofInt 64 1).toNat = 2 ^ 1 - 1 := by decide
  have key : (BitVec.ofInt 64 n &&& BitVec.ofInt 64 1).toNat = (n % ((2 ^ 64 : Nat) : Int)).toNat % 2 ^ 1 := by
    rw [BitVec.toNat_and, BitVec.toNat_ofInt, h127, Nat.and_two_pow_sub_one_eq_mod]
  show IntKind.i64.wrap ((BitVec.ofInt 64 n &&& BitVec.ofInt 64 1).toNat : Nat) = n % 2
  rw [key, IntKind.wrap_i64]
  omega
def DrawnPost (v : Value) (w : World) (e : Ending) (w' : World) : Prop := e = .returned v ∧ ∃ nq, w' = w.drewN nq
theorem round_any (L : Int) (h0 : 0 ≤ L) (h1 : L ≤ 16777216) (w : World) : Calls Try.prog 17 #[.int .i64 L, .int .i64 16] w (DrawnPost (.int .i64 (val L)) w) := by
  have e1 : bits BinOp.and IntKind.i64 (L / 32768) 1 = L / 32768 % 2 := i64_and1 _
  have e2 : IntKind.i64.wrap (L / 65536 + L / 32768 % 2) = L / 65536 + L / 32768 % 2 := IntWalk.i64_in _ (by omega)
  go_enter Try.func17, Try.ntmps17
  go_wp2_with fail
  go_quiet (fail)
  go_wp2_with fail
  go_ret
  exact ⟨ret_int (by unfold val; omega), _, rfl⟩
theorem slope_any (over n : Int) (h0 : 0 ≤ over) (h1 : over ≤ 16777216) (h2 : n ≤ 1048576) (w : World) : Calls Try.prog 20 #[.int .i64 over, .int .i64 n] w fun e w' => e = .returned (.int .i64 (slp over n)) ∧ w = w' := by
  by_cases hn : n < 1
  · go_enter Try.func20, Try.ntmps20
    go_wp2_with fail
    go_ret
    exact ⟨ret_int (by unfold slp; rw [if_pos hn]), rfl⟩
  · have hn' : 1 ≤ n := by omega
    clear hn
    go_enter Try.func20, Try.ntmps20
    go_wp2_with fail
    all_goals
      go_ret
      exact ⟨ret_int (by unfold slp; rw [if_neg (by omega)]; omega), rfl⟩
theorem lslope_any (over n : Int) (h0 : 0 ≤ over) (h1 : over ≤ 16777216) (h2 : n ≤ 1048576) (w : World) : Calls Try.prog 19 #[.int .i64 over, .int .i64 n] w fun e w' => e = .returned (.int .i64 (slp over n)) ∧ w = w' := by
  by_cases hn : n < 1
  · go_enter Try.func19, Try.ntmps19
    go_wp2_with fail
    go_ret
    exact ⟨ret_int (by unfold slp; rw [if_pos hn]), rfl⟩
  · have hn' : 1 ≤ n := by omega
    clear hn
    have hq0 := Int.ediv_nonneg h0 (show 0 ≤ n by omega)
    have hq1 : over / n ≤ over := Int.ediv_le_self _ h0
    have hq2 : over / n * n ≤ over := Int.ediv_mul_le _ (by omega)
    have hq3 : 0 ≤ over / n * n := Int.mul_nonneg hq0 (by omega)
    have hsl := Lib.hid (slope_law over n h0 hn')
    have e1 : IntKind.i64.wrap (over / n * n) = over / n * n := IntWalk.i64_in _ (by omega)
    by_cases ha : over / n * n < over
    · go_enter Try.func19, Try.ntmps19
      go_wp2_with fail
      go_ret
      exact ⟨ret_int (by rw [hsl.out, if_pos ha, if_neg (by omega)]), rfl⟩
    · by_cases hb : over / n < 1
      · go_enter Try.func19, Try.ntmps19
        go_wp2_with fail
        go_ret
        exact ⟨ret_int (by rw [hsl.out, if_neg (Int.not_lt.2 ha), if_pos hb]), rfl⟩
      · go_enter Try.func19, Try.ntmps19
        go_wp2_with fail
        go_ret
        exact ⟨ret_int (by rw [hsl.out, if_neg (Int.not_lt.2 ha), if_neg (Int.not_lt.2 hb)]), rfl⟩
/-- An envelope (or the document's) in memory. -/
def Sx (T : Nat) (w : World) (b : Nat) (x : Sh) (p : Int × Int) : Prop := w.heap[b]? = some (.cells #[.int .i64 x.a, .int .i64 x.d, .int .i64 x.s, .int .i64 x.r, .int .i64 p.1, .int .i64 p.2] T (0, 0))
theorem six_cells {T : Nat} {w : World} {b : Nat} {x : Sh} {p : Int × Int} (h : Sx T w b x p) :
    w.cell? ⟨b, 0, none⟩ = some (.int .i64 x.a) ∧ w.cell? ⟨b, 1, none⟩ = some (.int .i64 x.d) ∧ w.cell? ⟨b, 2, none⟩ = some (.int .i64 x.s) ∧ w.cell? ⟨b, 3, none⟩ = some (.int .i64 x.r) ∧ w.cell? ⟨b, 4, none⟩ = some (.int .i64 p.1) ∧ w.cell? ⟨b, 5, none⟩ = some (.int .i64 p.2) ∧ w.frozen? ⟨b, 4, none⟩ = false ∧ w.frozen? ⟨b, 5, none⟩ = false :=
  ⟨(cell_of_row _ _ _ _ _ _ h).trans rfl, (cell_of_row _ _ _ _ _ _ h).trans rfl, (cell_of_row _ _ _ _ _ _ h).trans rfl, (cell_of_row _ _ _ _ _ _ h).trans rfl, (cell_of_row _ _ _ _ _ _ h).trans rfl, (cell_of_row _ _ _ _ _ _ h).trans rfl, frozen_of_row _ _ _ _ _ h, frozen_of_row _ _ _ _ _ h⟩
theorem Sx.stage {T : Nat} {w : World} {b : Nat} {x : Sh} {t L : Int} (h : Sx T w b x (t, L)) (t' : Int) : Sx T (w.setCell ⟨b, 4, none⟩ (.int .i64 t')) b x (t', L) := heap_setCell_same _ _ _ _ _ _ h
theorem Sx.level {T : Nat} {w : World} {b : Nat} {x : Sh} {t L : Int} (h : Sx T w b x (t, L)) (L' : Int) : Sx T (w.setCell ⟨b, 5, none⟩ (.int .i64 L')) b x (t, L') := heap_setCell_same _ _ _ _ _ _ h
theorem Sx.cast {T : Nat} {w : World} {b : Nat} {x : Sh} {t L L' : Int} (h : Sx T w b x (t, L)) (e : L = L') : Sx T w b x (t, L') := e ▸ h
theorem Sx.drewN {T : Nat} {w : World} {b : Nat} {x : Sh} {p : Int × Int} (h : Sx T w b x p) (n : Nat) : Sx T (w.drewN n) b x p := h
def MovPost (T : Nat) (b : Nat) (x : Sh) (p : Int × Int) (w : World) (e : Ending) (w' : World) : Prop := e = .returned (.tuple #[]) ∧ Sx T w' b x p ∧ Keeps (fun k => k = b) w w'
set_option maxRecDepth 100000 in
set_option maxHeartbeats 1000000 in
theorem move_0 (b : Nat) (x : Sh) (L : Int) (hx : x.Ok) (h0 : 0 ≤ L) (h1 : L ≤ 16777216) (w : World) (h : Sx 41 w b x (0, L)) : Calls Try.prog 18 #[.pointer (some ⟨b, 0, none⟩)] w (MovPost 41 b x (mv x 0 L) w) := by
  obtain ⟨c0, c1, c2, c3, c4, c5, f4, f5⟩ := six_cells h
  have hlo := low_bd hx
  have hsl := slp_bd (16777216) x.a (by omega) (by omega)
  have hS := fun w => slope_any (16777216) x.a (by omega) (by omega) (by unfold Sh.Ok at hx; omega) w
  have HM := Lib.hid (show mv x 0 L = if 16777216 ≤ L + slp 16777216 x.a then (1, 16777216) else (0, L + slp 16777216 x.a) from rfl)
  have HO := Lib.hid hx
  unfold Sh.Ok at hx
  have HX := Lib.hid h
  clear h
  by_cases hge : 16777216 ≤ L + slp 16777216 x.a
  · rw [if_pos hge] at HM
    go_enter Try.func18, Try.ntmps18
    go_wp2_with fail
    go_still_tail 15, (by kernel_rfl)
    still_call (flip (hS _))
    repeat still_step
    refine wpStill_nil ?_
    change wpList _ _ _ _ _ w.drew
    go_wp2_with fail
    all_goals go_end0
    all_goals exact ⟨rfl, by rw [HM.out]; exact ((HX.out.level _).stage _).cast (by omega), (((Keeps.refl (fun k => k = b) w).setCell (p := ⟨b, 5, none⟩) (.inr rfl) _).setCell (p := ⟨b, 4, none⟩) (.inr rfl) _).drew⟩
  · rw [if_neg hge] at HM
    have hne : (L + slp 16777216 x.a == 16777216) = false := by simp; omega
    go_enter Try.func18, Try.ntmps18
    go_wp2_with fail
    go_still_tail 15, (by kernel_rfl)
    still_call (flip (hS _))
    repeat still_step
    refine wpStill_nil ?_
    change wpList _ _ _ _ _ w.drew
    go_wp2_with fail
    all_goals go_end0
    all_goals exact ⟨rfl, by rw [HM.out]; exact (HX.out.level _).cast (by omega), (((Keeps.refl (fun k => k = b) w).setCell (p := ⟨b, 5, none⟩) (.inr rfl) _)).drew⟩
set_option maxRecDepth 100000 in
set_option maxHeartbeats 1000000 in
theorem move_1 (b : Nat) (x : Sh) (L : Int) (hx : x.Ok) (h0 : 0 ≤ L) (h1 : L ≤ 16777216) (w : World) (h : Sx 41 w b x (1, L)) : Calls Try.prog 18 #[.pointer (some ⟨b, 0, none⟩)] w (MovPost 41 b x (mv x 1 L) w) := by
  obtain ⟨c0, c1, c2, c3, c4, c5, f4, f5⟩ := six_cells h
  have hlo := low_bd hx
  have hsl := slp_bd (16777216 - low x) x.d (by omega) (by omega)
  have hS := fun w => slope_any (16777216 - low x) x.d (by omega) (by omega) (by unfold Sh.Ok at hx; omega) w
  have HM := Lib.hid (show mv x 1 L = if L - slp (16777216 - low x) x.d ≤ low x then (2, low x) else (1, L - slp (16777216 - low x) x.d) from rfl)
  have HO := Lib.hid hx
  unfold Sh.Ok at hx
  have HX := Lib.hid h
  clear h
  have hlow : low x = x.s * 65536 := rfl
  rw [hlow] at hS hsl HM hlo
  clear hlow
  have e1 : IntKind.i64.wrap (16777216 - x.s * 65536) = 16777216 - x.s * 65536 := IntWalk.i64_in _ (by omega)
  by_cases hge : L - slp (16777216 - x.s * 65536) x.d ≤ x.s * 65536
  · rw [if_pos hge] at HM
    go_enter Try.func18, Try.ntmps18
    go_wp2_with fail
    go_still_tail 18, (by kernel_rfl)
    still_call (flip (hS _))
    repeat still_step
    refine wpStill_nil ?_
    change wpList _ _ _ _ _ w.drew
    go_wp2_with fail
    all_goals go_end0
    all_goals exact ⟨rfl, by rw [HM.out]; exact ((HX.out.level _).stage _).cast (by omega), (((Keeps.refl (fun k => k = b) w).setCell (p := ⟨b, 5, none⟩) (.inr rfl) _).setCell (p := ⟨b, 4, none⟩) (.inr rfl) _).drew⟩
  · rw [if_neg hge] at HM
    have hne : (L - slp (16777216 - x.s * 65536) x.d == x.s * 65536) = false := by simp; omega
    go_enter Try.func18, Try.ntmps18
    go_wp2_with fail
    go_still_tail 18, (by kernel_rfl)
    still_call (flip (hS _))
    repeat still_step
    refine wpStill_nil ?_
    change wpList _ _ _ _ _ w.drew
    go_wp2_with fail
    all_goals go_end0
    all_goals exact ⟨rfl, by rw [HM.out]; exact (HX.out.level _).cast (by omega), (((Keeps.refl (fun k => k = b) w).setCell (p := ⟨b, 5, none⟩) (.inr rfl) _)).drew⟩
set_option maxRecDepth 100000 in
set_option maxHeartbeats 1000000 in
theorem move_3 (b : Nat) (x : Sh) (L : Int) (hx : x.Ok) (h0 : 0 ≤ L) (h1 : L ≤ 16777216) (w : World) (h : Sx 41 w b x (3, L)) : Calls Try.prog 18 #[.pointer (some ⟨b, 0, none⟩)] w (MovPost 41 b x (mv x 3 L) w) := by
  obtain ⟨c0, c1, c2, c3, c4, c5, f4, f5⟩ := six_cells h
  have hlo := low_bd hx
  have hsl := slp_bd (16777216) x.r (by omega) (by omega)
  have hS := fun w => slope_any (16777216) x.r (by omega) (by omega) (by unfold Sh.Ok at hx; omega) w
  have HM := Lib.hid (show mv x 3 L = if L - slp 16777216 x.r ≤ 0 then (4, 0) else (3, L - slp 16777216 x.r) from rfl)
  have HO := Lib.hid hx
  unfold Sh.Ok at hx
  have HX := Lib.hid h
  clear h
  by_cases hge : L - slp 16777216 x.r ≤ 0
  · rw [if_pos hge] at HM
    go_enter Try.func18, Try.ntmps18
    go_wp2_with fail
    go_still_tail 15, (by kernel_rfl)
    still_call (flip (hS _))
    repeat still_step
    refine wpStill_nil ?_
    change wpList _ _ _ _ _ w.drew
    go_wp2_with fail
    all_goals go_end0
    all_goals exact ⟨rfl, by rw [HM.out]; exact ((HX.out.level _).stage _).cast (by omega), (((Keeps.refl (fun k => k = b) w).setCell (p := ⟨b, 5, none⟩) (.inr rfl) _).setCell (p := ⟨b, 4, none⟩) (.inr rfl) _).drew⟩
  · rw [if_neg hge] at HM
    have hne : (L - slp 16777216 x.r == 0) = false := by simp; omega
    go_enter Try.func18, Try.ntmps18
    go_wp2_with fail
    go_still_tail 15, (by kernel_rfl)
    still_call (flip (hS _))
    repeat still_step
    refine wpStill_nil ?_
    change wpList _ _ _ _ _ w.drew
    go_wp2_with fail
    all_goals go_end0
    all_goals exact ⟨rfl, by rw [HM.out]; exact (HX.out.level _).cast (by omega), (((Keeps.refl (fun k => k = b) w).setCell (p := ⟨b, 5, none⟩) (.inr rfl) _)).drew⟩
end Go.Proofs.Ythophaghnbmngaa

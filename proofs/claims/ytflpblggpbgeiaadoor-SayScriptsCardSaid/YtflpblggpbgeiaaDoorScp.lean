/- Plain: a text's lines and what they are read as; steps as records. No program in sight. -/
import Derived.Test.YtflpblggpbgeiaaDoorSls
namespace Go.Proofs.YtflpblggpbgeiaaDoor
open Go Go.RowKit Go.Calli
set_option linter.unusedVariables false
/-- The lines ahead of the first that is none. -/
def scanL : List (List Int) → List Ac
  | [] => []
  | x :: r => match parseL x with
    | none => []
    | some a => a :: scanL r
def cutL (t : List (List Int)) : List (List Int) := if t.getD (t.length - 1) [] = [] then t.take (t.length - 1) else t
theorem scan_le : ∀ t : List (List Int), (scanL t).length ≤ t.length
  | [] => Nat.le_refl _
  | x :: r => by
    unfold scanL
    split
    · simp
    · simpa using scan_le r
theorem scan_at : ∀ (t : List (List Int)) (i : Nat), i < (scanL t).length → parseL (t.getD i []) = some ((scanL t).getD i ac0)
  | [], i, h => by simp [scanL] at h
  | x :: r, i, h => by
    unfold scanL at h ⊢
    cases hp : parseL x with
    | none => rw [hp] at h; simp at h
    | some a =>
      rw [hp] at h
      cases i with
      | zero => simpa using hp
      | succ i => simpa using scan_at r i (by simpa using h)
theorem scan_stop : ∀ (t : List (List Int)), (scanL t).length < t.length → parseL (t.getD (scanL t).length []) = none
  | [], h => by simp at h
  | x :: r, h => by
    unfold scanL at h ⊢
    cases hp : parseL x with
    | none => simpa using hp
    | some a =>
      rw [hp] at h
      simpa using scan_stop r (by simpa using h)
def vals7 (a : Ac) : List Value := [.int .i64 a.k, .int .i64 a.v, .string (strOfNums a.nm), .int .i64 a.n, .int .i64 a.m, .int .i64 a.p, .int .i64 a.x]
theorem vals7_len (a : Ac) : (vals7 a).length = 7 := rfl
theorem vals7_one (a : Ac) : ∀ u ∈ vals7 a, u.oneCell' = true := by
  intro u hu
  simp only [vals7, List.mem_cons, List.not_mem_nil, or_false] at hu
  rcases hu with rfl | rfl | rfl | rfl | rfl | rfl | rfl <;> rfl
theorem infoAct : (Tryd.prog.info? 23).map (fun i => (i.zero, i.size, i.bytes)) = some (some (.agg #[.int .i64 0, .int .i64 0, .string ByteArray.empty, .int .i64 0, .int .i64 0, .int .i64 0, .int .i64 0]), 7, 64) := by kernel_rfl
theorem flat_take (os : List Ac) (j : Nat) (h : j < os.length) : (os.take (j + 1)).flatMap vals7 = (os.take j).flatMap vals7 ++ vals7 (os.getD j ac0) := by
  rw [List.take_succ_eq_append_getElem h, List.flatMap_append]
  simp [List.getD, h]
end Go.Proofs.YtflpblggpbgeiaaDoor

/- A part of a slice of integers whose bounds are variables: one address, whatever the capacity. No program in sight. -/
import Derived.Test.YtpbeehfafbgphaaApp
namespace Go.Calli
open Go.RowKit
/-- s[lo:hi]. -/
theorem slice_part {P : Program} (T e : TypeId) (hT : P.underlying T = some (.slice e)) (hsz : (P.info? e).map (·.size) = some 1) (a : Addr) (len cap lo hi : Nat) (x y : Int) (hx : x = lo) (hy : y = hi) (h1 : lo ≤ hi) (h2 : hi ≤ len) (h3 : len ≤ cap) :
    ∃ a2 : Addr, (∀ w, (Instr.slice T (.slice (some a) len cap) (some (.int .i64 x)) (some (.int .i64 y)) none).run P w = .ok (.slice (some a2) (hi - lo) (cap - lo)) w) ∧ a2.block = a.block ∧ ∀ k w zs, Ints k w (some a) len zs → Ints k w (some a2) (hi - lo) ((zs.take hi).drop lo) := by
  subst hx hy
  have he : P.elem T = e := by simp [Program.elem, hT]
  have hsl : ∀ w, (Instr.slice T (.slice (some a) len cap) (some (.int .i64 (lo : Int))) (some (.int .i64 (hi : Int))) none).run P w = .ok (sliced (some a) lo hi cap 1) w := fun w => by
    rw [run_slice_lh w T (some a) len cap (by rw [he]; exact hT) .i64 .i64 lo hi (by omega) (by omega) (by omega), he]
    have hs : (sizeOf e).run P w = .ok 1 w := by
      cases hi2 : P.info? e with
      | none => rw [hi2] at hsz; cases hsz
      | some i => rw [hi2] at hsz; simp at hsz; simp [sizeOf, typeInfo, hi2, hsz]
    rw [hs]; simp [Result.andThen]
  by_cases hc : lo = cap
  · refine ⟨a, fun w => ?_, rfl, fun k w zs h => ?_⟩
    · rw [hsl w]; simp [sliced, hc]
    · obtain rfl : hi = lo := by omega
      have hl := h.hlen
      rw [Nat.sub_self, List.drop_eq_nil_of_le (by rw [List.length_take]; omega)]
      exact Ints.nil _ _ _
  · refine ⟨a.add lo, fun w => ?_, Addr.add_block _ _, fun k w zs h => (h.take h2).drop h1⟩
    rw [hsl w]; simp [sliced, Ne.symm hc]
/-- s[lo:]. -/
theorem slice_from {P : Program} (T e : TypeId) (hT : P.underlying T = some (.slice e)) (hsz : (P.info? e).map (·.size) = some 1) (a : Addr) (len cap lo : Nat) (x : Int) (hx : x = lo) (h1 : lo ≤ len) (h3 : len ≤ cap) :
    ∃ a2 : Addr, (∀ w, (Instr.slice T (.slice (some a) len cap) (some (.int .i64 x)) none none).run P w = .ok (.slice (some a2) (len - lo) (cap - lo)) w) ∧ a2.block = a.block ∧ ∀ k w zs, Ints k w (some a) len zs → Ints k w (some a2) (len - lo) (zs.drop lo) := by
  subst hx
  have he : P.elem T = e := by simp [Program.elem, hT]
  have hsl : ∀ w, (Instr.slice T (.slice (some a) len cap) (some (.int .i64 (lo : Int))) none none).run P w = .ok (sliced (some a) lo len cap 1) w := fun w => by
    rw [run_slice_l w T (some a) len cap (by rw [he]; exact hT) .i64 lo (by omega) (by omega), he]
    have hs : (sizeOf e).run P w = .ok 1 w := by
      cases hi2 : P.info? e with
      | none => rw [hi2] at hsz; cases hsz
      | some i => rw [hi2] at hsz; simp at hsz; simp [sizeOf, typeInfo, hi2, hsz]
    rw [hs]; simp [Result.andThen]
  by_cases hc : lo = cap
  · refine ⟨a, fun w => ?_, rfl, fun k w zs h => ?_⟩
    · rw [hsl w]; simp [sliced, hc]
    · have hl := h.hlen
      rw [show len - lo = 0 by omega, List.drop_eq_nil_of_le (by omega)]
      exact Ints.nil _ _ _
  · refine ⟨a.add lo, fun w => ?_, Addr.add_block _ _, fun k w zs h => h.drop h1⟩
    rw [hsl w]; simp [sliced, Ne.symm hc]
end Go.Calli

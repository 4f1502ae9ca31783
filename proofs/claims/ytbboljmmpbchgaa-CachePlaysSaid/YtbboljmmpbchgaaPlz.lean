/- CachePlays, all inputs. -/
import Derived.Test.YtbboljmmpbchgaaPly
namespace Go.Proofs.Ytbboljmmpbchgaa
open Go Go.RowKit Go.Calli Go.Dskp Go.Maps
theorem plays_any (ao so : Option Addr) (m cap l scap : Nat) (zs : List Int) (os : List Opr) (sl r : Int) (w : World) (h : Ints .u8 w ao m zs) (hO : Ops w so l os) : Calls Try.prog 6 #[.slice ao m cap, .int .i64 sl, .int .i64 r, .slice so l scap] w (TruePost w) := by
  by_cases h1 : 500 < m ∨ (m ≤ 500 ∧ 20 < sl ∧ sl ≤ 1024)
  · exact plays_out ao so m cap l scap sl r h.lim h1 w
  · by_cases h2 : sl < 1 ∨ 1024 < sl ∨ (1 ≤ sl ∧ sl ≤ 20 ∧ r < 0) ∨ (1 ≤ sl ∧ sl ≤ 20 ∧ 0 ≤ r ∧ 8 < r)
    · exact plays_bad ao so m cap l scap zs sl r (by omega) h2 w h
    · obtain ⟨n, rfl⟩ : ∃ n : Nat, sl = n := ⟨sl.toNat, by omega⟩
      obtain ⟨R, rfl⟩ : ∃ R : Nat, r = R := ⟨r.toNat, by omega⟩
      exact plays_good ao so m cap l scap zs os n R (by omega) (by omega) (by omega) (by omega) w h hO
end Go.Proofs.Ytbboljmmpbchgaa

/- What Whole makes of what All has made: plain. -/
import Derived.Test.YtbhopghfglgibaaAll
namespace Go.Proofs.Ytbhopghfglgibaa
open Go.RowKit Go.Calli
set_option linter.unusedVariables false
def allO (zs : List Int) : Nat → List Int
  | 0 => []
  | m + 1 => allO zs m ++ eouts (cS zs m).1 (cS zs m).2 (chZ zs m) (chZ zs m).length
theorem allO_len (zs : List Int) (m : Nat) : (allO zs m).length = min zs.length (32 * m) := by
  induction m with
  | zero => simp [allO]
  | succ m ih => simp [allO, eouts_len, ih, chZ_len]; omega
theorem allO_wf (zs : List Int) (m : Nat) : ∀ z ∈ allO zs m, (Lit.int .i64 z).wf = true := by
  induction m with
  | zero => intro z hz; simp [allO] at hz
  | succ m ih =>
    intro z hz
    rcases List.mem_append.1 hz with hz | hz
    · exact ih z hz
    · exact eouts_wf _ _ _ _ z hz
theorem allB_prefix (zs : List Int) (m : Nat) : ∀ d, ∃ t, allB zs (m + d) = allB zs m ++ t
  | 0 => ⟨[], by simp⟩
  | d + 1 => by
    obtain ⟨t, ht⟩ := allB_prefix zs m d
    exact ⟨t ++ chP zs (m + d), by rw [← Nat.add_assoc]; simp only [allB]; rw [ht, List.append_assoc]⟩
theorem chB_allB (zs : List Int) {m M : Nat} (h : m < M) : chB (allB zs M) m = chP zs m := by
  obtain ⟨t, ht⟩ := allB_prefix zs (m + 1) (M - (m + 1))
  rw [show m + 1 + (M - (m + 1)) = M by omega] at ht
  unfold chB
  rw [ht]
  simp only [allB]
  have hl := allB_len zs m
  have hp : (chP zs m).length = 20 := by simp [chP, pbs_len]
  rw [List.append_assoc, ← hl, List.drop_left, ← hp, List.take_left]
theorem ok_chP (zs : List Int) (m : Nat) : OkB (chP zs m) ∧ byteAt (chP zs m) 3 = (chZ zs m).length := ok_pbs (chZ zs m) (cS_right zs m) (by rw [chZ_len]; omega)
theorem allOk_allB (zs : List Int) (M : Nat) : AllOk (allB zs M) M := fun q hq => by rw [chB_allB zs hq]; exact (ok_chP zs q).1
theorem whole_all (zs : List Int) (M : Nat) : ∀ m, m ≤ M → wholeO (allB zs M) m = allO zs m
  | 0, _ => rfl
  | m + 1, h => by
    simp only [wholeO, allO]
    rw [whole_all zs M m (by omega), chB_allB zs (by omega), (ok_chP zs m).2]
    congr 1
    exact outs_pbs (chZ zs m) (cS_right zs m) (by rw [chZ_len]; omega) _ (Nat.le_refl _)
theorem str_append (a b : List Int) : strOfNums (a ++ b) = strOfNums a ++ strOfNums b := by
  apply ByteArray.ext
  simp [strOfNums, ByteArray.data_append]
end Go.Proofs.Ytbhopghfglgibaa

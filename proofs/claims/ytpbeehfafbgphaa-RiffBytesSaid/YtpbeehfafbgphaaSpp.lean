/- Plain: the steps of splitting. -/
import Derived.Test.YtpbeehfafbgphaaPln
namespace Go.Proofs.Ytpbeehfafbgphaa
open Go Go.RowKit Go.Calli
theorem split_short {f : Nat} {R : List Int} (h0 : R ≠ []) (h8 : R.length < 8) : splitL (f + 1) R = (2, []) := by
  unfold splitL; rw [if_neg h0, if_pos h8]
theorem split_less {f : Nat} {R : List Int} (h8 : 8 ≤ R.length) (hn : nxt R > R.length - 8) : splitL (f + 1) R = (2, []) := by
  have h0 : R ≠ [] := by intro e; rw [e] at h8; simp at h8
  unfold splitL; rw [if_neg h0, if_neg (by omega), if_pos hn]
/-- The chunk ahead. -/
def headC (R : List Int) (nn : Nat) : Ch := ⟨R.take 4, (R.drop 8).take nn⟩
theorem split_even {f : Nat} {R : List Int} {nn : Nat} (h8 : 8 ≤ R.length) (e : nxt R = nn) (hn : nn ≤ R.length - 8) (he : ¬ nn % 2 = 1) : splitL (f + 1) R = ((splitL f (R.drop (8 + nn))).1, headC R nn :: (splitL f (R.drop (8 + nn))).2) := by
  have h0 : R ≠ [] := by intro e; rw [e] at h8; simp at h8
  rw [splitL, if_neg h0, if_neg (by omega), if_neg (by rw [e]; omega), e, Int.toNat_natCast, if_neg he]
  rfl
theorem split_odd {f : Nat} {R r : List Int} {nn : Nat} {x : Int} (h8 : 8 ≤ R.length) (e : nxt R = nn) (hn : nn ≤ R.length - 8) (he : nn % 2 = 1) (hd : R.drop (8 + nn) = x :: r) : splitL (f + 1) R = if x = 0 then ((splitL f r).1, headC R nn :: (splitL f r).2) else (4, []) := by
  have h0 : R ≠ [] := by intro e; rw [e] at h8; simp at h8
  rw [splitL, if_neg h0, if_neg (by omega), if_neg (by rw [e]; omega), e, Int.toNat_natCast, if_pos he, hd]
  rfl
theorem split_odd_nil {f : Nat} {R : List Int} {nn : Nat} (h8 : 8 ≤ R.length) (e : nxt R = nn) (hn : nn ≤ R.length - 8) (he : nn % 2 = 1) (hd : R.drop (8 + nn) = []) : splitL (f + 1) R = (2, []) := by
  have h0 : R ≠ [] := by intro e; rw [e] at h8; simp at h8
  rw [splitL, if_neg h0, if_neg (by omega), if_neg (by rw [e]; omega), e, Int.toNat_natCast, if_pos he, hd]
theorem split_err : ∀ (f : Nat) (b : List Int), (splitL f b).1 = 0 ∨ (splitL f b).1 = 2 ∨ (splitL f b).1 = 4 := by
  intro f
  induction f with
  | zero => intro b; exact Or.inl rfl
  | succ f ih =>
    intro b
    unfold splitL
    split
    · exact Or.inl rfl
    · split
      · exact Or.inr (Or.inl rfl)
      · split
        · exact Or.inr (Or.inl rfl)
        · split
          · split
            · exact Or.inr (Or.inl rfl)
            · split
              · exact ih _
              · exact Or.inr (Or.inr rfl)
          · exact ih _
theorem nxt_nonneg {R : List Int} (h : Byt R) : 0 ≤ nxt R ∧ nxt R < 4294967296 := by
  have := numL_lt ((h.drop 4).take 4) (k := 4) (by simp; omega)
  exact ⟨this.1, by unfold nxt; have := this.2; omega⟩
end Go.Proofs.Ytpbeehfafbgphaa

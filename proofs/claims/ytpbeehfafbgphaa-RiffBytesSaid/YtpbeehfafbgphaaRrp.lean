/- Plain: a file's bytes are bytes; what cannot be read reads as nothing. -/
import Derived.Test.YtpbeehfafbgphaaRdd
import Derived.Test.YtpbeehfafbgphaaTak
namespace Go.Proofs.Ytpbeehfafbgphaa
open Go Go.RowKit Go.Calli
theorem byt_app {a b : List Int} (ha : Byt a) (hb : Byt b) : Byt (a ++ b) := fun z hz => (List.mem_append.1 hz).elim (ha z) (hb z)
theorem fmt_byt (n : Nat) (r : Int) : Byt (fmtL n r) := byt_app (lowL_byt _ _) (byt_app (lowL_byt _ _) (byt_app (lowL_byt _ _) (byt_app (lowL_byt _ _) (byt_app (lowL_byt _ _) (lowL_byt _ _)))))
theorem ring_byt (a b : Int) : Byt (ringL a b) := byt_app (lowL_byt _ _) (lowL_byt _ _)
theorem body_byt (rows : List (List Int)) (len : Nat) : Byt (bodyL rows len) := fun z hz => by
  obtain ⟨i, _, hz⟩ := List.mem_flatMap.1 hz
  obtain ⟨l, _, hz⟩ := List.mem_flatMap.1 hz
  exact lowL_byt _ _ z hz
theorem chunks_byt {s : Sm} (h : Good s) : ∀ c ∈ chunksL s, Byt c.nm ∧ Byt c.dt := by
  intro c hc
  unfold chunksL at hc
  rcases List.mem_cons.1 hc with rfl | hc
  · exact ⟨(byt_of_small (l := nFmt) (by decide)), fmt_byt _ _⟩
  · rcases List.mem_cons.1 hc with rfl | hc
    · exact ⟨(byt_of_small (l := nName) (by decide)), nm_byt h.nm⟩
    · rcases List.mem_append.1 hc with hc | hc
      · cases hlp : s.lp with
        | true =>
          rw [hlp, if_pos rfl] at hc
          rcases List.mem_singleton.1 hc with rfl
          exact ⟨(byt_of_small (l := nLoop) (by decide)), ring_byt _ _⟩
        | false => rw [hlp, if_neg (by decide)] at hc; simp at hc
      · rcases List.mem_singleton.1 hc with rfl
        exact ⟨(byt_of_small (l := nData) (by decide)), body_byt _ _⟩
theorem file_byt {s : Sm} (h : Good s) : Byt (fileL s) := by
  rw [show fileL s = joinL [⟨nRIFF, nWAVE ++ joinL (chunksL s)⟩] by simp [joinL, fileL]]
  exact joinL_byt (fun c hc => by
    rcases List.mem_singleton.1 hc with rfl
    exact ⟨(byt_of_small (l := nRIFF) (by decide)), byt_app (byt_of_small (by decide)) (joinL_byt (chunks_byt h))⟩)
theorem readC_s0 {l : List Ch} {E : Int} {s : Sm} (h : readC l = (E, s)) (hE : E ≠ 0) : s = s0 := by
  unfold readC readR readD at h
  repeat' split at h
  all_goals first | exact (Prod.mk.inj h).2.symm | exact absurd (Prod.mk.inj h).1.symm hE
theorem readL_s0 {b : List Int} {E : Int} {s : Sm} (h : readL b = (E, s)) (hE : E ≠ 0) : s = s0 := by
  unfold readL at h
  repeat' split at h
  all_goals first | exact (Prod.mk.inj h).2.symm | exact readC_s0 h hE
end Go.Proofs.Ytpbeehfafbgphaa

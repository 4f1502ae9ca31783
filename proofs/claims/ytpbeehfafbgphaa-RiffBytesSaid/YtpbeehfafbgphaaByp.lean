/- What riff.Bytes needs: a string's bytes; chunks collected; the file's chunks are small. -/
import Derived.Test.YtpbeehfafbgphaaFom
import Derived.Test.YtpbeehfafbgphaaBod
import Derived.Laws.IdiomStrings
namespace Go.Proofs.Ytpbeehfafbgphaa
open Go Go.RowKit Go.Calli
set_option linter.unusedVariables false
set_option linter.unusedSimpArgs false
def cvC (w : World) (nm : List Int) : Nat := grownCap w nm.length 0 5
def cvW (w : World) (nm : List Int) : World := w.drew.alloc (.cells (bytesRow (strOfNums nm) (cvC w nm)) 5 ((bytesRow (strOfNums nm) (cvC w nm)).size, (bytesRow (strOfNums nm) (cvC w nm)).size + 1))
theorem cv_run (nm : List Int) (w : World) : (convert 9 25 (.string (strOfNums nm))).run Try.prog w = .ok (.slice (some ⟨w.heap.size, 0, none⟩) nm.length (cvC w nm)) (cvW w nm) := by
  have := run_bytes_of_string (P := Try.prog) w 9 25 5 (strOfNums nm) rfl rfl rfl
  rw [strOfNums_size] at this
  exact this
theorem cv_below (nm : List Int) (w : World) : Below w.heap.size w (cvW w nm) := ((Below.refl _ w).drew).alloc (Nat.le_refl _) _
theorem cv_at (nm : List Int) (w : World) : ∃ cs f, (cvW w nm).heap[w.heap.size]? = some (.cells cs 5 f) := ⟨_, _, heap_alloc_new w.drew _⟩
theorem cv_is (nm : List Int) (w : World) (hb : Byt nm) (hl : nm.length ≤ maxLen) : (⟨nName, some ⟨w.heap.size, 0, none⟩, nm.length, cvC w nm⟩ : ChM).Is (cvW w nm) ⟨nName, nm⟩ ∧ Dat (cvW w nm) ⟨nName, some ⟨w.heap.size, 0, none⟩, nm.length, cvC w nm⟩ := by
  refine ⟨⟨rfl, (byt_of_small (l := nName) (by decide)), grownCap_ge _ _ _ _, rfl, hl, fun i hi => ⟨_, rfl, ?_⟩, wf_of hb⟩, fun a ha => ?_⟩
  · rw [add0]
    unfold cvW
    refine (cell_of_row _ _ _ _ _ _ (heap_alloc_new w.drew _)).trans ?_
    have hs : (strOfNums nm).data.size = nm.length := strOfNums_size nm
    have hi : i < nm.length := hi
    simp only [Nat.zero_add]
    unfold bytesRow
    rw [Array.getElem?_append_left (by rw [Array.size_map, hs]; exact hi), Array.getElem?_map, Array.getElem?_eq_getElem (by rw [hs]; exact hi)]
    have := nums_at nm hb i hi (by rw [strOfNums_size]; exact hi)
    simp only [Option.map_some]
    rw [← this]
    rfl
  · simp only [Option.some.injEq] at ha
    subst ha
    exact cv_at nm w
theorem ChM.Is.lt {w : World} {m : ChM} {c : Ch} (h : m.Is w c) (h0 : m.n ≠ 0) (a : Addr) (ha : m.ao = some a) : a.block < w.heap.size := h.dt.under (Nat.pos_of_ne_zero h0) a ha
theorem OwnC.mk2 {X : World} {B : Nat} (m1 m2 : ChM) {c1 c2 : Ch} (h1 : m1.Is X c1) (h2 : m2.Is X c2) (hB : B ≤ X.heap.size) : OwnC (X.alloc (.cells #[.string (strOfNums m1.s), .slice m1.ao m1.n m1.cap, .string (strOfNums m2.s), .slice m2.ao m2.n m2.cap] 27)) B (.slice (some ⟨X.heap.size, 0, none⟩) 2 2) 2 [m1, m2] [c1, c2] := by
  have hba := below_alloc X (.cells #[.string (strOfNums m1.s), .slice m1.ao m1.n m1.cap, .string (strOfNums m2.s), .slice m2.ao m2.n m2.cap] 27)
  refine ⟨⟨rfl, .inr ⟨X.heap.size, 2, _, rfl, hB, heap_alloc_new X _, Nat.le_refl _, by unfold maxLen; omega, rfl, rfl⟩⟩, rfl, fun i hi => ?_, fun i hi h0 a k ha hk => ?_⟩
  · rcases (show i = 0 ∨ i = 1 by omega) with rfl | rfl
    · exact h1.keep0 hba
    · exact h2.keep0 hba
  · simp only [Value.ownBlock, Option.some.injEq] at hk
    subst hk
    rcases (show i = 0 ∨ i = 1 by omega) with rfl | rfl
    · exact Nat.ne_of_lt (h1.lt h0 a ha)
    · exact Nat.ne_of_lt (h2.lt h0 a ha)
theorem OwnC.mk1 {X : World} {B : Nat} (m1 : ChM) {c1 : Ch} (h1 : m1.Is X c1) (hB : B ≤ X.heap.size) : OwnC (X.alloc (.cells #[.string (strOfNums m1.s), .slice m1.ao m1.n m1.cap] 27)) B (.slice (some ⟨X.heap.size, 0, none⟩) 1 1) 1 [m1] [c1] := by
  have hba := below_alloc X (.cells #[.string (strOfNums m1.s), .slice m1.ao m1.n m1.cap] 27)
  refine ⟨⟨rfl, .inr ⟨X.heap.size, 1, _, rfl, hB, heap_alloc_new X _, Nat.le_refl _, by unfold maxLen; omega, rfl, rfl⟩⟩, rfl, fun i hi => ?_, fun i hi h0 a k ha hk => ?_⟩
  · obtain rfl : i = 0 := by omega
    exact h1.keep0 hba
  · simp only [Value.ownBlock, Option.some.injEq] at hk
    subst hk
    obtain rfl : i = 0 := by omega
    exact Nat.ne_of_lt (h1.lt h0 a ha)
def Dats (w : World) (n : Nat) (ms : List ChM) : Prop := ∀ i, i < n → Dat w (ms.getD i m0)
theorem Dats.keep0 {w w' : World} {n : Nat} {ms : List ChM} (h : Dats w n ms) (hb : Below w.heap.size w w') : Dats w' n ms := fun i hi => (h i hi).keep0 hb
theorem Dat.far {w w' : World} {B n : Nat} {v : Value} {xs : List Value} {m : ChM} (h : Dat w m) (hown : w.ownsRow B 27 2 v n xs) (hk : Keeps (fun k => v.ownBlock = some k) w w') : Dat w' m := fun a ha => by
  obtain ⟨cs, f, hcs⟩ := h a ha
  exact ⟨cs, f, hk.heap hcs (fun e => by
    obtain ⟨ds, hds⟩ := own_block_type hown e
    exact block_ne hds hcs (by decide) rfl)⟩
theorem OwnC.snoc2 {w w' : World} {B : Nat} {v v' : Value} {n : Nat} {ms : List ChM} {l : List Ch} (h : OwnC w B v n ms l) (hD : Dats w n ms) (m : ChM) (c : Ch) (hown : w'.ownsRow B 27 2 v' (n + 1) (ms.flatMap valsC ++ valsC m)) (hk : Keeps (fun k => v.ownBlock = some k) w w') (his : m.Is w c) (hm : Dat w m) : OwnC w' B v' (n + 1) (ms ++ [m]) (l ++ [c]) ∧ Dats w' (n + 1) (ms ++ [m]) := by
  have hml := h.mlen
  have hD1 : ∀ i, i < n + 1 → Dat w ((ms ++ [m]).getD i m0) := fun i hi => by
    by_cases hin : i < n
    · rw [show (ms ++ [m]).getD i m0 = ms.getD i m0 by simp [List.getD, List.getElem?_append_left, hml, hin]]
      exact hD i hin
    · obtain rfl : i = n := by omega
      rw [show (ms ++ [m]).getD i m0 = m by simp [List.getD, ← hml]]
      exact hm
  have hD2 : Dats w' (n + 1) (ms ++ [m]) := fun i hi => (hD1 i hi).far h.own hk
  refine ⟨h.snoc m c hown hk his fun i hi h0 a k ha hv => ?_, hD2⟩
  rcases hv with hv | hv
  · obtain ⟨cs, f, hcs⟩ := hD1 i hi a ha
    obtain ⟨ds, hds⟩ := own_block_type h.own hv
    exact fun e => block_ne hds hcs (by decide) e.symm
  · obtain ⟨cs, f, hcs⟩ := hD2 i hi a ha
    obtain ⟨ds, hds⟩ := own_block_type hown hv
    exact fun e => block_ne hds hcs (by decide) e.symm
theorem dats2 {w : World} {m1 m2 : ChM} (h1 : Dat w m1) (h2 : Dat w m2) : Dats w 2 [m1, m2] := fun i hi => by
  rcases (show i = 0 ∨ i = 1 by omega) with rfl | rfl
  · exact h1
  · exact h2
/-- The file's chunks, for samples of at most 150. -/
theorem chunks_few {s : Sm} (h : Good s) (hl : lenS s ≤ 150) : Small (chunksL s) ∧ (chunksL s).length ≤ 4 := by
  refine ⟨fun c hc => ?_, chunks_count s⟩
  obtain ⟨h1, -⟩ := chunks_small h c hc
  refine ⟨by omega, ?_⟩
  have hb := body_len s.d (lenS s)
  have hbl : lenS s * (s.d.length * 2) ≤ 150 * 4 := Nat.mul_le_mul hl (by have := h.n; omega)
  have hnm := nm_len h.nm
  unfold chunksL at hc
  rcases List.mem_cons.1 hc with rfl | hc
  · simp only; rw [fmtL_len]; omega
  · rcases List.mem_cons.1 hc with rfl | hc
    · simp only; omega
    · rcases List.mem_append.1 hc with hc | hc
      · cases hlp : s.lp with
        | true =>
          rw [hlp, if_pos rfl] at hc
          rcases List.mem_singleton.1 hc with rfl
          simp only; rw [ringL_len]; omega
        | false => rw [hlp, if_neg (by decide)] at hc; simp at hc
      · rcases List.mem_singleton.1 hc with rfl
        simp only; rw [hb]; omega
theorem inner_few {s : Sm} (h : Good s) (hl : lenS s ≤ 150) : (joinL (chunksL s)).length ≤ 2500 := by
  have h1 := joinL_len (chunksL s) 600 (fun c hc => by
    have hb := body_len s.d (lenS s)
    have hbl : lenS s * (s.d.length * 2) ≤ 150 * 4 := Nat.mul_le_mul hl (by have := h.n; omega)
    have hnm := nm_len h.nm
    unfold chunksL at hc
    rcases List.mem_cons.1 hc with rfl | hc
    · simp only; rw [fmtL_len]; omega
    · rcases List.mem_cons.1 hc with rfl | hc
      · simp only; omega
      · rcases List.mem_append.1 hc with hc | hc
        · cases hlp : s.lp with
          | true =>
            rw [hlp, if_pos rfl] at hc
            rcases List.mem_singleton.1 hc with rfl
            simp only; rw [ringL_len]; omega
          | false => rw [hlp, if_neg (by decide)] at hc; simp at hc
        · rcases List.mem_singleton.1 hc with rfl
          simp only; rw [hb]; omega)
  have h2 := chunks_count s
  have h3 : (chunksL s).length * (600 + 9) ≤ 4 * (600 + 9) := Nat.mul_le_mul_right _ h2
  omega
theorem fileL_join (s : Sm) : joinL [⟨nRIFF, nWAVE ++ joinL (chunksL s)⟩] = fileL s := by simp [joinL, fileL]
end Go.Proofs.Ytpbeehfafbgphaa

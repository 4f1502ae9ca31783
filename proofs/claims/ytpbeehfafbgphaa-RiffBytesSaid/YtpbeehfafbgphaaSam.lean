/- Samples in memory; the walks of wave's Length, IsName, loop. -/
import Derived.Test.YtpbeehfafbgphaaLch
import Derived.Test.YtpbeehfafbgphaaSml
import Derived.Lib.Bytes
namespace Go.Proofs.Ytpbeehfafbgphaa
open Go Go.RowKit Go.Calli
set_option linter.unusedVariables false
set_option linter.unusedSimpArgs false
attribute [local irreducible] wpStill wpAnyH wpAnyS wpList Code.wp
/-- Rows of integers, each a slice of its own. -/
structure Rows (w : World) (ao : Option Addr) (n : Nat) (d : List (List Int)) : Prop where
  hlen : d.length = n
  lim : n ≤ maxLen
  cell : ∀ i, i < n → ∃ (a : Addr) (ro : Option Addr) (rn rc : Nat), ao = some a ∧ w.cell? (a.add i) = some (.slice ro rn rc) ∧ rn ≤ rc ∧ Ints .i64 w ro rn (d.getD i [])
theorem Rows.nil (w : World) (ao : Option Addr) : Rows w ao 0 [] := ⟨rfl, by unfold maxLen; omega, fun i hi => by omega⟩
theorem Rows.keep0 {w w' : World} {ao : Option Addr} {n : Nat} {d : List (List Int)} (h : Rows w ao n d) (hb : Below w.heap.size w w') : Rows w' ao n d :=
  ⟨h.hlen, h.lim, fun i hi => by
    obtain ⟨a, ro, rn, rc, ha, hc, hle, hI⟩ := h.cell i hi
    exact ⟨a, ro, rn, rc, ha, (hb.cell (World.block_lt_of_cell? w _ hc)).trans hc, hle, hI.keep0 hb⟩⟩
/-- Where a sample's rows lie. -/
structure SmM where
  ao : Option Addr
  n : Nat
  cap : Nat
def cellsS (s : Sm) (m : SmM) : Array Value := #[.string (strOfNums s.nm), .int .i64 s.rate, .bool s.lp, .int .i64 s.a, .int .i64 s.b, .slice m.ao m.n m.cap]
structure SmIs (w : World) (s : Sm) (m : SmM) : Prop where
  byt : Byt s.nm
  nl : s.nm.length ≤ maxLen
  le : m.n ≤ m.cap
  rows : Rows w m.ao m.n s.d
theorem SmIs.keep0 {w w' : World} {s : Sm} {m : SmM} (h : SmIs w s m) (hb : Below w.heap.size w w') : SmIs w' s m := ⟨h.byt, h.nl, h.le, h.rows.keep0 hb⟩
theorem six_cells {w : World} {b T : Nat} {v0 v1 v2 v3 v4 v5 : Value} (h : w.heap[b]? = some (.cells #[v0, v1, v2, v3, v4, v5] T (0, 0))) : w.cell? ⟨b, 0, none⟩ = some v0 ∧ w.cell? ⟨b, 1, none⟩ = some v1 ∧ w.cell? ⟨b, 2, none⟩ = some v2 ∧ w.cell? ⟨b, 3, none⟩ = some v3 ∧ w.cell? ⟨b, 4, none⟩ = some v4 ∧ w.cell? ⟨b, 5, none⟩ = some v5 :=
  ⟨(cell_of_row _ _ _ _ _ _ h).trans rfl, (cell_of_row _ _ _ _ _ _ h).trans rfl, (cell_of_row _ _ _ _ _ _ h).trans rfl, (cell_of_row _ _ _ _ _ _ h).trans rfl, (cell_of_row _ _ _ _ _ _ h).trans rfl, (cell_of_row _ _ _ _ _ _ h).trans rfl⟩
/-- The length of a row that there is. -/
theorem lenS_zero {s : Sm} {n : Nat} (h : s.d.length = n) (h0 : n = 0) : lenS s = 0 := by
  unfold lenS
  rw [List.eq_nil_of_length_eq_zero (h.trans h0)]; rfl
theorem length_any (s : Sm) (m : SmM) (w : World) (h : SmIs w s m) : Calls Try.prog 24 #[.agg (cellsS s m)] w fun e w' => e = .returned (.int .i64 (lenS s)) ∧ Below w.heap.size w w' := by
  obtain ⟨nm, rate, lp, a, b, d⟩ := s
  obtain ⟨ao, n, cap⟩ := m
  obtain ⟨hby, hnl, hle, hR⟩ := h
  have HL := Lib.hid hR.hlen
  simp only at HL hle hR
  have hbx := below_alloc w (.cells #[.string (strOfNums nm), .int .i64 rate, .bool lp, .int .i64 a, .int .i64 b, .slice ao n cap] 37)
  have hx := heap_alloc_new w (.cells #[.string (strOfNums nm), .int .i64 rate, .bool lp, .int .i64 a, .int .i64 b, .slice ao n cap] 37)
  have hR1 := hR.keep0 hbx
  by_cases h0 : n = 0
  · have hls := Lib.hid (lenS_zero (s := ⟨nm, rate, lp, a, b, d⟩) HL.out h0)
    subst h0
    unfold cellsS
    go_enter Try.func24, Try.ntmps24
    go_wp2_with fail
    go_ret
    exact ⟨by rw [hls.out] <;> rfl, hbx⟩
  · obtain ⟨p, ro, rn, rc, rfl, hc, hrc, hI⟩ := hR1.cell 0 (by omega)
    have hls : Hid (lenS ⟨nm, rate, lp, a, b, d⟩ = rn) := hI.hlen
    have hp0 : p.add 0 = p := by cases p; simp [Addr.add]
    rw [hp0] at hc
    unfold cellsS
    go_enter Try.func24, Try.ntmps24
    go_wp2_with fail
    go_ret
    exact ⟨by rw [hls.out] <;> rfl, hbx⟩
theorem nm_take {nm : List Int} {k : Nat} (hk : k < nm.length) (h : (nm.take k).all (fun z => decide (32 < z ∧ z < 127)) = true) : (nm.take (k + 1)).all (fun z => decide (32 < z ∧ z < 127)) = decide (32 < nm.getD k 0 ∧ nm.getD k 0 < 127) := by
  rw [take_succ_getD nm k hk, List.all_append, h]
  simp
theorem nums_at (l : List Int) (hb : Byt l) (k : Nat) (hk : k < l.length) (hs : k < (strOfNums l).size) : (((strOfNums l)[k]'hs).toNat : Int) = l.getD k 0 := by
  have h := hb (l.getD k 0) (by rw [show l.getD k 0 = l[k] by simp [List.getD, hk]]; exact List.getElem_mem _)
  rw [show l.getD k 0 = l[k] by simp [List.getD, hk]] at h ⊢
  have e : (strOfNums l)[k]'hs = (strOfNums l).data[k]'hs := rfl
  rw [e]
  simp only [strOfNums, List.getElem_toArray, List.getElem_map]
  simp
  omega
theorem index_nums (l : List Int) (hb : Byt l) (k : Nat) (hk : k < l.length) (w : World) : (Instr.index 9 (.string (strOfNums l)) (.int .i64 (k : Int))).run Try.prog w = .ok (.int .u8 (l.getD k 0)) w := by
  rw [run_index_string w 9 _ .i64 k Try.underlying9, dif_pos ⟨by omega, by rw [strOfNums_size]; omega⟩]
  congr 2
  exact nums_at l hb k hk (by rw [strOfNums_size]; exact hk)
theorem nums_empty (l : List Int) : (strOfNums l).toList.isEmpty = decide (l.length = 0) := by
  rw [Lib.strOfNums_toList]
  cases l <;> simp [Lib.bytesOf]
theorem isName_any (nm : List Int) (hb : Byt nm) (hl : nm.length ≤ maxLen) (w : World) : Calls Try.prog 25 #[.string (strOfNums nm)] w fun e w' => e = .returned (.bool (nmOk nm)) ∧ w = w' := by
  have hsz : (strOfNums nm).size = nm.length := strOfNums_size nm
  unfold maxLen at hl
  have hem := nums_empty nm
  by_cases h0 : nm.length = 0
  · have hn := List.eq_nil_of_length_eq_zero h0
    subst hn
    have hv : nmOk [] = false := by decide
    have hem2 : (strOfNums []).toList.isEmpty = true := hem
    clear hem
    rw [hv]
    go_enter Try.func25, Try.ntmps25
    go_wp2_with fail
    go_ret
    exact ⟨rfl, rfl⟩
  · have hem2 : (strOfNums nm).toList.isEmpty = false := by rw [hem]; simpa using h0
    clear hem
    by_cases h32 : 32 < nm.length
    · have hv : nmOk nm = false := by unfold nmOk; rw [decide_eq_false (by omega)]; rfl
      rw [hv]
      go_enter Try.func25, Try.ntmps25
      go_wp2_with fail
      go_ret
      exact ⟨rfl, rfl⟩
    · have hv : nmOk nm = nm.all (fun z => decide (32 < z ∧ z < 127)) := by unfold nmOk; rw [decide_eq_true (by omega)]; rfl
      have HV := Lib.hid hv
      clear hv
      go_enter Try.func25, Try.ntmps25
      go_wp2_with fail
      go_loop [13] (fun v13 => ∃ k : Nat, k ≤ nm.length ∧ v13 = .int .i64 k ∧ Hid ((nm.take k).all (fun z => decide (32 < z ∧ z < 127)) = true)) (fun v13 => (nm.length - (intOf v13).toNat))
      case atStart => exact ⟨0, by omega, rfl, rfl⟩
      case round =>
        obtain ⟨k, hk, rfl, hA⟩ := hrel
        by_cases hlt : k < nm.length
        · have hix := index_nums nm hb k hlt
          have hst := nm_take hlt hA.out
          have hall : decide (32 < nm.getD k 0 ∧ nm.getD k 0 < 127) = false → nm.all (fun z => decide (32 < z ∧ z < 127)) = false := fun h => by
            rw [← Bool.not_eq_true, List.all_eq_true]
            intro he
            have := he (nm.getD k 0) (by rw [show nm.getD k 0 = nm[k] by simp [List.getD, hlt]]; exact List.getElem_mem _)
            rw [h] at this; cases this
          generalize nm.getD k 0 = z at *
          have HST := Lib.hid hst
          have HALL := Lib.hid hall
          clear hst hall
          by_cases h1 : z ≤ 32
          · have he := HV.out.trans (HALL.out (decide_eq_false (by omega)))
            have HE := Lib.hid he
            clear he
            go_wp2_with fail
            go_ret
            exact ⟨by rw [HE.out] <;> rfl, rfl⟩
          · by_cases h2 : 127 ≤ z
            · have he := HV.out.trans (HALL.out (decide_eq_false (by omega)))
              have HE := Lib.hid he
              clear he
              go_wp2_with fail
              go_ret
              exact ⟨by rw [HE.out] <;> rfl, rfl⟩
            · have hn := HST.out.trans (decide_eq_true (show 32 < z ∧ z < 127 by omega))
              have HN := Lib.hid hn
              clear hn
              go_wp2_with fail
              refine ⟨⟨k + 1, by omega, by go_num, HN.out⟩, ?_⟩
              simp [intOf] <;> omega
        · obtain rfl : k = nm.length := by omega
          have he : nmOk nm = true := HV.out.trans (by have := hA.out; rwa [List.take_length] at this)
          have HE := Lib.hid he
          clear he
          go_wp2_with fail
          go_ret
          exact ⟨by rw [HE.out] <;> rfl, rfl⟩
theorem loop_any (is : Bool) (f t n : Int) (w : World) : Calls Try.prog 26 #[.bool is, .int .i64 f, .int .i64 t, .int .i64 n] w fun e w' => e = .returned (.bool (lpOk is f t n)) ∧ w = w' := by
  cases is with
  | false =>
    have hv : lpOk false f t n = decide (f = 0 ∧ t = 0) := rfl
    rw [hv]
    clear hv
    by_cases h1 : f = 0
    · by_cases h2 : t = 0
      · subst h1; subst h2
        go_enter Try.func26, Try.ntmps26
        go_wp2_with fail
        go_ret
        exact ⟨rfl, rfl⟩
      · subst h1
        rw [decide_eq_false (fun h => h2 h.2)]
        go_enter Try.func26, Try.ntmps26
        go_wp2_with fail
        go_ret
        exact ⟨by simp [h2], rfl⟩
    · rw [decide_eq_false (fun h => h1 h.1)]
      go_enter Try.func26, Try.ntmps26
      go_wp2_with fail
      go_ret
      exact ⟨by simp [h1], rfl⟩
  | true =>
    have hv : lpOk true f t n = decide (0 ≤ f ∧ f < t ∧ t ≤ n) := rfl
    rw [hv]
    clear hv
    by_cases h1 : 0 ≤ f
    · by_cases h2 : f < t
      · by_cases h3 : t ≤ n
        · rw [decide_eq_true ⟨h1, h2, h3⟩]
          go_enter Try.func26, Try.ntmps26
          go_wp2_with fail
          go_ret
          exact ⟨by simp [h1, h2, h3], rfl⟩
        · rw [decide_eq_false (fun h => h3 h.2.2)]
          go_enter Try.func26, Try.ntmps26
          go_wp2_with fail
          go_ret
          exact ⟨by simp [h1, h2, h3], rfl⟩
      · rw [decide_eq_false (fun h => h2 h.2.1)]
        go_enter Try.func26, Try.ntmps26
        go_wp2_with fail
        go_ret
        exact ⟨by simp [h1, h2], rfl⟩
    · rw [decide_eq_false (fun h => h1 h.1)]
      go_enter Try.func26, Try.ntmps26
      go_wp2_with fail
      go_ret
      exact ⟨by simp [h1], rfl⟩
end Go.Proofs.Ytpbeehfafbgphaa

/- The walk of wave.Check. -/
import Derived.Test.YtpbeehfafbgphaaSam
namespace Go.Proofs.Ytpbeehfafbgphaa
open Go Go.RowKit Go.Calli
set_option linter.unusedVariables false
set_option linter.unusedSimpArgs false
attribute [local irreducible] wpStill wpAnyH wpAnyS wpList Code.wp
theorem chk1 {s : Sm} (h : nmOk s.nm = false) : chk s = 10 := by unfold chk; rw [if_pos h]
theorem chk2 {s : Sm} (h : nmOk s.nm = true) (h2 : s.rate < 1 ∨ 192000 < s.rate) : chk s = 14 := by unfold chk; rw [if_neg (by rw [h]; decide), if_pos h2]
theorem chk3 {s : Sm} (h : nmOk s.nm = true) (h2 : ¬ (s.rate < 1 ∨ 192000 < s.rate)) (h3 : s.d.length < 1 ∨ 2 < s.d.length ∨ lenS s < 1 ∨ 1048576 < lenS s) : chk s = 12 := by unfold chk; rw [if_neg (by rw [h]; decide), if_neg h2, if_pos h3]
theorem chk4 {s : Sm} (h : nmOk s.nm = true) (h2 : ¬ (s.rate < 1 ∨ 192000 < s.rate)) (h3 : ¬ (s.d.length < 1 ∨ 2 < s.d.length ∨ lenS s < 1 ∨ 1048576 < lenS s)) (h4 : lpOk s.lp s.a s.b (lenS s) = false) : chk s = 13 := by unfold chk; rw [if_neg (by rw [h]; decide), if_neg h2, if_neg h3, if_pos h4]
theorem chk5 {s : Sm} (h : nmOk s.nm = true) (h2 : ¬ (s.rate < 1 ∨ 192000 < s.rate)) (h3 : ¬ (s.d.length < 1 ∨ 2 < s.d.length ∨ lenS s < 1 ∨ 1048576 < lenS s)) (h4 : lpOk s.lp s.a s.b (lenS s) = true) : chk s = if ¬ (∀ l ∈ s.d, l.length = lenS s) then 12 else if ¬ (∀ l ∈ s.d, ∀ v ∈ l, -32768 ≤ v ∧ v < 32768) then 5 else 0 := by unfold chk; rw [if_neg (by rw [h]; decide), if_neg h2, if_neg h3, if_neg (by rw [h4]; decide)]
theorem row_mem {d : List (List Int)} {k : Nat} (h : k < d.length) : d.getD k [] ∈ d := by
  rw [show d.getD k [] = d[k] by simp [List.getD, h]]; exact List.getElem_mem _
theorem rows_take {d : List (List Int)} {p : List Int → Prop} {k : Nat} (h : ∀ l ∈ d.take k, p l) (hk : k < d.length) (hp : p (d.getD k [])) : ∀ l ∈ d.take (k + 1), p l := by
  intro l hl
  rw [List.take_succ_eq_append_getElem hk] at hl
  rcases List.mem_append.1 hl with h1 | h1
  · exact h l h1
  · simp at h1; subst h1
    rwa [show d.getD k [] = d[k] by simp [List.getD, hk]] at hp
theorem int_mem {l : List Int} {k : Nat} (h : k < l.length) : l.getD k 0 ∈ l := by
  rw [show l.getD k 0 = l[k] by simp [List.getD, h]]; exact List.getElem_mem _
theorem ints_take {l : List Int} {p : Int → Prop} {k : Nat} (h : ∀ v ∈ l.take k, p v) (hk : k < l.length) (hp : p (l.getD k 0)) : ∀ v ∈ l.take (k + 1), p v := by
  intro v hv
  rw [take_succ_getD l k hk] at hv
  rcases List.mem_append.1 hv with h1 | h1
  · exact h v h1
  · simp only [List.mem_singleton] at h1; subst h1; exact hp
set_option maxRecDepth 100000 in
set_option maxHeartbeats 4000000 in
theorem check_any (s : Sm) (m : SmM) (w : World) (h : SmIs w s m) : Calls Try.prog 14 #[.agg (cellsS s m)] w fun e w' => e = .returned (.int .i64 (chk s)) ∧ Below w.heap.size w w' := by
  have H1 := fun h => chk1 (s := s) h
  have H2 := fun h h2 => chk2 (s := s) h h2
  have H3 := fun h h2 h3 => chk3 (s := s) h h2 h3
  have H4 := fun h h2 h3 h4 => chk4 (s := s) h h2 h3 h4
  have H5 := fun h h2 h3 h4 => chk5 (s := s) h h2 h3 h4
  have hbx := below_alloc w (.cells (cellsS s m) 37)
  have hs1 := h.keep0 hbx
  have HLEN := Lib.hid (length_any s m _ hs1)
  have HNM := Lib.hid (fun w => isName_any s.nm h.byt h.nl w)
  have HLP := Lib.hid (fun w => loop_any s.lp s.a s.b (lenS s) w)
  have hdl := h.rows.hlen
  have hx := heap_alloc_new w (.cells (cellsS s m) 37)
  have hlim : lenS s ≤ maxLen := by
    by_cases h0 : m.n = 0
    · rw [lenS_zero hdl h0]; exact Nat.zero_le _
    · obtain ⟨_, _, _, _, _, _, _, hI⟩ := h.rows.cell 0 (by omega)
      have h1 := hI.hlen
      have h2 := hI.lim
      unfold lenS; omega
  unfold maxLen at hlim
  generalize chk s = C at *
  generalize hN : lenS s = N at *
  obtain ⟨nm, rate, lp, a, b, d⟩ := s
  obtain ⟨ao, n, cap⟩ := m
  obtain ⟨hby, hnl, hle, hR⟩ := hs1
  simp only at H1 H2 H3 H4 H5 HNM HLP hdl hle hR hby hnl
  have HN := Lib.hid hN
  have HDL := Lib.hid hdl
  have HH1 := Lib.hid H1
  have HH2 := Lib.hid H2
  have HH3 := Lib.hid H3
  have HH4 := Lib.hid H4
  have HH5 := Lib.hid H5
  clear H1 H2 H3 H4 H5 hN hdl h
  unfold cellsS at *
  go_enter Try.func14, Try.ntmps14
  go_upto_region 1 with fail
  generalize w.alloc (.cells #[.string (strOfNums nm), .int .i64 rate, .bool lp, .int .i64 a, .int .i64 b, .slice ao n cap] 37) = W at *
  obtain ⟨c0, c1, c2, c3, c4, c5⟩ := six_cells hx
  go_upto_region 2 with (go_at_call 24; refine HLEN.out.mono ?_; rintro e w1 ⟨rfl, hb1⟩)
  have hx1 := (hb1.block _ (lt_of_block hx)).trans hx
  have hR1 := hR.keep0 hb1
  have hb2 := hbx.trans (hb1.mono hbx.size)
  clear c0 c1 c2 c3 c4 c5 hx hR hb1 hbx HLEN
  obtain ⟨c0, c1, c2, c3, c4, c5⟩ := six_cells hx1
  clear hx1
  cases hnm : nmOk nm with
  | false =>
    have HC := Lib.hid (HH1.out hnm)
    go_wp2_with (go_at_call 25; refine (HNM.out _).mono ?_; rintro e w2 ⟨rfl, rfl⟩; rw [hnm])
    go_ret
    exact ⟨by rw [HC.out] <;> rfl, hb2⟩
  | true =>
    by_cases hr1 : rate < 1
    · have HC := Lib.hid (HH2.out hnm (.inl hr1))
      go_wp2_with (go_at_call 25; refine (HNM.out _).mono ?_; rintro e w2 ⟨rfl, rfl⟩; rw [hnm])
      go_ret
      exact ⟨by rw [HC.out] <;> rfl, hb2⟩
    · by_cases hr2 : 192000 < rate
      · have HC := Lib.hid (HH2.out hnm (.inr hr2))
        go_wp2_with (go_at_call 25; refine (HNM.out _).mono ?_; rintro e w2 ⟨rfl, rfl⟩; rw [hnm])
        go_ret
        exact ⟨by rw [HC.out] <;> rfl, hb2⟩
      · have hr3 : ¬ (rate < 1 ∨ 192000 < rate) := by omega
        by_cases hn1 : n < 1
        · have HC := Lib.hid (HH3.out hnm hr3 (.inl (by rw [HDL.out]; exact hn1)))
          go_wp2_with (go_at_call 25; refine (HNM.out _).mono ?_; rintro e w2 ⟨rfl, rfl⟩; rw [hnm])
          go_ret
          exact ⟨by rw [HC.out] <;> rfl, hb2⟩
        · by_cases hn2 : 2 < n
          · have HC := Lib.hid (HH3.out hnm hr3 (.inr (.inl (by rw [HDL.out]; exact hn2))))
            go_wp2_with (go_at_call 25; refine (HNM.out _).mono ?_; rintro e w2 ⟨rfl, rfl⟩; rw [hnm])
            go_ret
            exact ⟨by rw [HC.out] <;> rfl, hb2⟩
          · by_cases hN1 : N < 1
            · have HC := Lib.hid (HH3.out hnm hr3 (.inr (.inr (.inl hN1))))
              go_wp2_with (go_at_call 25; refine (HNM.out _).mono ?_; rintro e w2 ⟨rfl, rfl⟩; rw [hnm])
              go_ret
              exact ⟨by rw [HC.out] <;> rfl, hb2⟩
            · by_cases hN2 : 1048576 < N
              · have HC := Lib.hid (HH3.out hnm hr3 (.inr (.inr (.inr hN2))))
                go_wp2_with (go_at_call 25; refine (HNM.out _).mono ?_; rintro e w2 ⟨rfl, rfl⟩; rw [hnm])
                go_ret
                exact ⟨by rw [HC.out] <;> rfl, hb2⟩
              · have h3 : ¬ (d.length < 1 ∨ 2 < d.length ∨ N < 1 ∨ 1048576 < N) := by rw [HDL.out]; omega
                cases hlp : lpOk lp a b N with
                | false =>
                  have HC := Lib.hid (HH4.out hnm hr3 h3 hlp)
                  go_wp2_with (first | (go_at_call 25; refine (HNM.out _).mono ?_; rintro e w2 ⟨rfl, rfl⟩; rw [hnm]) | (go_at_call 26; refine (HLP.out _).mono ?_; rintro e w3 ⟨rfl, rfl⟩; rw [hlp]))
                  go_ret
                  exact ⟨by rw [HC.out] <;> rfl, hb2⟩
                | true =>
                  have HC := Lib.hid (HH5.out hnm hr3 h3 hlp)
                  clear h3
                  go_upto_region 10 with (first | (go_at_call 25; refine (HNM.out _).mono ?_; rintro e w2 ⟨rfl, rfl⟩; rw [hnm]) | (go_at_call 26; refine (HLP.out _).mono ?_; rintro e w3 ⟨rfl, rfl⟩; rw [hlp]))
                  clear HNM HLP HH1 HH2 HH3 HH4 HH5 hnm hlp hr1 hr2 hr3
                  go_wp2_with fail
                  go_loop [58] (fun v58 => ∃ k : Nat, k ≤ n ∧ v58 = .int .i64 k ∧ Hid (∀ l ∈ d.take k, l.length = N)) (fun v58 => (n - (intOf v58).toNat))
                  case atStart => exact ⟨0, by omega, rfl, fun l hl => by simp at hl⟩
                  case round =>
                    obtain ⟨k, hk, rfl, hA⟩ := hrel
                    by_cases hlt : k < n
                    · obtain ⟨p, ro, rn, rc, rfl, hc, hrc, hI⟩ := hR1.cell k hlt
                      have hIl := hI.hlen
                      have hIm := hI.lim
                      unfold maxLen at hIm
                      have hrow := fun hp => rows_take (p := fun l => l.length = N) hA.out (by rw [HDL.out]; exact hlt) hp
                      have hmem := row_mem (d := d) (k := k) (by rw [HDL.out]; exact hlt)
                      have HRW := Lib.hid hrow
                      have HME := Lib.hid hmem
                      clear hrow hmem
                      have HIL := Lib.hid hIl
                      clear hIl
                      by_cases hrn : rn = N
                      · subst hrn
                        have HT := Lib.hid (HRW.out HIL.out)
                        clear hI
                        go_wp2_with fail
                        refine ⟨⟨k + 1, by omega, by go_num, HT.out⟩, ?_⟩
                        simp [intOf] <;> omega
                      · have hC : C = 12 := by rw [HC.out, if_pos (fun h => hrn (by rw [← HIL.out]; exact h _ HME.out))]
                        have HC2 := Lib.hid hC
                        have hrn2 : ¬ ((rn : Int) = (N : Int)) := by omega
                        clear hC hI
                        go_wp2_with fail
                        go_ret
                        exact ⟨by rw [HC2.out] <;> rfl, hb2⟩
                    · obtain rfl : k = n := by omega
                      have hall : ∀ l ∈ d, l.length = N := by have := hA.out; rwa [List.take_of_length_le (by rw [HDL.out]; exact Nat.le_refl _)] at this
                      have hC := HC.out
                      rw [if_neg (fun h => h hall)] at hC
                      have HC2 := Lib.hid hC
                      have HALL := Lib.hid hall
                      clear hC HC hA hall
                      go_wp2_with fail
                      go_loop [70] (fun v70 => ∃ j : Nat, j ≤ k ∧ v70 = .int .i64 j ∧ Hid (∀ l ∈ d.take j, ∀ v ∈ l, -32768 ≤ v ∧ v < 32768)) (fun v70 => (k - (intOf v70).toNat))
                      case atStart => exact ⟨0, by omega, rfl, fun l hl => by simp at hl⟩
                      case round =>
                        obtain ⟨j, hj, rfl, hA⟩ := hrel
                        by_cases hlt : j < k
                        · obtain ⟨p, ro, rn, rc, rfl, hc, hrc, hI⟩ := hR1.cell j hlt
                          have hIm := hI.lim
                          unfold maxLen at hIm
                          have hrow := fun hp => rows_take (p := fun l => ∀ v ∈ l, -32768 ≤ v ∧ v < 32768) hA.out (by rw [HDL.out]; exact hlt) hp
                          have hmem := row_mem (d := d) (k := j) (by rw [HDL.out]; exact hlt)
                          generalize d.getD j [] = r at *
                          have HRW := Lib.hid hrow
                          have HME := Lib.hid hmem
                          have HIL := Lib.hid hI.hlen
                          clear hrow hmem
                          go_wp2_with fail
                          go_loop [76] (fun v76 => ∃ i : Nat, i ≤ rn ∧ v76 = .int .i64 i ∧ Hid (∀ v ∈ r.take i, -32768 ≤ v ∧ v < 32768)) (fun v76 => (rn - (intOf v76).toNat))
                          case atStart => exact ⟨0, by omega, rfl, fun l hl => by simp at hl⟩
                          case round =>
                            obtain ⟨i, hi, rfl, hB⟩ := hrel
                            by_cases hlt2 : i < rn
                            · have hin := fun hp => ints_take (p := fun v => -32768 ≤ v ∧ v < 32768) hB.out (by rw [HIL.out]; exact hlt2) hp
                              have him := int_mem (l := r) (k := i) (by rw [HIL.out]; exact hlt2)
                              obtain ⟨a2, x, rfl, hx, hxc, hx0, hx1⟩ := hI.int hlt2
                              rw [hx.out] at hin him
                              have HIN := Lib.hid hin
                              have HIM := Lib.hid him
                              clear hin him
                              by_cases h1 : x < -32768
                              · have hC : C = 5 := by rw [HC2.out, if_pos (fun h => by have := h _ HME.out _ HIM.out; omega)]
                                have HC3 := Lib.hid hC
                                clear hC
                                go_wp2_with fail
                                go_ret
                                exact ⟨by rw [HC3.out] <;> rfl, hb2⟩
                              · by_cases h2 : 32768 ≤ x
                                · have hC : C = 5 := by rw [HC2.out, if_pos (fun h => by have := h _ HME.out _ HIM.out; omega)]
                                  have HC3 := Lib.hid hC
                                  clear hC
                                  go_wp2_with fail
                                  go_ret
                                  exact ⟨by rw [HC3.out] <;> rfl, hb2⟩
                                · have HT := Lib.hid (HIN.out ⟨by omega, by omega⟩)
                                  go_wp2_with fail
                                  refine ⟨⟨i + 1, by omega, by go_num, HT.out⟩, ?_⟩
                                  simp [intOf] <;> omega
                            · obtain rfl : i = rn := by omega
                              have HT := Lib.hid (HRW.out (by have := hB.out; rwa [List.take_of_length_le (by rw [HIL.out]; exact Nat.le_refl _)] at this))
                              go_wp2_with fail
                              refine ⟨⟨j + 1, by omega, by go_num, HT.out⟩, ?_⟩
                              simp [intOf] <;> omega
                        · obtain rfl : j = k := by omega
                          have hC := HC2.out
                          rw [if_neg (fun h => h (by have := hA.out; rwa [List.take_of_length_le (by rw [HDL.out]; exact Nat.le_refl _)] at this))] at hC
                          have HC3 := Lib.hid hC
                          clear hC
                          go_wp2_with fail
                          go_ret
                          exact ⟨by rw [HC3.out] <;> rfl, hb2⟩
end Go.Proofs.Ytpbeehfafbgphaa

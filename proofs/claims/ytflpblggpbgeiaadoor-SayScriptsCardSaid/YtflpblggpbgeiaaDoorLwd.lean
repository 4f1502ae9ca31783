/- The walk of the law's word. -/
import Derived.Test.YtflpblggpbgeiaaDoorWrd
import Derived.BigQuiet
namespace Go.Proofs.YtflpblggpbgeiaaDoor
open Go Go.RowKit Go.Calli
set_option linter.unusedVariables false
set_option linter.unusedSimpArgs false
attribute [local irreducible] wpStill wpAnyH wpAnyS wpList Code.wp
theorem one_ext (l : List Int) (i : Nat) (h : i < l.length) : (strOfNums l).extract i (i + 1) = strOfNums [l.getD i 0] := by
  rw [strOfNums_extract, take_succ_getD l i h, List.drop_append_of_le_length (by rw [List.length_take]; omega), List.drop_eq_nil_of_le (by rw [List.length_take]; omega), List.nil_append]
theorem hex_ext (q : Nat) (h : q < 16) : (ByteArray.mk #[48, 49, 50, 51, 52, 53, 54, 55, 56, 57, 97, 98, 99, 100, 101, 102]).extract q (q + 1) = strOfNums [hx q] := by
  have e : ByteArray.mk #[48, 49, 50, 51, 52, 53, 54, 55, 56, 57, 97, 98, 99, 100, 101, 102] = strOfNums [48, 49, 50, 51, 52, 53, 54, 55, 56, 57, 97, 98, 99, 100, 101, 102] := rfl
  rw [e, one_ext _ _ (by simpa using h)]
  rcases (show q = 0 ∨ q = 1 ∨ q = 2 ∨ q = 3 ∨ q = 4 ∨ q = 5 ∨ q = 6 ∨ q = 7 ∨ q = 8 ∨ q = 9 ∨ q = 10 ∨ q = 11 ∨ q = 12 ∨ q = 13 ∨ q = 14 ∨ q = 15 by omega) with rfl | rfl | rfl | rfl | rfl | rfl | rfl | rfl | rfl | rfl | rfl | rfl | rfl | rfl | rfl | rfl <;> rfl
set_option maxRecDepth 100000 in
set_option maxHeartbeats 4000000 in
theorem lword_any (l : List Int) (hb : Byt l) (hl : l.length ≤ 1000000) (w : World) : Calls Tryd.prog 16 #[.string (strOfNums l)] w (StrP (wordL l) w) := by
  have hsz := strOfNums_size l
  have h0 : strOfNums (wordL (l.take 0)) = ByteArray.mk #[61] := rfl
  go_enter Tryd.func16, Tryd.ntmps16
  go_upto_region 4 with fail
  go_loopw [4, 5] (fun v4 v5 wr => ∃ i : Nat, i ≤ l.length ∧ v5 = .int .i64 (i : Int) ∧ v4 = .string (strOfNums (wordL (l.take i))) ∧ Below w.heap.size w wr) (fun _ v5 _ => l.length - natV v5)
  case atStart => exact ⟨0, by omega, rfl, by rw [h0], Below.refl _ _⟩
  case round =>
    clear h0
    obtain ⟨i, hi, rfl, rfl, hB⟩ := hrel
    by_cases hlt : i < l.length
    · have hsn := wordL_snoc l i hlt
      have hix := index_nums l hb i hlt
      have hc := hb _ (getD_mem0 (l := l) (k := i) hlt)
      have hex := one_ext l i hlt
      have hwl : (strOfNums (wordL (l.take i))).size ≤ 3000001 := by
        rw [strOfNums_size]
        have := encW_len (l.take i)
        rw [List.length_take] at this
        unfold wordL
        rw [List.length_cons]; omega
      generalize l.getD i 0 = c at *
      by_cases hp : plainB c = true
      · have hp2 : 32 < c ∧ c < 127 ∧ c ≠ 37 := of_decide_eq_true hp
        obtain ⟨h1, h2, h3⟩ := hp2
        have g1 : decide (32 < c) = true := decide_eq_true h1
        have g2 : decide (c < 127) = true := decide_eq_true h2
        have g3 : (c != 37) = true := by simpa using h3
        have HM : Hid (strOfNums (wordL (l.take i)) ++ strOfNums [c] = strOfNums (wordL (l.take (i + 1)))) := by unfold Hid; rw [hsn, strOfNums_append]; unfold encB; rw [if_pos hp]
        have hz1 : (strOfNums [c]).size = 1 := rfl
        have hbig : ¬ 9223372036854775807 < (strOfNums (wordL (l.take i))).size + 1 := by omega
        clear hsn hp h3 hwl
        generalize strOfNums (wordL (l.take i)) = s1 at *
        generalize strOfNums [c] = s2 at *
        go_wp2_with fail
        refine ⟨⟨i + 1, by omega, by go_num, by rw [HM.out], hB⟩, ?_⟩
        simp [natV]; omega
      · obtain ⟨q, hq⟩ : ∃ q : Nat, c / 16 = (q : Int) := ⟨(c / 16).toNat, by omega⟩
        obtain ⟨r, hr⟩ : ∃ r : Nat, c % 16 = (r : Int) := ⟨(c % 16).toNat, by omega⟩
        have hq16 : q < 16 := by omega
        have hr16 : r < 16 := by omega
        have e1 := hex_ext q hq16
        have e2 := hex_ext r hr16
        have HM : Hid (strOfNums (wordL (l.take i)) ++ ByteArray.mk #[37] ++ strOfNums [hx q] ++ strOfNums [hx r] = strOfNums (wordL (l.take (i + 1)))) := by
          unfold Hid
          rw [hsn]
          unfold encB
          rw [if_neg hp, hq, hr, show ByteArray.mk #[37] = strOfNums [37] from rfl, strOfNums_append, strOfNums_append, strOfNums_append]
          simp
        have hz1 : (strOfNums [hx q]).size = 1 := rfl
        have hz2 : (strOfNums [hx r]).size = 1 := rfl
        have hp2 : ¬ (32 < c ∧ c < 127 ∧ c ≠ 37) := fun h => hp (decide_eq_true h)
        have HP2 := Lib.hid hp2
        clear hsn hp hex hp2
        generalize hS1 : strOfNums (wordL (l.take i)) = s1 at *
        have hbig1 : ¬ 9223372036854775807 < s1.size + 1 := by omega
        have hbig2 : ¬ 9223372036854775807 < s1.size + 1 + 1 := by omega
        have hbig3 : ¬ 9223372036854775807 < s1.size + 1 + 1 + 1 := by omega
        clear hS1
        by_cases h1 : 32 < c
        · by_cases h2 : c < 127
          · have h3 : c = 37 := by
              by_cases h : c = 37
              · exact h
              · exact absurd ⟨h1, h2, h⟩ HP2.out
            have g1 : decide (32 < c) = true := decide_eq_true h1
            have g2 : decide (c < 127) = true := decide_eq_true h2
            have g3 : (c != 37) = false := by rw [h3]; rfl
            clear h3
            go_upto_region 9 with fail
            go_quiet (fail)
            have hBq : Below w.heap.size w (wr.drewN nq) := ⟨hB.os, hB.tape, hB.output, hB.size, hB.block⟩
            go_wp2_with fail
            refine ⟨⟨i + 1, by omega, by go_num, by rw [HM.out], hBq⟩, ?_⟩
            simp [natV]; omega
          · have g1 : decide (32 < c) = true := decide_eq_true h1
            have g2 : decide (c < 127) = false := decide_eq_false h2
            go_upto_region 9 with fail
            go_quiet (fail)
            have hBq : Below w.heap.size w (wr.drewN nq) := ⟨hB.os, hB.tape, hB.output, hB.size, hB.block⟩
            go_wp2_with fail
            refine ⟨⟨i + 1, by omega, by go_num, by rw [HM.out], hBq⟩, ?_⟩
            simp [natV]; omega
        · have g1 : decide (32 < c) = false := decide_eq_false h1
          go_upto_region 9 with fail
          go_quiet (fail)
          have hBq : Below w.heap.size w (wr.drewN nq) := ⟨hB.os, hB.tape, hB.output, hB.size, hB.block⟩
          go_wp2_with fail
          refine ⟨⟨i + 1, by omega, by go_num, by rw [HM.out], hBq⟩, ?_⟩
          simp [natV]; omega
    · obtain rfl : i = l.length := by omega
      rw [List.take_length]
      go_wp2_with fail
      go_ret
      exact ⟨rfl, hB⟩
end Go.Proofs.YtflpblggpbgeiaaDoor

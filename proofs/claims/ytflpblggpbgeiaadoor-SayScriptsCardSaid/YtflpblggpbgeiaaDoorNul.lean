/- The walk of the law's number. -/
import Derived.Test.YtflpblggpbgeiaaDoorNum
namespace Go.Proofs.YtflpblggpbgeiaaDoor
open Go Go.RowKit Go.Calli
set_option linter.unusedVariables false
set_option linter.unusedSimpArgs false
attribute [local irreducible] wpStill wpAnyH wpAnyS wpList Code.wp
def NulRel (n : Int) (w : World) (v0 v3 v5 : Value) (wr : World) : Prop := ∃ (x : Int) (ds : List Int) (f : Bool), v0 = .int .i64 x ∧ v3 = .string (strOfNums ds.reverse) ∧ v5 = .bool f ∧ Hid (digR n.natAbs = ds ++ (if f = true ∨ x ≠ 0 then digR x.natAbs else [])) ∧ -9223372036854775808 ≤ x ∧ x < 9223372036854775808 ∧ Hid (ds.length ≤ 20) ∧ (f = true → x < 0 → n < 0) ∧ Below w.heap.size w wr
theorem tmod_neg {x : Int} (h : x < 0) : x.tmod 10 = -((x.natAbs % 10 : Nat) : Int) := by
  obtain ⟨m, rfl⟩ : ∃ m : Nat, x = -(m : Int) := ⟨x.natAbs, by omega⟩
  rw [Int.neg_tmod, Int.natAbs_neg, Int.natAbs_natCast]; rfl
def mNul (v0 v5 : Value) : Nat := 2 * (match v0 with | .int _ n => n.natAbs | _ => 0) + (match v5 with | .bool true => 1 | _ => 0)
set_option maxRecDepth 100000 in
set_option maxHeartbeats 4000000 in
theorem lnumber_any (n : Int) (h1 : -9223372036854775808 ≤ n) (h2 : n < 9223372036854775808) (w : World) : Calls Tryd.prog 19 #[.int .i64 n] w (StrP (numD n) w) := by
  have hlen : (digR n.natAbs).length ≤ 20 := digR_len 19 n.natAbs (by omega)
  have HLEN := Lib.hid hlen
  clear hlen
  obtain ⟨neg, hneg⟩ : ∃ neg : Bool, neg = decide (n < 0) := ⟨_, rfl⟩
  have HNEG := Lib.hid hneg
  have HD : Hid (numD n = if neg = true then 45 :: (digR n.natAbs).reverse else (digR n.natAbs).reverse) := by
    unfold Hid numD digL
    rw [hneg]
    by_cases h : n < 0
    · rw [if_pos h, if_pos (by simpa using h)]
    · rw [if_neg h, if_neg (by simpa using h)]
  go_enter Tryd.func19, Tryd.ntmps19
  go_upto_region 4 with fail
  rw [← hneg]
  clear hneg
  go_loopw [0, 3, 5] (fun v0 v3 v5 wr => NulRel n w v0 v3 v5 wr) (fun v0 _ v5 _ => mNul v0 v5)
  case atStart => exact ⟨n, [], true, rfl, rfl, rfl, by unfold Hid; rw [if_pos (.inl rfl)]; rfl, h1, h2, by unfold Hid; simp, fun _ h => h, Below.refl _ _⟩
  case round =>
    obtain ⟨x, ds, f, rfl, rfl, rfl, hR, hx1, hx2, hL, hfx, hb⟩ := hrel
    by_cases hgo : f = true ∨ x ≠ 0
    · have hR2 := hR.out
      rw [if_pos hgo, digR_step x.natAbs] at hR2
      obtain ⟨q, hq⟩ : ∃ q : Int, x.tdiv 10 = q := ⟨_, rfl⟩
      obtain ⟨d, hd⟩ : ∃ d : Int, ((x.natAbs % 10 : Nat) : Int) = d := ⟨_, rfl⟩
      have hqa : x.natAbs / 10 = q.natAbs := by rw [← hq, Int.natAbs_tdiv]; rfl
      have hd0 : 0 ≤ d ∧ d < 10 := by omega
      have hqb : -9223372036854775808 ≤ q ∧ q < 9223372036854775808 := by omega
      rw [hqa, hd] at hR2
      have hdl : Hid ((ds ++ [48 + d]).length ≤ 20) := by
        have h1 := HLEN.out
        rw [hR2, List.length_append, List.length_cons] at h1
        unfold Hid
        rw [List.length_append, List.length_cons, List.length_nil]; omega
      have HE : Hid (∀ wr', Below w.heap.size w wr' → NulRel n w (.int .i64 q) (.string (strOfNums ((48 + d) :: ds.reverse))) (.bool false) wr') := fun wr' hb' => by
        refine ⟨q, ds ++ [48 + d], false, rfl, by simp, rfl, ?_, hqb.1, hqb.2, hdl.out, fun e => by (cases e), hb'⟩
        unfold Hid
        rw [hR2]
        by_cases h0 : q = 0
        · rw [if_pos (by omega), if_neg (by simp [h0])]; simp
        · rw [if_neg (by omega), if_pos (.inr h0)]; simp
      have HSUM : Hid (strOfNums [48 + d] ++ strOfNums ds.reverse = strOfNums ((48 + d) :: ds.reverse)) := str_cons _ _
      have hs1 : (strOfNums [48 + d]).size = 1 := rfl
      have hs2 : (strOfNums ds.reverse).size ≤ 20 := by rw [strOfNums_size, List.length_reverse]; exact hL.out
      have hbig : ¬ 9223372036854775807 < 1 + (strOfNums ds.reverse).size := by omega
      have hnew : Ints .u8 (wr.alloc (.cells #[.int .u8 (48 + d)] 5)) (some ⟨wr.heap.size, 0, none⟩) 1 [48 + d] := Ints.new .u8 wr [48 + d] 5 (0, 0) _ rfl 1 rfl (by unfold maxLen; omega) (fun z hz => by simp at hz; subst hz; exact WalkArith.wf_u8 ⟨by omega, by omega⟩)
      have hcv := conv_ints (P := Tryd.prog) hnew 39 5 9 1 rfl rfl rfl
      have hB2 := balloc hb (.cells #[.int .u8 (48 + d)] 5)
      have HME : Hid (2 * q.natAbs + 1 ≤ 2 * x.natAbs + (if f = true then 1 else 0)) := by
        unfold Hid
        rcases hgo with h | h
        · rw [if_pos h]; omega
        · omega
      clear hR hR2 hL hnew hdl hfx hb hs2
      by_cases hneg : x < 0
      · have hx10 : x.tdiv 10 = q := hq
        by_cases hdz : d = 0
        · have hT : x.tmod 10 = d := by rw [tmod_neg hneg, hd]; omega
          have hdn : ¬ d < 0 := by omega
          clear hdz
          clear hqa hd
          rcases f with _ | _
          · have hx0 : ¬ (x = 0) := by rcases hgo with h | h; cases h; exact h
            have g5 : (x != 0) = true := by simpa using hx0
            go_wp2_with fail
            rw [HSUM.out]
            refine ⟨HE.out _ hB2, ?_⟩
            have := HME.out
            simp [mNul] at this ⊢; omega
          · go_wp2_with fail
            rw [HSUM.out]
            refine ⟨HE.out _ hB2, ?_⟩
            have := HME.out
            simp [mNul] at this ⊢; omega
        · have hT : x.tmod 10 = -d := by rw [tmod_neg hneg, hd]
          have hTn : -d < 0 := by omega
          clear hqa hd
          rcases f with _ | _
          · have hx0 : ¬ (x = 0) := by rcases hgo with h | h; cases h; exact h
            have g5 : (x != 0) = true := by simpa using hx0
            go_wp2_with fail
            rw [HSUM.out]
            refine ⟨HE.out _ hB2, ?_⟩
            have := HME.out
            simp [mNul] at this ⊢; omega
          · go_wp2_with fail
            rw [HSUM.out]
            refine ⟨HE.out _ hB2, ?_⟩
            have := HME.out
            simp [mNul] at this ⊢; omega
      · have hT : x % 10 = d := by omega
        have HQ : Hid (x / 10 = q) := by unfold Hid; rw [← hq, Int.tdiv_eq_ediv_of_nonneg (by omega)]
        clear hqa hd hq
        rcases f with _ | _
        · have hx0 : ¬ (x = 0) := by rcases hgo with h | h; cases h; exact h
          have g5 : (x != 0) = true := by simpa using hx0
          go_wp2_with fail
          rw [HSUM.out, HQ.out]
          refine ⟨HE.out _ hB2, ?_⟩
          have := HME.out
          simp [mNul] at this ⊢; omega
        · go_wp2_with fail
          rw [HSUM.out, HQ.out]
          refine ⟨HE.out _ hB2, ?_⟩
          have := HME.out
          simp [mNul] at this ⊢; omega
    · have hf : f = false := by cases f with
        | false => rfl
        | true => exact absurd (.inl rfl) hgo
      have hx0 : x = 0 := by
        by_cases h : x = 0
        · exact h
        · exact absurd (.inr h) hgo
      subst hf
      subst hx0
      have hR2 := hR.out
      rw [if_neg hgo, List.append_nil] at hR2
      have hD2 := HD.out
      rw [hR2] at hD2
      have hs2 : (strOfNums ds.reverse).size ≤ 20 := by rw [strOfNums_size, List.length_reverse]; exact hL.out
      have hbig : ¬ 9223372036854775807 < 1 + (strOfNums ds.reverse).size := by omega
      have HD3 := Lib.hid hD2
      clear hR hR2 hD2 hL hfx hgo hs2 HD HLEN HNEG
      cases neg with
      | true =>
        have HS : Hid (ByteArray.mk #[45] ++ strOfNums ds.reverse = strOfNums (numD n)) := by unfold Hid; rw [HD3.out, if_pos rfl, ← str_cons]; rfl
        go_wp2_with fail
        go_ret
        exact ⟨by rw [HS.out] <;> rfl, hb⟩
      | false =>
        have HS : Hid (ds.reverse = numD n) := by unfold Hid; rw [HD3.out, if_neg (by decide)]
        go_wp2_with fail
        go_ret
        exact ⟨by rw [HS.out] <;> rfl, hb⟩
end Go.Proofs.YtflpblggpbgeiaaDoor

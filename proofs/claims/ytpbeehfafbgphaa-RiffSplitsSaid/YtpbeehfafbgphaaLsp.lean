/- The walk of the statement RiffSplits. -/
import Derived.Test.YtpbeehfafbgphaaLch
namespace Go.Proofs.Ytpbeehfafbgphaa
open Go Go.RowKit Go.Calli
set_option linter.unusedVariables false
set_option linter.unusedSimpArgs false
attribute [local irreducible] wpStill wpAnyH wpAnyS wpList Code.wp
set_option maxRecDepth 100000 in
set_option maxHeartbeats 4000000 in
theorem splits_any (ao : Option Addr) (n0 cap : Nat) (bs0 : List Int) (hc : n0 ≤ cap) (hcm : cap ≤ maxLen) (w : World) (h0 : Ints .u8 w ao n0 bs0) : Calls Try.prog 4 #[.slice ao n0 cap] w (TruePost w) := by
  obtain ⟨n, bs, hn, hn5, h⟩ : ∃ (n : Nat) (bs : List Int), ((n0 ≤ 500 ∧ n = n0) ∨ (500 < n0 ∧ n = 500)) ∧ n ≤ 500 ∧ Ints .u8 w ao n bs := by
    by_cases hgt : 500 < n0
    · exact ⟨500, _, Or.inr ⟨hgt, rfl⟩, by omega, h0.take (by omega)⟩
    · exact ⟨n0, _, Or.inl ⟨by omega, rfl⟩, by omega, h0⟩
  have hbl := h.hlen
  have hsp := split_any ao n cap bs (by omega) hcm (by omega) w h
  have HB := Lib.hid h
  have hao : 500 < n0 → ∃ a, ao = some a := fun hg => by
    obtain ⟨a, ha, _⟩ := h0.some (by omega)
    exact ⟨a, ha⟩
  clear h h0
  unfold maxLen at hcm
  have herr := split_err n bs
  obtain ⟨D, hD⟩ : ∃ D, D = splitL n bs := ⟨_, rfl⟩
  rw [← hD] at hsp herr
  have HSP := Lib.hid hsp
  have HD := Lib.hid hD
  have HBL := Lib.hid hbl
  clear hsp hD hbl
  go_enter Try.func4, Try.ntmps4
  go_upto_if 9 with fail
  go_cut [0] (fun v0 wx => v0 = .slice ao n cap ∧ wx = w)
  case first =>
    rcases hn with ⟨hn1, rfl⟩ | ⟨hn1, rfl⟩
    · go_wp2_with fail
      go_meet
      exact ⟨rfl, rfl⟩
    · obtain ⟨a, rfl⟩ := hao hn1
      go_wp2_with fail
      go_meet
      exact ⟨rfl, rfl⟩
  case rest =>
    obtain ⟨rfl, rfl⟩ := hcut
    go_upto_region 4 with (go_at_call 10; refine HSP.out.mono ?_; rintro e w1 ⟨xo, xn, xc, rfl, hxc, hE, hX, hb1⟩)
    by_cases hD0 : D.1 = 0
    · have hjs := join_split n bs D.2 (by rw [HBL.out]; exact Nat.le_refl _) (byt_of HB.out.wf) (by rw [← HD.out, ← hD0])
      have hX2 := hX hD0
      have hjl : (joinL D.2).length = n := by rw [hjs.1, HBL.out]
      have HJ := Lib.hid hjs.1
      have hnm := hjs.2
      have HD0 := Lib.hid hD0
      rw [hD0]
      generalize D.2 = l at *
      have hB1 := HB.out.keep0 hb1
      have hjp : ∀ k, (joinL (l.take k)).length ≤ n := fun k => by
        rw [← hjl]
        conv => rhs; rw [← List.take_append_drop k l]
        unfold joinL
        rw [List.flatMap_append, List.length_append]; omega
      have hxlim := hX2.lim
      unfold maxLen at hxlim
      clear hE hX hjs hD0 herr HSP
      go_wp2_with fail
      go_loopw [5, 6] (fun v5 v6 wr => ChkRel l xn w1 v5 v6 wr) (fun _ v6 _ => (xn - (intOf v6).toNat))
      case atStart => exact ⟨0, by omega, rfl, rfl, Below.refl _ _⟩
      case round =>
        obtain ⟨k, hk, rfl, rfl, hb⟩ := hrel
        by_cases hlt : k < xn
        · obtain ⟨a, m, rfl, q0, q1, hm⟩ := (hX2.keep0 hb).cell k hlt
          have e1 : ((a.add (k * 2)).add 1) = ⟨(a.add (k * 2)).block, (a.add (k * 2)).off + 1, none⟩ := rfl
          rw [e1] at q1
          have hsl := hnm _ (getD_mem (l := l) (k := k) (by rw [hX2.hlen]; exact hlt))
          have hsn := take_snocC l k (by rw [hX2.hlen]; exact hlt)
          have hjt := hjp k
          have hjt2 := hjp (k + 1)
          rw [hsn, joinL_snoc, List.length_append] at hjt2
          have hj1 : Hid (strOfNums (joinL (l.take k)) ++ strOfNums (encC (l.getD k c0)) = strOfNums (joinL (l.take (k + 1)))) := by unfold Hid; rw [strOfNums_append, hsn, joinL_snoc]
          generalize l.getD k c0 = c at *
          obtain ⟨hnm4, hdn, -, -⟩ := hsl
          obtain ⟨hn2, hby, hle, hdt⟩ := hm
          rw [hn2] at q0
          have hcvd := conv_ints (P := Try.prog) (hdt.keep0 (Below.refl _ _).drew) 25 5 9 m.cap rfl rfl rfl
          have hq0d : wr.drew.cell? (a.add (k * 2)) = some (.string (strOfNums c.nm)) := q0
          have hq1d : wr.drew.cell? ⟨(a.add (k * 2)).block, (a.add (k * 2)).off + 1, none⟩ = some (.slice m.ao m.n m.cap) := q1
          have HQ0 := Lib.hid hq0d
          have HQ1 := Lib.hid hq1d
          have HDT := Lib.hid (hdt.keep0 (Below.refl _ _).drew)
          have hz0 : (strOfNums c.nm).size = 4 := by rw [strOfNums_size, hnm4]
          have hz1 : (strOfNums (joinL (l.take k))).size = (joinL (l.take k)).length := strOfNums_size _
          have hz2 : (strOfNums (encC c)).size = (encC c).length := strOfNums_size _
          have hk0 : (0 : Int) ≤ (k : Int) := by omega
          have hk1 : (k : Int) < (xn : Int) := by omega
          have hbig : ¬ 9223372036854775807 < (joinL (l.take k)).length + (encC c).length := by omega
          have hdl : c.dt.length ≤ 4294967295 := by rw [HBL.out] at hdn; omega
          have HCH := Lib.hid (fun w => chunk_any c.nm c.dt hdl w)
          have HNM := Lib.hid hnm
          have HJP := Lib.hid hjp
          clear hsn hdt hdl hdn hnm4 hn2 hnm hjp
          go_upto_region 12 with fail
          have hbd : Below wr.heap.size wr wr.drew := (Below.refl _ _).drew
          go_region_held3 (fun w' => w'.cell? (a.add (k * 2)) = some (.string (strOfNums c.nm)) ∧ w'.cell? ⟨(a.add (k * 2)).block, (a.add (k * 2)).off + 1, none⟩ = some (.slice m.ao m.n m.cap) ∧ (convert 25 9 (.slice m.ao m.n m.cap)).run Try.prog w' = .ok (.string (strOfNums c.dt)) w') (go_keep) (first | (go_at_call 8; refine (HCH.out _).mono ?_; rintro e w2 ⟨rfl, hb2⟩; have g0 := (hb2.cell (World.block_lt_of_cell? _ _ HQ0.out)).trans HQ0.out; have g1 := (hb2.cell (World.block_lt_of_cell? _ _ HQ1.out)).trans HQ1.out; have hcv2 := conv_ints (P := Try.prog) (HDT.out.keep0 hb2) 25 5 9 m.cap rfl rfl rfl))
          go_wp2_with fail
          rw [hj1.out]
          refine ⟨⟨k + 1, by omega, by go_num, rfl, bstep hb (hbd.trans hb2)⟩, ?_⟩
          simp [intOf]; omega
        · obtain rfl : k = xn := by omega
          rw [List.take_of_length_le (by rw [hX2.hlen]; omega), HJ.out]
          have hcv := conv_ints (P := Try.prog) (hB1.keep0 hb) 25 5 9 cap rfl rfl rfl
          clear hjp hnm
          go_wp2_with (go_at_call 11; refine (awake_any _).mono ?_; rintro e w9 ⟨rfl, hb9⟩)
          go_ret
          exact ⟨rfl, bstep (bstep hb1 hb) hb9⟩
    · have hr0 := hE hD0
      subst hr0
      have hD24 : D.1 = 2 ∨ D.1 = 4 := by omega
      clear hE hX herr HSP hD0
      rcases hD24 with e | e
      all_goals
        rw [e]
        clear e
        go_wp2_with (go_at_call 11; refine (awake_any _).mono ?_; rintro e w9 ⟨rfl, hb9⟩)
        go_ret
        exact ⟨rfl, bstep hb1 hb9⟩
end Go.Proofs.Ytpbeehfafbgphaa

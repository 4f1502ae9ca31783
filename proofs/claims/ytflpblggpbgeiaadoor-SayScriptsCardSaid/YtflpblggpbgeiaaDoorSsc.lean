/- The walk of the statement SayScripts. -/
import Derived.Test.YtflpblggpbgeiaaDoorSsa
namespace Go.Proofs.YtflpblggpbgeiaaDoor
open Go Go.RowKit Go.Calli
set_option linter.unusedVariables false
set_option linter.unusedSimpArgs false
attribute [local irreducible] wpStill wpAnyH wpAnyS wpList Code.wp
def ScxP (W : World) (s : ByteArray) (M : Nat) (ws : List Ac) : Prop := ∀ w', Below W.heap.size W w' → Calls Tryd.prog 20 #[.string s] w' (fun e w'' => Below w'.heap.size w' w'' ∧ ∃ ax cx, e = .returned (.tuple #[.slice ax M cx, .int .i64 0, .int .i64 0]) ∧ Recs vals7 7 ac0 w'' ax M ws)
set_option maxRecDepth 100000 in
set_option maxHeartbeats 8000000 in
theorem sscr_any (ao : Option Addr) (n cap : Nat) (os : List Ac) (ol : List Int) (w : World) (hm : HasM w) (hR : Recs vals7 7 ac0 w ao n os) (hos : ∀ a ∈ os, Byt a.nm ∧ a.nm.length ≤ maxLen ∧ i64 a.v ∧ i64 a.n ∧ i64 a.m ∧ i64 a.p ∧ i64 a.x) (hob : Byt ol) (hol : ol.length ≤ maxLen) : Calls Tryd.prog 8 #[.slice ao n cap, .string (strOfNums ol)] w (TrueP w) := by
  have CN := Lib.hid (cut_any ol hol)
  have hOb := hob.take 200
  have hOl : (ol.take 200).length ≤ 200 := by rw [List.length_take]; omega
  generalize ol.take 200 = O at *
  have hsz := strOfNums_size O
  have hol' := hR.hlen
  obtain ⟨N, hN⟩ : ∃ N, N = min n 40 := ⟨_, rfl⟩
  obtain ⟨As, hAs⟩ : ∃ As, As = (os.take N).map cutA := ⟨_, rfl⟩
  have HAL : Hid (As.length = N) := by unfold Hid; rw [hAs, List.length_map, List.length_take, hol', hN]; omega
  have HAG : Hid (∀ j, j < N → As.getD j ac0 = cutA (os.getD j ac0) ∧ os.getD j ac0 ∈ os) := by
    intro j hj
    have h1 : j < os.length := by rw [hol']; omega
    rw [hAs]
    exact ⟨by simp [List.getD, hj, h1], by rw [show os.getD j ac0 = os[j] by simp [List.getD, h1]]; exact List.getElem_mem _⟩
  have HAO : Hid (∀ a ∈ As, OkA a ∧ a.nm.length ≤ 200) := by
    intro a ha
    rw [hAs] at ha
    obtain ⟨b, hb, rfl⟩ := List.mem_map.1 ha
    obtain ⟨h1, h2, h3, h4, h5, h6, h7⟩ := hos b (List.mem_of_mem_take hb)
    exact cutA_ok b h1 h3 h4 h5 h6 h7
  have hN40 : N ≤ 40 := by omega
  have hNn : N ≤ n := by omega
  have HNE : Hid (¬ N < n → N = n) := fun h => by omega
  have HNM : Hid (N = min n 40) := hN
  have HTL : Hid (∀ j, (textL (As.take j)).length ≤ 80040) := fun j => by
    have h1 := textL_le As j
    have h2 := textL_len As HAO.out
    rw [HAL.out] at h2
    omega
  have HIN := Lib.hid hos
  have HR := Lib.hid hR
  have AW : Hid (∀ w', Below w.heap.size w w' → Calls Tryd.prog 12 #[] w' (TrueP w')) := fun w' h => awake_any w' (hm.keep0 h)
  have HM := Lib.hid hm
  have HOB := Lib.hid hOb
  clear hN hAs hol' hos hR hm hob hol hOb
  unfold TrueP at *
  go_enter Tryd.func8, Tryd.ntmps8
  go_upto_region 3 with (go_at_call 9; refine (CN.out _).mono ?_; rintro e w1 ⟨rfl, rfl⟩)
  clear CN
  go_loopw [5] (fun v5 wr => ∃ i : Nat, i ≤ O.length ∧ v5 = .int .i64 (i : Int) ∧ Hid (∀ k, k < i → O.getD k 0 ≠ 10) ∧ Below w.heap.size w wr) (fun v5 _ => O.length - natV v5)
  case atStart => exact ⟨0, by omega, rfl, fun k hk => by omega, Below.refl _ _⟩
  case round =>
    obtain ⟨i, hi, rfl, hno, hbr⟩ := hrel
    by_cases hil : i < O.length
    · have hix : ∀ w, (Instr.index 9 (.string (strOfNums O)) (.int .i64 (i : Int))).run Tryd.prog w = .ok (.int .u8 (O.getD i 0)) w := fun w => index_nums O HOB.out i hil w
      have HX := Lib.hid (fun k (hk : k < i + 1) => show O.getD k 0 = O.getD i 0 ∨ k < i by
        rcases (show k < i ∨ k = i by omega) with h | rfl
        · exact .inr h
        · exact .inl rfl)
      generalize hz : O.getD i 0 = z at *
      have g0 : decide ((i : Int) < (O.length : Int)) = true := decide_eq_true (by omega)
      by_cases hz10 : z = 10
      · subst hz10
        repeat (first | (go_at_call 12; refine (AW.out _ hbr).mono ?_; rintro e w6 ⟨rfl, hb6⟩; dsimp only) | go_guarded | go_step | go_upon)
        go_ret
        exact ⟨rfl, hbr.trans (hb6.mono hbr.size)⟩
      · have g1 : (z == 10) = false := by simpa using hz10
        have HNO : Hid (∀ k, k < i + 1 → O.getD k 0 ≠ 10) := fun k hk => by
          rcases HX.out k hk with h | h
          · rw [h]; exact hz10
          · exact hno.out k h
        clear hno HX hz
        go_wp2_with fail
        refine ⟨⟨i + 1, by omega, by go_num, HNO.out, hbr⟩, ?_⟩
        simp [natV]; omega
    · obtain rfl : i = O.length := by omega
      have g0 : decide ((O.length : Int) < (O.length : Int)) = false := decide_eq_false (by omega)
      have H10 : Hid (∀ z ∈ O, z ≠ 10) := fun z hz => by
        obtain ⟨k, hk, rfl⟩ := List.getElem_of_mem hz
        have := hno.out k hk
        rwa [show O.getD k 0 = O[k] by simp [List.getD, hk]] at this
      clear hno
      go_upto_region 11 with fail
      clear g0
      have HA0 := Lib.hid hbr
      have hm0 := HM.out.keep0 hbr
      have HML := Lib.hid (fun j => want_take_le As j)
      have HT := Lib.hid (fun j (hj : j < N) => show textL (As.take (j + 1)) = textL (As.take j) ++ lnT (As.getD j ac0) from textL_take As j (by rw [HAL.out]; exact hj))
      have HW := Lib.hid (fun j (hj : j < N) => show wantL (As.take (j + 1)) = wantL (As.take j) ++ (if lineL (As.getD j ac0) = [] then [] else [cleanL (As.getD j ac0)]) from want_take As j (by rw [HAL.out]; exact hj))
      have HF := Lib.hid (fun j (hj : j < N) => show (As.take (j + 1)).flatMap vals7 = (As.take j).flatMap vals7 ++ vals7 (As.getD j ac0) from flat_take As j (by rw [HAL.out]; exact hj))
      go_loopw [6, 7, 8, 9] (fun v6 v7 v8 v9 wr => ∃ j : Nat, j ≤ N ∧ v9 = .int .i64 (j : Int) ∧ v6 = .string (strOfNums (textL (As.take j))) ∧ wr.ownsRow w.heap.size 23 7 v7 (wantL (As.take j)).length ((wantL (As.take j)).flatMap vals7) ∧ wr.ownsRow w.heap.size 23 7 v8 j ((As.take j).flatMap vals7) ∧ Sep v7 v8 ∧ Below w.heap.size w wr) (fun _ _ _ v9 _ => N - natV v9)
      case atStart => exact ⟨0, by omega, rfl, rfl, World.ownsRow_nil _ _ _ _, World.ownsRow_nil _ _ _ _, fun k h => by simp [Value.ownBlock] at h, HA0.out⟩
      case round =>
        clear hbr HA0 hm0
        obtain ⟨j, hj, rfl, rfl, hO7, hO8, hsep, hbr⟩ := hrel
        by_cases hjl : j < N
        · have g1 : decide ((j : Int) < (n : Int)) = true := decide_eq_true (by omega)
          have g2 : decide ((j : Int) < 40) = true := decide_eq_true (by omega)
          have hR := HR.out.keep0 hbr
          obtain ⟨fa, rfl, c0, c1, c2, c3, c4, c5, c6⟩ := rec7 hR (show j < n by omega)
          obtain ⟨hag, hmem⟩ := HAG.out j hjl
          have hin := HIN.out _ hmem
          have hao : OkA (As.getD j ac0) ∧ (As.getD j ac0).nm.length ≤ 200 := HAO.out _ (by
            rw [show As.getD j ac0 = As[j]'(by rw [HAL.out]; exact hjl) by simp [List.getD, show j < As.length by rw [HAL.out]; exact hjl]]
            exact List.getElem_mem _)
          have hT := HT.out j hjl
          have hW := HW.out j hjl
          have hF := HF.out j hjl
          have hL1 := HTL.out (j + 1)
          have hML := HML.out j
          generalize As.getD j ac0 = aj at *
          generalize os.getD j ac0 = oj at *
          subst hag
          obtain ⟨ak, av, anm, an, am, ap, ax⟩ := oj
          simp only at c0 c1 c2 c3 c4 c5 c6 hin
          change OkA ⟨ak, av, anm.take 200, an, am, ap, ax⟩ ∧ (anm.take 200).length ≤ 200 at hao
          change textL (As.take (j + 1)) = textL (As.take j) ++ lnT ⟨ak, av, anm.take 200, an, am, ap, ax⟩ at hT
          change wantL (As.take (j + 1)) = wantL (As.take j) ++ (if lineL ⟨ak, av, anm.take 200, an, am, ap, ax⟩ = [] then [] else [cleanL ⟨ak, av, anm.take 200, an, am, ap, ax⟩]) at hW
          change (As.take (j + 1)).flatMap vals7 = (As.take j).flatMap vals7 ++ vals7 ⟨ak, av, anm.take 200, an, am, ap, ax⟩ at hF
          have CNM := Lib.hid (cut_any anm hin.2.1)
          generalize hnm : anm.take 200 = nm at *
          have SL := lline_any ak av nm an am ap ax hao.1
          have CL := lclean_any ak av nm an am ap ax
          have hem := nums_empty (lineL ⟨ak, av, nm, an, am, ap, ax⟩)
          rw [hT] at hL1
          have HT2 := Lib.hid hT
          have HW2 := Lib.hid hW
          have HF2 := Lib.hid hF
          have HV : Hid (vals7 ⟨ak, av, nm, an, am, ap, ax⟩ = [.int .i64 ak, .int .i64 av, .string (strOfNums nm), .int .i64 an, .int .i64 am, .int .i64 ap, .int .i64 ax]) := rfl
          clear hT hW hF hmem hin hao hR hnm
          unfold lnT at HT2 hL1
          unfold StrP at SL
          unfold ClnP at CL
          generalize lineL ⟨ak, av, nm, an, am, ap, ax⟩ = LN at *
          generalize cleanL ⟨ak, av, nm, an, am, ap, ax⟩ = CA at *
          obtain ⟨ck, cv, cnm, cn, cm, cp, cx⟩ := CA
          have SLH := Lib.hid SL
          have CLH : Hid (∀ w, Calls Tryd.prog 13 #[.agg #[.int .i64 ak, .int .i64 av, .string (strOfNums nm), .int .i64 an, .int .i64 am, .int .i64 ap, .int .i64 ax]] w (fun e w' => e = .returned (.agg #[.int .i64 ck, .int .i64 cv, .string (strOfNums cnm), .int .i64 cn, .int .i64 cm, .int .i64 cp, .int .i64 cx]) ∧ Below w.heap.size w w')) := CL
          clear SL CL
          go_upto_region 14 with fail
          have hy := heap_alloc_new wr (.cells #[.int .i64 ak, .int .i64 av, .string (strOfNums anm), .int .i64 an, .int .i64 am, .int .i64 ap, .int .i64 ax] 23)
          have hba := below_alloc wr (.cells #[.int .i64 ak, .int .i64 av, .string (strOfNums anm), .int .i64 an, .int .i64 am, .int .i64 ap, .int .i64 ax] 23)
          have hP7 := own_below0 hO7 hba
          have hP8 := own_below0 hO8 hba
          have hb1 := hbr.trans (hba.mono hbr.size)
          have hne7 : ¬ u7.ownBlock = some wr.heap.size := fun h => by have := own_lt hO7 h; omega
          have hne8 : ¬ u8.ownBlock = some wr.heap.size := fun h => by have := own_lt hO8 h; omega
          have hxw : w.heap.size ≤ wr.heap.size := hbr.size
          clear hO7 hO8 hba hbr c0 c1 c2 c3 c4 c5 c6 g1 g2
          generalize wr.alloc (.cells #[.int .i64 ak, .int .i64 av, .string (strOfNums anm), .int .i64 an, .int .i64 am, .int .i64 ap, .int .i64 ax] 23) = W1 at *
          generalize wr.heap.size = xb at *
          have HY := Lib.hid hy
          obtain ⟨⟨c0, c1, c2, c3, c4, c5, c6⟩, f0, f1, f2, f3, f4, f5, f6⟩ := seven_cells hy
          clear hy
          go_upto_region 15 with (go_at_call 9; refine (CNM.out _).mono ?_; rintro e w1 ⟨rfl, rfl⟩)
          have hz2 : (W1.setCell ⟨xb, 2, none⟩ (.string (strOfNums nm))).heap[xb]? = some (.cells #[.int .i64 ak, .int .i64 av, .string (strOfNums nm), .int .i64 an, .int .i64 am, .int .i64 ap, .int .i64 ax] 23 (0, 0)) := heap_setCell_same _ _ _ _ _ _ HY.out
          have hb2 := hb1.setCell (p := ⟨xb, 2, none⟩) hxw (.string (strOfNums nm))
          have hQ7 := owns_kept hP7 ((Keeps.refl (fun k => k = xb) W1).setCell (p := ⟨xb, 2, none⟩) (.inr rfl) (.string (strOfNums nm))) (fun k h e => hne7 (e ▸ h))
          have hQ8 := owns_kept hP8 ((Keeps.refl (fun k => k = xb) W1).setCell (p := ⟨xb, 2, none⟩) (.inr rfl) (.string (strOfNums nm))) (fun k h e => hne8 (e ▸ h))
          clear c0 c1 c2 c3 c4 c5 c6 f0 f1 f2 f3 f4 f5 f6 HY hP7 hP8 hb1 CNM hne7
          generalize W1.setCell ⟨xb, 2, none⟩ (.string (strOfNums nm)) = W2 at *
          have HZ2 := Lib.hid hz2
          obtain ⟨⟨c0, c1, c2, c3, c4, c5, c6⟩, -⟩ := seven_cells hz2
          clear hz2
          go_wp2_with (at_builtin; refine wpList_append_rec_at rfl (.tmp 51) (.tmp 53) 40 23 7 rfl Tryd.underlying40 infoAct rfl (by decide) w.heap.size _ _ _ rfl hQ8 (vals7 ⟨ak, av, nm, an, am, ap, ax⟩) rfl rfl (vals7_one _) ?_ ?_ ?_ ?_)
          · omega
          · unfold maxLen; omega
          · exact hb2.size
          intro x8 w8 hX8 hk8 hv8
          have hs1 : Sep u7 x8 := (Sep.step hsep.symm hQ7 hv8).symm
          have hX7 := owns_kept hQ7 hk8 (fun k h1 h2 => hsep k h1 h2)
          have hz8 := hk8.heap HZ2.out hne8
          have hb3 := hb2.trans (owns_below hQ8 hk8 hb2.size)
          rw [← HF2.out] at hX8
          clear hQ7 hQ8 hb2 hk8 hv8 HZ2 hne8 hsep HF2 c0 c1 c2 c3 c4 c5 c6 HV
          have HZ8 := Lib.hid hz8
          obtain ⟨⟨c0, c1, c2, c3, c4, c5, c6⟩, -⟩ := seven_cells hz8
          clear hz8
          go_upto_region 16 with fail
          by_cases hLN : LN = []
          · subst hLN
            have hem2 : (strOfNums []).toList.isEmpty = true := hem
            rw [if_pos rfl, List.append_nil] at HT2 HW2
            clear hem hL1 CLH
            go_wp2_with (go_at_call 11; refine (SLH.out _).mono ?_; rintro e w9 ⟨rfl, hb9⟩)
            refine ⟨⟨j + 1, by omega, by go_num, by rw [HT2.out], by rw [HW2.out]; exact own_below0 hX7 hb9, own_below0 hX8 hb9, hs1, hb3.trans (hb9.mono hb3.size)⟩, ?_⟩
            simp [natV]; omega
          · have hS0 : LN.length ≠ 0 := fun e => hLN (List.eq_nil_of_length_eq_zero e)
            have hem2 : (strOfNums LN).toList.isEmpty = false := by rw [hem]; simpa using hS0
            have g3 : ((strOfNums LN).toList == []) = false := by rw [← hem2]; cases (strOfNums LN).toList <;> rfl
            have g4 : ((strOfNums LN).toList != []) = true := by rw [bne, g3]; rfl
            rw [if_neg hLN] at HT2 HW2 hL1
            have hsT := strOfNums_size (textL (As.take j))
            have hsL := strOfNums_size LN
            have hsTL := strOfNums_size (textL (As.take j) ++ LN)
            simp only [List.length_append, List.length_cons, List.length_nil] at hL1 hsTL
            have e1 : strOfNums (textL (As.take j)) ++ strOfNums LN = strOfNums (textL (As.take j) ++ LN) := strOfNums_append _ _
            have e2 : strOfNums (textL (As.take j) ++ LN) ++ ByteArray.mk #[10] = strOfNums (textL (As.take (j + 1))) := by
              rw [HT2.out, ← List.append_assoc]
              exact strOfNums_append _ [10]
            have b1 : ¬ 9223372036854775807 < (strOfNums (textL (As.take j))).size + (strOfNums LN).size := by omega
            have b2 : ¬ 9223372036854775807 < (strOfNums (textL (As.take j) ++ LN)).size + 1 := by omega
            have HWL : Hid ((wantL (As.take (j + 1))).length = (wantL (As.take j)).length + 1 ∧ (wantL (As.take (j + 1))).flatMap vals7 = (wantL (As.take j)).flatMap vals7 ++ vals7 ⟨ck, cv, cnm, cn, cm, cp, cx⟩) := by
              unfold Hid
              rw [HW2.out, List.length_append, List.flatMap_append]
              exact ⟨rfl, rfl⟩
            clear hem hem2 hS0 hLN hsT hsL hsTL HT2 HW2 hL1
            generalize strOfNums (textL (As.take j)) = sT at *
            generalize strOfNums (textL (As.take j) ++ LN) = sTL at *
            generalize hsF : strOfNums (textL (As.take (j + 1))) = sF at *
            have HSF := Lib.hid hsF
            clear hsF
            generalize strOfNums LN = sL at *
            go_upto_region 17 with (go_at_call 11; refine (SLH.out _).mono ?_; rintro e w9 ⟨rfl, hb9⟩)
            have hz9 := (hb9.block _ (lt_of_block HZ8.out)).trans HZ8.out
            have hX7b := own_below0 hX7 hb9
            have hX8b := own_below0 hX8 hb9
            have hb4 := hb3.trans (hb9.mono hb3.size)
            clear hX7 hX8 hb9 hb3 HZ8 c0 c1 c2 c3 c4 c5 c6 g3 g4
            have HZ9 := Lib.hid hz9
            obtain ⟨⟨c0, c1, c2, c3, c4, c5, c6⟩, -⟩ := seven_cells hz9
            clear hz9
            go_upto_region 18 with (go_at_call 11; refine (SLH.out _).mono ?_; rintro e w10 ⟨rfl, hb10⟩)
            have hz10 := (hb10.block _ (lt_of_block HZ9.out)).trans HZ9.out
            have hX7c := own_below0 hX7b hb10
            have hX8c := own_below0 hX8b hb10
            have hb5 := hb4.trans (hb10.mono hb4.size)
            clear hX7b hX8b hb10 hb4 HZ9 c0 c1 c2 c3 c4 c5 c6 b1 b2 e1 e2 SLH
            obtain ⟨⟨c0, c1, c2, c3, c4, c5, c6⟩, -⟩ := seven_cells hz10
            clear hz10
            go_wp2_with (first | (go_at_call 13; refine (CLH.out _).mono ?_; rintro e w11 ⟨rfl, hb11⟩; have hX7d := own_below0 hX7c hb11; have hX8d := own_below0 hX8c hb11; have hb6 := hb5.trans (hb11.mono hb5.size)) | (at_builtin; refine wpList_append_rec_at rfl (.tmp 63) (.tmp 66) 40 23 7 rfl Tryd.underlying40 infoAct rfl (by decide) w.heap.size _ _ _ rfl hX7d (vals7 ⟨ck, cv, cnm, cn, cm, cp, cx⟩) rfl rfl (vals7_one _) ?_ ?_ ?_ ?_))
            · omega
            · unfold maxLen; omega
            · exact hb6.size
            intro x7 w12 hX7e hk7 hv7
            have hs2 : Sep x7 x8 := Sep.step hs1 hX8d hv7
            have hX8e := owns_kept hX8d hk7 (fun k h1 h2 => hs1 k h2 h1)
            have hb7 := hb6.trans (owns_below hX7d hk7 hb6.size)
            rw [← HWL.out.1, ← HWL.out.2] at hX7e
            clear hX7c hX8c hX7d hX8d hb5 hb6 hb11 hk7 hv7 hs1 c0 c1 c2 c3 c4 c5 c6
            go_wp2_with fail
            refine ⟨⟨j + 1, by omega, by go_num, by rw [HSF.out], hX7e, hX8e, hs2, hb7⟩, ?_⟩
            simp [natV]; omega
        · obtain rfl : j = N := by omega
          have htk : As.take j = As := List.take_of_length_le (by rw [HAL.out]; exact Nat.le_refl _)
          have hdone : (¬ j < n) ∨ (j < n ∧ ¬ j < 40) := by
            have := HNM.out
            omega
          rw [htk] at hO7 hO8 ⊢
          obtain ⟨a8, k8, rfl, hc8, hR8, -⟩ := own_recs ac0 vals7_len (by decide) hO8
          obtain ⟨a7, k7, rfl, hc7, hR7, -⟩ := own_recs ac0 vals7_len (by decide) hO7
          have hlw := want_le As
          rw [HAL.out] at hlw
          have TX : Hid (∀ w', Below wr.heap.size wr w' → Calls Tryd.prog 23 #[.slice a8 j k8] w' (fun e w'' => e = .returned (.string (strOfNums (textL As))) ∧ Below w'.heap.size w' w'')) := fun w' h => by
            have := text_any a8 j k8 As w' (fun a ha => (HAO.out a ha).1) (by have := textL_len As HAO.out; rw [HAL.out] at this; omega) (by omega) (hR8.keep0 h)
            exact this
          have SX : Hid (∀ w', Below w.heap.size w w' → Calls Tryd.prog 20 #[.string (strOfNums (textL As))] w' (fun e w'' => Below w'.heap.size w' w'' ∧ ∃ ax cx, e = .returned (.tuple #[.slice ax (wantL As).length cx, .int .i64 0, .int .i64 0]) ∧ Recs vals7 7 ac0 w'' ax (wantL As).length (wantL As))) := fun w' h => script_text As HAO.out (by rw [HAL.out]; exact hN40) w' (HM.out.keep0 h)
          have SY : Hid (∀ w', Below w.heap.size w w' → Calls Tryd.prog 20 #[.string (strOfNums (textL As ++ O))] w' (fun e w'' => Below w'.heap.size w' w'' ∧ (∀ a, parseL O = some a → ∃ ax cx, e = .returned (.tuple #[.slice ax ((wantL As).length + 1) cx, .int .i64 0, .int .i64 0])) ∧ (O = [] → ∃ ax cx, e = .returned (.tuple #[.slice ax (wantL As).length cx, .int .i64 0, .int .i64 0])) ∧ (O ≠ [] → parseL O = none → e = .returned (.tuple #[.slice none 0 0, .int .i64 ((wantL As).length : Nat), .int .i64 4])))) := fun w' h => script_more As HAO.out (by rw [HAL.out]; exact hN40) O HOB.out hOl H10.out w' (HM.out.keep0 h)
          have PY : Hid (∀ w', Below w.heap.size w w' → Calls Tryd.prog 10 #[.string (strOfNums O)] w' (ParP (parseL O) w')) := fun w' h => parse_any O HOB.out (by omega) w' (HM.out.keep0 h)
          have hsX := strOfNums_size (textL As)
          have hTL := HTL.out j
          rw [htk] at hTL
          have e3 : strOfNums (textL As) ++ strOfNums O = strOfNums (textL As ++ O) := strOfNums_append _ _
          have b3 : ¬ 9223372036854775807 < (strOfNums (textL As)).size + (strOfNums O).size := by omega
          have hemO := nums_empty O
          have HR8 := Lib.hid hR8
          have HR7 := Lib.hid hR7
          clear hO7 hO8 hR8 hR7 hsX hsz hTL HTL HAG HAO HIN HAL HNE HNM HT HW HF HML hsep hNn htk HOB H10 HR HM hil hc7 hc8
          generalize strOfNums (textL As ++ O) = sY at *
          generalize strOfNums (textL As) = sX at *
          generalize strOfNums O = sO at *
          generalize wantL As = ws at *
          obtain ⟨M, hM⟩ : ∃ M, ws.length = M := ⟨_, rfl⟩
          rw [hM] at hlw SX SY HR7 ⊢
          have HMM := Lib.hid hM
          clear hM
          rcases hdone with g1 | ⟨g1, g2⟩
          all_goals
            go_upto_region 20 with (first | (go_at_call 23; refine (TX.out _ (Below.refl _ _)).mono ?_; rintro e w3 ⟨rfl, hb3⟩) | (go_at_call 20; refine (SX.out _ (hbr.trans (hb3.mono hbr.size))).mono ?_; rintro e w4 ⟨hb4, ax, cx, rfl, hRX⟩))
            have hb34 := hb3.trans (hb4.mono hb3.size)
            clear hb3 hb4
            go_upto_region 22 with (go_at_call 23; refine (TX.out _ hb34).mono ?_; rintro e w5 ⟨rfl, hb5⟩)
            have hb35 := hb34.trans (hb5.mono hb34.size)
            have HRX := Lib.hid (hRX.keep0 hb5)
            have HRW := Lib.hid (HR7.out.keep0 hb35)
            have hB5 := hbr.trans (hb35.mono hbr.size)
            clear hRX hb34 hb5 hb35 TX SX HR7 HR8 hbr
            go_upto_region 23 with fail
            go_loopw [14] (fun v14 wy => ∃ i : Nat, i ≤ M ∧ v14 = .int .i64 (i : Int) ∧ Below w5.heap.size w5 wy) (fun v14 _ => M - natV v14)
            case atStart => exact ⟨0, by omega, rfl, Below.refl _ _⟩
            case round =>
              obtain ⟨i, hi, rfl, hby⟩ := hrel
              by_cases hiM : i < M
              · obtain ⟨xa, rfl, c0, c1, c2, c3, c4, c5, c6⟩ := rec7 (HRX.out.keep0 hby) hiM
                obtain ⟨ya, rfl, d0, d1, d2, d3, d4, d5, d6⟩ := rec7 (HRW.out.keep0 hby) hiM
                generalize ws.getD i ac0 = ea at *
                obtain ⟨ak, av, anm, an, am, ap, ax⟩ := ea
                simp only at c0 c1 c2 c3 c4 c5 c6 d0 d1 d2 d3 d4 d5 d6
                have g4 : decide ((i : Int) < (M : Int)) = true := decide_eq_true (by omega)
                generalize strOfNums anm = snm at *
                go_upto_region 25 with fail
                go_quiet (fail)
                have hbd : Below w5.heap.size w5 (wr.drewN nq) := hby.trans ⟨rfl, rfl, rfl, Nat.le_refl _, fun _ _ => rfl⟩
                go_wp2_with fail
                refine ⟨⟨i + 1, by omega, by go_num, hbd⟩, ?_⟩
                simp [natV]; omega
              · obtain rfl : i = M := by omega
                have g4 : decide ((i : Int) < (i : Int)) = false := decide_eq_false (by omega)
                have hBy := hB5.trans (hby.mono hB5.size)
                clear hB5 hby HRX HRW
                cases hp : parseL O with
                | some pa =>
                  obtain ⟨pk, pv, pnm, pn, pm, pp, px⟩ := pa
                  have SYc : Hid (∀ w', Below w.heap.size w w' → Calls Tryd.prog 20 #[.string sY] w' (fun e w'' => Below w'.heap.size w' w'' ∧ ∃ ay cy, e = .returned (.tuple #[.slice ay (i + 1) cy, .int .i64 0, .int .i64 0]))) := fun w' h => (SY.out w' h).mono fun e w'' ⟨q1, q2, _, _⟩ => ⟨q1, q2 _ hp⟩
                  have PYc : Hid (∀ w', Below w.heap.size w w' → Calls Tryd.prog 10 #[.string sO] w' (fun e w'' => e = .returned (.tuple #[.agg #[.int .i64 pk, .int .i64 pv, .string (strOfNums pnm), .int .i64 pn, .int .i64 pm, .int .i64 pp, .int .i64 px], .int .i64 0]) ∧ Below w'.heap.size w' w'')) := fun w' h => by
                    have := PY.out w' h
                    rw [hp] at this
                    exact this
                  have hw1 : IntKind.i64.wrap ((i : Int) + 1) = (i : Int) + 1 := IntWalk.i64_in _ (by omega)
                  clear SY PY hp
                  generalize strOfNums pnm = sp at *
                  go_upto_region 28 with (go_at_call 20; refine (SYc.out _ hBy).mono ?_; rintro e w6 ⟨hb6, ay, cy, rfl⟩)
                  have hB6 := hBy.trans (hb6.mono hBy.size)
                  clear hBy hb6 b3 e3 g4
                  go_upto_region 29 with (go_at_call 10; refine (PYc.out _ hB6).mono ?_; rintro e w7 ⟨rfl, hb7⟩)
                  have hB7 := hB6.trans (hb7.mono hB6.size)
                  have hba := below_alloc w7 (.cells #[.int .i64 pk, .int .i64 pv, .string sp, .int .i64 pn, .int .i64 pm, .int .i64 pp, .int .i64 px] 23)
                  have hB8 := hB7.trans (hba.mono hB7.size)
                  clear hB7 hba hb7 hB6
                  generalize w7.alloc (.cells #[.int .i64 pk, .int .i64 pv, .string sp, .int .i64 pn, .int .i64 pm, .int .i64 pp, .int .i64 px] 23) = W8 at *
                  repeat (first | (go_at_call 12; refine (AW.out _ hB8).mono ?_; rintro e w9 ⟨rfl, hb9⟩; dsimp only) | go_guarded | go_step | go_upon)
                  go_ret
                  exact ⟨rfl, hB8.trans (hb9.mono hB8.size)⟩
                | none =>
                  have PYc : Hid (∀ w', Below w.heap.size w w' → Calls Tryd.prog 10 #[.string sO] w' (fun e w'' => e = .returned (.tuple #[.agg #[.int .i64 0, .int .i64 0, .string (ByteArray.mk #[]), .int .i64 0, .int .i64 0, .int .i64 0, .int .i64 0], .int .i64 4]) ∧ Below w'.heap.size w' w'')) := fun w' h => by
                    have := PY.out w' h
                    rw [hp] at this
                    exact this
                  by_cases hO : O = []
                  · have SYc : Hid (∀ w', Below w.heap.size w w' → Calls Tryd.prog 20 #[.string sY] w' (fun e w'' => Below w'.heap.size w' w'' ∧ ∃ ay cy, e = .returned (.tuple #[.slice ay i cy, .int .i64 0, .int .i64 0]))) := fun w' h => (SY.out w' h).mono fun e w'' ⟨q1, _, q3, _⟩ => ⟨q1, q3 hO⟩
                    rw [hO] at hemO
                    have hem2 : sO.toList.isEmpty = true := hemO
                    clear SY PY hp hemO
                    go_upto_region 28 with (go_at_call 20; refine (SYc.out _ hBy).mono ?_; rintro e w6 ⟨hb6, ay, cy, rfl⟩)
                    have hB6 := hBy.trans (hb6.mono hBy.size)
                    clear hBy hb6 b3 e3 g4
                    go_upto_region 29 with (go_at_call 10; refine (PYc.out _ hB6).mono ?_; rintro e w7 ⟨rfl, hb7⟩)
                    have hB7 := hB6.trans (hb7.mono hB6.size)
                    have hba := below_alloc w7 (.cells #[.int .i64 0, .int .i64 0, .string (ByteArray.mk #[]), .int .i64 0, .int .i64 0, .int .i64 0, .int .i64 0] 23)
                    have hB8 := hB7.trans (hba.mono hB7.size)
                    clear hB7 hba hb7 hB6
                    generalize w7.alloc (.cells #[.int .i64 0, .int .i64 0, .string (ByteArray.mk #[]), .int .i64 0, .int .i64 0, .int .i64 0, .int .i64 0] 23) = W8 at *
                    repeat (first | (go_at_call 12; refine (AW.out _ hB8).mono ?_; rintro e w9 ⟨rfl, hb9⟩; dsimp only) | go_guarded | go_step | go_upon)
                    go_ret
                    exact ⟨rfl, hB8.trans (hb9.mono hB8.size)⟩
                  · have SYc : Hid (∀ w', Below w.heap.size w w' → Calls Tryd.prog 20 #[.string sY] w' (fun e w'' => Below w'.heap.size w' w'' ∧ e = .returned (.tuple #[.slice none 0 0, .int .i64 (i : Int), .int .i64 4]))) := fun w' h => (SY.out w' h).mono fun e w'' ⟨q1, _, _, q4⟩ => ⟨q1, q4 hO hp⟩
                    have hem2 : sO.toList.isEmpty = false := by rw [hemO]; exact decide_eq_false (fun h => hO (List.eq_nil_of_length_eq_zero h))
                    have g5 : (sO.toList == []) = false := by rw [← hem2]; cases sO.toList <;> rfl
                    clear SY PY hp hemO
                    go_upto_region 28 with (go_at_call 20; refine (SYc.out _ hBy).mono ?_; rintro e w6 ⟨hb6, rfl⟩)
                    have hB6 := hBy.trans (hb6.mono hBy.size)
                    clear hBy hb6 b3 e3 g4
                    go_upto_region 29 with (go_at_call 10; refine (PYc.out _ hB6).mono ?_; rintro e w7 ⟨rfl, hb7⟩)
                    have hB7 := hB6.trans (hb7.mono hB6.size)
                    have hba := below_alloc w7 (.cells #[.int .i64 0, .int .i64 0, .string (ByteArray.mk #[]), .int .i64 0, .int .i64 0, .int .i64 0, .int .i64 0] 23)
                    have hB8 := hB7.trans (hba.mono hB7.size)
                    clear hB7 hba hb7 hB6
                    generalize w7.alloc (.cells #[.int .i64 0, .int .i64 0, .string (ByteArray.mk #[]), .int .i64 0, .int .i64 0, .int .i64 0, .int .i64 0] 23) = W8 at *
                    repeat (first | (go_at_call 12; refine (AW.out _ hB8).mono ?_; rintro e w9 ⟨rfl, hb9⟩; dsimp only) | go_guarded | go_step | go_upon)
                    go_ret
                    exact ⟨rfl, hB8.trans (hb9.mono hB8.size)⟩

end Go.Proofs.YtflpblggpbgeiaaDoor

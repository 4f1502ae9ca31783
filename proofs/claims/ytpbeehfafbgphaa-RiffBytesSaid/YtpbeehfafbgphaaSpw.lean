/- The walk of riff.Split, whatever the capacity. -/
import Derived.Test.YtpbeehfafbgphaaJoi
import Derived.Test.YtpbeehfafbgphaaSpp
import Derived.Test.YtpbeehfafbgphaaSli
import Derived.Test.YtpbeehfafbgphaaSpl
import Derived.Deep.RegionHeldLaw
namespace Go.Proofs.Ytpbeehfafbgphaa
open Go Go.RowKit Go.Calli
set_option linter.unusedVariables false
set_option linter.unusedSimpArgs false
attribute [local irreducible] wpStill wpAnyH wpAnyS wpList Code.wp
def SplitRelW (d : Int × List Ch) (n : Nat) (w : World) (v0 v4 : Value) (wr : World) : Prop := ∃ (bo : Option Addr) (bn bc : Nat) (R : List Int) (f N : Nat) (ms : List ChM) (l : List Ch), v0 = .slice bo bn bc ∧ bn ≤ bc ∧ True ∧ Ints .u8 wr bo bn R ∧ (bn ≠ 0 → ∀ a, bo = some a → a.block < w.heap.size) ∧ bn ≤ f ∧ bn + N ≤ n ∧ Hid (d = ((splitL f R).1, l ++ (splitL f R).2)) ∧ OwnC wr w.heap.size v4 N ms l ∧ (∀ i, i < N → (ms.getD i m0).n ≠ 0 → ∀ a, (ms.getD i m0).ao = some a → ∃ cs, wr.heap[a.block]? = some (.cells cs 5 (0, 0))) ∧ Below w.heap.size w wr
set_option maxRecDepth 100000 in
set_option maxHeartbeats 4000000 in
theorem split_wide (ao : Option Addr) (n cap : Nat) (bs : List Int) (hc : n ≤ cap) (hn : n ≤ 1000000000) (w : World) (h : Ints .u8 w ao n bs) : Calls Try.prog 10 #[.slice ao n cap] w (SplitPost (splitL n bs) w) := by
  generalize hd : splitL n bs = d
  have HD := Lib.hid hd
  clear hd
  go_enter Try.func10, Try.ntmps10
  go_wp2_with fail
  go_loopw [0, 4] (fun v0 v4 wr => SplitRelW d n w v0 v4 wr) (fun v0 _ _ => lenOf v0)
  case atStart => exact ⟨ao, n, cap, bs, n, 0, [], [], rfl, hc, trivial, h, fun h0 a ha => h.under (Nat.pos_of_ne_zero h0) a ha, Nat.le_refl _, by omega, by unfold Hid; rw [← HD.out]; rfl, OwnC.nil _ _, fun i hi => by omega, Below.refl _ _⟩
  case round =>
    obtain ⟨bo, bn, bc, R, f, N, ms, l, rfl, hbc, hbcm, hi, hU, hf, hN, hD, hO, hT, hb⟩ := hrel
    have hRl := hi.hlen
    by_cases h0 : bn = 0
    · subst h0
      obtain ⟨ro, rc, rfl, hrc, hC⟩ := hO.chs
      have hR : R = [] := List.eq_nil_of_length_eq_zero hRl
      rw [hR, splitL_nil, List.append_nil] at hD
      have HC := Lib.hid hC
      clear hC hO hT hU hR hRl
      go_wp2_with fail
      go_ret2
      exact ⟨ro, N, rc, by rw [hD.out] <;> rfl, hrc, fun e => absurd (by rw [hD.out]) e, fun _ => by rw [hD.out]; exact HC.out, hb⟩
    · obtain ⟨a, rfl, -⟩ := hi.some (by omega)
      have hR0 : R ≠ [] := by intro e; rw [e] at hRl; simp at hRl; omega
      obtain ⟨f, rfl⟩ : ∃ g, f = g + 1 := ⟨f - 1, by omega⟩
      by_cases h8 : bn < 8
      · rw [split_short hR0 (by omega)] at hD
        have HD2 : Hid (d.1 = 2) := by unfold Hid; rw [hD.out]
        clear hO hT hU hRl hR0 hD
        go_wp2_with fail
        go_ret2
        exact ⟨none, 0, 0, by rw [HD2.out] <;> rfl, by omega, fun _ => rfl, fun e => absurd (e.symm.trans HD2.out) (by decide), hb⟩
      · have hby := byt_of hi.wf
        have hnx := nxt_nonneg hby
        obtain ⟨nn, hnn⟩ : ∃ nn : Nat, nxt R = nn := ⟨(nxt R).toNat, by omega⟩
        have hI4 : Ints .u8 wr (some ⟨a.block, a.off + 4, none⟩) 4 ((R.drop 4).take 4) := (hi.drop (j := 4) (by omega)).take (by omega)
        have hnum := number_any _ 4 (bc - 4) _ (by omega) wr hI4
        rw [show numL ((R.drop 4).take 4) = (nn : Int) from hnn] at hnum
        have HNUM := Lib.hid hnum
        have HNN := Lib.hid hnn
        have HRL := Lib.hid hRl
        have HR0 := Lib.hid hR0
        clear hnum hI4 hRl hR0 hnn
        clear hnx
        have HBY := Lib.hid hby
        have HI := Lib.hid hi
        clear hby hi
        by_cases hle : bn - 8 < nn
        · rw [split_less (by rw [HRL.out]; omega) (by rw [HNN.out, HRL.out]; omega)] at hD
          have HD2 : Hid (d.1 = 2) := by unfold Hid; rw [hD.out]
          clear hO hT hU hD
          have hle2 : bn < nn + 8 := by omega
          clear hle
          go_wp2_with (go_at_call 20; refine HNUM.out.mono ?_; rintro e w1 ⟨rfl, rfl⟩)
          go_ret2
          exact ⟨none, 0, 0, by rw [HD2.out] <;> rfl, by omega, fun _ => rfl, fun e => absurd (e.symm.trans HD2.out) (by decide), hb⟩
        · go_upto_region 8 with (go_at_call 20; refine HNUM.out.mono ?_; rintro e w1 ⟨rfl, rfl⟩)
          have hnb : nn + 8 ≤ bn := by omega
          clear hle
          have hk0 : Keeps (fun _ => False) wr wr.drew := (Keeps.refl _ _).drew
          have hbd : Below wr.heap.size wr wr.drew := (Below.refl _ _).drew
          have hId := HI.out.keep0 hbd
          have hcv := conv_ints (P := Try.prog) (hId.take (n := 4) (by omega)) 25 5 9 bc rfl rfl rfl
          obtain ⟨a3, hsl, ha3, hI3⟩ := slice_part (P := Try.prog) 25 5 rfl rfl a bn bc 8 (8 + nn) 8 (8 + (nn : Int)) rfl (by omega) (by omega) (by omega) hbc
          have hI3d := hI3 _ _ _ hId
          rw [show 8 + nn - 8 = nn by omega] at hI3d
          simp only [show 8 + nn - 8 = nn by omega] at hsl
          rw [show (R.take (8 + nn)).drop 8 = (R.drop 8).take nn by rw [List.drop_take]; congr 1; omega] at hI3d
          obtain ⟨v1, w1, hr1, hown1, hk1⟩ := run_append_row (P := Try.prog) wr.drew 25 25 5 Try.underlying25 infoByte rfl wr.heap.size (.slice none 0 0) 0 [] (World.ownsRow_nil _ _ _ _) (some a3) nn (bc - 8) _ hI3d.row (one_ints _ _) hI3d.nil_len (by omega) (by unfold maxLen; omega) (by simp)
          rw [Nat.zero_add, List.nil_append] at hown1
          have hb1 : Below wr.heap.size wr w1 := (hk0.andThen hk1 (fun i _ h => by cases h)).toBelow (Nat.le_refl _) (fun _ _ h => h)
          obtain ⟨o1, c1, rfl, hc1, hrow1, hl1, hu1, ht1⟩ := own_slice hown1
          have hI1 := hrow1.ints hl1 (fun z hz => HI.out.wf z (List.mem_of_mem_drop (List.mem_of_mem_take hz)))
          have hO1 := hO.keep0 hb1
          obtain ⟨v2, w2, hr2, hown2, hk2⟩ := run_append_rec (P := Try.prog) w1 22 22 27 2 Try.underlying22 infoChunk rfl (by decide) w.heap.size _ N _ hO1.own (valsC ⟨R.take 4, o1, nn, c1⟩) rfl (valsC_one _) (by omega) (by unfold maxLen; omega) (Nat.le_trans hb.size hb1.size)
          have hcv1 := conv_ints (P := Try.prog) ((HI.out.keep0 hb1).take (n := 4) (by omega)) 25 5 9 bc rfl rfl rfl
          have hcv1b := conv_ints (P := Try.prog) ((HI.out.keep0 (balloc hb1 (.cells (valsC ⟨R.take 4, o1, nn, c1⟩).toArray 27))).take (n := 4) (by omega)) 25 5 9 bc rfl rfl rfl
          have hI2 := ints_far (HI.out.keep0 hb1) hU hO1.own hk2
          have hcv2 := conv_ints (P := Try.prog) (hI2.take (n := 4) (by omega)) 25 5 9 bc rfl rfl rfl
          have hw8 : IntKind.i64.wrap (8 + (nn : Int)) = 8 + (nn : Int) := IntWalk.i64_in _ (by omega)
          simp only [valsC] at hr2 hcv1b
          have hb4 : (4 : Int) ≤ (bc : Int) := by omega
          go_region_held_law (fun w' => (convert 25 9 (.slice (some a) 4 bc)).run Try.prog w' = .ok (.string (strOfNums (R.take 4))) w') (first | assumption) (first | (refine step_append_eq rfl (.const (.slice none 0 0)) (.tmp 27) 25 25 rfl rfl rfl hr1 ?_) | (refine step_append_eq rfl (.tmp 20) (.tmp 30) 22 22 rfl rfl rfl hr2 ?_))
          have hb2 : Below w.heap.size w w2 := (bstep hb hb1).trans (owns_below hO1.own hk2 (Nat.le_trans hb.size hb1.size))
          have hms : ms.length = N := hO.mlen
          have hT2 : ∀ i, i < N + 1 → ((ms ++ [(⟨R.take 4, o1, nn, c1⟩ : ChM)]).getD i m0).n ≠ 0 → ∀ a, ((ms ++ [(⟨R.take 4, o1, nn, c1⟩ : ChM)]).getD i m0).ao = some a → ∃ cs, w1.heap[a.block]? = some (.cells cs 5 (0, 0)) := fun i hi => by
            by_cases hin : i < N
            · have e1 : (ms ++ [(⟨R.take 4, o1, nn, c1⟩ : ChM)]).getD i m0 = ms.getD i m0 := by simp [List.getD, List.getElem?_append_left, hms, hin]
              rw [e1]
              intro g0 g gh
              obtain ⟨cs, hcs⟩ := hT i hin g0 g gh
              exact ⟨cs, (hb1.block _ (lt_of_block hcs)).trans hcs⟩
            · obtain rfl : i = N := by omega
              have e1 : (ms ++ [(⟨R.take 4, o1, nn, c1⟩ : ChM)]).getD i m0 = ⟨R.take 4, o1, nn, c1⟩ := by simp [List.getD, ← hms]
              rw [e1]
              intro g0 g gh
              exact (ht1 g gh).2
          have hO2 := hO1.snoc ⟨R.take 4, o1, nn, c1⟩ (headC R nn) hown2 hk2 ⟨rfl, (byt_of HI.out.wf).take 4, hc1, hI1⟩ (fun i hi g0 g k gh hv => by
            obtain ⟨cs, hcs⟩ := hT2 i hi g0 g gh
            have hcs2 := blk_far hO1.own hk2 hcs (by decide)
            rintro rfl
            rcases hv with hv | hv
            · obtain ⟨ds, hds⟩ := own_block_type hO1.own hv
              rw [hcs] at hds; simp at hds
            · obtain ⟨ds, hds⟩ := own_block_type hown2 hv
              rw [hcs2] at hds; simp at hds)
          have hT3 : ∀ i, i < N + 1 → ((ms ++ [(⟨R.take 4, o1, nn, c1⟩ : ChM)]).getD i m0).n ≠ 0 → ∀ a, ((ms ++ [(⟨R.take 4, o1, nn, c1⟩ : ChM)]).getD i m0).ao = some a → ∃ cs, w2.heap[a.block]? = some (.cells cs 5 (0, 0)) := fun i hi g0 g gh => by
            obtain ⟨cs, hcs⟩ := hT2 i hi g0 g gh
            exact ⟨cs, blk_far hO1.own hk2 hcs (by decide)⟩
          obtain ⟨a4, hsl4, ha4, hI4⟩ := slice_from (P := Try.prog) 25 5 rfl rfl a bn bc (8 + nn) (8 + (nn : Int)) (by omega) (by omega) hbc
          have hI42 := hI4 _ _ _ hI2
          have HO2 := Lib.hid hO2
          have HT3 := Lib.hid hT3
          have hU4 : bn - (8 + nn) ≠ 0 → ∀ a, some a4 = some a → a.block < w.heap.size := fun _ g hg => by cases hg; rw [ha4]; exact hU h0 a rfl
          have HU4 := Lib.hid hU4
          clear hO2 hT3 hT2 hT hO1 hO hown2 hown1 hk1 hk2 hr1 hr2 hcv hcv1 hcv1b hcv2 hsl hI3 hI3d hI1 hrow1 ht1 hu1 hI2 hId hI4 hU4 hU hb1 hbd hk0 HI HNUM hb
          simp only [Act.put, List.getElem_toArray, List.getElem_cons_succ, List.getElem_cons_zero, List.setIfInBounds_toArray, List.set_cons_zero, List.set_cons_succ]
          have hRL2 : (R.drop (8 + nn)).length = bn - (8 + nn) := by rw [List.length_drop, HRL.out]
          by_cases hodd : nn % 2 = 1
          · rcases hdr : R.drop (8 + nn) with _ | ⟨x, r⟩
            · rw [hdr] at hRL2
              have hbn : bn - (8 + nn) = 0 := hRL2.symm
              have HD2 : Hid (d.1 = 2) := by unfold Hid; rw [hD.out, split_odd_nil (by rw [HRL.out]; omega) HNN.out (by rw [HRL.out]; omega) hodd hdr]
              clear hD hdr hI42 hRL2
              go_wp2_with fail
              go_ret2
              exact ⟨none, 0, 0, by rw [HD2.out] <;> rfl, by omega, fun _ => rfl, fun e => absurd (e.symm.trans HD2.out) (by decide), hb2⟩
            · rw [hdr] at hI42
              have hx := hI42.cell 0 (by rw [← hI42.hlen]; simp)
              obtain ⟨_, hg, hx⟩ := hx
              cases hg
              have hbn : bn - (8 + nn) ≠ 0 := by rw [← hI42.hlen]; simp
              have hxw := bounds_u8 (hI42.wf x (by simp))
              simp only [Addr.add, if_true, List.getD_cons_zero] at hx
              have HDX : Hid (d = ((if x = 0 then ((splitL f r).1, headC R nn :: (splitL f r).2) else (4, [])).1, l ++ (if x = 0 then ((splitL f r).1, headC R nn :: (splitL f r).2) else (4, [])).2)) := by
                have := hD.out
                rw [split_odd (by rw [HRL.out]; omega) HNN.out (by rw [HRL.out]; omega) hodd hdr] at this
                exact this
              have hb1' : 1 ≤ bn - (8 + nn) := by omega
              by_cases hx0 : x = 0
              · subst hx0
                obtain ⟨a5, hsl5, ha5, hI5⟩ := slice_from (P := Try.prog) 25 5 rfl rfl a4 (bn - (8 + nn)) (bc - (8 + nn)) 1 1 rfl (by omega) (by omega)
                have hI52 := Lib.hid (hI5 _ _ _ hI42)
                have HU5 : Hid (bn - (8 + nn) - 1 ≠ 0 → ∀ a, some a5 = some a → a.block < w.heap.size) := fun _ g hg => by cases hg; rw [ha5]; exact HU4.out hbn a4 rfl
                have HD5 : Hid (d = ((splitL f r).1, (l ++ [headC R nn]) ++ (splitL f r).2)) := by
                  have := HDX.out
                  rw [if_pos rfl] at this
                  unfold Hid; rw [this]; simp
                clear hD hdr hI42 hRL2 HDX hI5
                go_wp2_with fail
                refine ⟨⟨some a5, _, _, r, f, N + 1, _, _, rfl, by omega, trivial, hI52.out, HU5.out, by omega, by omega, HD5.out, HO2.out, HT3.out, hb2⟩, ?_⟩
                simp [lenOf]; omega
              · have HD5 : Hid (d.1 = 4) := by
                  have := HDX.out
                  rw [if_neg hx0] at this
                  unfold Hid; rw [this]
                have hxb : (x != 0) = true := by simpa using hx0
                clear hD hdr hI42 hRL2 HDX
                go_wp2_with fail
                go_ret2
                exact ⟨none, 0, 0, by rw [HD5.out] <;> rfl, by omega, fun _ => rfl, fun e => absurd (e.symm.trans HD5.out) (by decide), hb2⟩
          · have HD5 : Hid (d = ((splitL f (R.drop (8 + nn))).1, (l ++ [headC R nn]) ++ (splitL f (R.drop (8 + nn))).2)) := by
              have := hD.out
              rw [split_even (by rw [HRL.out]; omega) HNN.out (by rw [HRL.out]; omega) hodd] at this
              unfold Hid; rw [this]; simp
            have HI42 := Lib.hid hI42
            clear hD hI42 hRL2
            go_wp2_with fail
            refine ⟨⟨some a4, _, _, _, f, N + 1, _, _, rfl, by omega, trivial, HI42.out, HU4.out, by omega, by omega, HD5.out, HO2.out, HT3.out, hb2⟩, ?_⟩
            simp [lenOf]; omega
end Go.Proofs.Ytpbeehfafbgphaa

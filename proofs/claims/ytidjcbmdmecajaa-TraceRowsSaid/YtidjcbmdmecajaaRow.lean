/- The law TraceRows. -/
import Derived.Test.YtidjcbmdmecajaaTog
import Derived.Test.YtidjcbmdmecajaaRpl
namespace Go.Proofs.Ytidjcbmdmecajaa
open Go Go.RowKit Go.Calli
set_option linter.unusedVariables false
set_option linter.unusedSimpArgs false
attribute [local irreducible] wpStill wpAnyH wpAnyS wpList Code.wp
/-- The i-th report's losses: the header's cell, and the losses. -/
theorem rp_lost {S : Nat → Prop} {w : World} {ao : Option Addr} {n : Nat} {l : List Rp} (h : RpsF S w ao n l) {i : Nat} (hi : i < n) : ∃ (a : Addr) (A2 : Option Addr) (c2 : Nat), ao = some a ∧ w.cell? ⟨(a.add (i * 5)).block, (a.add (i * 5)).off + 1, none⟩ = some (.slice A2 (l.getD i r0).lost.length c2) ∧ Recs valsL 3 l0 w A2 (l.getD i r0).lost.length (l.getD i r0).lost := by
  obtain ⟨a, m, rfl, hcell, hm, _, _⟩ := h.cell i hi
  have q1 : w.cell? ⟨(a.add (i * 5)).block, (a.add (i * 5)).off + 1, none⟩ = some (.slice m.o2 m.n2 m.c2) := hcell 1 _ rfl
  have hl := hm.lost.hlen
  have hr := hm.lost
  rw [← hl] at q1 hr
  exact ⟨a, m.o2, m.c2, rfl, q1, hr⟩
theorem rec_cells {w : World} {A : Option Addr} {n : Nat} {ms : List Ls} (h : Recs valsL 3 l0 w A n ms) {k : Nat} (hk : k < n) : ∃ a, A = some a ∧ w.cell? (a.add (k * 3)) = some (.int .i64 (ms.getD k l0).v) ∧ w.cell? ⟨(a.add (k * 3)).block, (a.add (k * 3)).off + 1, none⟩ = some (.int .i64 (ms.getD k l0).c) ∧ w.cell? ⟨(a.add (k * 3)).block, (a.add (k * 3)).off + 2, none⟩ = some (.int .i64 (ms.getD k l0).b) := by
  obtain ⟨a, ha, hcell⟩ := h.cell k hk
  exact ⟨a, ha, hcell 0 _ rfl, hcell 1 _ rfl, hcell 2 _ rfl⟩
set_option maxRecDepth 100000 in
set_option maxHeartbeats 4000000 in
theorem rows3_any (ao : Option Addr) (n cap : Nat) (l0' : List Rp) (render voice : Int) (w : World) (h0 : Rps w ao n l0') : Calls Try.prog 3 #[.slice ao n cap, .int .i64 render, .int .i64 voice] w fun e w' => e = .returned (.bool true) ∧ Below w.heap.size w w' := by
  have hF := few_any ao n cap l0' w h0
  have hN := fun w => new_any w
  have hsm := fewL_sm l0'
  unfold FewPost at hF
  generalize fewL l0' = l at *
  go_enter Try.func3, Try.ntmps3
  go_upto_region 2 with (first | (go_at_call 6; refine hF.mono ?_; rintro e w1 ⟨ro, rn, rc, rfl, hrc, hrn, hR, hb1⟩))
  clear hF h0
  have hR0 := hR.far
  have HLN := Lib.hid hR.hlen
  clear hR
  go_upto_region 3 with (first | (go_at_call 7; refine (hN _).mono ?_; clear hN; rintro e w2 ⟨rfl, hs2, hl2, hb2⟩))
  have hR2 := hR0.keep0 hb2
  have hAll := all0 w1.heap.size w2.heap.size ro rn rc l hrn hsm w2 (Nat.le_refl _) (hl2 _) (hR2.mono (fun k hk => by show w1.heap.size ≤ k; omega))
  have hbw2 : Below w.heap.size w w2 := bstep hb1 hb2
  have s1 := hb1.size
  have HS2 := Lib.hid hs2
  clear hl2 hb2 hR0 hb1 hs2
  go_upto_region 4 with (first | (go_at_call 8; refine hAll.mono ?_; clear hAll; rintro e w3 ⟨rfl, va, vb, hA, hkA, hnA⟩))
  have hkA' : Keeps (fun k => k = w1.heap.size) w2 w3 := hkA.mono (fun k _ h => logS_nil h)
  have hR3 : RpsF (fun k => w1.heap.size ≤ k) w3 ro rn l := hR2.kept (hkA'.mono (fun k _ h => by show w1.heap.size ≤ k; omega))
  have hb3 : Below w.heap.size w w3 := hbw2.trans (hkA'.toBelow hbw2.size (fun k hk e => by omega))
  have hG : (noteL g0 l).renders = ((rn : Nat) : Int) := by rw [noteL_renders, HLN.out]; show (0 : Int) + _ = _; omega
  have hlim : Lim (0 + rn) (noteL g0 l) := by
    have := Lim.zero.noteL (l := l) hsm
    rwa [HLN.out] at this
  have hlo : (noteL g0 l).lost.length ≤ 400 := by have := hlim.l; omega
  have hOf := of_any w1.heap.size w2.heap.size va vb (noteL g0 l) render voice (by omega) w3 hA
  have hxl := ofL_len (noteL g0 l).lost render voice
  generalize w1.heap.size = Ab at *
  generalize w2.heap.size = B2 at *
  clear hkA hnA hkA' hbw2 hR2 hlim HS2
  go_upto_region 5 with (go_at_call 9; refine hOf.mono ?_; clear hOf; rintro e w4 ⟨xo, xc, rfl, hxc, hX, hb34⟩)
  have hR4 := hR3.keep0 hb34
  have hA4 := hA.keep0 hb34
  have hb4 := bstep hb3 hb34
  clear hR3 hA hb3 hb34
  obtain ⟨X, hXX⟩ : ∃ X, X = ofL (noteL g0 l).lost render voice := ⟨_, rfl⟩
  rw [← hXX] at hX hxc hxl ⊢
  have HXX := Lib.hid hXX
  have HG := Lib.hid hG
  clear hXX hG
  have hX400 : X.length ≤ 400 := by omega
  go_upto_region 7 with fail
  go_loopw [9, 10] (fun v9 v10 wr => ∃ i : Nat, i ≤ rn ∧ v10 = .int .i64 i ∧ v9 = .int .i64 (cnt l render voice i 0 : Nat) ∧ Below w4.heap.size w4 wr) (fun _ v10 _ => (rn - (intOf v10).toNat))
  case atStart => exact ⟨0, by omega, rfl, by rw [cnt_zero] <;> rfl, Below.refl _ _⟩
  case round =>
    obtain ⟨i, hi, rfl, rfl, hbr⟩ := hrel
    by_cases hlt : i < rn
    · have hil : i < l.length := by rw [HLN.out]; exact hlt
      have HIL := Lib.hid hil
      have HCN := Lib.hid (cnt_next l render voice i hil)
      clear hil
      obtain ⟨a, A2, c2, rfl, _, _⟩ := rp_lost (hR4.keep0 hbr) hlt
      have hll : (l.getD i r0).lost.length ≤ 20 := (hsm _ (by rw [show l.getD i r0 = l[i]'HIL.out by simp [List.getD, HIL.out]]; exact List.getElem_mem _)).lost
      have HL2 := Lib.hid (fun wx (hb : Below w4.heap.size w4 wx) => rp_lost (hR4.keep0 hb) hlt)
      generalize hrr : l.getD i r0 = r at *
      have HRR := Lib.hid hrr
      clear hrr
      go_upto_region 10 with fail
      go_loopw [9, 11] (fun v9 v11 wq => ∃ k : Nat, k ≤ r.lost.length ∧ v11 = .int .i64 k ∧ v9 = .int .i64 (cnt l render voice i k : Nat) ∧ Below w4.heap.size w4 wq) (fun _ v11 _ => (r.lost.length - (intOf v11).toNat))
      case atStart => exact ⟨0, by omega, rfl, rfl, hbr⟩
      case round =>
        clear hbr
        obtain ⟨k, hk, rfl, rfl, hbq⟩ := hrel
        obtain ⟨a', A2, c2, ha', q1, hrec⟩ := HL2.out wr hbq
        obtain rfl : a' = a := (Option.some.inj ha').symm
        clear ha'
        have hw : Below w.heap.size w wr := bstep hb4 hbq
        by_cases hlk : k < r.lost.length
        · obtain ⟨la, rfl, y0, y1, y2⟩ := rec_cells hrec hlk
          have HSK := Lib.hid (cnt_skip l render voice i k (by rw [HRR.out]; exact hlk))
          have HHT := Lib.hid (cnt_hit l render voice i k HIL.out (by rw [HRR.out]; exact hlk))
          rw [HRR.out] at HSK HHT
          generalize r.lost.getD k l0 = x at *
          by_cases he : (i : Int) = render ∧ x.v = voice
          · obtain ⟨h1, h2, h3⟩ := HHT.out he
            rw [← HXX.out] at h2 h3
            obtain ⟨xa, hxo, z0, z1, z2⟩ := rec_cells (hX.keep0 hbq) h2
            rw [h3] at z0 z1 z2
            obtain rfl := hxo
            generalize hcc : cnt l render voice i k = C at *
            have HC1 := Lib.hid h1
            obtain ⟨he1, he2⟩ := he
            obtain ⟨xv, xc', xb⟩ := x
            simp only at y0 y1 y2 z0 z1 z2 he2
            subst he2
            subst he1
            clear hcc h1 h3 HSK HHT
            go_upto_region 13 with fail
            go_quiet (fail)
            have hbd : Below w4.heap.size w4 (wr.drewN nq) := hbq.trans ⟨rfl, rfl, rfl, Nat.le_refl _, fun _ _ => rfl⟩
            go_wp2_with fail
            refine ⟨⟨k + 1, by omega, by go_num, by rw [HC1.out]; go_num, hbd⟩, ?_⟩
            simp [intOf]; omega
          · have HS := Lib.hid (HSK.out he)
            clear HSK HHT
            generalize hcc : cnt l render voice i k = C at *
            clear hcc
            obtain ⟨xv, xc', xb⟩ := x
            simp only at y0 y1 y2 he
            by_cases he1 : (i : Int) = render
            · have he2 : ¬ xv = voice := fun h => he ⟨he1, h⟩
              subst he1
              clear he
              go_wp2_with fail
              refine ⟨⟨k + 1, by omega, by go_num, by rw [HS.out], hbq⟩, ?_⟩
              simp [intOf]; omega
            · clear he
              go_wp2_with fail
              refine ⟨⟨k + 1, by omega, by go_num, by rw [HS.out], hbq⟩, ?_⟩
              simp [intOf]; omega
        · obtain rfl : k = r.lost.length := by omega
          have hc2 := HCN.out
          rw [hc2]
          clear hc2
          go_wp2_with fail
          refine ⟨⟨i + 1, by omega, by go_num, rfl, hbq⟩, ?_⟩
          simp [intOf]; omega
    · obtain rfl : i = rn := by omega
      rw [show cnt l render voice i 0 = X.length by rw [HXX.out, ← HLN.out, cnt_end]]
      have hbw : Below w.heap.size w wr := bstep hb4 hbr
      clear HXX hX
      go_upto_region 18 with fail
      go_loopw [12, 13, 14] (fun v12 v13 v14 wq => ∃ (q : Nat) (best fr : Int), q ≤ i ∧ v14 = .int .i64 q ∧ v12 = .int .i64 best ∧ v13 = .int .i64 fr ∧ Hid (Lch (flg l) i q best fr) ∧ -100 ≤ best ∧ best ≤ 100 ∧ Below w4.heap.size w4 wq) (fun _ _ v14 _ => (i - (intOf v14).toNat))
      case atStart => exact ⟨0, 0, -1, by omega, rfl, rfl, rfl, lch_zero _ _, by omega, by omega, hbr⟩
      case round =>
        clear hbr hbw
        obtain ⟨q, best, fr, hq, rfl, rfl, rfl, hL, hbe1, hbe2, hbq⟩ := hrel
        by_cases hlt : q < i
        · go_upto_region 21 with fail
          go_loopw [15] (fun v15 wp => ∃ k : Nat, q ≤ k ∧ k ≤ i ∧ v15 = .int .i64 k ∧ Hid (∀ j, q ≤ j → j < k → flg l j = true) ∧ Below w4.heap.size w4 wp) (fun v15 _ => (i - (intOf v15).toNat))
          case atStart => exact ⟨q, by omega, by omega, rfl, fun j h1 h2 => by omega, hbq⟩
          case round =>
            clear hbq
            obtain ⟨k, hqk, hki, rfl, hfl, hbp⟩ := hrel
            by_cases hlk : k < i
            · obtain ⟨a, A2, c2, rfl, q1, hrec⟩ := rp_lost (hR4.keep0 hbp) hlk
              have HFG : Hid (flg l k = !(l.getD k r0).lost.isEmpty) := rfl
              have hll : (l.getD k r0).lost.length ≤ 20 := (hsm _ (by rw [show l.getD k r0 = l[k]'(by rw [HLN.out]; exact hlk) by simp [List.getD, show k < l.length by rw [HLN.out]; exact hlk]]; exact List.getElem_mem _)).lost
              generalize (l.getD k r0).lost = ll at *
              clear hrec
              by_cases hz : 0 < ll.length
              · have HF1 : Hid (flg l k = true) := by
                  unfold Hid; rw [HFG.out]
                  cases ll with
                  | nil => simp at hz
                  | cons x t => rfl
                go_wp2_with fail
                refine ⟨⟨k + 1, by omega, by omega, by go_num, fun j h1 h2 => ?_, hbp⟩, ?_⟩
                · by_cases hj : j = k
                  · rw [hj]; exact HF1.out
                  · exact hfl.out j h1 (by omega)
                · simp [intOf]; omega
              · have HF1 : Hid (flg l k = false) := by
                  unfold Hid; rw [HFG.out]
                  cases ll with
                  | nil => rfl
                  | cons x t => simp at hz
                have HST := Lib.hid (lch_step hL.out hlt hqk hki hfl.out (fun _ => HF1.out))
                have hw1 : IntKind.i64.wrap ((k : Int) - (q : Int)) = (k : Int) - (q : Int) := IntWalk.i64_in _ (by omega)
                by_cases hg : (k : Int) - q > best
                · have HL1 := HST.out.1 hg
                  go_wp2_with fail
                  refine ⟨⟨q + 1, (k : Int) - q, q, by omega, by go_num, rfl, rfl, HL1, by omega, by omega, hbp⟩, ?_⟩
                  simp [intOf]; omega
                · have HL1 := HST.out.2 hg
                  go_wp2_with fail
                  refine ⟨⟨q + 1, best, fr, by omega, by go_num, rfl, rfl, HL1, by omega, by omega, hbp⟩, ?_⟩
                  simp [intOf]; omega
            · have HST := Lib.hid (lch_step hL.out hlt hqk hki hfl.out (fun h => absurd h hlk))
              have hw1 : IntKind.i64.wrap ((k : Int) - (q : Int)) = (k : Int) - (q : Int) := IntWalk.i64_in _ (by omega)
              by_cases hg : (k : Int) - q > best
              · have HL1 := HST.out.1 hg
                go_wp2_with fail
                refine ⟨⟨q + 1, (k : Int) - q, q, by omega, by go_num, rfl, rfl, HL1, by omega, by omega, hbp⟩, ?_⟩
                simp [intOf]; omega
              · have HL1 := HST.out.2 hg
                go_wp2_with fail
                refine ⟨⟨q + 1, best, fr, by omega, by go_num, rfl, rfl, HL1, by omega, by omega, hbp⟩, ?_⟩
                simp [intOf]; omega
        · obtain rfl : q = i := by omega
          have hbw : Below w.heap.size w wr := bstep hb4 hbq
          have hA5 := hA4.keep0 hbq
          have hRW := rows_any Ab B2 va vb (noteL g0 l) q (by omega) HG.out wr hA5
          have hL' := hL.out
          have hql : q = l.length := HLN.out.symm
          rw [hql] at hL' hRW
          obtain ⟨e1, e2⟩ := rows_law hL'
          rw [e1, e2] at hRW
          clear e1 e2 hL' hA5 hA4 hR4 hL hql
          go_wp2_with (first | (go_at_call 10; refine hRW.mono ?_; rintro e w6 ⟨rfl, hb6⟩; have hbw := bstep hbw hb6) | (go_at_call 11; refine (awake_any _).mono ?_; rintro e w7 ⟨rfl, hb7⟩; have hbw := bstep hbw hb7))
          go_ret
          exact ⟨rfl, hbw⟩
end Go.Proofs.Ytidjcbmdmecajaa

/- The walk of riff.Read. -/
import Derived.Test.YtpbeehfafbgphaaRdc
import Derived.Test.YtpbeehfafbgphaaSpw
namespace Go.Proofs.Ytpbeehfafbgphaa
open Go Go.RowKit Go.Calli
set_option linter.unusedVariables false
set_option linter.unusedSimpArgs false
attribute [local irreducible] wpStill wpAnyH wpAnyS wpList Code.wp
theorem six_below {B : Nat} {a w : World} (h : Below B a w) {b : Nat} (hb : B ≤ b) (v0 v1 v2 v3 v4 v5 : Value) : Below B a ((((((w.setCell ⟨b, 0, none⟩ v0).setCell ⟨b, 1, none⟩ v1).setCell ⟨b, 2, none⟩ v2).setCell ⟨b, 3, none⟩ v3).setCell ⟨b, 4, none⟩ v4).setCell ⟨b, 5, none⟩ v5) :=
  (((((h.setCell (p := ⟨b, 0, none⟩) hb v0).setCell (p := ⟨b, 1, none⟩) hb v1).setCell (p := ⟨b, 2, none⟩) hb v2).setCell (p := ⟨b, 3, none⟩) hb v3).setCell (p := ⟨b, 4, none⟩) hb v4).setCell (p := ⟨b, 5, none⟩) hb v5
theorem err_end {r : Int × Sm} {E : Int} (h : r = (E, s0)) {w w' : World} (hb : Below w.heap.size w w') : ReadPost r w (.returned (.tuple #[.agg #[.string (ByteArray.mk #[]), .int .i64 0, .bool false, .int .i64 0, .int .i64 0, .slice none 0 0], .int .i64 E])) w' := by
  subst h
  exact ⟨⟨none, 0, 0⟩, rfl, sm0_is _, hb⟩
theorem name_ne {a : List Int} {b : List Int} {l : List UInt8} (hl : (strOfNums b).toList = l) (ha : Byt a) (hb : Byt b) (h : a ≠ b) : ((strOfNums a).toList == l) = false := by rw [← hl]; exact toList_ne ha hb h
theorem byt_of_small {l : List Int} (h : l.all (fun z => decide (0 ≤ z ∧ z < 256)) = true) : Byt l := fun z hz => by
  have := List.all_eq_true.1 h z hz
  exact of_decide_eq_true this
theorem readD_if (nm : List Int) (n : Nat) (rate : Int) (lp : Bool) (a b : Int) (l : List Ch) : readD nm n rate lp a b l = if (l.getD 0 c0).nm = nData ∧ (l.getD 0 c0).dt.length % (2 * n) = 0 ∧ l.drop 1 = [] then (if chk ⟨nm, rate, lp, a, b, fillL (l.getD 0 c0).dt n⟩ = 0 then (0, ⟨nm, rate, lp, a, b, fillL (l.getD 0 c0).dt n⟩) else (chk ⟨nm, rate, lp, a, b, fillL (l.getD 0 c0).dt n⟩, s0)) else (4, s0) := by
  match l with
  | [] => rw [if_neg (fun h => by have := h.1; cases this)]; rfl
  | [c] =>
    unfold readD
    simp only [List.getD_cons_zero, List.drop_succ_cons, List.drop_nil, and_true]
  | c :: d :: r => rw [if_neg (fun h => by have := h.2.2; cases this)]; rfl
theorem len_small {l : List Ch} (h : ∀ c ∈ l, c.dt.length ≤ 1000000) : (l.getD 0 c0).dt.length ≤ 1000000 := by
  match l, h with
  | [], _ => exact Nat.zero_le _
  | c :: r, h => exact h c (by simp)
/-- What has been read when the loop has been. -/
def ReadRel (R : Int × Sm) (nm : List Int) (n : Nat) (rate : Int) (bx sb B : Nat) (w Wb : World) : Prop := ∃ (lp : Bool) (x y : Int) (l : List Ch), BoxC Wb bx l ∧ Wb.heap[sb]? = some (.cells #[.string (strOfNums nm), .int .i64 rate, .bool lp, .int .i64 x, .int .i64 y, .slice none 0 0] 37 (0, 0)) ∧ Wb.heap[B]? = some (.cells #[.string (ByteArray.mk #[]), .int .i64 0, .bool false, .int .i64 0, .int .i64 0, .slice none 0 0] 37 (0, 0)) ∧ Below B w Wb ∧ (∀ c ∈ l, c.dt.length ≤ 1000000) ∧ R = readD nm n rate lp x y l
set_option maxRecDepth 100000 in
set_option maxHeartbeats 8000000 in
theorem read_any (ao : Option Addr) (n cap : Nat) (bs : List Int) (hc : n ≤ cap) (hcm : cap ≤ maxLen) (hn : n ≤ 1000000) (w : World) (h : Ints .u8 w ao n bs) : Calls Try.prog 13 #[.slice ao n cap] w (ReadPost (readL bs) w) := by
  have hl := h.hlen
  have hby := byt_of h.wf
  have hk0 := below_alloc w (.cells #[.string (ByteArray.mk #[]), .int .i64 0, .bool false, .int .i64 0, .int .i64 0, .slice none 0 0] 37)
  have hz0 := heap_alloc_new w (.cells #[.string (ByteArray.mk #[]), .int .i64 0, .bool false, .int .i64 0, .int .i64 0, .slice none 0 0] 37)
  have hI := h.keep0 hk0
  have hsp := fun w h => split_any ao n cap bs hc hcm (by omega) w h
  rcases hd : splitL n bs with ⟨E1, l⟩
  rw [hd] at hsp
  have hd' : splitL bs.length bs = (E1, l) := by rw [hl]; exact hd
  have hj : E1 = 0 → ∀ c ∈ l, c.nm.length = 4 ∧ c.dt.length ≤ n ∧ Byt c.nm ∧ Byt c.dt := fun e => by
    subst e
    have := (join_split n bs l (by omega) hby hd).2
    rw [hl] at this
    exact this
  have HSP := Lib.hid hsp
  have HJ := Lib.hid hj
  have HD := Lib.hid hd'
  generalize hR : readL bs = R at *
  have HR := Lib.hid hR
  clear hsp hd hd' hj h hby hR hl
  go_enter Try.func13, Try.ntmps13
  go_upto_region 1 with fail
  generalize w.alloc (.cells #[.string (ByteArray.mk #[]), .int .i64 0, .bool false, .int .i64 0, .int .i64 0, .slice none 0 0] 37) = W at *
  go_upto_region 2 with (go_at_call 10; refine (HSP.out _ hI).mono ?_; rintro e w1 ⟨ro, rn, rc, rfl, hrc, hne, hC, hb1⟩; simp only at hne hC)
  have hb2 := hk0.trans (hb1.mono hk0.size)
  have hz1 := (hb1.block _ (lt_of_block hz0)).trans hz0
  have hba := below_alloc w1 (.cells #[.slice ro rn rc] 22)
  have hx0 := heap_alloc_new w1 (.cells #[.slice ro rn rc] 22)
  have hb3 := hb2.alloc hb2.size (.cells #[.slice ro rn rc] 22)
  have hz2 := (hba.block _ (lt_of_block hz1)).trans hz1
  have hC2 := fun e => (hC e).keep0 hba
  have hbx : w.heap.size < w1.heap.size := lt_of_block hz1
  clear hb1 hb2 hz0 hz1 hk0 hI hC HSP hne
  generalize w1.alloc (.cells #[.slice ro rn rc] 22) = W2 at *
  generalize w1.heap.size = bx at *
  clear hba
  obtain ⟨f0, f1, f2, f3, f4, f5⟩ := six_frozen hz2
  obtain ⟨e0, e1, e2, e3, e4, e5⟩ := six_cells hz2
  by_cases hE1 : E1 = 0
  · subst hE1
    have hC := hC2 rfl
    clear hC2
    have hlen := hC.hlen
    have p0 : W2.cell? ⟨bx, 0, none⟩ = some (.slice ro rn rc) := (cell_of_row _ _ _ _ _ _ hx0).trans rfl
    have HFORM : Hid (¬ isRiff l → R = (4, s0)) := fun hh => by rw [← HR.out]; exact readL_form (by rw [HD.out]) (by rw [HD.out]; exact hh)
    have hs6 := six_set hz2 (.string (ByteArray.mk #[])) (.int .i64 0) (.bool false) (.int .i64 0) (.int .i64 0) (.slice none 0 0)
    have hbb := six_below hb3 (b := w.heap.size) (Nat.le_refl _) (.string (ByteArray.mk #[])) (.int .i64 0) (.bool false) (.int .i64 0) (.int .i64 0) (.slice none 0 0)
    have HS6 := Lib.hid hs6
    have HBB := Lib.hid hbb
    clear hs6 hbb
    by_cases hrn : rn = 1
    · subst hrn
      obtain ⟨c, rfl⟩ : ∃ c, l = [c] := by
        match l, hlen with
        | [c], _ => exact ⟨c, rfl⟩
      obtain ⟨a, m, rfl, q0, q1, hm⟩ := hC.cell 0 (by omega)
      have ha : a.add (0 * 2) = a := by cases a; simp [Addr.add]
      rw [ha] at q0 q1
      have ea : a.add 1 = ⟨a.block, a.off + 1, none⟩ := rfl
      rw [ea] at q1
      have hm' : m.Is W2 c := hm
      obtain ⟨hm1, hm2, hm3, hm4⟩ := hm'
      rw [hm1] at q0
      have hdl := hm4.hlen
      have hdn : m.n ≤ n := by have := (HJ.out rfl c (by simp)).2.1; omega
      obtain ⟨ms, mo, mn, mc⟩ := m
      simp only at q0 q1 hm1 hm3 hm4 hdl hdn
      clear hm ha ea hC hlen
      by_cases hA : c.nm = nRIFF
      · rw [hA] at q0
        have hs0 : ((strOfNums nRIFF).toList == [82, 73, 70, 70]) = true := by decide +kernel
        have hs1 : ((strOfNums nRIFF).toList != [82, 73, 70, 70]) = false := by rw [bne, hs0]; rfl
        by_cases h4 : mn < 4
        · have hrr : R = (4, s0) := HFORM.out (fun ⟨c', e, _, h1, _⟩ => by cases e; omega)
          have HRR := Lib.hid hrr
          have g1 : (mn : Int) < 4 := by omega
          clear hrr hA HFORM
          go_wp2_with fail
          exact bodyPost_ret (results_cell_tmp (fn := Try.f13) (p := 2) (q := 3) (ty := 37) rfl _ _ _ _ _ _ _ rfl HS6.out Try.underlying37 rfl info37) rfl (err_end HRR.out HBB.out)
        · obtain ⟨p, rfl, -⟩ := hm4.some (by omega)
          have g1 : ¬ ((mn : Int) < 4) := by omega
          have g2 : (4 : Int) ≤ (mc : Int) := by omega
          have hdtb := byt_of hm4.wf
          have hcv := conv_ints (P := Try.prog) (hm4.take (n := 4) (by omega)) 25 5 9 mc rfl rfl rfl
          by_cases hB : c.dt.take 4 = nWAVE
          · rw [hB] at hcv
            have hw0 : ((strOfNums nWAVE).toList == [87, 65, 86, 69]) = true := by decide +kernel
            have hw1 : ((strOfNums nWAVE).toList != [87, 65, 86, 69]) = false := by rw [bne, hw0]; rfl
            have hgo := readL_go (b := bs) (c := c) (by rw [HD.out]) (by rw [HD.out]) ⟨hA, by omega, hB⟩
            rw [HR.out] at hgo
            have HGO := Lib.hid hgo
            obtain ⟨a2, hsl, hblk, hsub⟩ := slice_from (P := Try.prog) 25 5 Try.underlying25 (by kernel_rfl) p mn mc 4 4 rfl (by omega) hm3
            have hI2 := hsub .u8 W2 c.dt hm4
            have hsp := fun w h => split_wide (some a2) (mn - 4) (mc - 4) (c.dt.drop 4) (by omega) (by omega) w h
            rw [show (c.dt.drop 4).length = mn - 4 by rw [List.length_drop]; omega] at hgo
            rcases hd2 : splitL (mn - 4) (c.dt.drop 4) with ⟨E2, l2⟩
            have hj2 : E2 = 0 → ∀ c' ∈ l2, c'.dt.length ≤ 1000000 := fun e c' hc' => by
              subst e
              have := ((join_split (mn - 4) (c.dt.drop 4) l2 (by rw [List.length_drop]; omega) (hdtb.drop 4) hd2).2 c' hc').2.1
              rw [List.length_drop] at this; omega
            have HJ2 := Lib.hid hj2
            clear hj2
            rw [hd2] at hsp hgo
            simp only at hgo
            have HGO := Lib.hid hgo
            have HSP2 := Lib.hid hsp
            have HBX0 := Lib.hid hx0
            have HZ2 := Lib.hid hz2
            clear hgo hA hB HFORM hsub hblk hsp hd2 hm4 hdtb HS6 HBB HD HJ HR hdl
            go_upto_region 7 with (go_at_call 10; refine (HSP2.out _ hI2).mono ?_; rintro e w3 ⟨ro2, rn2, rc2, rfl, hrc2, hne2, hC3, hb4⟩; simp only at hne2 hC3; have hx3 := (hb4.block _ (lt_of_block HBX0.out)).trans HBX0.out; have fx3 : w3.frozen? ⟨bx, 0, none⟩ = false := frozen_of_row _ _ _ _ _ hx3; have px3 : w3.cell? ⟨bx, 0, none⟩ = some (.slice (some a) 1 rc) := (cell_of_row _ _ _ _ _ _ hx3).trans rfl)
            have hks : Keeps (fun k => k = bx) w3 (w3.setCell ⟨bx, 0, none⟩ (.slice ro2 rn2 rc2)) := (Keeps.refl (fun k => k = bx) w3).setCell (p := ⟨bx, 0, none⟩) (.inr rfl) _
            have hbox : E2 = 0 → BoxC (w3.setCell ⟨bx, 0, none⟩ (.slice ro2 rn2 rc2)) bx l2 := fun e => ⟨ro2, rn2, rc2, heap_setCell_same _ _ _ _ _ _ hx3, hrc2, chs_box hx3 hks (hC3 e)⟩
            have hz4 := hks.heap ((hb4.block _ (lt_of_block HZ2.out)).trans HZ2.out) (fun e => by omega)
            have hb5 := (hb3.trans (hb4.mono hb3.size)).setCell (p := ⟨bx, 0, none⟩) (Nat.le_of_lt hbx) (.slice ro2 rn2 rc2)
            clear hx3 fx3 px3 hks hC3 hb4 hI2 HSP2 HBX0 HZ2 hz2 hx0 hb3 hne2 p0 f0 f1 f2 f3 f4 f5 e0 e1 e2 e3 e4 e5 q0 q1 hcv hsl
            generalize w3.setCell ⟨bx, 0, none⟩ (.slice ro2 rn2 rc2) = W4 at *
            by_cases hE2 : E2 = 0
            · have hB4 := hbox hE2
              have hRC : R = readC l2 := by rw [HGO.out, if_neg (fun e => e hE2)]
              subst hE2
              clear hbox HGO
              have hbl : bx < W4.heap.size := by obtain ⟨_, _, _, hx, _, _⟩ := hB4; exact lt_of_block hx
              have hba := below_alloc W4 (.cells #[.string (ByteArray.mk #[]), .int .i64 0, .bool false, .int .i64 0, .int .i64 0, .slice none 0 0] 37)
              have hy5 := heap_alloc_new W4 (.cells #[.string (ByteArray.mk #[]), .int .i64 0, .bool false, .int .i64 0, .int .i64 0, .slice none 0 0] 37)
              have hz5 := (hba.block _ (lt_of_block hz4)).trans hz4
              have hB5 := hB4.keep0 hba
              have hb6 := hb5.alloc hb5.size (.cells #[.string (ByteArray.mk #[]), .int .i64 0, .bool false, .int .i64 0, .int .i64 0, .slice none 0 0] 37)
              clear hba hz4 hB4 hb5
              go_upto_region 10 with fail
              generalize W4.alloc (.cells #[.string (ByteArray.mk #[]), .int .i64 0, .bool false, .int .i64 0, .int .i64 0, .slice none 0 0] 37) = W5 at *
              generalize W4.heap.size = sb at *
              have hrs : w.heap.size ≠ sb := by omega
              have T1 : Hid (∀ w, BoxC w bx l2 → Calls Try.prog 21 #[.pointer (some ⟨bx, 0, none⟩), .string (ByteArray.mk #[102, 109, 116, 32])] w (TakeAny bx l2 nFmt w)) := fun w h => take_any bx l2 nFmt (byt_of_small (by decide)) (by decide) w h
              have T2 : Hid (∀ l w, BoxC w bx l → Calls Try.prog 21 #[.pointer (some ⟨bx, 0, none⟩), .string (ByteArray.mk #[110, 97, 109, 101])] w (TakeAny bx l nName w)) := fun l w h => take_any bx l nName (byt_of_small (by decide)) (by decide) w h
              go_upto_region 11 with (go_at_call 21; (with_reducible refine (T1.out _ hB5).mono ?_); rintro e w6 ⟨fo, fn, fc, A, l3, fdt, rfl, hA1, hA2, hA3, hfc, hfI, hB6, hk6⟩)
              have hz6 := hk6.heap hz5 (by omega)
              have hy6 := hk6.heap hy5 (by omega)
              have hb7 := hb6.trans (hk6.toBelow hb6.size (fun k hk e => by omega))
              have hSH := shape_any fo fn fc fdt w6 hfI hfc
              have HSH := Lib.hid hSH
              clear hSH hk6 hb6 hB5 hz5 hy5 T1
              go_upto_region 12 with (go_at_call 22; refine HSH.out.mono ?_; rintro e w7 ⟨rfl, hb8⟩)
              have hz7 := (hb8.block _ (lt_of_block hz6)).trans hz6
              have hy7 := (hb8.block _ (lt_of_block hy6)).trans hy6
              have hB7 := hB6.keep0 hb8
              have hb9 := hb7.trans (hb8.mono hb7.size)
              have hfl := hfI.hlen
              have HF8 := Lib.hid (byt_of hfI.wf)
              clear hz6 hy6 hB6 hb8 hb7 HSH hfI
              go_upto_region 13 with (go_at_call 21; (with_reducible refine (T2.out l3 _ hB7).mono ?_); rintro e w8 ⟨so, sn, sc, C, l4, sdt, rfl, hC1, hC2, hC3, hsc, hsI, hB8, hk8⟩)
              have hz8 := hk8.heap hz7 (by omega)
              have hy8 := hk8.heap hy7 (by omega)
              have hb10 := hb9.trans (hk8.toBelow hb9.size (fun k hk e => by omega))
              clear hk8 hB7 hz7 hy7 hb9 T2
              have hs8 := six_set hz8 (.string (ByteArray.mk #[])) (.int .i64 0) (.bool false) (.int .i64 0) (.int .i64 0) (.slice none 0 0)
              have hbb := six_below hb10 (b := w.heap.size) (Nat.le_refl _) (.string (ByteArray.mk #[])) (.int .i64 0) (.bool false) (.int .i64 0) (.int .i64 0) (.slice none 0 0)
              have HS8 := Lib.hid hs8
              have HB8 := Lib.hid hbb
              have hERR : ¬ ((l2.getD 0 c0).nm = nFmt ∧ shOk (l2.getD 0 c0).dt = true ∧ (l2.getD 1 c0).nm = nName) → R = (4, s0) := fun h => by rw [hRC]; unfold readC; rw [if_neg h]
              have HERR := Lib.hid hERR
              have HRC := Lib.hid hRC
              have HZ8 := Lib.hid hz8
              clear hs8 hbb hERR hRC
              generalize hNN : (if fn = 16 then shN fdt else 0) = NN at *
              generalize hRT : (if fn = 16 then shR fdt else 0) = RT at *
              generalize hOK : shOk fdt = OK at *
              have HNN := Lib.hid hNN
              have HRT := Lib.hid hRT
              have HOK := Lib.hid hOK
              clear hNN hRT hOK
              obtain ⟨f0, f1, f2, f3, f4, f5⟩ := six_frozen hz8
              obtain ⟨e0, e1, e2, e3, e4, e5⟩ := six_cells hz8
              have hdr : (l2.drop 1).getD 0 c0 = l2.getD 1 c0 := by simp [List.getD]
              have HDR := Lib.hid hdr
              clear hdr
              cases A with
              | false =>
                have hrr : R = (4, s0) := HERR.out (fun h => by have := hA1.out.2 h.1; cases this)
                have HRR := Lib.hid hrr
                clear hrr
                go_wp2_with fail
                exact bodyPost_ret (results_cell_tmp (fn := Try.f13) (p := 2) (q := 3) (ty := 37) rfl _ _ _ _ _ _ _ rfl HS8.out Try.underlying37 rfl info37) rfl (err_end HRR.out HB8.out)
              | true =>
                obtain ⟨rfl, rfl⟩ := hA2.out rfl
                cases OK with
                | false =>
                  have hrr : R = (4, s0) := HERR.out (fun h => by have := h.2.1; rw [HOK.out] at this; cases this)
                  have HRR := Lib.hid hrr
                  clear hrr
                  go_wp2_with fail
                  exact bodyPost_ret (results_cell_tmp (fn := Try.f13) (p := 2) (q := 3) (ty := 37) rfl _ _ _ _ _ _ _ rfl HS8.out Try.underlying37 rfl info37) rfl (err_end HRR.out HB8.out)
                | true =>
                  cases C with
                  | false =>
                    have hrr : R = (4, s0) := HERR.out (fun h => by have := hC1.out.2 (by rw [HDR.out]; exact h.2.2); cases this)
                    have HRR := Lib.hid hrr
                    clear hrr
                    go_wp2_with fail
                    exact bodyPost_ret (results_cell_tmp (fn := Try.f13) (p := 2) (q := 3) (ty := 37) rfl _ _ _ _ _ _ _ rfl HS8.out Try.underlying37 rfl info37) rfl (err_end HRR.out HB8.out)
                  | true =>
                    obtain ⟨rfl, rfl⟩ := hC2.out rfl
                    have hcd := hA1.out.1 rfl
                    have hcn := hC1.out.1 rfl
                    have hsh := HOK.out
                    have hf16 : (l2.getD 0 c0).dt.length = 16 := by unfold shOk at hsh; exact (of_decide_eq_true hsh).1
                    have hfn : fn = 16 := hfl.symm.trans hf16
                    have hNv := HNN.out
                    have hRv := HRT.out
                    rw [if_pos hfn] at hNv hRv
                    have hRR : R = readR ((l2.drop 1).getD 0 c0).dt NN.toNat RT ((l2.drop 1).drop 1) := by
                      rw [HRC.out]
                      unfold readC
                      rw [if_pos ⟨hcd, hsh, by rw [← HDR.out]; exact hcn⟩, ← hNv, ← hRv, HDR.out, List.drop_drop]
                    have hN12 : NN = 1 ∨ NN = 2 := by
                      rw [← hNv]; unfold shOk at hsh; exact (of_decide_eq_true hsh).2.2.1
                    have HRR := Lib.hid hRR
                    clear hcd hcn hsh hf16 hfn hNv hRv hRR hA1 hA2 hA3 hC1 hC2 hC3 HERR HNN HRT HOK HRC HF8
                    clear f0 f1 f2 f3 f4 f5 e0 e1 e2 e3 e4 e5
                    have H5 : Hid (∀ c ∈ (l2.drop 1).drop 1, c.dt.length ≤ 1000000) := fun c hc => HJ2.out trivial c (List.mem_of_mem_drop (List.mem_of_mem_drop hc))
                    generalize ((l2.drop 1).getD 0 c0).dt = sdt at *
                    generalize (l2.drop 1).drop 1 = l5 at *
                    have hcv8 := conv_ints (P := Try.prog) hsI 25 5 9 sc rfl rfl rfl
                    have hsb := byt_of hsI.wf
                    have hsl := hsI.lim
                    have hsn := hsI.hlen
                    obtain ⟨f0, f1, f2, f3, f4, f5⟩ := six_frozen hy8
                    obtain ⟨e0, e1, e2, e3, e4, e5⟩ := six_cells hy8
                    have hk9 : Keeps (fun k => k = sb) w8 ((w8.setCell ⟨sb, 0, none⟩ (.string (strOfNums sdt))).setCell ⟨sb, 1, none⟩ (.int .i64 RT)) := ((Keeps.refl (fun k => k = sb) w8).setCell (p := ⟨sb, 0, none⟩) (.inr rfl) _).setCell (p := ⟨sb, 1, none⟩) (.inr rfl) _
                    have hB9 := hB8.six hy8 hk9 (by decide)
                    have hy9 : ((w8.setCell ⟨sb, 0, none⟩ (.string (strOfNums sdt))).setCell ⟨sb, 1, none⟩ (.int .i64 RT)).heap[sb]? = some (.cells #[.string (strOfNums sdt), .int .i64 RT, .bool false, .int .i64 0, .int .i64 0, .slice none 0 0] 37 (0, 0)) := heap_setCell_same _ _ _ _ _ _ (heap_setCell_same _ _ _ _ _ _ hy8)
                    have hz9 := hk9.heap hz8 hrs
                    have hb11 := (hb10.setCell (p := ⟨sb, 0, none⟩) (by show w.heap.size ≤ sb; omega) (.string (strOfNums sdt))).setCell (p := ⟨sb, 1, none⟩) (by show w.heap.size ≤ sb; omega) (.int .i64 RT)
                    clear hk9 hz8 hy8 hB8 hb10 HS8 HB8
                    go_upto_region 16 with fail
                    generalize (w8.setCell ⟨sb, 0, none⟩ (.string (strOfNums sdt))).setCell ⟨sb, 1, none⟩ (.int .i64 RT) = W9 at *
                    clear f0 f1 f2 f3 f4 f5 e0 e1 e2 e3 e4 e5 hcv8 hsI
                    have T3 : Hid (∀ w, BoxC w bx l5 → Calls Try.prog 21 #[.pointer (some ⟨bx, 0, none⟩), .string (ByteArray.mk #[108, 111, 111, 112])] w (TakeAny bx l5 nLoop w)) := fun w h => take_any bx l5 nLoop (byt_of_small (by decide)) (by decide) w h
                    go_upto_region 17 with (go_at_call 21; (with_reducible refine (T3.out _ hB9).mono ?_); rintro e wA ⟨uo, un, uc, L, l6, udt, rfl, hL1, hL2, hL3, huc, huI, hBA, hkA⟩)
                    have hzA := hkA.heap hz9 (by omega)
                    have hyA := hkA.heap hy9 (by omega)
                    have hb12 := hb11.trans (hkA.toBelow hb11.size (fun k hk e => by omega))
                    clear hkA hz9 hy9 hb11 hB9 T3
                    go_upto_if 103 with fail
                    go_cut [] (fun wx => ∃ Wb, Wb = wx ∧ ReadRel R sdt NN.toNat RT bx sb w.heap.size w Wb)
                    case first =>
                      cases L with
                      | false =>
                        obtain ⟨rfl, -⟩ := hL3.out rfl
                        have hr4 : R = readD sdt NN.toNat RT false 0 0 l6 := by
                          rw [HRR.out]; unfold readR; rw [if_neg (fun e => by have := hL1.out.2 e; cases this)]
                        go_wp2_with fail
                        go_meet
                        exact ⟨_, rfl, false, 0, 0, _, hBA, hyA, hzA, hb12, H5.out, hr4⟩
                      | true =>
                        obtain ⟨rfl, rfl⟩ := hL2.out rfl
                        have hnm := hL1.out.1 rfl
                        have hul := huI.hlen
                        have hu := huI.lim
                        unfold maxLen at hu
                        by_cases h8 : un = 8
                        · subst h8
                          obtain ⟨p, rfl, -⟩ := huI.some (by omega)
                          have M1 : Hid (∀ n, Calls Try.prog 20 #[.slice (some p) 4 n] wA.drew (NumQ (numL ((l5.getD 0 c0).dt.take 4)) wA.drew)) := fun n => number_any _ 4 n _ (by omega) _ ((huI.take (by omega)).keep0 (Below.refl _ _).drew)
                          have M2 : Hid (∀ n, Calls Try.prog 20 #[.slice (some ⟨p.block, p.off + 4, none⟩) 4 n] wA.drew (NumQ (numL ((l5.getD 0 c0).dt.drop 4)) wA.drew)) := fun n => number_any _ 4 n _ (by omega) _ ((huI.drop (j := 4) (by omega)).keep0 (Below.refl _ _).drew)
                          have hr4 : R = readD sdt NN.toNat RT true (numL ((l5.getD 0 c0).dt.take 4)) (numL ((l5.getD 0 c0).dt.drop 4)) (l5.drop 1) := by
                            rw [HRR.out]; unfold readR; rw [if_pos hnm, if_pos hul]
                          generalize numL ((l5.getD 0 c0).dt.take 4) = x4 at *
                          generalize numL ((l5.getD 0 c0).dt.drop 4) = x5 at *
                          have hkB : Keeps (fun k => k = sb) wA (((wA.drew.setCell ⟨sb, 2, none⟩ (.bool true)).setCell ⟨sb, 3, none⟩ (.int .i64 x4)).setCell ⟨sb, 4, none⟩ (.int .i64 x5)) := ((((Keeps.refl (fun k => k = sb) wA).drew).setCell (p := ⟨sb, 2, none⟩) (.inr rfl) _).setCell (p := ⟨sb, 3, none⟩) (.inr rfl) _).setCell (p := ⟨sb, 4, none⟩) (.inr rfl) _
                          have hyB : (((wA.drew.setCell ⟨sb, 2, none⟩ (.bool true)).setCell ⟨sb, 3, none⟩ (.int .i64 x4)).setCell ⟨sb, 4, none⟩ (.int .i64 x5)).heap[sb]? = some (.cells #[.string (strOfNums sdt), .int .i64 RT, .bool true, .int .i64 x4, .int .i64 x5, .slice none 0 0] 37 (0, 0)) := heap_setCell_same _ _ _ _ _ _ (heap_setCell_same _ _ _ _ _ _ (heap_setCell_same wA.drew _ _ _ _ _ hyA))
                          have hres : ReadRel R sdt NN.toNat RT bx sb w.heap.size w (((wA.drew.setCell ⟨sb, 2, none⟩ (.bool true)).setCell ⟨sb, 3, none⟩ (.int .i64 x4)).setCell ⟨sb, 4, none⟩ (.int .i64 x5)) :=
                            ⟨true, x4, x5, l5.drop 1, hBA.six hyA hkB (by decide), hyB, hkB.heap hzA hrs, hb12.trans (hkB.toBelow hb12.size (fun k hk e => by omega)), (fun c hc => H5.out c (List.mem_of_mem_drop hc)), hr4⟩
                          have HRES := Lib.hid hres
                          obtain ⟨f0, f1, f2, f3, f4, f5⟩ := six_frozen hyA
                          obtain ⟨e0, e1, e2, e3, e4, e5⟩ := six_cells hyA
                          have k4 : (4 : Int) ≤ (uc : Int) := by omega
                          have k5 : uc ≠ 4 := by omega
                          clear hres hkB hyB hr4 hnm hul huI hL1 hL2 hL3 hBA hzA hb12
                          go_upto_region 20 with fail
                          go_region_held3 (fun w' => True) (trivial) (first | (go_at_call 20; (first | with_reducible refine (M1.out _).mono ?_ | with_reducible refine (M2.out _).mono ?_); rintro e w2 ⟨rfl, rfl⟩))
                          repeat (first | go_guarded | go_step | go_upon)
                          go_meet
                          exact ⟨_, rfl, HRES.out⟩
                        · have hr4 : R = (4, s0) := by
                            rw [HRR.out]; unfold readR; rw [if_pos hnm, if_neg (by omega)]
                          have HR4 := Lib.hid hr4
                          have hs9 := six_set hzA (.string (ByteArray.mk #[])) (.int .i64 0) (.bool false) (.int .i64 0) (.int .i64 0) (.slice none 0 0)
                          have hbb := six_below hb12 (b := w.heap.size) (Nat.le_refl _) (.string (ByteArray.mk #[])) (.int .i64 0) (.bool false) (.int .i64 0) (.int .i64 0) (.slice none 0 0)
                          have HS9 := Lib.hid hs9
                          have HB9 := Lib.hid hbb
                          obtain ⟨f0, f1, f2, f3, f4, f5⟩ := six_frozen hzA
                          obtain ⟨e0, e1, e2, e3, e4, e5⟩ := six_cells hzA
                          have h8' : ¬ ((un : Int) = 8) := by omega
                          have g1 : ((un : Int) == 8) = false := by simpa using h8'
                          have g2 : ((un : Int) != 8) = true := by simpa using h8'
                          clear hs9 hbb hr4 hnm hul huI hL1 hL2 hL3
                          go_upto_region 19 with fail
                          repeat (first | go_guarded | go_step | go_upon)
                          exact bodyPost_ret (results_cell_tmp (fn := Try.f13) (p := 2) (q := 3) (ty := 37) rfl _ _ _ _ _ _ _ rfl HS9.out Try.underlying37 rfl info37) rfl (err_end HR4.out HB9.out)
                    case rest =>
                      obtain ⟨Wb, rfl, lp, x, y, lF, hBF, hyF, hzF, hbF, hlF, hRF⟩ := hcut
                      clear hBA hyA hzA hb12 huI HRR hL1 hL2 hL3 huc H5 HJ2
                      have T4 : Hid (∀ w, BoxC w bx lF → Calls Try.prog 21 #[.pointer (some ⟨bx, 0, none⟩), .string (ByteArray.mk #[100, 97, 116, 97])] w (TakeAny bx lF nData w)) := fun w h => take_any bx lF nData (byt_of_small (by decide)) (by decide) w h
                      rw [readD_if] at hRF
                      have HRF := Lib.hid hRF
                      have hdsm := len_small hlF
                      clear hRF hlF
                      go_upto_region 22 with (go_at_call 21; (with_reducible refine (T4.out _ hBF).mono ?_); rintro e wC ⟨do', dn, dc, D, lG, ddt, rfl, hD1, hD2, hD3, hdc, hdI, hBC, hkC⟩)
                      have hzC := hkC.heap hzF (by omega)
                      have hyC := hkC.heap hyF (by omega)
                      have hb13 := hbF.trans (hkC.toBelow hbF.size (fun k hk e => by omega))
                      have hdn : dn ≤ 1000000 := by
                        have h1 := hdI.hlen
                        cases D with
                        | true => have := (hD2.out rfl).2; rw [this] at h1; omega
                        | false => have := (hD3.out rfl).2; rw [this] at h1; simp at h1; omega
                      have FL : Hid (Calls Try.prog 23 #[.slice do' dn dc, .int .i64 NN] wC (FillPost ddt NN.toNat wC)) := by
                        rcases hN12 with rfl | rfl
                        · exact fill_any do' dn dc ddt 1 (.inl rfl) wC hdI hdc (by omega)
                        · exact fill_any do' dn dc ddt 2 (.inr rfl) wC hdI hdc (by omega)
                      clear hkC hzF hyF hbF hBF T4 hdI
                      have HYC := Lib.hid hyC
                      go_upto_region 23 with (go_at_call 23; refine FL.out.mono ?_; rintro e wD ⟨ro5, rn5, rc5, ok, rfl, hok, hrc5, hrows, hb14⟩; obtain ⟨f0, f1, f2, f3, f4, f5⟩ := six_frozen ((hb14.block _ (lt_of_block HYC.out)).trans HYC.out); obtain ⟨e0, e1, e2, e3, e4, e5⟩ := six_cells ((hb14.block _ (lt_of_block HYC.out)).trans HYC.out))
                      have hyD := (hb14.block _ (lt_of_block hyC)).trans hyC
                      have hzD := (hb14.block _ (lt_of_block hzC)).trans hzC
                      have hBD := hBC.keep0 hb14
                      have hb15 := hb13.trans (hb14.mono hb13.size)
                      have hsbC := lt_of_block hyC
                      have hkE : Keeps (fun k => k = sb) wD (wD.setCell ⟨sb, 5, none⟩ (.slice ro5 rn5 rc5)) := (Keeps.refl (fun k => k = sb) wD).setCell (p := ⟨sb, 5, none⟩) (.inr rfl) _
                      have hyE : (wD.setCell ⟨sb, 5, none⟩ (.slice ro5 rn5 rc5)).heap[sb]? = some (.cells #[.string (strOfNums sdt), .int .i64 RT, .bool lp, .int .i64 x, .int .i64 y, .slice ro5 rn5 rc5] 37 (0, 0)) := heap_setCell_same _ _ _ _ _ _ hyD
                      have hzE := hkE.heap hzD hrs
                      have hBE := hBD.six hyD hkE (by decide)
                      have hb16 := hb15.trans (hkE.toBelow hb15.size (fun k hk e => by omega))
                      have hrbC := lt_of_block hzC
                      have hRE : ok = true → ∀ w2, Keeps (fun k => k < wC.heap.size) (wD.setCell ⟨sb, 5, none⟩ (.slice ro5 rn5 rc5)) w2 → Rows w2 ro5 rn5 (fillL ddt NN.toNat) := fun e w2 hk2 => hrows e _ ((hkE.mono (fun k _ e => by show k < _; omega)).trans hk2)
                      clear f0 f1 f2 f3 f4 f5 e0 e1 e2 e3 e4 e5 hkE hyD hzD hBD hb15 hb14 hrows hyC hzC hBC hb13 HYC FL
                      generalize wD.setCell ⟨sb, 5, none⟩ (.slice ro5 rn5 rc5) = WE at *
                      obtain ⟨lo, ln, lc, hxE, hlE, hCE⟩ := hBE
                      have hlG := hCE.hlen
                      have pE : WE.cell? ⟨bx, 0, none⟩ = some (.slice lo ln lc) := (cell_of_row _ _ _ _ _ _ hxE).trans rfl
                      have hs9 := six_set hzE (.string (ByteArray.mk #[])) (.int .i64 0) (.bool false) (.int .i64 0) (.int .i64 0) (.slice none 0 0)
                      have hbb := six_below hb16 (b := w.heap.size) (Nat.le_refl _) (.string (ByteArray.mk #[])) (.int .i64 0) (.bool false) (.int .i64 0) (.int .i64 0) (.slice none 0 0)
                      have HS9 := Lib.hid hs9
                      have HB9 := Lib.hid hbb
                      obtain ⟨f0, f1, f2, f3, f4, f5⟩ := six_frozen hzE
                      obtain ⟨e0, e1, e2, e3, e4, e5⟩ := six_cells hzE
                      have HOK5 := Lib.hid hok
                      have HRE := Lib.hid hRE
                      clear hs9 hbb hok hRE hCE hxE
                      cases D with
                      | false =>
                        have hr4 : R = (4, s0) := by rw [HRF.out, if_neg (fun h => by have := hD1.out.2 h.1; cases this)]
                        have HR4 := Lib.hid hr4
                        clear hr4
                        go_upto_region 24 with fail
                        repeat (first | go_guarded | go_step | go_upon)
                        exact bodyPost_ret (results_cell_tmp (fn := Try.f13) (p := 2) (q := 3) (ty := 37) rfl _ _ _ _ _ _ _ rfl HS9.out Try.underlying37 rfl info37) rfl (err_end HR4.out HB9.out)
                      | true =>
                        obtain ⟨rfl, rfl⟩ := hD2.out rfl
                        have hnd := hD1.out.1 rfl
                        cases ok with
                        | false =>
                          have hr4 : R = (4, s0) := by rw [HRF.out, if_neg (fun h => by have := HOK5.out.2 h.2.1; cases this)]
                          have HR4 := Lib.hid hr4
                          clear hr4 hnd
                          go_upto_region 24 with fail
                          repeat (first | go_guarded | go_step | go_upon)
                          exact bodyPost_ret (results_cell_tmp (fn := Try.f13) (p := 2) (q := 3) (ty := 37) rfl _ _ _ _ _ _ _ rfl HS9.out Try.underlying37 rfl info37) rfl (err_end HR4.out HB9.out)
                        | true =>
                          by_cases hl0 : ln = 0
                          · subst hl0
                            have hd0 : lF.drop 1 = [] := List.eq_nil_of_length_eq_zero hlG
                            have hrg : R = if chk ⟨sdt, RT, lp, x, y, fillL (lF.getD 0 c0).dt NN.toNat⟩ = 0 then (0, ⟨sdt, RT, lp, x, y, fillL (lF.getD 0 c0).dt NN.toNat⟩) else (chk ⟨sdt, RT, lp, x, y, fillL (lF.getD 0 c0).dt NN.toNat⟩, s0) := by rw [HRF.out, if_pos ⟨hnd, HOK5.out.1 rfl, hd0⟩]
                            have hSm : SmIs WE ⟨sdt, RT, lp, x, y, fillL (lF.getD 0 c0).dt NN.toNat⟩ ⟨ro5, rn5, rc5⟩ := ⟨hsb, by show sdt.length ≤ maxLen; omega, hrc5, HRE.out rfl _ (Keeps.refl _ _)⟩
                            have CK := Lib.hid (check_any _ _ _ hSm)
                            have HSM := Lib.hid hSm
                            have HRG := Lib.hid hrg
                            have HYE := Lib.hid hyE
                            have HZE := Lib.hid hzE
                            clear f0 f1 f2 f3 f4 f5 e0 e1 e2 e3 e4 e5 HS9 HB9 hrg hSm hnd hd0
                            obtain ⟨e0, e1, e2, e3, e4, e5⟩ := six_cells hyE
                            generalize fillL (lF.getD 0 c0).dt NN.toNat = DD at *
                            generalize hCK : chk ⟨sdt, RT, lp, x, y, DD⟩ = CC at *
                            clear hCK hyE hzE
                            unfold cellsS at CK
                            go_upto_region 26 with (go_at_call 14; refine CK.out.mono ?_; rintro e wF ⟨rfl, hb17⟩)
                            have hyF := (hb17.block _ (lt_of_block HYE.out)).trans HYE.out
                            have hzF := (hb17.block _ (lt_of_block HZE.out)).trans HZE.out
                            have hb18 := hb16.trans (hb17.mono hb16.size)
                            have HSF := Lib.hid (HSM.out.keep0 hb17)
                            clear e0 e1 e2 e3 e4 e5 pE HSM hb16
                            obtain ⟨f0, f1, f2, f3, f4, f5⟩ := six_frozen hzF
                            obtain ⟨e0, e1, e2, e3, e4, e5⟩ := six_cells hzF
                            obtain ⟨y0, y1, y2, y3, y4, y5⟩ := six_cells hyF
                            by_cases hC0 : CC = 0
                            · have hr0 : R = (0, ⟨sdt, RT, lp, x, y, DD⟩) := by rw [HRG.out, if_pos hC0]
                              subst hC0
                              have HS9 := Lib.hid (six_set hzF (.string (strOfNums sdt)) (.int .i64 RT) (.bool lp) (.int .i64 x) (.int .i64 y) (.slice ro5 rn5 rc5))
                              have HB9 := Lib.hid (six_below hb18 (b := w.heap.size) (Nat.le_refl _) (.string (strOfNums sdt)) (.int .i64 RT) (.bool lp) (.int .i64 x) (.int .i64 y) (.slice ro5 rn5 rc5))
                              have hkF : Keeps (fun k => k < wC.heap.size) WE wF := Keeps.ofBelow hb17 (Nat.le_refl _)
                              have HKF := Lib.hid (HRE.out (by trivial) _ (six_keeps hkF (b := w.heap.size) hrbC (.string (strOfNums sdt)) (.int .i64 RT) (.bool lp) (.int .i64 x) (.int .i64 y) (.slice ro5 rn5 rc5)))
                              have HR0 := Lib.hid hr0
                              have hsl2 : sdt.length ≤ maxLen := by omega
                              have HSL := Lib.hid hsl2
                              have HSB := Lib.hid hsb
                              clear hr0 hkF hsl2
                              go_upto_region 28 with fail
                              repeat (first | go_guarded | go_step | go_upon)
                              exact bodyPost_ret (results_cell_tmp (fn := Try.f13) (p := 2) (q := 3) (ty := 37) rfl _ _ _ _ _ _ _ rfl HS9.out Try.underlying37 rfl info37) rfl (by
                                rw [HR0.out]
                                exact ⟨⟨ro5, rn5, rc5⟩, rfl, ⟨HSB.out, HSL.out, hrc5, HKF.out⟩, HB9.out⟩)
                            · have hr4 : R = (CC, s0) := by rw [HRG.out, if_neg hC0]
                              have HR4 := Lib.hid hr4
                              have g1 : (CC == 0) = false := by simpa using hC0
                              have g2 : (CC != 0) = true := by simpa using hC0
                              have HS9 := Lib.hid (six_set hzF (.string (ByteArray.mk #[])) (.int .i64 0) (.bool false) (.int .i64 0) (.int .i64 0) (.slice none 0 0))
                              have HB9 := Lib.hid (six_below hb18 (b := w.heap.size) (Nat.le_refl _) (.string (ByteArray.mk #[])) (.int .i64 0) (.bool false) (.int .i64 0) (.int .i64 0) (.slice none 0 0))
                              clear hr4
                              go_upto_region 27 with fail
                              repeat (first | go_guarded | go_step | go_upon)
                              exact bodyPost_ret (results_cell_tmp (fn := Try.f13) (p := 2) (q := 3) (ty := 37) rfl _ _ _ _ _ _ _ rfl HS9.out Try.underlying37 rfl info37) rfl (err_end HR4.out HB9.out)
                          · have hr4 : R = (4, s0) := by rw [HRF.out, if_neg (fun h => hl0 (by rw [← hlG, h.2.2]; rfl))]
                            have HR4 := Lib.hid hr4
                            have g1 : (0 : Int) < (ln : Int) := by omega
                            have g2 : 0 < ln := by omega
                            have g3 : decide (0 < ln) = true := decide_eq_true g2
                            have g4 : decide ((0 : Int) < (ln : Int)) = true := decide_eq_true g1
                            clear hr4 hnd
                            go_upto_region 24 with fail
                            repeat (first | go_guarded | go_step | go_upon)
                            exact bodyPost_ret (results_cell_tmp (fn := Try.f13) (p := 2) (q := 3) (ty := 37) rfl _ _ _ _ _ _ _ rfl HS9.out Try.underlying37 rfl info37) rfl (err_end HR4.out HB9.out)
            · have hrr : R = (E2, s0) := by rw [HGO.out, if_pos hE2]
              have HRR := Lib.hid hrr
              have g1 : (E2 == 0) = false := by simpa using hE2
              have g2 : (E2 != 0) = true := by simpa using hE2
              have g3 : decide (E2 = 0) = false := decide_eq_false hE2
              have hs7 := six_set hz4 (.string (ByteArray.mk #[])) (.int .i64 0) (.bool false) (.int .i64 0) (.int .i64 0) (.slice none 0 0)
              have hbb := six_below hb5 (b := w.heap.size) (Nat.le_refl _) (.string (ByteArray.mk #[])) (.int .i64 0) (.bool false) (.int .i64 0) (.int .i64 0) (.slice none 0 0)
              obtain ⟨f0, f1, f2, f3, f4, f5⟩ := six_frozen hz4
              obtain ⟨e0, e1, e2, e3, e4, e5⟩ := six_cells hz4
              have HS7 := Lib.hid hs7
              have HB7 := Lib.hid hbb
              clear hs7 hbb hrr hbox HGO
              go_wp2_with fail
              exact bodyPost_ret (results_cell_tmp (fn := Try.f13) (p := 2) (q := 3) (ty := 37) rfl _ _ _ _ _ _ _ rfl HS7.out Try.underlying37 rfl info37) rfl (err_end HRR.out HB7.out)
          · have hw0 := name_ne (b := nWAVE) (l := [87, 65, 86, 69]) (by decide +kernel) (hdtb.take 4) (byt_of_small (by decide)) hB
            have hw1 : ((strOfNums (c.dt.take 4)).toList != [87, 65, 86, 69]) = true := by rw [bne, hw0]; rfl
            have hrr : R = (4, s0) := HFORM.out (fun ⟨c', e, _, _, h1⟩ => by cases e; exact hB h1)
            have HRR := Lib.hid hrr
            clear hrr hA hB HFORM
            go_wp2_with fail
            exact bodyPost_ret (results_cell_tmp (fn := Try.f13) (p := 2) (q := 3) (ty := 37) rfl _ _ _ _ _ _ _ rfl HS6.out Try.underlying37 rfl info37) rfl (err_end HRR.out HBB.out)
      · have hs0 := name_ne (b := nRIFF) (l := [82, 73, 70, 70]) (by decide +kernel) hm2 (byt_of_small (by decide)) hA
        have hs1 : ((strOfNums c.nm).toList != [82, 73, 70, 70]) = true := by rw [bne, hs0]; rfl
        have hrr : R = (4, s0) := HFORM.out (fun ⟨c', e, h1, _⟩ => hA (by cases e; exact h1))
        have HRR := Lib.hid hrr
        clear hrr hA HFORM
        go_wp2_with fail
        exact bodyPost_ret (results_cell_tmp (fn := Try.f13) (p := 2) (q := 3) (ty := 37) rfl _ _ _ _ _ _ _ rfl HS6.out Try.underlying37 rfl info37) rfl (err_end HRR.out HBB.out)
    · have hrr : R = (4, s0) := HFORM.out (fun ⟨c, e, _⟩ => hrn (by rw [← hlen, e]; rfl))
      have HRR := Lib.hid hrr
      have hrn' : ¬ ((rn : Int) = 1) := by omega
      have g1 : ((rn : Int) == 1) = false := by simpa using hrn'
      have g2 : ((rn : Int) != 1) = true := by simpa using hrn'
      have g3 : (rn == 1) = false := by simpa using hrn
      have g4 : (rn != 1) = true := by simpa using hrn
      clear hrr hC
      go_wp2_with fail
      exact bodyPost_ret (results_cell_tmp (fn := Try.f13) (p := 2) (q := 3) (ty := 37) rfl _ _ _ _ _ _ _ rfl HS6.out Try.underlying37 rfl info37) rfl (err_end HRR.out HBB.out)
  · have g1 : (E1 == 0) = false := by simpa using hE1
    have g2 : (E1 != 0) = true := by simpa using hE1
    have g3 : decide (E1 = 0) = false := decide_eq_false hE1
    have hrr : R = (E1, s0) := by
      rw [← HR.out, readL_err (by rw [HD.out]; exact hE1), HD.out]
    have HRR := Lib.hid hrr
    have hs6 := six_set hz2 (.string (ByteArray.mk #[])) (.int .i64 0) (.bool false) (.int .i64 0) (.int .i64 0) (.slice none 0 0)
    have hbb := six_below hb3 (b := w.heap.size) (Nat.le_refl _) (.string (ByteArray.mk #[])) (.int .i64 0) (.bool false) (.int .i64 0) (.int .i64 0) (.slice none 0 0)
    have HS6 := Lib.hid hs6
    have HBB := Lib.hid hbb
    clear hs6 hbb hrr hC2
    go_wp2_with fail
    exact bodyPost_ret (results_cell_tmp (fn := Try.f13) (p := 2) (q := 3) (ty := 37) rfl _ _ _ _ _ _ _ rfl HS6.out Try.underlying37 rfl info37) rfl (err_end HRR.out HBB.out)
end Go.Proofs.Ytpbeehfafbgphaa

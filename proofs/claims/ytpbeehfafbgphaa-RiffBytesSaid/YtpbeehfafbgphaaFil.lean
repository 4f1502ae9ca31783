/- The walk of the statements' file. -/
import Derived.Test.YtpbeehfafbgphaaSme
namespace Go.Proofs.Ytpbeehfafbgphaa
open Go Go.RowKit Go.Calli
set_option linter.unusedVariables false
set_option linter.unusedSimpArgs false
attribute [local irreducible] wpStill wpAnyH wpAnyS wpList Code.wp
def pre1 (s : Sm) : List Int := encC ⟨nFmt, fmtL s.d.length s.rate⟩ ++ encC ⟨nName, s.nm⟩
def pre2 (s : Sm) : List Int := pre1 s ++ (if s.lp then encC ⟨nLoop, ringL s.a s.b⟩ else [])
theorem fileL_pre (s : Sm) : fileL s = encC ⟨nRIFF, nWAVE ++ pre2 s ++ encC ⟨nData, bodyL s.d (lenS s)⟩⟩ := by
  unfold fileL pre2 pre1 chunksL joinL
  congr 2
  cases s.lp <;> simp
theorem encC_le (c : Ch) : (encC c).length ≤ c.dt.length + 9 := by
  have h1 := encC_len c
  have h2 := padL_len c.dt.length
  omega
theorem pre_len {s : Sm} (h : s.nm.length ≤ 32) : (pre1 s).length ≤ 100 ∧ (pre2 s).length ≤ 200 := by
  have h1 := encC_le ⟨nFmt, fmtL s.d.length s.rate⟩
  have h2 := encC_le ⟨nName, s.nm⟩
  have h3 := encC_le ⟨nLoop, ringL s.a s.b⟩
  have h4 := fmtL_len s.d.length s.rate
  have h5 : (ringL s.a s.b).length = 8 := by simp [ringL, lowL_len]
  simp only [h4, h5] at h1 h2 h3
  have h6 : (pre1 s).length ≤ 100 := by unfold pre1; rw [List.length_append]; omega
  refine ⟨h6, ?_⟩
  unfold pre2
  rw [List.length_append]
  cases s.lp
  · simp; omega
  · simp; omega
def FileStr (s : Sm) (w : World) (e : Ending) (w' : World) : Prop := e = .returned (.string (strOfNums (fileL s))) ∧ Below w.heap.size w w'
def NumP (v : Int) (n : Nat) (w : World) (e : Ending) (w' : World) : Prop := e = .returned (.string (strOfNums (lowL n v))) ∧ Below w.heap.size w w'
theorem ln2 (v : Int) (h0 : 0 ≤ v) (h1 : v < 9223372036854775808) (w : World) : Calls Try.prog 18 #[.int .i64 v, .int .i64 2] w (NumP v 2 w) := lnumber_any v 2 (by omega) h0 h1 w
theorem ln4 (v : Int) (h0 : 0 ≤ v) (h1 : v < 9223372036854775808) (w : World) : Calls Try.prog 18 #[.int .i64 v, .int .i64 4] w (NumP v 4 w) := lnumber_any v 4 (by omega) h0 h1 w
def ChkP (nm dt : List Int) (w : World) (e : Ending) (w' : World) : Prop := e = .returned (.string (strOfNums (encC ⟨nm, dt⟩))) ∧ Below w.heap.size w w'
theorem bodyL_succ (d : List (List Int)) (i : Nat) : bodyL d (i + 1) = bodyL d i ++ d.flatMap (fun l => enc2 (l.getD i 0)) := by
  unfold bodyL
  rw [List.range_succ, List.flatMap_append]
  simp
theorem part_succ (d : List (List Int)) (i k : Nat) (hk : k < d.length) : (d.take (k + 1)).flatMap (fun l => enc2 (l.getD i 0)) = (d.take k).flatMap (fun l => enc2 (l.getD i 0)) ++ enc2 ((d.getD k []).getD i 0) := by
  rw [List.take_succ_eq_append_getElem hk, List.flatMap_append]
  simp [List.getD, hk]
theorem part_len (d : List (List Int)) (i k : Nat) (hk : k ≤ d.length) : ((d.take k).flatMap (fun l => enc2 (l.getD i 0))).length = k * 2 := by
  rw [lenG (fun l : List Int => enc2 (l.getD i 0)) 2 (fun l => enc2_len _) (d.take k), List.length_take, Nat.min_eq_left hk]
theorem enc_str (a b : List Int) : strOfNums a ++ strOfNums b = strOfNums (a ++ b) := strOfNums_append a b
set_option maxRecDepth 100000 in
set_option maxHeartbeats 4000000 in
theorem file_any (nm : List Int) (rate : Int) (lp : Bool) (a b : Int) (d : List (List Int)) (ao : Option Addr) (n cap : Nat) (w : World) (h : SmIs w ⟨nm, rate, lp, a, b, d⟩ ⟨ao, n, cap⟩) (hg : Good ⟨nm, rate, lp, a, b, d⟩) : Calls Try.prog 15 #[.agg #[.string (strOfNums nm), .int .i64 rate, .bool lp, .int .i64 a, .int .i64 b, .slice ao n cap]] w (FileStr ⟨nm, rate, lp, a, b, d⟩ w) := by
  have hk0 := below_alloc w (.cells #[.string (strOfNums nm), .int .i64 rate, .bool lp, .int .i64 a, .int .i64 b, .slice ao n cap] 37)
  have hz0 := heap_alloc_new w (.cells #[.string (strOfNums nm), .int .i64 rate, .bool lp, .int .i64 a, .int .i64 b, .slice ao n cap] 37)
  have hs := h.keep0 hk0
  have hle : n ≤ cap := h.le
  have hdl : d.length = n := h.rows.hlen
  have hnm : nm.length ≤ 32 := by have := hg.nm; unfold nmOk at this; rw [Bool.and_eq_true] at this; have := of_decide_eq_true this.1; simp only at this; omega
  have hn12 : 1 ≤ n ∧ n ≤ 2 := by have := hg.n; simp only at this; omega
  have hrt : 1 ≤ rate ∧ rate ≤ 192000 := hg.rate
  have hloop := hg.loop
  simp only at hloop
  have hpre := pre_len (s := ⟨nm, rate, lp, a, b, d⟩) hnm
  have hP : 0 ≤ rate * (n : Int) ∧ rate * (n : Int) ≤ 384000 := by
    rcases (show n = 1 ∨ n = 2 by omega) with rfl | rfl <;> simp <;> omega
  have hw1 : IntKind.i64.wrap (rate * (n : Int)) = rate * (n : Int) := IntWalk.i64_in _ (by omega)
  have hw2 : IntKind.i64.wrap (rate * (n : Int) * 2) = rate * (n : Int) * 2 := IntWalk.i64_in _ (by omega)
  have hw3 : IntKind.i64.wrap ((n : Int) * 2) = (n : Int) * 2 := IntWalk.i64_in _ (by omega)
  have HG := Lib.hid hg
  have HDL := Lib.hid hdl
  have HFMT : Hid (strOfNums (lowL 2 1) ++ strOfNums (lowL 2 (n : Int)) ++ strOfNums (lowL 4 rate) ++ strOfNums (lowL 4 (rate * (n : Int) * 2)) ++ strOfNums (lowL 2 ((n : Int) * 2)) ++ strOfNums (lowL 2 16) = strOfNums (fmtL n rate)) := by
    unfold Hid fmtL
    simp only [strOfNums_append, List.append_assoc]
  have hz2 : ∀ v, (strOfNums (lowL 2 v)).size = 2 := fun v => by rw [strOfNums_size, lowL_len]
  have hz4 : ∀ v, (strOfNums (lowL 4 v)).size = 4 := fun v => by rw [strOfNums_size, lowL_len]
  have L1 := Lib.hid (fun w => ln2 1 (by omega) (by omega) w)
  have L2 := Lib.hid (fun w => ln2 (n : Int) (by omega) (by omega) w)
  have L3 := Lib.hid (fun w => ln4 rate (by omega) (by omega) w)
  have L4 := Lib.hid (fun w => ln4 (rate * (n : Int) * 2) (by omega) (by omega) w)
  have L5 := Lib.hid (fun w => ln2 ((n : Int) * 2) (by omega) (by omega) w)
  have L6 := Lib.hid (fun w => ln2 16 (by omega) (by omega) w)
  have L7 := Lib.hid (fun w => ln4 a (by omega) (by omega) w)
  have L8 := Lib.hid (fun w => ln4 b (by omega) (by omega) w)
  clear h hg hdl hloop
  go_enter Try.func15, Try.ntmps15
  go_upto_region 1 with fail
  generalize w.alloc (.cells #[.string (strOfNums nm), .int .i64 rate, .bool lp, .int .i64 a, .int .i64 b, .slice ao n cap] 37) = W at *
  have HS := Lib.hid hs
  have HZ0 := Lib.hid hz0
  obtain ⟨c0, c1, c2, c3, c4, c5⟩ := six_cells hz0
  clear hs hz0
  go_upto_region 2 with fail
  go_cut [4] (fun v4 wx => v4 = .string (strOfNums (fmtL n rate)) ∧ ∃ Wx, Wx = wx ∧ Below W.heap.size W Wx)
  case first =>
    go_region_held3 (fun w' => w'.cell? ⟨w.heap.size, 1, none⟩ = some (.int .i64 rate)) (go_keep) (first | (go_at_call 18; (first | with_reducible refine (L1.out _).mono ?_ | with_reducible refine (L2.out _).mono ?_ | with_reducible refine (L3.out _).mono ?_ | with_reducible refine (L4.out _).mono ?_ | with_reducible refine (L5.out _).mono ?_ | with_reducible refine (L6.out _).mono ?_); rintro e w2 ⟨rfl, hb2⟩; have hbW := bstep (a := W) (by first | assumption | exact (Below.refl _ _).drew) hb2; have hy0 := (hbW.block _ (lt_of_block HZ0.out)).trans HZ0.out; obtain ⟨c0, c1, c2, c3, c4, c5⟩ := six_cells hy0))
    go_wp2_with fail
    go_meet
    exact ⟨by rw [HFMT.out], _, rfl, by assumption⟩
  case rest =>
    obtain ⟨rfl, wx, rfl, hbx⟩ := hcut
    clear c0 c1 c2 c3 c4 c5 L1 L2 L3 L4 L5 L6 HFMT hw1 hw2 hw3 hP
    have hfl := fmtL_len n rate
    have hx0 := (hbx.block _ (lt_of_block HZ0.out)).trans HZ0.out
    obtain ⟨c0, c1, c2, c3, c4, c5⟩ := six_cells hx0
    have C1 : Hid (∀ w, Calls Try.prog 8 #[.string (ByteArray.mk #[102, 109, 116, 32]), .string (strOfNums (fmtL n rate))] w (ChkP nFmt (fmtL n rate) w)) := fun w => chunk_any nFmt (fmtL n rate) (by omega) w
    have C2 : Hid (∀ w, Calls Try.prog 8 #[.string (ByteArray.mk #[110, 97, 109, 101]), .string (strOfNums nm)] w (ChkP nName nm w)) := fun w => chunk_any nName nm (by omega) w
    have s1 : (strOfNums (encC ⟨nFmt, fmtL n rate⟩)).size ≤ 25 := by rw [strOfNums_size]; have := encC_le ⟨nFmt, fmtL n rate⟩; simp only [hfl] at this; exact this
    have s2 : (strOfNums (encC ⟨nName, nm⟩)).size ≤ 41 := by rw [strOfNums_size]; have := encC_le ⟨nName, nm⟩; simp only at this; omega
    have hbig1 : ¬ 9223372036854775807 < (strOfNums (encC ⟨nFmt, fmtL n rate⟩)).size + (strOfNums (encC ⟨nName, nm⟩)).size := by omega
    clear s1 s2
    have HP1 : Hid (strOfNums (encC ⟨nFmt, fmtL n rate⟩) ++ strOfNums (encC ⟨nName, nm⟩) = strOfNums (pre1 ⟨nm, rate, lp, a, b, d⟩)) := by
      unfold Hid pre1
      rw [strOfNums_append]
      simp only [HDL.out]
    go_upto_region 3 with fail
    go_cut [5] (fun v5 wx => v5 = .string (strOfNums (pre1 ⟨nm, rate, lp, a, b, d⟩)) ∧ ∃ Wx, Wx = wx ∧ Below W.heap.size W Wx)
    case first =>
      go_region_held3 (fun w' => w'.cell? ⟨w.heap.size, 0, none⟩ = some (.string (strOfNums nm))) (go_keep) (first | (go_at_call 8; (first | with_reducible refine (C1.out _).mono ?_ | with_reducible refine (C2.out _).mono ?_); rintro e w2 ⟨rfl, hb2⟩; have hbW := bstep (a := W) (by first | assumption | exact hbx.trans (((Below.refl _ _).drew).mono hbx.size)) hb2; have hy0 := (hbW.block _ (lt_of_block HZ0.out)).trans HZ0.out; obtain ⟨c0, c1, c2, c3, c4, c5⟩ := six_cells hy0))
      go_wp2_with fail
      go_meet
      exact ⟨by rw [HP1.out], _, rfl, by assumption⟩
    case rest =>
      obtain ⟨rfl, wy, rfl, hby⟩ := hcut
      clear c0 c1 c2 c3 c4 c5 hx0 hbx C1 C2 hbig1 HP1
      have hx0 := (hby.block _ (lt_of_block HZ0.out)).trans HZ0.out
      obtain ⟨c0, c1, c2, c3, c4, c5⟩ := six_cells hx0
      have hrl : (ringL a b).length = 8 := by simp [ringL, lowL_len]
      have C3 : Hid (∀ w, Calls Try.prog 8 #[.string (ByteArray.mk #[108, 111, 111, 112]), .string (strOfNums (lowL 4 a) ++ strOfNums (lowL 4 b))] w (ChkP nLoop (ringL a b) w)) := fun w => by
        rw [strOfNums_append]
        exact chunk_any nLoop (ringL a b) (by omega) w
      have s3 : (strOfNums (encC ⟨nLoop, ringL a b⟩)).size ≤ 17 := by rw [strOfNums_size]; have := encC_le ⟨nLoop, ringL a b⟩; simp only [hrl] at this; exact this
      have s4 : (strOfNums (pre1 ⟨nm, rate, lp, a, b, d⟩)).size ≤ 100 := by rw [strOfNums_size]; exact hpre.1
      obtain ⟨PP, hPP⟩ : ∃ PP, PP = pre1 ⟨nm, rate, lp, a, b, d⟩ := ⟨_, rfl⟩
      have HP2 : Hid (pre2 ⟨nm, rate, lp, a, b, d⟩ = PP ++ (if lp then encC ⟨nLoop, ringL a b⟩ else [])) := by unfold Hid pre2; rw [hPP]
      rw [← hPP] at s4 ⊢
      clear hPP
      obtain ⟨QQ, hQQ⟩ : ∃ QQ, QQ = pre2 ⟨nm, rate, lp, a, b, d⟩ := ⟨_, rfl⟩
      have hq := hpre.2
      rw [← hQQ] at hq HP2
      have HQQ := Lib.hid hQQ
      clear hQQ hpre
      go_upto_if 40 with fail
      go_cut [5] (fun v5 wx => v5 = .string (strOfNums QQ) ∧ ∃ Wx, Wx = wx ∧ Below W.heap.size W Wx)
      case first =>
        cases lp with
        | false =>
          have hQ : QQ = PP := by rw [HP2.out]; simp
          go_wp2_with fail
          go_meet
          exact ⟨by rw [hQ], _, rfl, hby⟩
        | true =>
          have HQ : Hid (strOfNums PP ++ strOfNums (encC ⟨nLoop, ringL a b⟩) = strOfNums QQ) := by unfold Hid; rw [HP2.out, strOfNums_append]; simp
          have hbig3 : ¬ 9223372036854775807 < (strOfNums PP).size + (strOfNums (encC ⟨nLoop, ringL a b⟩)).size := by omega
          clear s3 s4
          go_upto_region 5 with fail
          go_region_held3 (fun w' => w'.cell? ⟨w.heap.size, 3, none⟩ = some (.int .i64 a) ∧ w'.cell? ⟨w.heap.size, 4, none⟩ = some (.int .i64 b)) (go_keep) (first | (go_at_call 18; (first | with_reducible refine (L7.out _).mono ?_ | with_reducible refine (L8.out _).mono ?_); rintro e w2 ⟨rfl, hb2⟩; have hbW := bstep (a := W) (by first | assumption | exact hby.trans (((Below.refl _ _).drew).mono hby.size)) hb2; have hy0 := (hbW.block _ (lt_of_block HZ0.out)).trans HZ0.out; obtain ⟨c0, c1, c2, c3, c4, c5⟩ := six_cells hy0) | (go_at_call 8; (with_reducible refine (C3.out _).mono ?_); rintro e w2 ⟨rfl, hb2⟩; have hbW := bstep (a := W) (by assumption) hb2; have hy0 := (hbW.block _ (lt_of_block HZ0.out)).trans HZ0.out; obtain ⟨c0, c1, c2, c3, c4, c5⟩ := six_cells hy0))
          go_wp2_with fail
          go_meet
          exact ⟨by rw [HQ.out], _, rfl, by assumption⟩
      case rest =>
        obtain ⟨rfl, wz, rfl, hbz⟩ := hcut
        clear c0 c1 c2 c3 c4 c5 hx0 hby C3 s3 s4 HP2 L7 L8
        have hgl := HG.out.len
        have hgv := HG.out.v
        have hga := HG.out.all
        simp only at hgv hga
        have HLEN : Hid (∀ w', Below W.heap.size W w' → Calls Try.prog 24 #[.agg #[.string (strOfNums nm), .int .i64 rate, .bool lp, .int .i64 a, .int .i64 b, .slice ao n cap]] w' fun e w2 => e = .returned (.int .i64 (lenS ⟨nm, rate, lp, a, b, d⟩)) ∧ Below w'.heap.size w' w2) := fun w' hb => length_any ⟨nm, rate, lp, a, b, d⟩ ⟨ao, n, cap⟩ w' (HS.out.keep0 hb)
        have hFE := fileL_pre ⟨nm, rate, lp, a, b, d⟩
        rw [← HQQ.out] at hFE
        generalize hN : lenS ⟨nm, rate, lp, a, b, d⟩ = N at *
        have HFE := Lib.hid hFE
        have HGV := Lib.hid hgv
        have HGA := Lib.hid hga
        have HN := Lib.hid hN
        clear hFE hgv hga hN
        go_wp2_with fail
        go_loopw [6, 7] (fun v6 v7 wr => ∃ i : Nat, i ≤ N ∧ v7 = .int .i64 i ∧ v6 = .string (strOfNums (bodyL d i)) ∧ Below W.heap.size W wr) (fun _ v7 _ => (N - (intOf v7).toNat))
        case atStart => exact ⟨0, by omega, rfl, rfl, hbz⟩
        case round =>
          clear hbz
          obtain ⟨i, hi, rfl, rfl, hbi⟩ := hrel
          have hx0 := (hbi.block _ (lt_of_block HZ0.out)).trans HZ0.out
          obtain ⟨c0, c1, c2, c3, c4, c5⟩ := six_cells hx0
          have hbl := body_len d i
          rw [HDL.out] at hbl
          by_cases hlt : i < N
          · go_wp2_with (go_at_call 24; refine (HLEN.out _ hbi).mono ?_; rintro e w2 ⟨rfl, hb2⟩)
            have hb3 := bstep hbi hb2
            have hB0 : Hid (strOfNums (bodyL d i) = strOfNums (bodyL d i ++ (d.take 0).flatMap (fun l => enc2 (l.getD i 0)))) := by unfold Hid; simp
            rw [hB0.out]
            go_loopw [6, 8] (fun v6 v8 wr => ∃ k : Nat, k ≤ n ∧ v8 = .int .i64 k ∧ v6 = .string (strOfNums (bodyL d i ++ (d.take k).flatMap (fun l => enc2 (l.getD i 0)))) ∧ Below W.heap.size W wr) (fun _ v8 _ => (n - (intOf v8).toNat))
            case atStart => exact ⟨0, by omega, rfl, rfl, hb3⟩
            case round =>
              clear c0 c1 c2 c3 c4 c5 hb3 hx0
              obtain ⟨k, hk, rfl, rfl, hbk⟩ := hrel
              have hx0 := (hbk.block _ (lt_of_block HZ0.out)).trans HZ0.out
              obtain ⟨c0, c1, c2, c3, c4, c5⟩ := six_cells hx0
              by_cases hlk : k < n
              · have hRk := HS.out.rows.keep0 hbk
                simp only at hRk
                obtain ⟨p, ro, rn, rc, rfl, hc, hrc, hI⟩ := hRk.cell k hlk
                have hIl : rn = N := by rw [← hI.hlen]; exact HGA.out _ (row_mem (by rw [HDL.out]; exact hlk))
                subst hIl
                obtain ⟨p2, x, rfl, hx, hxc, _, _⟩ := hI.int hlt
                have hxv := HGV.out _ (row_mem (d := d) (k := k) (by rw [HDL.out]; exact hlk)) _ (int_mem (l := d.getD k []) (k := i) (by rw [hI.hlen]; exact hlt))
                rw [hx.out] at hxv
                have hps := part_succ d i k (by rw [HDL.out]; exact hlk)
                rw [hx.out] at hps
                have hpl := part_len d i k (by rw [HDL.out]; exact hk)
                have hsz1 : (strOfNums (bodyL d i ++ (d.take k).flatMap (fun l => enc2 (l.getD i 0)))).size = i * (n * 2) + k * 2 := by rw [strOfNums_size, List.length_append, hbl, hpl]
                have hib : i * (n * 2) ≤ 1048576 * 4 := Nat.mul_le_mul (by omega) (by omega)
                have HE : Hid (strOfNums (bodyL d i ++ (d.take k).flatMap (fun l => enc2 (l.getD i 0))) ++ strOfNums (lowL 2 (x % 65536)) = strOfNums (bodyL d i ++ (d.take (k + 1)).flatMap (fun l => enc2 (l.getD i 0)))) := by
                  unfold Hid
                  rw [strOfNums_append, hps, List.append_assoc]
                  unfold enc2
                  rw [show (x + 65536) % 65536 = x % 65536 by omega]
                have LX := Lib.hid (fun w => ln2 (x % 65536) (by omega) (by omega) w)
                have hbig : ¬ 9223372036854775807 < (strOfNums (bodyL d i ++ (d.take k).flatMap (fun l => enc2 (l.getD i 0)))).size + 2 := by omega
                clear hps hpl hI hRk hx hsz1 hbl hib
                generalize strOfNums (bodyL d i ++ (d.take k).flatMap (fun l => enc2 (l.getD i 0))) = S1 at *
                go_wp2_with (go_at_call 18; (with_reducible refine (LX.out _).mono ?_); rintro e w3 ⟨rfl, hb3⟩)
                refine ⟨⟨k + 1, by omega, by go_num, by rw [HE.out], bstep hbk hb3⟩, ?_⟩
                simp [intOf] <;> omega
              · obtain rfl : k = n := by omega
                have hB1 : Hid (strOfNums (bodyL d i ++ (d.take k).flatMap (fun l => enc2 (l.getD i 0))) = strOfNums (bodyL d (i + 1))) := by
                  unfold Hid
                  rw [bodyL_succ, List.take_of_length_le (by rw [HDL.out]; exact Nat.le_refl _)]
                rw [hB1.out]
                go_wp2_with fail
                refine ⟨⟨i + 1, by omega, by go_num, rfl, hbk⟩, ?_⟩
                simp [intOf] <;> omega
          · obtain rfl : i = N := by omega
            have hib : i * (n * 2) ≤ 1048576 * 4 := Nat.mul_le_mul (by omega) (by omega)
            have C4 : Hid (∀ w, Calls Try.prog 8 #[.string (ByteArray.mk #[100, 97, 116, 97]), .string (strOfNums (bodyL d i))] w (ChkP nData (bodyL d i) w)) := fun w => chunk_any nData (bodyL d i) (by omega) w
            have hel := encC_le ⟨nData, bodyL d i⟩
            simp only [hbl] at hel
            have s5 : (strOfNums (encC ⟨nData, bodyL d i⟩)).size ≤ 5000000 := by rw [strOfNums_size]; omega
            have s6 : (strOfNums QQ).size ≤ 200 := by rw [strOfNums_size]; exact hq
            have hbig4 : ¬ 9223372036854775807 < 4 + (strOfNums QQ).size := by omega
            have hbig5 : ¬ 9223372036854775807 < 4 + (strOfNums QQ).size + (strOfNums (encC ⟨nData, bodyL d i⟩)).size := by omega
            clear s5 s6
            have C5 : Hid (∀ w, Calls Try.prog 8 #[.string (ByteArray.mk #[82, 73, 70, 70]), .string (ByteArray.mk #[87, 65, 86, 69] ++ strOfNums QQ ++ strOfNums (encC ⟨nData, bodyL d i⟩))] w (ChkP nRIFF (nWAVE ++ QQ ++ encC ⟨nData, bodyL d i⟩) w)) := fun w => by
              rw [show ByteArray.mk #[87, 65, 86, 69] = strOfNums nWAVE from rfl, strOfNums_append, strOfNums_append]
              exact chunk_any nRIFF (nWAVE ++ QQ ++ encC ⟨nData, bodyL d i⟩) (by rw [List.length_append, List.length_append]; have : nWAVE.length = 4 := rfl; omega) w
            go_wp2_with (first | (go_at_call 24; refine (HLEN.out _ hbi).mono ?_; rintro e w2 ⟨rfl, hb2⟩; have hb3 := bstep hbi hb2) | (go_at_call 8; (first | with_reducible refine (C4.out _).mono ?_ | with_reducible refine (C5.out _).mono ?_); rintro e w4 ⟨rfl, hb4⟩; replace hb3 := bstep hb3 hb4))
            go_ret
            exact ⟨by rw [HFE.out] <;> rfl, hk0.trans (hb3.mono hk0.size)⟩
end Go.Proofs.Ytpbeehfafbgphaa

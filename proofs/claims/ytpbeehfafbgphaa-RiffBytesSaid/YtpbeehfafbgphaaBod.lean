/- The walk of riff.body. -/
import Derived.Test.YtpbeehfafbgphaaRin
namespace Go.Proofs.Ytpbeehfafbgphaa
open Go Go.RowKit Go.Calli
set_option linter.unusedVariables false
set_option linter.unusedSimpArgs false
attribute [local irreducible] wpStill wpAnyH wpAnyS wpList Code.wp
theorem low_enc (x : Int) : lowL 2 (IntKind.u64.wrap x) = enc2 x := by
  unfold enc2
  rw [IntKind.wrap_u64]
  simp only [lowL, List.cons.injEq, and_true]
  constructor <;> omega
theorem lowx (x : Int) (h : -32768 ≤ x) (h2 : x < 32768) (w : World) : Calls Try.prog 19 #[.int .u64 (IntKind.u64.wrap x), .int .i64 2] w (fun e w' => ∃ b, e = .returned (.slice (some ⟨b, 0, none⟩) 2 2) ∧ Blk .u8 w' b 5 (enc2 x) ∧ Below w.heap.size w w' ∧ w.heap.size ≤ b) := by
  have := low_any (IntKind.u64.wrap x) 2 (by omega) (by rw [IntKind.wrap_u64]; omega) (by rw [IntKind.wrap_u64]; omega) w
  unfold LowPost at this
  rw [low_enc] at this
  exact this
def BodRel (d : List (List Int)) (n N : Nat) (W : World) (v3 v9 : Value) (wr : World) : Prop := ∃ i : Nat, i ≤ N ∧ v9 = .int .i64 i ∧ wr.ownsRow W.heap.size 5 1 v3 (i * (n * 2)) ((bodyL d i).map (Value.int .u8)) ∧ Below W.heap.size W wr
def partL (d : List (List Int)) (i k : Nat) : List Int := bodyL d i ++ (d.take k).flatMap (fun l => enc2 (l.getD i 0))
theorem part0_own {wr : World} {B N i : Nat} {v : Value} {d : List (List Int)} (h : wr.ownsRow B 5 1 v N ((bodyL d i).map (Value.int .u8))) : wr.ownsRow B 5 1 v (N + 0 * 2) ((partL d i 0).map (Value.int .u8)) := by
  unfold partL
  simpa using h
theorem partn_own {wr : World} {B n i : Nat} {v : Value} {d : List (List Int)} (h : wr.ownsRow B 5 1 v (i * (n * 2) + n * 2) ((partL d i n).map (Value.int .u8))) (hd : d.length = n) : wr.ownsRow B 5 1 v ((i + 1) * (n * 2)) ((bodyL d (i + 1)).map (Value.int .u8)) := by
  unfold partL at h
  rw [List.take_of_length_le (by omega)] at h
  rw [bodyL_succ, Nat.add_mul, Nat.one_mul]
  exact h
def BodIn (d : List (List Int)) (n i : Nat) (W : World) (v3 v15 : Value) (wr : World) : Prop := ∃ k : Nat, k ≤ n ∧ v15 = .int .i64 k ∧ wr.ownsRow W.heap.size 5 1 v3 (i * (n * 2) + k * 2) ((partL d i k).map (Value.int .u8)) ∧ Below W.heap.size W wr
set_option maxRecDepth 100000 in
set_option maxHeartbeats 4000000 in
theorem body_any (nm : List Int) (rate : Int) (lp : Bool) (a b : Int) (d : List (List Int)) (so : Option Addr) (n sc : Nat) (w : World) (h : SmIs w ⟨nm, rate, lp, a, b, d⟩ ⟨so, n, sc⟩) (hg : Good ⟨nm, rate, lp, a, b, d⟩) : Calls Try.prog 30 #[.agg #[.string (strOfNums nm), .int .i64 rate, .bool lp, .int .i64 a, .int .i64 b, .slice so n sc]] w (ChkM ⟨nData, bodyL d (lenS ⟨nm, rate, lp, a, b, d⟩)⟩ w) := by
  have hk0 := balloc (below_alloc w (.cells #[.string (strOfNums nm), .int .i64 rate, .bool lp, .int .i64 a, .int .i64 b, .slice so n sc] 37)) (.cells #[.string (ByteArray.mk #[]), .slice none 0 0] 27)
  have hz0 := ((below_alloc (w.alloc (.cells #[.string (strOfNums nm), .int .i64 rate, .bool lp, .int .i64 a, .int .i64 b, .slice so n sc] 37)) (.cells #[.string (ByteArray.mk #[]), .slice none 0 0] 27)).block w.heap.size (by simp)).trans (heap_alloc_new w _)
  have hq0 := heap_alloc_new (w.alloc (.cells #[.string (strOfNums nm), .int .i64 rate, .bool lp, .int .i64 a, .int .i64 b, .slice so n sc] 37)) (.cells #[.string (ByteArray.mk #[]), .slice none 0 0] 27)
  rw [World.size_alloc] at hq0
  have hs := h.keep0 hk0
  have hle : n ≤ sc := h.le
  have hdl : d.length = n := h.rows.hlen
  have hn12 : 1 ≤ n ∧ n ≤ 2 := by have := hg.n; simp only at this; omega
  have hgl := hg.len
  have HGV := Lib.hid hg.v
  have HGA := Lib.hid hg.all
  have HDL := Lib.hid hdl
  clear h hdl
  go_enter Try.func30, Try.ntmps30
  go_upto_region 2 with fail
  generalize (w.alloc (.cells #[.string (strOfNums nm), .int .i64 rate, .bool lp, .int .i64 a, .int .i64 b, .slice so n sc] 37)).alloc (.cells #[.string (ByteArray.mk #[]), .slice none 0 0] 27) = W at *
  obtain ⟨c0, c1, c2, c3, c4, c5⟩ := six_cells hz0
  have HS := Lib.hid hs
  have HZ0 := Lib.hid hz0
  have HQ0 := Lib.hid hq0
  have HLEN : Hid (Calls Try.prog 24 #[.agg #[.string (strOfNums nm), .int .i64 rate, .bool lp, .int .i64 a, .int .i64 b, .slice so n sc]] W fun e w2 => e = .returned (.int .i64 (lenS ⟨nm, rate, lp, a, b, d⟩)) ∧ Below W.heap.size W w2) := by
    have := length_any _ _ W hs
    exact this
  generalize hN : lenS ⟨nm, rate, lp, a, b, d⟩ = N at *
  clear hs hz0 hq0 hg hN
  go_upto_region 3 with (go_at_call 24; refine HLEN.out.mono ?_; rintro e w1 ⟨rfl, hb1⟩)
  clear c0 c1 c2 c3 c4 c5 HLEN
  go_loopw [3, 9] (fun v3 v9 wr => BodRel d n N W v3 v9 wr) (fun _ v9 _ => (N - (intOf v9).toNat))
  case atStart => exact ⟨0, by omega, rfl, by simpa [bodyL] using World.ownsRow_nil w1 W.heap.size 5 1, hb1⟩
  case round =>
    clear hb1
    obtain ⟨i, hi, rfl, hown, hb⟩ := hrel
    by_cases hlt : i < N
    · have hz1 := (hb.block _ (lt_of_block HZ0.out)).trans HZ0.out
      obtain ⟨c0, c1, c2, c3, c4, c5⟩ := six_cells hz1
      have HO0 := Lib.hid (part0_own hown)
      clear hown
      go_upto_region 6 with fail
      clear c0 c1 c2 c3 c4 c5 hz1
      go_loopw [3, 15] (fun v3 v15 wi => BodIn d n i W v3 v15 wi) (fun _ v15 _ => (n - (intOf v15).toNat))
      case atStart => exact ⟨0, by omega, rfl, HO0.out, hb⟩
      case round =>
        clear hb HO0
        obtain ⟨k, hk, rfl, hown, hb⟩ := hrel
        by_cases hlk : k < n
        · have hRk := HS.out.rows.keep0 hb
          simp only at hRk
          obtain ⟨p, ro, rn, rc, rfl, hc, hrc, hI⟩ := hRk.cell k hlk
          have hIl : rn = N := by rw [← hI.hlen]; exact HGA.out _ (row_mem (by rw [HDL.out]; exact hlk))
          subst hIl
          obtain ⟨p2, x, rfl, hx, hxc, _, _⟩ := hI.int hlt
          have hxv := HGV.out _ (row_mem (d := d) (k := k) (by rw [HDL.out]; exact hlk)) _ (int_mem (l := d.getD k []) (k := i) (by rw [hI.hlen]; exact hlt))
          rw [hx.out] at hxv
          have hps := part_succ d i k (by rw [HDL.out]; exact hlk)
          rw [hx.out] at hps
          have hib : i * (n * 2) ≤ 1048576 * 4 := Nat.mul_le_mul (by omega) (by omega)
          have HPS : Hid ((partL d i k).map (Value.int .u8) ++ (enc2 x).map (Value.int .u8) = (partL d i (k + 1)).map (Value.int .u8)) := by
            unfold Hid partL
            rw [hps, ← List.append_assoc, List.map_append (l₂ := enc2 x)]
          have LOW := Lib.hid (fun w => lowx x (by omega) (by omega) w)
          generalize hQ : i * (n * 2) = Q at *
          clear hps hI hRk hx
          go_wp2_with (first | (go_at_call 19; (with_reducible refine (LOW.out _).mono ?_); rintro e w2 ⟨b1, rfl, hB1, hb2, hbb2⟩; have hown2 := own_below0 hown hb2; have hb3 := bstep hb hb2; have hli := hB1.ints 2 (enc2_len _) (by unfold maxLen; omega) (wf_of (lowL_byt 2 _))) | (at_builtin; refine wpList_append_row rfl (.tmp 19) (.tmp 25) 25 5 rfl Try.underlying25 infoByte rfl W.heap.size _ _ _ rfl hown2 (some ⟨b1, 0, none⟩) 2 2 ((enc2 x).map (Value.int .u8)) rfl hli.row (one_ints _ _) hli.nil_len ?_ ?_ ?_ ?_))
          case refine_1 => omega
          case refine_2 => unfold maxLen; omega
          case refine_3 => exact hb3.size
          intro v' w' hown3 hk3
          have hb4 := hb3.trans (owns_below hown2 hk3 hb3.size)
          rw [HPS.out] at hown3
          have HO3 : Hid (BodIn d n i W v' (.int .i64 ((k : Int) + 1)) w') := ⟨k + 1, by omega, by go_num, by rw [hQ, Nat.add_mul, Nat.one_mul, ← Nat.add_assoc]; exact hown3, hb4⟩
          clear hown hown2 hk3 hb3 hb2 hli hB1 hown3
          go_wp2_with fail
          refine ⟨HO3.out, ?_⟩
          simp [intOf]; omega
        · obtain rfl : k = n := by omega
          have HO3 := Lib.hid (partn_own hown HDL.out)
          clear hown
          go_wp2_with fail
          refine ⟨⟨i + 1, by omega, by go_num, HO3.out, hb⟩, ?_⟩
          simp [intOf]; omega
    · obtain rfl : i = N := by omega
      have hq := (hb.block _ (lt_of_block HQ0.out)).trans HQ0.out
      obtain ⟨o3, cp3, rfl, hcp3, hrow3, hl3, hu3, ht3⟩ := own_slice hown
      obtain ⟨q0, q1⟩ := two_cells hq
      obtain ⟨f0, f1⟩ := two_frozen hq
      have hI3 := hrow3.ints hl3 (wf_of (body_byt _ _))
      generalize i * (n * 2) = N2 at *
      have HI := Lib.hid (chk_fin (cp := cp3) hq ht3 hI3 nData (.string (ByteArray.mk #[100, 97, 116, 97])) (.slice o3 N2 cp3))
      have HSS := Lib.hid (two_set hq (.string (ByteArray.mk #[100, 97, 116, 97])) (.slice o3 N2 cp3))
      have HB := Lib.hid (two_below (hk0.trans (hb.mono hk0.size)) (b := w.heap.size + 1) (by omega) (.string (ByteArray.mk #[100, 97, 116, 97])) (.slice o3 N2 cp3))
      clear hI3 hrow3 ht3 hu3 hown
      go_wp2_with fail
      exact bodyPost_ret (results_cell_row rfl _ _ _ _ _ _ _ rfl HSS.out Try.underlying27 rfl info27) rfl ⟨⟨nData, o3, N2, cp3⟩, rfl, ⟨rfl, (byt_of_small (l := nData) (by decide)), hcp3, HI.out.1⟩, HI.out.2, HB.out⟩
end Go.Proofs.Ytpbeehfafbgphaa

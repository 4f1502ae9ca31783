/- The walk of midi.Spans. -/
import Derived.Test.YtmhlmaimmbopfaaLet
namespace Go.Proofs.Ytmhlmaimmbopfaa
open Go Go.RowKit Go.Calli
set_option linter.unusedVariables false
set_option linter.unusedSimpArgs false
attribute [local irreducible] wpStill wpAnyH wpAnyS wpList Code.wp
def spansP (l : List Msg) : List Sp := (runL l).out ++ (sel (runL l).held.length (runL l).held).map (fun s => cls s (runL l).e)
def SpansPost (l : List Sp) (w : World) (e : Ending) (w' : World) : Prop := ∃ ro rn rc, e = .returned (.slice ro rn rc) ∧ rn ≤ rc ∧ Recs valsS 5 sp0 w' ro rn l ∧ Below w.heap.size w w'
def mLen (w : World) (b : Nat) : Nat := match w.cell? ⟨b, 0, none⟩ with
  | some (.slice _ n _) => n
  | _ => 0
theorem step_off {x : St} {m : Msg} (h1 : key m = false) (h2 : on m = false) : stepS x m = ⟨x.held, x.out, mx x.e m.t⟩ := by unfold stepS letS; rw [h1, h2]; rfl
theorem step_let {x : St} {m : Msg} (h1 : key m = true) (h2 : on m = false) : stepS x m = ⟨(letL m x.held).1, x.out ++ (letL m x.held).2, mx x.e m.t⟩ := by unfold stepS letS; rw [h1, h2]; rfl
theorem step_on {x : St} {m : Msg} (h1 : key m = true) (h2 : on m = true) : stepS x m = ⟨(letL m x.held).1 ++ [newS m], x.out ++ (letL m x.held).2, mx x.e m.t⟩ := by unfold stepS letS; rw [h1, h2]; rfl
theorem SpW.low {w : World} {hb ob B : Nat} {hv ov : Value} {held out : List Sp} (h : SpW w hb ob B hv ov held out) (h1 : B ≤ hb) (h2 : B ≤ ob) : ∀ k, k < B → ¬ SpS hb ob hv ov k := by
  rintro k hk (rfl | rfl | e | e)
  · omega
  · omega
  · have := (h.h.lt k e).1; omega
  · have := (h.o.lt k e).1; omega
theorem less_tt {x y : Sp} (h : x.c < y.c) : less x y = true := decide_eq_true (.inl h)
theorem less_ff {x y : Sp} (h : ¬ x.c < y.c) (h2 : ¬ x.c = y.c) : less x y = false := decide_eq_false (fun e => by omega)
theorem less_eq {x y : Sp} (h : x.c = y.c) : less x y = decide (x.q < y.q) := by
  unfold less
  rw [decide_eq_decide]
  omega
theorem lst_succ (l : List Sp) (k : Nat) : lst l (k + 1) = if less (l.getD k sp0) (l.getD (lst l k) sp0) = true then k else lst l k := rfl
theorem sel_succ (l : List Sp) (h : 0 < l.length) (e : Int) : (sel l.length l).map (fun s => cls s e) = cls (l.getD (lst l l.length) sp0) e :: (sel (del l (lst l l.length)).length (del l (lst l l.length))).map (fun s => cls s e) := by
  have hd := del_len l (lst l l.length) ((lst_lt l l.length).2 h)
  obtain ⟨n, hn⟩ : ∃ n, l.length = n + 1 := ⟨l.length - 1, by omega⟩
  have hln : (del l (lst l l.length)).length = n := by omega
  have hne : l ≠ [] := by intro e; rw [e] at h; simp at h
  rw [hln]
  conv => lhs; rw [hn, sel, if_neg hne]
  rfl
def EndRel (B : Nat) (e : Int) (R : List Sp) (w wz : World) : Prop := ∃ (hs os : List Sp) (hv ov : Value), SpW wz B (B + 1) B hv ov hs os ∧ Below B w wz ∧ hs.length + os.length ≤ 900 ∧ Hid (os ++ (sel hs.length hs).map (fun s => cls s e) = R)
theorem below_drewN {B : Nat} {a w : World} (h : Below B a w) (n : Nat) : Below B a (w.drewN n) := ⟨h.os, h.tape, h.output, h.size, h.block⟩
/-- The state of the loop over the messages. -/
def SpRel (B : Nat) (x : St) (w wr : World) : Prop := ∃ hv ov, SpW wr B (B + 1) B hv ov x.held x.out ∧ Below B w wr
set_option maxRecDepth 100000 in
set_option maxHeartbeats 8000000 in
theorem spans_any (ao : Option Addr) (n cap : Nat) (l : List Msg) (hn : n ≤ 900) (w : World) (h : Msgs w ao n l) : Calls Try.prog 13 #[.slice ao n cap] w (SpansPost (spansP l) w) := by
  have hk0 : Below w.heap.size w ((w.alloc (.cells #[.slice none 0 0] 31)).alloc (.cells #[.slice none 0 0] 31)) := balloc (below_alloc w _) _
  have hz0 : ((w.alloc (.cells #[.slice none 0 0] 31)).alloc (.cells #[.slice none 0 0] 31)).heap[w.heap.size]? = some (.cells #[.slice none 0 0] 31 (0, 0)) := ((below_alloc (w.alloc (.cells #[.slice none 0 0] 31)) _).block _ (by simp)).trans (heap_alloc_new _ _)
  have hz1 : ((w.alloc (.cells #[.slice none 0 0] 31)).alloc (.cells #[.slice none 0 0] 31)).heap[w.heap.size + 1]? = some (.cells #[.slice none 0 0] 31 (0, 0)) := by
    have := heap_alloc_new (w.alloc (.cells #[.slice none 0 0] 31)) (.cells #[.slice none 0 0] 31)
    rwa [World.size_alloc] at this
  have HL := Lib.hid h.hlen
  go_enter Try.func13, Try.ntmps13
  go_upto_region 4 with fail
  generalize (w.alloc (.cells #[.slice none 0 0] 31)).alloc (.cells #[.slice none 0 0] 31) = W at *
  have hS0 : SpRel w.heap.size st0 w W := ⟨_, _, ⟨hz0, hz1, OwnsW.nil _ _ _ _, OwnsW.nil _ _ _ _, by omega, (fun k e => by cases e), hk0.size⟩, hk0⟩
  clear hz0 hz1 hk0
  go_wp2_with fail
  go_loopw [5, 16] (fun v5 v16 wr => ∃ (k : Nat) (e : Int), k ≤ n ∧ v16 = .int .i64 k ∧ v5 = .int .i64 e ∧ Hid (e = (runL (l.take k)).e) ∧ SpRel w.heap.size (runL (l.take k)) w wr) (fun _ v16 _ => (n - (intOf v16).toNat))
  case atStart => exact ⟨0, 0, by omega, rfl, rfl, rfl, hS0⟩
  case round =>
    clear hS0
    obtain ⟨k, e, hk, rfl, rfl, he, hv, ov, hs, hb⟩ := hrel
    by_cases hlt : k < n
    · obtain ⟨p, rfl, hcell⟩ := (h.keep0 hb).cell k hlt
      have hst := runL_take l k (by rw [HL.out]; exact hlt)
      have hln := runL_len (l.take k)
      rw [List.length_take] at hln
      generalize l.getD k m0 = m at *
      generalize runL (l.take k) = x at *
      obtain ⟨t, kd, c, a, b⟩ := m
      obtain ⟨q0, q1, q2, q3, q4⟩ := hcell
      have HST := Lib.hid hst
      clear hst
      simp only at q0 q1 q2 q3 q4
      have hm0 : (wr.alloc (.cells #[.int .i64 t, .int .i64 kd, .int .i64 c, .int .i64 a, .int .i64 b] 23)).heap[wr.heap.size]? = some (.cells #[.int .i64 t, .int .i64 kd, .int .i64 c, .int .i64 a, .int .i64 b] 23 (0, 0)) := heap_alloc_new _ _
      have hb1 := hb.alloc (Nat.le_of_lt (lt_of_block hs.bh)) (.cells #[.int .i64 t, .int .i64 kd, .int .i64 c, .int .i64 a, .int .i64 b] 23)
      have hs1 := hs.keep0 (below_alloc wr (.cells #[.int .i64 t, .int .i64 kd, .int .i64 c, .int .i64 a, .int .i64 b] 23))
      go_upto_region 7 with fail
      generalize wr.alloc (.cells #[.int .i64 t, .int .i64 kd, .int .i64 c, .int .i64 a, .int .i64 b] 23) = W1 at *
      obtain ⟨y0, y1, y2, y3, y4⟩ := five_cells hm0
      clear q0 q1 q2 q3 q4
      go_upto_region 8 with fail
      obtain ⟨E, hE⟩ : ∃ E, E = (if e < t then t else e) := ⟨_, rfl⟩
      rw [← hE]
      have HE : Hid (E = mx x.e t) := by unfold Hid; rw [hE, he.out]; rfl
      clear hE
      have hB1 : w.heap.size ≤ W1.heap.size := hs1.B
      have hlh := (letL_len ⟨t, kd, c, a, b⟩ x.held).1
      have HC := Lib.hid (fun W h => let_any w.heap.size (w.heap.size + 1) w.heap.size hv ov x.held x.out ⟨t, kd, c, a, b⟩ (by omega) (by omega) W h)
      by_cases h1 : kd = 128
      · subst h1
        have hst := HST.out.trans (step_let (m := ⟨t, 128, c, a, b⟩) (decide_eq_true (.inl rfl)) (decide_eq_false (fun h => by have := h.1; simp only at this; omega)))
        have HST := Lib.hid hst
        clear hst
        go_wp2_with (go_at_call 20; refine (HC.out _ hs1).mono ?_; rintro ee w2 ⟨rfl, hv2, ov2, hs2, hk2, hn2⟩; obtain ⟨z0, z1, z2, z3, z4⟩ := five_cells (hk2.heap hm0 (hs1.off hm0 (by decide) (by decide))))
        refine ⟨⟨k + 1, E, by omega, by go_num, rfl, by unfold Hid; rw [HST.out]; exact HE.out, hv2, ov2, by rw [HST.out]; exact hs2, hb1.trans (hk2.toBelow hs1.B (hs1.low (Nat.le_refl _) (Nat.le_succ _)))⟩, ?_⟩
        simp [intOf]; omega
      · by_cases h2 : kd = 144
        · subst h2
          by_cases h3 : 0 < b
          · have hst := HST.out.trans (step_on (m := ⟨t, 144, c, a, b⟩) (decide_eq_true (.inr rfl)) (decide_eq_true ⟨rfl, h3⟩))
            have HST := Lib.hid hst
            clear hst
            go_upto_region 11 with (go_at_call 20; refine (HC.out _ hs1).mono ?_; rintro ee w2 ⟨rfl, hv2, ov2, hs2, hk2, hn2⟩; obtain ⟨z0, z1, z2, z3, z4⟩ := five_cells (hk2.heap hm0 (hs1.off hm0 (by decide) (by decide))))
            have hlo := letL_len ⟨t, 144, c, a, b⟩ x.held
            obtain ⟨v3, w3, hrun, hown3, hk3, hn3⟩ := OwnsW.append_rec (P := Try.prog) (w := w2) 31 31 35 5 Try.underlying31 infoSp rfl (by decide) w.heap.size hv2 _ _ hs2.h (valsS (newS ⟨t, 144, c, a, b⟩)) rfl (valsS_one _) (by omega) (by unfold maxLen; omega) hs2.B
            obtain ⟨ro3, rc3, rfl, _⟩ := hown3.form
            obtain ⟨h4, hk4⟩ := hs2.setHeld (own_more hown3) hk3 hn3
            simp only [valsS, newS] at hrun
            have p1 : w2.cell? ⟨w.heap.size, 0, none⟩ = some hv2 := (cell_of_row _ _ _ _ _ _ hs2.bh).trans rfl
            have hbo2 := hk3.heap hs2.bh (fun e => by obtain ⟨cs, hcs⟩ := hs2.h.type e; exact block_ne hcs hs2.bh (by decide) rfl)
            have p2 : w3.cell? ⟨w.heap.size, 0, none⟩ = some hv2 := (cell_of_row _ _ _ _ _ _ hbo2).trans rfl
            have p3 : w3.frozen? ⟨w.heap.size, 0, none⟩ = false := frozen_of_row _ _ _ _ _ hbo2
            have HB3 : Below w.heap.size w (w3.setCell ⟨w.heap.size, 0, none⟩ (.slice ro3 ((letL ⟨t, 144, c, a, b⟩ x.held).1.length + 1) rc3)) := (hb1.trans (hk2.toBelow hs1.B (hs1.low (Nat.le_refl _) (Nat.le_succ _)))).trans (hk4.toBelow hs2.B (hs2.low (Nat.le_refl _) (Nat.le_succ _)))
            have HS3 : Hid (SpW (w3.setCell ⟨w.heap.size, 0, none⟩ (.slice ro3 ((letL ⟨t, 144, c, a, b⟩ x.held).1.length + 1) rc3)) w.heap.size (w.heap.size + 1) w.heap.size (.slice ro3 ((letL ⟨t, 144, c, a, b⟩ x.held).1.length + 1) rc3) ov2 (runL (l.take (k + 1))).held (runL (l.take (k + 1))).out) := by unfold Hid; rw [HST.out]; exact h4
            clear h4 hk4 hown3 hk3 hbo2 hlo
            generalize (letL ⟨t, 144, c, a, b⟩ x.held).1.length = N at *
            go_wp2_with (at_builtin; refine wpList_append_eq rfl (.tmp 44) (.tmp 54) 31 31 rfl rfl rfl hrun ?_)
            refine ⟨⟨k + 1, E, by omega, by go_num, rfl, by unfold Hid; rw [HST.out]; exact HE.out, _, ov2, HS3.out, HB3⟩, ?_⟩
            simp [intOf]; omega
          · have hst := HST.out.trans (step_let (m := ⟨t, 144, c, a, b⟩) (decide_eq_true (.inr rfl)) (decide_eq_false (fun h => h3 h.2)))
            have HST := Lib.hid hst
            clear hst
            go_wp2_with (go_at_call 20; refine (HC.out _ hs1).mono ?_; rintro ee w2 ⟨rfl, hv2, ov2, hs2, hk2, hn2⟩; obtain ⟨z0, z1, z2, z3, z4⟩ := five_cells (hk2.heap hm0 (hs1.off hm0 (by decide) (by decide))))
            refine ⟨⟨k + 1, E, by omega, by go_num, rfl, by unfold Hid; rw [HST.out]; exact HE.out, hv2, ov2, by rw [HST.out]; exact hs2, hb1.trans (hk2.toBelow hs1.B (hs1.low (Nat.le_refl _) (Nat.le_succ _)))⟩, ?_⟩
            simp [intOf]; omega
        · have hst := HST.out.trans (step_off (m := ⟨t, kd, c, a, b⟩) (decide_eq_false (fun h => by simp only at h; omega)) (decide_eq_false (fun h => h2 h.1)))
          have HST := Lib.hid hst
          clear hst
          have g1 : (kd == 128) = false := by simpa using h1
          have g2 : (kd == 144) = false := by simpa using h2
          have g3 : (kd == 128 || kd == 144) = false := by rw [g1, g2]; rfl
          go_wp2_with fail
          refine ⟨⟨k + 1, E, by omega, by go_num, rfl, by unfold Hid; rw [HST.out]; exact HE.out, hv, ov, by rw [HST.out]; exact hs1, hb1⟩, ?_⟩
          simp [intOf]; omega
    · obtain rfl : k = n := by omega
      rw [List.take_of_length_le (by rw [HL.out]; exact Nat.le_refl _)] at hs he
      have hln := runL_len l
      rw [HL.out] at hln
      have hE0 : EndRel w.heap.size e (spansP l) w wr := ⟨_, _, hv, ov, hs, hb, by omega, by unfold Hid; rw [he.out]; rfl⟩
      clear hs he hb hln
      generalize spansP l = R at *
      go_wp2_with fail
      go_loopw [9] (fun v9 wz => EndRel w.heap.size e R w wz) (fun _ wz => mLen wz w.heap.size)
      case atStart => exact hE0
      case round =>
        clear hE0
        obtain ⟨hs, os, hv, ov, hS, hb, hlen, hR⟩ := hrel
        obtain ⟨ho, hc, rfl, hle⟩ := hS.h.form
        generalize wr = wz at *
        have p0 : wz.cell? ⟨w.heap.size, 0, none⟩ = some (.slice ho hs.length hc) := (cell_of_row _ _ _ _ _ _ hS.bh).trans rfl
        by_cases h0 : 0 < hs.length
        · have HM := Lib.hid (show mLen wz w.heap.size = hs.length by unfold mLen; rw [p0])
          rw [HM.out]
          go_upto_region 15 with fail
          go_wp2_with fail
          go_loopw [9, 62] (fun v9 v62 wi => ∃ j q : Nat, j ≤ hs.length ∧ v62 = .int .i64 j ∧ v9 = .int .i64 q ∧ Hid (q = lst hs j) ∧ q < hs.length ∧ Below wz.heap.size wz wi) (fun _ v62 _ => (hs.length - (intOf v62).toNat))
          case atStart => exact ⟨0, 0, by omega, rfl, rfl, rfl, h0, Below.refl _ _⟩
          case round =>
            obtain ⟨j, q, hj, rfl, rfl, hq, hql, hbi⟩ := hrel
            generalize wr = wi at *
            have hSi := hS.keep0 hbi
            obtain ⟨ao', cap', he', _, hRc, hRb⟩ := hSi.h.recs sp0 valsS_len (by decide)
            cases he'
            obtain ⟨p, rfl, hcq⟩ := hRc.cell q hql
            have hpb := hRb p rfl
            have pi : wi.cell? ⟨w.heap.size, 0, none⟩ = some (.slice (some p) hs.length hc) := (cell_of_row _ _ _ _ _ _ hSi.bh).trans rfl
            by_cases hlt : j < hs.length
            · obtain ⟨p', hp', hcj⟩ := hRc.cell j hlt
              cases hp'
              have hls := lst_succ hs j
              rw [← hq.out] at hls
              clear hRc hRb p0
              generalize hs.getD j sp0 = x at *
              generalize hs.getD q sp0 = y at *
              obtain ⟨xc, xq, xf, xt, xh⟩ := x
              obtain ⟨yc, yq, yf, yt, yh⟩ := y
              have a0 : wi.cell? (p.add (j * 5)) = some (.int .i64 xc) := hcj 0 _ rfl
              have a1 : wi.cell? ⟨(p.add (j * 5)).block, (p.add (j * 5)).off + 1, none⟩ = some (.int .i64 xq) := hcj 1 _ rfl
              have a2 : wi.cell? ⟨(p.add (j * 5)).block, (p.add (j * 5)).off + 2, none⟩ = some (.int .i64 xf) := hcj 2 _ rfl
              have a3 : wi.cell? ⟨(p.add (j * 5)).block, (p.add (j * 5)).off + 3, none⟩ = some (.int .i64 xt) := hcj 3 _ rfl
              have a4 : wi.cell? ⟨(p.add (j * 5)).block, (p.add (j * 5)).off + 4, none⟩ = some (.int .i64 xh) := hcj 4 _ rfl
              have b0 : wi.cell? (p.add (q * 5)) = some (.int .i64 yc) := hcq 0 _ rfl
              have b1 : wi.cell? ⟨(p.add (q * 5)).block, (p.add (q * 5)).off + 1, none⟩ = some (.int .i64 yq) := hcq 1 _ rfl
              have HLS := Lib.hid hls
              clear hls hcj hcq
              have hbx := balloc hbi (.cells #[.int .i64 xc, .int .i64 xq, .int .i64 xf, .int .i64 xt, .int .i64 xh] 35)
              have hba := below_alloc wi (.cells #[.int .i64 xc, .int .i64 xq, .int .i64 xf, .int .i64 xt, .int .i64 xh] 35)
              have hx1 : (wi.alloc (.cells #[.int .i64 xc, .int .i64 xq, .int .i64 xf, .int .i64 xt, .int .i64 xh] 35)).heap[wi.heap.size]? = some (.cells #[.int .i64 xc, .int .i64 xq, .int .i64 xf, .int .i64 xt, .int .i64 xh] 35 (0, 0)) := heap_alloc_new _ _
              replace b0 := (hba.cell (World.block_lt_of_cell? wi _ b0)).trans b0
              replace b1 := (hba.cell (World.block_lt_of_cell? wi _ b1)).trans b1
              have pi2 := (hba.cell (World.block_lt_of_cell? wi _ pi)).trans pi
              go_upto_region 18 with fail
              generalize wi.alloc (.cells #[.int .i64 xc, .int .i64 xq, .int .i64 xf, .int .i64 xt, .int .i64 xh] 35) = W2 at *
              clear a0 a1 a2 a3 a4 pi hSi hS hbi hba h
              obtain ⟨y0, y1, y2, y3, y4⟩ := five_cells hx1
              clear hx1 y2 y3 y4
              by_cases h1 : xc < yc
              · have hd : decide (xc < yc) = true := decide_eq_true h1
                go_quiet (fail)
                go_wp2_with fail
                refine ⟨⟨j + 1, j, by omega, by go_num, rfl, by unfold Hid; rw [HLS.out, if_pos (less_tt h1)], hlt, below_drewN hbx _⟩, ?_⟩
                simp [intOf]; omega
              · by_cases h2 : xc = yc
                · subst h2
                  by_cases h3 : xq < yq
                  · have hd0 : decide (xc < xc) = false := decide_eq_false h1
                    have hd : decide (xq < yq) = true := decide_eq_true h3
                    go_quiet (fail)
                    go_wp2_with fail
                    refine ⟨⟨j + 1, j, by omega, by go_num, rfl, by unfold Hid; rw [HLS.out, less_eq (x := ⟨xc, xq, xf, xt, xh⟩) (y := ⟨xc, yq, yf, yt, yh⟩) rfl, if_pos hd], hlt, below_drewN hbx _⟩, ?_⟩
                    simp [intOf]; omega
                  · have hd0 : decide (xc < xc) = false := decide_eq_false h1
                    have hd : decide (xq < yq) = false := decide_eq_false h3
                    go_quiet (fail)
                    go_wp2_with fail
                    refine ⟨⟨j + 1, q, by omega, by go_num, rfl, by unfold Hid; rw [HLS.out, less_eq (x := ⟨xc, xq, xf, xt, xh⟩) (y := ⟨xc, yq, yf, yt, yh⟩) rfl, if_neg (by rw [hd]; decide)], hql, below_drewN hbx _⟩, ?_⟩
                    simp [intOf]; omega
                · have hd0 : decide (xc < yc) = false := decide_eq_false h1
                  have hd : decide (xc = yc) = false := decide_eq_false h2
                  have hd2 : (xc == yc) = false := by simpa using h2
                  go_quiet (fail)
                  go_wp2_with fail
                  refine ⟨⟨j + 1, q, by omega, by go_num, rfl, by unfold Hid; rw [HLS.out, less_ff h1 h2, if_neg (by decide)], hql, below_drewN hbx _⟩, ?_⟩
                  simp [intOf]; omega
            · obtain rfl : j = hs.length := by omega
              have hsel := sel_succ hs h0 e
              rw [← hq.out] at hsel
              have hdl := del_len hs q hql
              clear p0 h
              have hHS := Lib.hid hRc
              clear hRc hRb
              generalize hy : hs.getD q sp0 = y at *
              obtain ⟨yc, yq, yf, yt, yh⟩ := y
              have b0 : wi.cell? (p.add (q * 5)) = some (.int .i64 yc) := hcq 0 _ rfl
              have b1 : wi.cell? ⟨(p.add (q * 5)).block, (p.add (q * 5)).off + 1, none⟩ = some (.int .i64 yq) := hcq 1 _ rfl
              have b2 : wi.cell? ⟨(p.add (q * 5)).block, (p.add (q * 5)).off + 2, none⟩ = some (.int .i64 yf) := hcq 2 _ rfl
              have b3 : wi.cell? ⟨(p.add (q * 5)).block, (p.add (q * 5)).off + 3, none⟩ = some (.int .i64 yt) := hcq 3 _ rfl
              have b4 : wi.cell? ⟨(p.add (q * 5)).block, (p.add (q * 5)).off + 4, none⟩ = some (.int .i64 yh) := hcq 4 _ rfl
              have HSEL := Lib.hid hsel
              clear hsel hcq hy hHS
              have hb1 := hb.trans (hbi.mono hS.B)
              have hx2 : (wi.alloc (.cells #[.int .i64 yc, .int .i64 yq, .int .i64 yf, .int .i64 yt, .int .i64 yh] 35)).heap[wi.heap.size]? = some (.cells #[.int .i64 yc, .int .i64 yq, .int .i64 yf, .int .i64 yt, .int .i64 yh] 35 (0, 0)) := heap_alloc_new _ _
              have hba := below_alloc wi (.cells #[.int .i64 yc, .int .i64 yq, .int .i64 yf, .int .i64 yt, .int .i64 yh] 35)
              have hb2 := hb1.trans (hba.mono hSi.B)
              have h2 := hSi.keep0 hba
              go_upto_region 22 with fail
              generalize wi.alloc (.cells #[.int .i64 yc, .int .i64 yq, .int .i64 yf, .int .i64 yt, .int .i64 yh] 35) = W2 at *
              clear b0 b1 b2 b3 b4 pi hS hbi hba hb1 hb
              obtain ⟨y0, y1, y2, y3, y4⟩ := five_cells hx2
              have fz : W2.frozen? ⟨wi.heap.size, 3, none⟩ = false := frozen_of_row _ _ _ _ _ hx2
              go_upto_region 23 with fail
              have hS3 : Keeps (fun b => b = wi.heap.size) W2 (W2.setCell ⟨wi.heap.size, 3, none⟩ (.int .i64 e)) := (Keeps.refl (fun b => b = wi.heap.size) W2).setCell (p := ⟨wi.heap.size, 3, none⟩) (.inr rfl) _
              have h3 := h2.kept hS3 (fun k hk e => hSi.offNew (Nat.le_of_eq e.symm) hk)
              have hx3 : (W2.setCell ⟨wi.heap.size, 3, none⟩ (.int .i64 e)).heap[wi.heap.size]? = some (.cells #[.int .i64 yc, .int .i64 yq, .int .i64 yf, .int .i64 e, .int .i64 yh] 35 (0, 0)) := heap_setCell_same _ _ _ _ _ _ hx2
              have hb3 : Below w.heap.size w (W2.setCell ⟨wi.heap.size, 3, none⟩ (.int .i64 e)) := hb2.setCell (p := ⟨wi.heap.size, 3, none⟩) hSi.B _
              clear y0 y1 y2 y3 y4 hx2 fz hS3 h2 hb2
              generalize W2.setCell ⟨wi.heap.size, 3, none⟩ (.int .i64 e) = W3 at *
              obtain ⟨v2, w2, hrun, hown2, hk2, hn2⟩ := OwnsW.append_rec (P := Try.prog) (w := W3) 31 31 35 5 Try.underlying31 infoSp rfl (by decide) w.heap.size ov os.length _ h3.o (valsS (cls ⟨yc, yq, yf, yt, yh⟩ e)) rfl (valsS_one _) (by omega) (by unfold maxLen; omega) h3.B
              obtain ⟨ro2, rc2, rfl, _⟩ := hown2.form
              obtain ⟨h4, hk4⟩ := h3.setOut (own_more hown2) hk2 hn2
              have hb4 := hb3.trans (hk4.toBelow h3.B (h3.low (Nat.le_refl _) (Nat.le_succ _)))
              simp only [valsS, cls] at hrun
              obtain ⟨y0, y1, y2, y3, y4⟩ := five_cells hx3
              have p1 : W3.cell? ⟨w.heap.size + 1, 0, none⟩ = some ov := (cell_of_row _ _ _ _ _ _ h3.bo).trans rfl
              have hbo2 := hk2.heap h3.bo (fun e => by obtain ⟨cs, hcs⟩ := h3.o.type e; exact block_ne hcs h3.bo (by decide) rfl)
              have p2 : w2.cell? ⟨w.heap.size + 1, 0, none⟩ = some ov := (cell_of_row _ _ _ _ _ _ hbo2).trans rfl
              have p3 : w2.frozen? ⟨w.heap.size + 1, 0, none⟩ = false := frozen_of_row _ _ _ _ _ hbo2
              go_upto_region 24 with (at_builtin; refine wpList_append_eq rfl (.tmp 103) (.tmp 105) 31 31 rfl rfl rfl hrun ?_)
              clear y0 y1 y2 y3 y4 p1 p2 p3 hrun hown2 hk2 hbo2 hx3
              generalize w2.setCell ⟨w.heap.size + 1, 0, none⟩ (.slice ro2 (os.length + 1) rc2) = W4 at *
              have hl5 : hs.length - 1 = (del hs q).length := by omega
              obtain ⟨v5, w5, hrun, hown5, hk5, hn5⟩ := OwnsW.del_at (P := Try.prog) (w := W4.drew) 31 31 35 5 Try.underlying31 infoSp rfl (by decide) valsS_len valsS_one w.heap.size p hpb.2.1 hpb.2.2.1 hs.length hc hs (h4.keep0 (Below.refl _ _).drew).h q hql (by omega) h4.B
              rw [hl5] at hown5
              obtain ⟨ro5, rc5, rfl, _⟩ := hown5.form
              have hob5 : p.block ≠ w.heap.size := fun e => by obtain ⟨cs, hcs⟩ := h4.h.type hpb.2.2.2; exact block_ne hcs (e ▸ h4.bh) (by decide) rfl
              have hbh5 := hk5.heap (w := W4.drew) h4.bh (fun e => hob5 e.symm)
              obtain ⟨h6, hk6⟩ := h4.setHeld (w := W4) (held2 := del hs q) hown5 ⟨hk5.os, hk5.tape, hk5.output, hk5.size, fun k hk hn => hk5.block k hk (fun e => hn (by rw [e]; exact hpb.2.2.2))⟩ (fun k hk => by
                rcases hn5 k hk with e | e
                · exact .inl (by rw [e]; exact hpb.2.2.2)
                · exact .inr (Nat.le_of_eq e.symm))
              have hb6 := hb4.trans (hk6.toBelow h4.B (h4.low (Nat.le_refl _) (Nat.le_succ _)))
              have HE : Hid (EndRel w.heap.size e R w (w5.setCell ⟨w.heap.size, 0, none⟩ (.slice ro5 (del hs q).length rc5))) := by
                refine ⟨_, _, _, _, h6, hb6, by rw [List.length_append, List.length_singleton]; omega, ?_⟩
                unfold Hid
                rw [← hR.out, HSEL.out, List.append_assoc]
                rfl
              have HME : Hid (mLen (w5.setCell ⟨w.heap.size, 0, none⟩ (.slice ro5 (del hs q).length rc5)) w.heap.size < hs.length) := by
                have := (cell_of_row _ _ 0 _ _ _ h6.bh).trans rfl
                unfold Hid mLen
                rw [this]
                simp only [List.getElem?_toArray, List.getElem?_cons_zero]
                omega
              have p1 : W4.cell? ⟨w.heap.size, 0, none⟩ = some (.slice (some p) hs.length hc) := (cell_of_row _ _ _ _ _ _ h4.bh).trans rfl
              have p2 : w5.cell? ⟨w.heap.size, 0, none⟩ = some (.slice (some p) hs.length hc) := (cell_of_row _ _ _ _ _ _ hbh5).trans rfl
              have p3 : w5.frozen? ⟨w.heap.size, 0, none⟩ = false := frozen_of_row _ _ _ _ _ hbh5
              have hw : IntKind.i64.wrap ((q : Int) + 1) = (q : Int) + 1 := IntWalk.i64_in _ (by omega)
              have hkc : q ≤ hc := by omega
              have hkl : (0 : Int) ≤ (q : Int) + 1 ∧ (q : Int) + 1 ≤ (hs.length : Int) := by omega
              go_still_tail 8, (by kernel_rfl)
              repeat still_step
              try refine wpStill_nil ?_
              change wpList _ _ _ _ _ W4.drew
              clear hown5 h6 hk6 hk5 hl5 hdl
              generalize (del hs q).length = N at *
              generalize (if hc = q + 1 then some p else some (p.add ((q + 1) * 5))) = ad at *
              refine wpList_append_eq rfl (.tmp 110) (.tmp 114) 31 31 rfl rfl rfl hrun ?_
              go_wp2_with fail
              exact ⟨HE.out, HME.out⟩
        · have hnil : hs = [] := List.eq_nil_of_length_eq_zero (by omega)
          subst hnil
          rw [List.length_nil, sel_nil, List.map_nil, List.append_nil] at hR
          obtain ⟨oo, oc, rfl, hoc, hoR, _⟩ := hS.o.recs sp0 valsS_len (by decide)
          have p1 : wz.cell? ⟨w.heap.size + 1, 0, none⟩ = some (.slice oo os.length oc) := (cell_of_row _ _ _ _ _ _ hS.bo).trans rfl
          have HOR : Hid (Recs valsS 5 sp0 wz oo os.length R) := by unfold Hid; rw [← hR.out]; exact hoR
          clear hoR
          go_wp2_with fail
          go_ret
          exact ⟨_, _, _, rfl, hoc, HOR.out, hb⟩
end Go.Proofs.Ytmhlmaimmbopfaa

/- The statement MidiReads: what is read as messages. -/
import Derived.Test.YtmhlmaimmbopfaaMby
namespace Go.Proofs.Ytmhlmaimmbopfaa
open Go Go.RowKit Go.Calli
set_option linter.unusedVariables false
set_option linter.unusedSimpArgs false
attribute [local irreducible] wpStill wpAnyH wpAnyS wpList Code.wp
theorem goodL_at {l : List Msg} (h : GoodL 0 l) (k : Nat) (hk : k < l.length) : (l.getD k m0).ok = true ∧ (0 < k → (l.getD (k - 1) m0).t ≤ (l.getD k m0).t) := by
  have hg := (good_list l).2 h k hk
  refine ⟨hg.1, fun h0 => ?_⟩
  have := hg.2
  obtain ⟨j, rfl⟩ : ∃ j, k = j + 1 := ⟨k - 1, by omega⟩
  exact this
set_option maxRecDepth 100000 in
set_option maxHeartbeats 16000000 in
theorem midiReads_zero (bo ao : Option Addr) (n0 kap m0' cap : Nat) (bs0 : List Int) (l0 : List Msg) (HZ : Hid (∀ E xs, decL (min n0 200) 0 0 (bs0.take (min n0 200)) = (E, xs) → E = 0)) (hb0 : n0 ≤ kap) (hc : m0' ≤ cap) (w : World) (hB0 : Ints .u8 w bo n0 bs0) (h0 : Msgs w ao m0' l0) : Calls Try.prog 6 #[.slice bo n0 kap, .slice ao m0' cap] w (TruePost w) := by
  have hlim := hB0.lim
  unfold maxLen at hlim
  go_enter Try.func6, Try.ntmps6
  go_upto_if 12 with fail
  go_cut [0] (fun v wx => ∃ n, v = .slice bo n kap ∧ Hid (n = min n0 200) ∧ w = wx)
  case first =>
    by_cases hgt : 200 < n0
    · obtain ⟨a, rfl, -⟩ := hB0.some (by omega)
      go_wp2_with fail
      all_goals go_meet
      all_goals exact ⟨200, rfl, by unfold Hid; omega, rfl⟩
    · go_wp2_with fail
      go_meet
      exact ⟨n0, rfl, by unfold Hid; omega, rfl⟩
  case rest =>
  obtain ⟨n, rfl, hn0, rfl⟩ := hcut
  have hn : n ≤ 200 := by have := hn0.out; omega
  have HZ2 : Hid (∀ E xs, decL n 0 0 (bs0.take n) = (E, xs) → E = 0) := by rw [hn0.out]; exact HZ
  have hB : Ints .u8 w bo n (bs0.take n) := hB0.take (by have := hn0.out; omega)
  generalize bs0.take n = bs at hB HZ2
  clear hB0 hn0 hb0 hlim HZ
  go_upto_region 4 with (go_at_call 12; refine (few_any ao m0' cap l0 hc w h0).mono ?_; rintro e w1 ⟨k, rfl, hk, hk40, hkcap, rfl⟩)
  have h : Msgs w ao k (l0.take k) := h0.take (by have := hk.out; omega)
  generalize l0.take k = l at h
  clear h0 hk
  have hdb := fun xs (hd : decL n 0 0 bs = (0, xs)) => dec_back n 0 0 bs xs (by rw [hB.hlen]; exact Nat.le_refl _) (by have := bytes8_drop hB 0; simpa using this) (by omega) ⟨by omega, by omega⟩ hd
  have hde := decL_err n 0 0 bs
  have hrd := read_any bo n kap bs (by omega) w hB
  rcases hd : decL n 0 0 bs with ⟨E, xs⟩
  have hE := HZ2.out E xs hd
  unfold ReadPost at hrd
  rw [hd] at hrd hde
  simp only at hrd hde
  have HDB := Lib.hid hdb
  have HD := Lib.hid hd
  clear hdb hd HZ2
  go_upto_region 5 with (go_at_call 16; refine hrd.mono ?_; rintro e w1 ⟨xo, xn, xc, rfl, hxc, hx0, hx1, hb1⟩)
  have hB1 := hB.keep0 hb1
  have hl1 := h.keep0 hb1
  have HBw := Lib.hid hB.wf
  clear hrd
  subst hE
  obtain ⟨hxn, hX⟩ := hx1 rfl
  obtain ⟨henc, hgl⟩ := HDB.out xs HD.out
  have HENC := Lib.hid henc
  have HGL := Lib.hid hgl
  have hxl := Lib.hid hX.hlen
  clear henc hgl hx0 hx1 hde hB h hl1
  go_wp2_with fail
  go_loopw [9] (fun v9 wr => ∃ q : Nat, q ≤ xn ∧ v9 = .int .i64 q ∧ Below w1.heap.size w1 wr) (fun v9 _ => (xn - (intOf v9).toNat))
  case atStart => exact ⟨0, by omega, rfl, Below.refl _ _⟩
  case round =>
    obtain ⟨q, hq, rfl, hbq⟩ := hrel
    by_cases hql : q < xn
    · obtain ⟨xa, rfl, hAt⟩ := (hX.keep0 hbq).cell q hql
      have hgq := goodL_at HGL.out q (by rw [hxl.out]; exact hql)
      have hR := Lib.hid (fun w => lright_any (xs.getD q m0).t (xs.getD q m0).k (xs.getD q m0).c (xs.getD q m0).a (xs.getD q m0).b w)
      have hprev : 0 < q → At5 wr (xa.add ((q - 1) * 5)) (xs.getD (q - 1) m0) := fun h0 => by
        obtain ⟨xa', ha', h2⟩ := (hX.keep0 hbq).cell (q - 1) (by omega)
        cases ha'; exact h2
      generalize xs.getD q m0 = m at *
      generalize xs.getD (q - 1) m0 = mp at *
      have HOK := Lib.hid (show rightB m.t m.k m.c m.a m.b = true from hgq.1)
      have HGT := Lib.hid hgq.2
      have HPR := Lib.hid hprev
      have HAT := Lib.hid hAt
      obtain ⟨q0, q1, q2, q3, q4⟩ := hAt
      have hqz : (0 : Int) ≤ (q : Int) := by omega
      have hqx : (q : Int) < (xn : Int) := by omega
      clear hgq hprev
      go_upto_region 11 with fail
      go_cut [88] (fun v wx => v = .bool false ∧ Below wr.heap.size wr wx)
      case first =>
        by_cases h0 : q = 0
        · subst h0
          have hx00 : xa.add (0 * 5) = xa := by (cases xa; simp [Addr.add])
          rw [hx00] at q0 q1 q2 q3 q4 HAT
          refine wp_region_noPanic ?_
          refine wp_region_held_drew (S := fun w' => w'.cell? xa = some (.int .i64 m.t) ∧ w'.cell? ⟨xa.block, xa.off + 1, none⟩ = some (.int .i64 m.k) ∧ w'.cell? ⟨xa.block, xa.off + 2, none⟩ = some (.int .i64 m.c) ∧ w'.cell? ⟨xa.block, xa.off + 3, none⟩ = some (.int .i64 m.a) ∧ w'.cell? ⟨xa.block, xa.off + 4, none⟩ = some (.int .i64 m.b)) (by kernel_rfl) ?_ (fun hHeld => ?_)
          · exact ⟨q0, q1, q2, q3, q4⟩
          refine wpAnyH_take (i := 0) (v := ?_) rfl (by kernel_rfl) (by kernel_rfl) (by kernel_rfl) (fun _ _ _ h => h) (Or.inl ⟨by kernel_rfl, ?_⟩) (by assumption) ?_
          rotate_left
          · (intro w hSw; (try dsimp only at hSw); go_simp; try with_reducible rfl)
          try simp only [Act.put, List.setIfInBounds_toArray, List.set_cons_zero, List.set_cons_succ]
          refine wpAnyH_take (i := 1) (v := ?_) rfl (by kernel_rfl) (by kernel_rfl) (by kernel_rfl) (fun _ _ _ h => h) (Or.inl ⟨by kernel_rfl, ?_⟩) (by assumption) ?_
          rotate_left
          · (intro w hSw; (try dsimp only at hSw); go_simp; try with_reducible rfl)
          try simp only [Act.put, List.setIfInBounds_toArray, List.set_cons_zero, List.set_cons_succ]
          refine wpAnyH_take (i := 2) (v := ?_) rfl (by kernel_rfl) (by kernel_rfl) (by kernel_rfl) (fun _ _ _ h => h) (Or.inl ⟨by kernel_rfl, ?_⟩) (by assumption) ?_
          rotate_left
          · (intro w hSw; (try dsimp only at hSw); go_simp; try with_reducible rfl)
          try simp only [Act.put, List.setIfInBounds_toArray, List.set_cons_zero, List.set_cons_succ]
          refine wpAnyH_take (i := 3) (v := ?_) rfl (by kernel_rfl) (by kernel_rfl) (by kernel_rfl) (fun _ _ _ h => h) (Or.inl ⟨by kernel_rfl, ?_⟩) (by assumption) ?_
          rotate_left
          · (intro w hSw; (try dsimp only at hSw); go_simp; try with_reducible rfl)
          try simp only [Act.put, List.setIfInBounds_toArray, List.set_cons_zero, List.set_cons_succ]
          refine wpAnyH_ready (rs := [4]) (by kernel_rfl) (by simp) ?_
          refine AllReadyH.cons rfl (fun K hK => ?_) AllReadyH.nil
          go_simp
          refine (hR.out _).mono ?_; rintro e w2 ⟨rfl, hb2⟩; rw [HOK.out]; have hAd : At5 wr.drew xa m := HAT.out.keep0 ((Below.refl _ _).drew); have hA2 := hAd.keep0 hb2; obtain ⟨r0, r1, r2, r3, r4⟩ := hA2
          refine hK.out _ _ ?_ (fun hHeld => ?_)
          · (try dsimp only); exact ⟨r0, r1, r2, r3, r4⟩
          clear hK K
          try simp only [Act.put, List.setIfInBounds_toArray, List.set_cons_zero, List.set_cons_succ]
          refine wpAnyH_rest 5 (by kernel_rfl) (by kernel_rfl) (by kernel_rfl) hHeld ?_
          simp only [List.drop_succ_cons, List.drop_zero]
          repeat (refine no_implicit_lambda% (wpStill_step (fun K hK => ?_)); go_simp; refine hK _ ?_; clear hK K)
          refine wpStill_nil ?_
          refine NoPanic.normal ?_
          go_wp2_with fail
          go_meet
          exact ⟨by simp, ((Below.refl _ _).drew).trans hb2⟩
        · obtain ⟨r, hr⟩ : ∃ r, r = q - 1 := ⟨q - 1, rfl⟩
          have hr1 : (0 : Int) < (q : Int) := by omega
          have HGT2 := Lib.hid (show mp.t ≤ m.t from HGT.out (by omega))
          have HPR2 := Lib.hid (show At5 wr (xa.add (r * 5)) mp from by rw [hr]; exact HPR.out (by omega))
          have hr1n : 0 < q := by omega
          have hrxn : r < xn := by omega
          have hr0 : (0 : Int) ≤ (r : Int) := by omega
          have hrx : (r : Int) < (xn : Int) := by omega
          have hwr : IntKind.i64.wrap ((q : Int) - 1) = (r : Int) := by rw [IntWalk.i64_in] <;> omega
          clear hr HGT HPR
          refine wp_region_noPanic ?_
          refine wp_region_held_drew (S := fun w' => w'.cell? (xa.add (q * 5)) = some (.int .i64 m.t) ∧ w'.cell? ⟨(xa.add (q * 5)).block, (xa.add (q * 5)).off + 1, none⟩ = some (.int .i64 m.k) ∧ w'.cell? ⟨(xa.add (q * 5)).block, (xa.add (q * 5)).off + 2, none⟩ = some (.int .i64 m.c) ∧ w'.cell? ⟨(xa.add (q * 5)).block, (xa.add (q * 5)).off + 3, none⟩ = some (.int .i64 m.a) ∧ w'.cell? ⟨(xa.add (q * 5)).block, (xa.add (q * 5)).off + 4, none⟩ = some (.int .i64 m.b)) (by kernel_rfl) ?_ (fun hHeld => ?_)
          · exact ⟨q0, q1, q2, q3, q4⟩
          refine wpAnyH_take (i := 0) (v := ?_) rfl (by kernel_rfl) (by kernel_rfl) (by kernel_rfl) (fun _ _ _ h => h) (Or.inl ⟨by kernel_rfl, ?_⟩) (by assumption) ?_
          rotate_left
          · (intro w hSw; (try dsimp only at hSw); go_simp; try with_reducible rfl)
          try simp only [Act.put, List.setIfInBounds_toArray, List.set_cons_zero, List.set_cons_succ]
          refine wpAnyH_take (i := 1) (v := ?_) rfl (by kernel_rfl) (by kernel_rfl) (by kernel_rfl) (fun _ _ _ h => h) (Or.inl ⟨by kernel_rfl, ?_⟩) (by assumption) ?_
          rotate_left
          · (intro w hSw; (try dsimp only at hSw); go_simp; try with_reducible rfl)
          try simp only [Act.put, List.setIfInBounds_toArray, List.set_cons_zero, List.set_cons_succ]
          refine wpAnyH_take (i := 2) (v := ?_) rfl (by kernel_rfl) (by kernel_rfl) (by kernel_rfl) (fun _ _ _ h => h) (Or.inl ⟨by kernel_rfl, ?_⟩) (by assumption) ?_
          rotate_left
          · (intro w hSw; (try dsimp only at hSw); go_simp; try with_reducible rfl)
          try simp only [Act.put, List.setIfInBounds_toArray, List.set_cons_zero, List.set_cons_succ]
          refine wpAnyH_take (i := 3) (v := ?_) rfl (by kernel_rfl) (by kernel_rfl) (by kernel_rfl) (fun _ _ _ h => h) (Or.inl ⟨by kernel_rfl, ?_⟩) (by assumption) ?_
          rotate_left
          · (intro w hSw; (try dsimp only at hSw); go_simp; try with_reducible rfl)
          try simp only [Act.put, List.setIfInBounds_toArray, List.set_cons_zero, List.set_cons_succ]
          refine wpAnyH_ready (rs := [4]) (by kernel_rfl) (by simp) ?_
          refine AllReadyH.cons rfl (fun K hK => ?_) AllReadyH.nil
          go_simp
          refine (hR.out _).mono ?_; rintro e w2 ⟨rfl, hb2⟩; rw [HOK.out]; have hAd : At5 wr.drew (xa.add (q * 5)) m := HAT.out.keep0 ((Below.refl _ _).drew); have hA2 := hAd.keep0 hb2; obtain ⟨r0, r1, r2, r3, r4⟩ := hA2; have hp2 : At5 w2 (xa.add (r * 5)) mp := (HPR2.out.keep0 ((Below.refl _ _).drew)).keep0 hb2; obtain ⟨p0, p1, p2, p3, p4⟩ := hp2; have hle := HGT2.out
          refine hK.out _ _ ?_ (fun hHeld => ?_)
          · (try dsimp only); exact ⟨r0, r1, r2, r3, r4⟩
          clear hK K
          try simp only [Act.put, List.setIfInBounds_toArray, List.set_cons_zero, List.set_cons_succ]
          refine wpAnyH_rest 5 (by kernel_rfl) (by kernel_rfl) (by kernel_rfl) hHeld ?_
          simp only [List.drop_succ_cons, List.drop_zero]
          repeat (refine no_implicit_lambda% (wpStill_step (fun K hK => ?_)); go_simp; refine hK _ ?_; clear hK K)
          refine wpStill_nil ?_
          refine NoPanic.normal ?_
          go_wp2_with fail
          go_meet
          exact ⟨by simp; omega, ((Below.refl _ _).drew).trans hb2⟩
      case rest =>
        obtain ⟨rfl, hbx⟩ := hcut
        go_wp2_with fail
        go_roundw
        case rel => exact ⟨q + 1, by omega, by go_num, bstep hbq hbx⟩
        case measure => simp [intOf]; omega
    · obtain rfl : q = xn := by omega
      have HOUT : Hid (out xs q = bs) := by unfold Hid; rw [HENC.out, ← out_all, hxl.out]
      have hgood : Good xs q := by have := (good_list xs).2 HGL.out; rw [hxl.out] at this; exact this
      have hd : Below wr.heap.size wr wr.drew := (Below.refl _ _).drew
      have HBd := Lib.hid ((hB1.keep0 hbq).keep0 hd)
      have HMd := Lib.hid ((hX.keep0 hbq).keep0 hd)
      have HLB := Lib.hid (fun w (h : Msgs w xo q xs) => lbytes_any xo q xc xs (by omega) w h hgood)
      have hcv := conv_ints (P := Try.prog) HBd.out 24 5 9 kap rfl rfl rfl
      clear hX hB1 hgood
      go_upto_region 13 with fail
      refine wp_region_noPanic ?_
      refine wp_region_held_drew (S := fun w' => (convert 24 9 (.slice bo n kap)).run Try.prog w' = .ok (.string (strOfNums bs)) w') (by kernel_rfl) ?_ (fun hHeld => ?_)
      · exact hcv
      refine wpAnyH_take (i := 0) (v := ?_) rfl (by kernel_rfl) (by kernel_rfl) (by kernel_rfl) (fun _ _ _ h => h) (Or.inl ⟨by kernel_rfl, ?_⟩) (by assumption) ?_
      rotate_left
      · (intro w hSw; (try dsimp only at hSw); go_simp; try with_reducible rfl)
      try simp only [Act.put, List.setIfInBounds_toArray, List.set_cons_zero, List.set_cons_succ]
      refine wpAnyH_take (i := 3) (v := ?_) rfl (by kernel_rfl) (by kernel_rfl) (by kernel_rfl) (fun _ _ _ h => h) (Or.inl ⟨by kernel_rfl, ?_⟩) (by assumption) ?_
      rotate_left
      · (intro w hSw; (try dsimp only at hSw); go_simp; try with_reducible rfl)
      try simp only [Act.put, List.setIfInBounds_toArray, List.set_cons_zero, List.set_cons_succ]
      refine wpAnyH_take (i := 4) (v := ?_) rfl (by kernel_rfl) (by kernel_rfl) (by kernel_rfl) (fun _ _ _ h => h) (Or.inl ⟨by kernel_rfl, ?_⟩) (by assumption) ?_
      rotate_left
      · (intro w hSw; (try dsimp only at hSw); go_simp; try with_reducible rfl)
      try simp only [Act.put, List.setIfInBounds_toArray, List.set_cons_zero, List.set_cons_succ]
      refine wpAnyH_ready (rs := [1]) (by kernel_rfl) (by simp) ?_
      refine AllReadyH.cons rfl (fun K hK => ?_) AllReadyH.nil
      go_simp
      refine (HLB.out _ HMd.out).mono ?_; rintro e w3 ⟨yo, yn, yc, rfl, hyc, hY, hb3⟩; rw [HOUT.out] at hY; have hcv5 := conv_ints (P := Try.prog) (HBd.out.keep0 hb3) 24 5 9 kap rfl rfl rfl; have hcj := conv_ints (P := Try.prog) hY 24 5 9 yc rfl rfl rfl
      refine hK.out _ _ ?_ (fun hHeld => ?_)
      · (try dsimp only); exact hcv5
      clear hK K
      try simp only [Act.put, List.setIfInBounds_toArray, List.set_cons_zero, List.set_cons_succ]
      refine wpAnyH_ready (rs := [2]) (by kernel_rfl) (by simp) ?_
      refine AllReadyH.cons rfl (fun K hK => ?_) AllReadyH.nil
      go_simp
      refine hK.out _ _ ?_ (fun hHeld => ?_)
      · (try dsimp only); exact hcv5
      clear hK K
      try simp only [Act.put, List.setIfInBounds_toArray, List.set_cons_zero, List.set_cons_succ]
      refine wpAnyH_ready (rs := [5]) (by kernel_rfl) (by simp) ?_
      refine AllReadyH.cons rfl (fun K hK => ?_) AllReadyH.nil
      go_simp
      refine hK.out _ _ ?_ (fun hHeld => ?_)
      · (try dsimp only); exact hcv5
      clear hK K
      try simp only [Act.put, List.setIfInBounds_toArray, List.set_cons_zero, List.set_cons_succ]
      refine wpAnyH_ready (rs := [6]) (by kernel_rfl) (by simp) ?_
      refine AllReadyH.cons rfl (fun K hK => ?_) AllReadyH.nil
      go_simp
      refine hK.out _ _ ?_ (fun hHeld => ?_)
      · (try dsimp only); exact hcv5
      clear hK K
      try simp only [Act.put, List.setIfInBounds_toArray, List.set_cons_zero, List.set_cons_succ]
      refine wpAnyH_ready (rs := [7]) (by kernel_rfl) (by simp) ?_
      refine AllReadyH.cons rfl (fun K hK => ?_) AllReadyH.nil
      go_simp
      refine (awake_any _).mono ?_; rintro e w4 ⟨rfl, hb4⟩; have hcv6 := conv_ints (P := Try.prog) ((HBd.out.keep0 hb3).keep0 hb4) 24 5 9 kap rfl rfl rfl
      refine hK.out _ _ ?_ (fun hHeld => ?_)
      · (try dsimp only); exact hcv6
      clear hK K
      try simp only [Act.put, List.setIfInBounds_toArray, List.set_cons_zero, List.set_cons_succ]
      refine wpAnyH_ready (rs := [8]) (by kernel_rfl) (by simp) ?_
      refine AllReadyH.cons rfl (fun K hK => ?_) AllReadyH.nil
      go_simp
      refine hK.out _ _ ?_ (fun hHeld => ?_)
      · (try dsimp only); exact hcv6
      clear hK K
      try simp only [Act.put, List.setIfInBounds_toArray, List.set_cons_zero, List.set_cons_succ]
      refine wpAnyH_ready (rs := [9]) (by kernel_rfl) (by simp) ?_
      refine AllReadyH.cons rfl (fun K hK => ?_) AllReadyH.nil
      go_simp
      refine hK.out _ _ ?_ (fun hHeld => ?_)
      · (try dsimp only); exact hcv6
      clear hK K
      try simp only [Act.put, List.setIfInBounds_toArray, List.set_cons_zero, List.set_cons_succ]
      refine wpAnyH_done (by kernel_rfl) ?_ _
      refine NoPanic.normal ?_
      go_wp2_with fail
      go_ret
      exact ⟨by simp, bstep (bstep hb1 hbq) (hd.trans (bstep hb3 hb4))⟩
end Go.Proofs.Ytmhlmaimmbopfaa

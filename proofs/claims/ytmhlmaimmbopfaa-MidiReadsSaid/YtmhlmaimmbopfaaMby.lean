/- The statement MidiBytes. -/
import Derived.Test.YtmhlmaimmbopfaaRea
import Derived.Test.YtmhlmaimmbopfaaRest
namespace Go.Proofs.Ytmhlmaimmbopfaa
open Go Go.RowKit Go.Calli
set_option linter.unusedVariables false
set_option linter.unusedSimpArgs false
set_option linter.unusedSimpArgs false
theorem chk_one {l : List Msg} {n k : Nat} {E : Int} (h : chk l n E) (hk : k < n) (hg : Good l k) (ho : (l.getD k m0).ok = false) : E = 1 := by
  rcases h with ⟨_, h⟩ | ⟨i, hi, hgi, h⟩
  · have := (h k hk).1; rw [ho] at this; cases this
  · rcases Nat.lt_trichotomy i k with hlt | rfl | hgt
    · have := hg i hlt
      rcases h with ⟨h, _⟩ | ⟨_, h, _⟩
      · rw [h] at this; cases this.1
      · omega
    · rcases h with ⟨_, h⟩ | ⟨h, _⟩
      · exact h
      · rw [ho] at h; cases h
    · have := (hgi k hgt).1; rw [ho] at this; cases this
theorem chk_five {l : List Msg} {n k : Nat} {E : Int} (h : chk l n E) (hk : k < n) (hg : Good l k) (ho : (l.getD k m0).ok = true) (hb : (l.getD k m0).t < tm l k) : E = 5 := by
  rcases h with ⟨_, h⟩ | ⟨i, hi, hgi, h⟩
  · have := (h k hk).2; omega
  · rcases Nat.lt_trichotomy i k with hlt | rfl | hgt
    · have := hg i hlt
      rcases h with ⟨h, _⟩ | ⟨_, h, _⟩
      · rw [h] at this; cases this.1
      · omega
    · rcases h with ⟨h, _⟩ | ⟨_, _, h⟩
      · rw [ho] at h; cases h
      · exact h
    · have := (hgi k hgt).2; omega
theorem chk_zero {l : List Msg} {n : Nat} {E : Int} (h : chk l n E) (hg : Good l n) : E = 0 := by
  rcases h with ⟨h, _⟩ | ⟨i, hi, hgi, h⟩
  · exact h
  · have := hg i hi
    rcases h with ⟨h, _⟩ | ⟨_, h, _⟩
    · rw [h] at this; cases this.1
    · omega
theorem out_ge (l : List Msg) (k : Nat) : 2 * k ≤ (out l k).length := by
  induction k with
  | zero => simp [out]
  | succ k ih =>
    have := enc_len (tm l k) (ss l k) (l.getD k m0)
    simp only [out, List.length_append]; omega
theorem dec_out {l : List Msg} {n : Nat} (hl : l.length = n) (hg : Good l n) (f : Nat) (hf : (out l n).length ≤ f) : decL f 0 0 (out l n) = (0, l) := by
  subst hl
  have := out_ge l l.length
  rw [out_all]
  exact dec_enc l f 0 0 (by omega) (by omega) ((good_list l).1 hg)
def MbyRel (l : List Msg) (n : Nat) (w : World) (v5 v6 : Value) (wr : World) : Prop := ∃ k : Nat, k ≤ n ∧ v6 = .int .i64 k ∧ v5 = .int .i64 (tm l k) ∧ Hid (Good l k) ∧ Below w.heap.size w wr
set_option maxRecDepth 100000 in
set_option maxHeartbeats 16000000 in
theorem midiBytes_any (ao : Option Addr) (n0 cap : Nat) (l0 : List Msg) (hc : n0 ≤ cap) (w : World) (h0 : Msgs w ao n0 l0) : Calls Try.prog 5 #[.slice ao n0 cap] w (TruePost w) := by
  go_enter Try.func5, Try.ntmps5
  go_upto_region 2 with (go_at_call 12; refine (few_any ao n0 cap l0 hc w h0).mono ?_; rintro e w1 ⟨n, rfl, hn, hn40, hncap, rfl⟩)
  have h : Msgs w ao n (l0.take n) := h0.take (by have := hn.out; omega)
  generalize l0.take n = l at h
  clear h0 hn
  go_upto_region 3 with (go_at_call 15; refine (bytes_any ao n cap l (by omega) w h).mono ?_; rintro e w1 ⟨ro, rn, rc, E, rfl, hrc, hchk, hE0, hE1, hb1⟩)
  go_wp2_with fail
  go_loopw [5, 6] (fun v5 v6 wr => MbyRel l n w v5 v6 wr ∧ Below w1.heap.size w1 wr) (fun _ v6 _ => (n - (intOf v6).toNat))
  case atStart => exact ⟨⟨0, by omega, rfl, rfl, fun i hi => by omega, hb1⟩, Below.refl _ _⟩
  case round =>
    obtain ⟨⟨k, hk, rfl, rfl, hg, hb⟩, hbw⟩ := hrel
    by_cases hlt : k < n
    · obtain ⟨a, rfl, hAt⟩ := (h.keep0 hb).cell k hlt
      have hR := Lib.hid (fun w => lright_any (l.getD k m0).t (l.getD k m0).k (l.getD k m0).c (l.getD k m0).a (l.getD k m0).b w)
      have HC1 := Lib.hid (fun ho => chk_one hchk.out hlt hg.out ho)
      have HC5 := Lib.hid (fun ho hb => chk_five hchk.out hlt hg.out ho hb)
      have HGS : Hid ((l.getD k m0).ok = true → tm l k ≤ (l.getD k m0).t → Good l (k + 1)) := fun h1 h2 i hi => by
        by_cases e : i = k
        · subst e; exact ⟨h1, h2⟩
        · exact hg.out i (by omega)
      have hnext : Hid (tm l (k + 1) = (l.getD k m0).t) := rfl
      generalize l.getD k m0 = m at *
      generalize tm l k = T at *
      have HAT := Lib.hid hAt
      obtain ⟨q0, q1, q2, q3, q4⟩ := hAt
      cases hok : m.ok with
      | false =>
        have HOK := Lib.hid (show rightB m.t m.k m.c m.a m.b = false from hok)
        have hE := HC1.out hok
        subst hE
        have hr0 := hE0 (by decide)
        subst hr0
        clear hok hE0 hE1
        go_wp2_with (first | (go_at_call 9; refine (hR.out _).mono ?_; rintro e w2 ⟨rfl, hb2⟩; rw [HOK.out]) | (go_at_call 10; refine (awake_any _).mono ?_; rintro e w9 ⟨rfl, hb9⟩))
        go_ret
        exact ⟨rfl, bstep (bstep hb hb2) hb9⟩
      | true =>
        have HOK := Lib.hid (show rightB m.t m.k m.c m.a m.b = true from hok)
        by_cases hback : m.t < T
        · have hE := HC5.out hok hback
          subst hE
          have hr0 := hE0 (by decide)
          subst hr0
          clear hok hE0 hE1
          go_wp2_with (first | (go_at_call 9; refine (hR.out _).mono ?_; rintro e w2 ⟨rfl, hb2⟩; rw [HOK.out]; obtain ⟨r0, r1, r2, r3, r4⟩ := HAT.out.keep0 hb2) | (go_at_call 10; refine (awake_any _).mono ?_; rintro e w9 ⟨rfl, hb9⟩))
          go_ret
          exact ⟨rfl, bstep (bstep hb hb2) hb9⟩
        · have HG1 := Lib.hid (HGS.out hok (by omega))
          clear hok
          go_wp2_with (go_at_call 9; refine (hR.out _).mono ?_; rintro e w2 ⟨rfl, hb2⟩; rw [HOK.out]; obtain ⟨r0, r1, r2, r3, r4⟩ := HAT.out.keep0 hb2)
          go_roundw
          case rel => exact ⟨⟨k + 1, by omega, by go_num, by rw [hnext.out], HG1.out, bstep hb hb2⟩, bstep hbw hb2⟩
          case measure => simp [intOf]; omega
    · obtain rfl : k = n := by omega
      have hE := chk_zero hchk.out hg.out
      subst hE
      have hB := (hE1 rfl).keep0 hbw
      have hbl := hB.hlen
      have hout := out_len l k
      have hdec := dec_out h.hlen hg.out rn (by rw [hbl]; omega)
      have HRD := Lib.hid (read_any ro rn rc (out l k) (by omega) wr hB)
      have HDE := Lib.hid hdec
      have HBB := Lib.hid hB
      clear hdec hB hE0 hE1 hchk
      go_upto_region 13 with (go_at_call 16; refine HRD.out.mono ?_; rintro e w2 ⟨xo, xn, xc, rfl, hxc, hx0, hx1, hb2⟩; rw [HDE.out])
      rw [HDE.out] at hx1
      obtain ⟨hxr, hX⟩ := hx1 rfl
      simp only at hX
      have hxn : xn = k := by rw [← hX.hlen, h.hlen]
      subst hxn
      have hd : Below w2.heap.size w2 w2.drew := (Below.refl _ _).drew
      have HBd := Lib.hid ((HBB.out.keep0 hb2).keep0 hd)
      have hbw2 := bstep hb hb2
      have HMd := Lib.hid ((h.keep0 hbw2).keep0 hd)
      have HLB := Lib.hid (fun w (h : Msgs w ao xn l) => lbytes_any ao xn cap l (by omega) w h hg.out)
      have hcv := conv_ints (P := Try.prog) HBd.out 24 5 9 rc rfl rfl rfl
      have HX := Lib.hid hX
      clear hX hx0 hx1 hb HRD
      go_cut [86] (fun v wx => v = .bool false ∧ Below w2.heap.size w2 wx)
      case first =>
        refine wp_region_noPanic ?_
        refine wp_region_held_drew (S := fun w' => (convert 24 9 (.slice ro rn rc)).run Try.prog w' = .ok (.string (strOfNums (out l xn))) w') (by kernel_rfl) ?_ (fun hHeld => ?_)
        · exact hcv
        refine wpAnyH_take (i := 0) (v := ?_) rfl (by kernel_rfl) (by kernel_rfl) (by kernel_rfl) (fun _ _ _ h => h) (Or.inl ⟨by rfl, ?_⟩) (by assumption) ?_
        rotate_left
        · (intro w hSw; (try dsimp only at hSw); go_simp; try with_reducible rfl)
        try simp only [Act.put, List.setIfInBounds_toArray, List.set_cons_zero, List.set_cons_succ]
        refine wpAnyH_take (i := 1) (v := .bool false) rfl (by kernel_rfl) (by kernel_rfl) (by kernel_rfl) (fun _ _ _ h => h) (Or.inl ⟨by rfl, ?_⟩) (by assumption) ?_
        · (intro w hSw; (try dsimp only at hSw); go_simp; try with_reducible rfl)
        try simp only [Act.put, List.setIfInBounds_toArray, List.set_cons_zero, List.set_cons_succ]
        refine wpAnyH_take (i := 2) (v := .bool false) rfl (by kernel_rfl) (by kernel_rfl) (by kernel_rfl) (fun _ _ _ h => h) (Or.inl ⟨by rfl, ?_⟩) (by assumption) ?_
        · (intro w hSw; (try dsimp only at hSw); go_simp; try with_reducible rfl)
        try simp only [Act.put, List.setIfInBounds_toArray, List.set_cons_zero, List.set_cons_succ]
        refine wpAnyH_take (i := 3) (v := ?_) rfl (by kernel_rfl) (by kernel_rfl) (by kernel_rfl) (fun _ _ _ h => h) (Or.inl ⟨by rfl, ?_⟩) (by assumption) ?_
        rotate_left
        · (intro w hSw; (try dsimp only at hSw); go_simp; try with_reducible rfl)
        try simp only [Act.put, List.setIfInBounds_toArray, List.set_cons_zero, List.set_cons_succ]
        refine wpAnyH_take (i := 4) (v := ?_) rfl (by kernel_rfl) (by kernel_rfl) (by kernel_rfl) (fun _ _ _ h => h) (Or.inl ⟨by rfl, ?_⟩) (by assumption) ?_
        rotate_left
        · (intro w hSw; (try dsimp only at hSw); go_simp; try with_reducible rfl)
        try simp only [Act.put, List.setIfInBounds_toArray, List.set_cons_zero, List.set_cons_succ]
        refine wpAnyH_take (i := 5) (v := ?_) rfl (by kernel_rfl) (by kernel_rfl) (by kernel_rfl) (fun _ _ _ h => h) (Or.inl ⟨by rfl, ?_⟩) (by assumption) ?_
        rotate_left
        · (intro w hSw; (try dsimp only at hSw); go_simp; try with_reducible rfl)
        try simp only [Act.put, List.setIfInBounds_toArray, List.set_cons_zero, List.set_cons_succ]
        refine wpAnyH_ready (rs := [6]) (by kernel_rfl) (by simp) ?_
        refine AllReadyH.cons rfl (fun K hK => ?_) AllReadyH.nil
        go_simp
        refine (HLB.out _ HMd.out).mono ?_; rintro e w3 ⟨yo, yn, yc, rfl, hyc, hY, hb3⟩; have hcv5 := conv_ints (P := Try.prog) (HBd.out.keep0 hb3) 24 5 9 rc rfl rfl rfl; have hcj := conv_ints (P := Try.prog) hY 24 5 9 yc rfl rfl rfl
        refine hK.out _ _ ?_ (fun hHeld => ?_)
        · (try dsimp only); assumption
        clear hK K
        try simp only [Act.put, List.setIfInBounds_toArray, List.set_cons_zero, List.set_cons_succ]
        refine wpAnyH_rest 7 (by kernel_rfl) (by kernel_rfl) (by kernel_rfl) hHeld ?_
        simp only [List.drop_succ_cons, List.drop_zero]
        repeat still_step
        refine wpStill_nil ?_
        refine NoPanic.normal ?_
        all_goals go_wp2_with fail
        all_goals go_meet
        all_goals exact ⟨by simp, hd.trans hb3⟩
      case rest =>
        obtain ⟨rfl, hbx⟩ := hcut
        obtain ⟨w3, rfl⟩ : ∃ w', w' = wc := ⟨_, rfl⟩
        have hx3 := Lib.hid (HX.out.keep0 hbx)
        have hb3 := bstep hbw2 hbx
        have hl3 := Lib.hid (h.keep0 hb3)
        clear hcv HMd HBd HX HLB hbx hbw2 hd
        go_wp2_with fail
        go_loopw [9] (fun v9 wr => ∃ q : Nat, q ≤ xn ∧ v9 = .int .i64 q ∧ Below w3.heap.size w3 wr) (fun v9 _ => (xn - (intOf v9).toNat))
        case atStart => exact ⟨0, by omega, rfl, Below.refl _ _⟩
        case round =>
          obtain ⟨q, hq, rfl, hbq⟩ := hrel
          by_cases hql : q < xn
          · obtain ⟨xa, rfl, g0, g1, g2, g3, g4⟩ := (hx3.out.keep0 hbq).cell q hql
            obtain ⟨la, rfl, e0, e1, e2, e3, e4⟩ := (hl3.out.keep0 hbq).cell q hql
            have hq0 : (0 : Int) ≤ (q : Int) := by omega
            have hq1 : (q : Int) < (xn : Int) := by omega
            go_upto_region 18 with fail
            go_quiet (fail)
            go_wp2_with fail
            go_roundw
            case rel => exact ⟨q + 1, by omega, by go_num, ((Keeps.ofBelow hbq (Nat.le_refl _) : Keeps (fun _ => False) _ _).drewN _).toBelow (Nat.le_refl _) (fun _ _ h => h)⟩
            case measure => simp [intOf]; omega
          · go_wp2_with (go_at_call 10; refine (awake_any _).mono ?_; rintro e w9 ⟨rfl, hb9⟩)
            go_ret
            exact ⟨rfl, bstep (bstep hb3 hbq) hb9⟩
end Go.Proofs.Ytmhlmaimmbopfaa

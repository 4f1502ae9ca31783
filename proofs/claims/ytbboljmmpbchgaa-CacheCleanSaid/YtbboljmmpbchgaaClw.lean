/- The walk of CacheClean. -/
import Derived.Test.YtbboljmmpbchgaaOpl
namespace Go.Proofs.Ytbboljmmpbchgaa
open Go Go.RowKit Go.Calli Go.Dskp Go.Maps
set_option linter.unusedVariables false
set_option linter.unusedSimpArgs false
attribute [local irreducible] wpStill wpAnyH wpAnyS wpList Code.wp
/-- The state between the calls. -/
def CleanSt (A : Ad) (n : Nat) (zs : List Int) (i : Nat) (w wx : World) : Prop := ∃ c, CaIs A wx n c ∧ COk c ∧ CLim (600 * i) c ∧ Clean zs c ∧ Below w.heap.size w wx
set_option maxRecDepth 100000 in
set_option maxHeartbeats 2000000 in
theorem clean_any (ao so : Option Addr) (n0 cap l scap : Nat) (zs0 : List Int) (os : List Opr) (sl at_ nn : Int) (hws : (Lit.int .i64 sl).wf = true) (hwa : (Lit.int .i64 at_).wf = true) (hwn : (Lit.int .i64 nn).wf = true) (hc0 : n0 ≤ cap) (w : World) (h0 : Ints .u8 w ao n0 zs0) (hO : Ops w so l os) : Calls Try.prog 4 #[.slice ao n0 cap, .int .i64 sl, .slice so l scap, .int .i64 at_, .int .i64 nn] w (TruePost w) := by
  have hlim := h0.lim
  unfold maxLen at hlim
  go_enter Try.func4, Try.ntmps4
  go_upto_if 22 with fail
  go_cut [0] (fun v wx => ∃ k, v = .slice ao k cap ∧ Hid (k = min n0 500) ∧ w = wx)
  case first =>
    by_cases hgt : 500 < n0
    · obtain ⟨a, rfl, -⟩ := h0.some (by omega)
      go_wp2_with fail
      all_goals go_meet
      all_goals exact ⟨500, rfl, by unfold Hid; omega, rfl⟩
    · go_wp2_with fail
      go_meet
      exact ⟨n0, rfl, by unfold Hid; omega, rfl⟩
  case rest =>
  obtain ⟨k, rfl, hn0, rfl⟩ := hcut
  have hk : k ≤ 500 := by have := hn0.out; omega
  have hI : Ints .u8 w ao k (zs0.take k) := h0.take (by have := hn0.out; omega)
  generalize zs0.take k = zs at hI
  clear h0 hn0 hc0 hlim
  have hl := hI.hlen
  subst hl
  by_cases hs : 1 ≤ sl ∧ sl ≤ 1024
  · obtain ⟨n, rfl⟩ : ∃ n : Nat, sl = n := ⟨sl.toNat, by omega⟩
    have hM := made_good ao _ cap zs hk n 0 (by omega) (by omega) (by decide) (by decide) w hI
    go_upto_region 4 with (go_at_call 8; refine hM.mono ?_; clear hM; rintro e w1 ⟨A, rfl, hC0, hA, hib, -, hB1⟩)
    have hS0 : CleanSt A n zs 0 w w1 := ⟨_, hC0, newC_ok _ _ _, newC_lim zs (by omega) n 0 (by decide) (by decide), new_clean _ _ _, hB1⟩
    have hn1 : n ≤ 1024 := by omega
    have hzw : Hid (∀ z ∈ zs, (Lit.int .u8 z).wf = true) := hI.wf
    have HA := Lib.hid hA
    clear hC0 hB1 hib hA hs hws
    go_wp2_with fail
    go_loopw [13] (fun v13 wr => ∃ q : Nat, q ≤ 60 ∧ v13 = .int .i64 q ∧ CleanSt A n zs q w wr) (fun v13 _ => (60 - (intOf v13).toNat))
    case atStart => exact ⟨0, by omega, rfl, hS0⟩
    case round =>
      clear hS0
      obtain ⟨q, hq, rfl, c, hC, hok, hL, hcl, hB⟩ := hrel
      by_cases hql : q < l ∧ q < 60
      · obtain ⟨hql, hq60⟩ := hql
        have hO2 := hO.keep0 hB
        obtain ⟨sa, rfl, hAt⟩ := hO2.cell q hql
        have hwf := hO2.wf q hql
        clear hO2
        generalize os.getD q o0 = o at hAt hwf
        obtain ⟨o1, o2, o3, o4⟩ := hAt
        obtain ⟨w1f, w2f, w3f, w4f⟩ := hwf
        have hba := below_alloc wr (.cells #[.int .i64 o.k, .int .i64 o.p, .int .i64 o.n, .int .u8 o.x] 41)
        have hC1 := hC.keep0 hba
        have hBa := bstep hB hba
        obtain ⟨e0, e1, e2, e3, -, -⟩ := four_cells (MapKept.heap_alloc wr (.cells #[.int .i64 o.k, .int .i64 o.p, .int .i64 o.n, .int .u8 o.x] 41)).1
        go_upto_region 10 with fail
        clear o1 o2 o3 o4 hC hba
        generalize wr.alloc (.cells #[.int .i64 o.k, .int .i64 o.p, .int .i64 o.n, .int .u8 o.x] 41) = W1 at *
        have HOK := Lib.hid hok
        have HLL := Lib.hid hL
        have HCL := Lib.hid hcl
        clear hok hL hcl
        have hKB : ∀ W2, Keeps A.S W1 W2 → Below w.heap.size w W2 := fun W2 hk => hBa.trans (hk.toBelow hBa.size (fun k hk hS => by have := HA.out k hS; omega))
        by_cases h3 : o.k = 3
        · rw [h3] at e0
          go_wp2_with (go_at_call 14; refine (evict_any A n hn1 c o.p W1 hC1).mono ?_; rintro e w2 ⟨rfl, hC2, hk2⟩)
          go_roundw
          case rel => exact ⟨q + 1, by omega, by go_num, _, hC2, (evC_ok HOK.out _).1, (HLL.out.ev _).mono (by omega), ev_clean HCL.out _, hKB _ hk2⟩
          case measure => simp [intOf]; omega
        · by_cases h4 : o.k = 4
          · rw [h4] at e0
            go_wp2_with (go_at_call 15; refine (empty_any A n hn1 c W1 hC1).mono ?_; rintro e w2 ⟨rfl, hC2, hk2⟩)
            go_roundw
            case rel => exact ⟨q + 1, by omega, by go_num, _, hC2, (emC_ok c).1, (HLL.out.ss _).mono (by omega), em_clean HCL.out, hKB _ hk2⟩
            case measure => simp [intOf]; omega
          · have h3b : (o.k == 3) = false := by simpa using h3
            have h4b : (o.k == 4) = false := by simpa using h4
            have him : c.d.img.length ≤ 512 := by rw [HCL.out.img]; omega
            go_wp2_with (go_at_call 16; refine (span_any A n hn1 c (600 * q) (by omega) HOK.out HLL.out him o.p o.n W1 hC1).mono ?_; rintro e w2 ⟨ro, rc, rfl, hrc, hC2, hI2, hnew, hk2⟩)
            go_roundw
            case rel => exact ⟨q + 1, by omega, by go_num, _, hC2, (spanC_ok HOK.out HLL.out him _ _).1, (spanC_ok HOK.out HLL.out him _ _).2.1.mono (by omega), span_clean hzw.out HCL.out _ _, hKB _ hk2⟩
            case measure => simp [intOf]; omega
      · have him : c.d.img.length ≤ 512 := by rw [hcl.img]; omega
        have hSp := span_any A n hn1 c (600 * q) (by omega) hok hL him at_ nn wr hC
        have hbA : ∀ W2, Keeps A.S wr W2 → Below w.heap.size w W2 := fun W2 hk => hB.trans (hk.toBelow hB.size (fun k hk hS => by have := HA.out k hS; omega))
        obtain ⟨N, hN⟩ : ∃ N, N = (zs.length + 63) / 64 := ⟨_, rfl⟩
        have hpg : c.d.pages = N := by unfold Dk.pages; rw [hcl.img, hN]
        have hNd : ((zs.length : Int) + 63) / 64 = (N : Int) := by omega
        have hN8 : N ≤ 8 := by omega
        have hq2 : l ≤ q ∨ (q < l ∧ 60 ≤ q) := by omega
        have w63 : IntKind.i64.wrap ((zs.length : Int) + 63) = (zs.length : Int) + 63 := IntWalk.i64_in _ (by omega)
        have wN : IntKind.i64.wrap ((N : Int) * 64) = (N : Int) * 64 := IntWalk.i64_in _ (by omega)
        by_cases hr : at_ < 0 ∨ nn < 0 ∨ (N : Int) * 64 < at_ ∨ (N : Int) * 64 - at_ < nn
        · have hsp : spanC c at_ nn = ⟨5, [], c⟩ := by unfold spanC; rw [if_pos (by rw [hpg]; exact hr)]
          rw [hsp] at hSp
          have hr2 : at_ < 0 ∨ (0 ≤ at_ ∧ nn < 0) ∨ (0 ≤ at_ ∧ 0 ≤ nn ∧ (N : Int) * 64 < at_) ∨ (0 ≤ at_ ∧ 0 ≤ nn ∧ at_ ≤ (N : Int) * 64 ∧ (N : Int) * 64 - at_ < nn) := by omega
          have HSP := Lib.hid hSp
          clear hsp hpg hN hSp hr
          rcases hq2 with hq2 | ⟨hq2, hq3⟩
          all_goals
            rcases hr2 with h1 | ⟨h1, h2⟩ | ⟨h1, h2, h3⟩ | ⟨h1, h2, h3, h4⟩
            all_goals
              try have wA : IntKind.i64.wrap ((N : Int) * 64 - at_) = (N : Int) * 64 - at_ := IntWalk.i64_in _ (by omega)
              go_wp2_with (first | (go_at_call 16; refine HSP.out.mono ?_; rintro e w2 ⟨ro, rc, rfl, hrc, hC2, hI2, hnew, hk2⟩) | (go_at_call 7; refine (awake_any _).mono ?_; rintro e w3 ⟨rfl, hB3⟩))
              go_ret
              exact ⟨rfl, bstep (hbA _ hk2) hB3⟩
        · obtain ⟨a, rfl⟩ : ∃ a : Nat, at_ = a := ⟨at_.toNat, by omega⟩
          obtain ⟨m, rfl⟩ : ∃ m : Nat, nn = m := ⟨nn.toNat, by omega⟩
          have ham : a + m ≤ N * 64 := by omega
          have hcs := spanL_clean hzw.out m c a m [] (Nat.le_refl _) hcl (by rw [hpg]; exact ham)
          have hsp : spanC c a m = spanL m c a m [] := by unfold spanC; rw [if_neg (by rw [hpg]; exact hr)]; simp
          rw [hsp] at hSp
          unfold GtPost at hSp
          rw [hcs.1, hcs.2.1, List.nil_append, seg_len] at hSp
          have wA : IntKind.i64.wrap ((N : Int) * 64 - (a : Int)) = (N : Int) * 64 - (a : Int) := IntWalk.i64_in _ (by omega)
          have HSP := Lib.hid hSp
          clear hsp hpg hN hSp hr hcs hC hok hL hcl him
          rcases hq2 with hq2 | ⟨hq2, hq3⟩
          all_goals
            go_wp2_with (go_at_call 16; refine HSP.out.mono ?_; rintro e w2 ⟨ro, rc, rfl, hrc, hC2, hI2, hnew, hk2⟩)
            have hB2 := hbA _ hk2
            have hIw := hI.keep0 hB2
            clear hC2 hk2 hnew
            go_loopw [18] (fun v18 wx => ∃ j : Nat, j ≤ m ∧ v18 = .int .i64 j ∧ wx = w2) (fun v18 _ => (m - (intOf v18).toNat))
            case atStart => exact ⟨0, Nat.zero_le _, rfl, rfl⟩
            case round =>
              obtain ⟨j, hj, rfl, rfl⟩ := hrel
              by_cases hjm : j < m
              · obtain ⟨b, rfl, hx⟩ := hI2.some (by omega)
                have hxj := hx j hjm
                rw [show (seg zs a m).getD j 0 = zs.getD (a + j) 0 by simp [seg, List.getD, hjm]] at hxj
                have wj : IntKind.i64.wrap ((a : Int) + (j : Int)) = (a : Int) + (j : Int) := IntWalk.i64_in _ (by omega)
                by_cases hin : a + j < zs.length
                · obtain ⟨za, rfl, hz⟩ := hIw.some (by omega)
                  have hzj := hz (a + j) hin
                  generalize zs.getD (a + j) 0 = X at *
                  clear hx hz
                  go_wp2_with fail
                  go_roundw
                  case rel => exact ⟨j + 1, by omega, by go_num, trivial⟩
                  case measure => simp [intOf]; omega
                · have h0 : zs.getD (a + j) 0 = 0 := by simp [List.getD, Nat.not_lt.1 hin]
                  rw [h0] at hxj
                  clear hx h0
                  go_wp2_with fail
                  go_roundw
                  case rel => exact ⟨j + 1, by omega, by go_num, trivial⟩
                  case measure => simp [intOf]; omega
              · go_wp2_with (go_at_call 7; refine (awake_any _).mono ?_; rintro e w3 ⟨rfl, hB3⟩)
                go_ret
                exact ⟨rfl, bstep hB2 hB3⟩
  · have hM := made_bad ao _ cap zs hk sl 0 (by omega) w hI
    have hs2 : sl < 1 ∨ (1 ≤ sl ∧ 1024 < sl) := by omega
    rcases hs2 with h1 | ⟨h1, h2⟩
    · go_wp2_with (first | (go_at_call 8; refine hM.mono ?_; clear hM; rintro e w1 ⟨rfl, hB1⟩) | (go_at_call 7; refine (awake_any _).mono ?_; rintro e w2 ⟨rfl, hB2⟩))
      go_ret
      exact ⟨rfl, bstep hB1 hB2⟩
    · go_wp2_with (first | (go_at_call 8; refine hM.mono ?_; clear hM; rintro e w1 ⟨rfl, hB1⟩) | (go_at_call 7; refine (awake_any _).mono ?_; rintro e w2 ⟨rfl, hB2⟩))
      go_ret
      exact ⟨rfl, bstep hB1 hB2⟩
end Go.Proofs.Ytbboljmmpbchgaa

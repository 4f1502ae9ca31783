/- The walk of the statement's bytes. -/
import Derived.Test.YtmhlmaimmbopfaaByt
namespace Go.Proofs.Ytmhlmaimmbopfaa
open Go Go.RowKit Go.Calli
set_option linter.unusedVariables false
def NumPost2 (v : Nat) (w : World) (e : Ending) (w' : World) : Prop := ∃ ao n c, e = .returned (.slice ao n c) ∧ n ≤ c ∧ Ints .u8 w' ao n (numL v) ∧ (∀ a, ao = some a → w.heap.size ≤ a.block) ∧ Below w.heap.size w w'
set_option maxHeartbeats 1000000 in
theorem lnumber_at (v : Nat) (hv : v ≤ 268435455) (w : World) : Calls Try.prog 11 #[.int .i64 (v : Nat)] w (NumPost2 v w) := by
  go_enter Try.func11, Try.ntmps11
  go_wp2_with fail
  have hown0 := World.ownsRow_lit (base := w.heap.size) (e := 5) (size := 1) w #[.int .u8 ((v : Int) % 128)] 1 (Nat.le_refl _) (by decide) rfl
  go_loopw [0, 3] (fun v0 v3 wr => NumRel v w v0 v3 wr) (fun v0 _ _ => (intOf v0).toNat)
  case atStart => exact ⟨4, v / 128, 1, [((v % 128 : Nat) : Int)], by omega, by omega, rfl, by omega, hown0, rfl, below_alloc _ _⟩
  case round =>
    clear hown0
    obtain ⟨f, r, n, L, hf, hr, rfl, hn, hown, hL, hb⟩ := hrel
    have HL := Lib.hid hL
    clear hL
    by_cases hlt : 0 < r
    · obtain ⟨f, rfl⟩ : ∃ g, f = g + 1 := by
        cases f with
        | zero => simp at hr; omega
        | succ g => exact ⟨g, rfl⟩
      have hr1 : r < 268435456 := Nat.lt_of_lt_of_le hr (Nat.le_trans (Nat.pow_le_pow_right (by decide) hf) (by decide))
      have hr2 : r / 128 < 128 ^ f := by rw [Nat.div_lt_iff_lt_mul (by decide), ← Nat.pow_succ]; exact hr
      have HR := Lib.hid hr2
      clear hr2 hr
      obtain ⟨ao, c, rfl, hc, hrow, hl, hu, hbl⟩ := own_slice hown
      have hst := ext_step f r L hlt
      rw [HL.out] at hst
      have HS := Lib.hid hst
      clear hst
      have hown0 := World.ownsRow_lit (base := w.heap.size) (e := 5) (size := 1) wr #[.int .u8 ((r : Int) % 128 + 128)] 1 hb.size (by decide) rfl
      have hrow2 := hrow.keep0 (below_alloc wr (.cells #[.int .u8 ((r : Int) % 128 + 128)] 5))
      have hnil : ao = none → n = 0 := fun h => by
        subst h
        rcases Nat.eq_zero_or_pos n with h0 | h0
        · exact h0
        · obtain ⟨a', ha', _⟩ := hrow.cell 0 ((L.map (Value.int .u8)).getD 0 undef) (by rw [List.getD_eq_getElem?_getD, List.getElem?_eq_getElem (by rw [hrow.hlen]; exact h0)]; rfl)
          cases ha'
      go_wp2_with (at_builtin; refine wpList_append_row rfl (.tmp 16) (.tmp 17) 24 5 rfl Try.underlying24 infoByte rfl w.heap.size _ _ _ rfl hown0 ao n c (L.map (Value.int .u8)) rfl hrow2 (one_ints _ _) hnil ?_ ?_ ?_ ?_)
      case refine_1 => omega
      case refine_2 => unfold maxLen; omega
      case refine_3 => have := hb.size; simp; omega
      intro v' w' hown' hkp
      have hb' : Below w.heap.size w w' := (hb.alloc hb.size _).trans (owns_below hown0 hkp (by have := hb.size; simp; omega))
      clear hown hown0 hkp hrow hrow2 hnil hu hbl
      go_wp2_with fail
      go_roundw
      case rel =>
        have hr0 := hr1
        exact ⟨f, r / 128, 1 + n, ((r % 128 + 128 : Nat) : Int) :: L, by omega, HR.out, by go_num, by omega, by simpa using hown', HS.out.symm, hb'⟩
      case measure => simp [intOf]; omega
    · obtain rfl : r = 0 := by omega
      have hL := HL.out
      rw [ext_zero, List.nil_append] at hL
      obtain ⟨ao, c, rfl, hc, hrow, hl, hu, hbl⟩ := own_slice hown
      have hi := hrow.ints hl (fun z hz => numL_wf v z (by rw [← hL]; exact hz))
      rw [hL] at hi
      have HI := Lib.hid hi
      have HBL := Lib.hid (fun a ha => (hbl a ha).1)
      clear hrow hown hL HL hi hu hbl
      go_wp2_with fail
      go_ret
      exact ⟨_, _, _, rfl, hc, HI.out, HBL.out, hb⟩
def LbyRel (l : List Msg) (n : Nat) (w : World) (v3 v4 v5 v6 : Value) (wr : World) : Prop := ∃ (k N : Nat), k ≤ n ∧ v6 = .int .i64 k ∧ v4 = .int .i64 (tm l k) ∧ v5 = .int .i64 (ss l k) ∧ Hid (N = (out l k).length) ∧ wr.ownsRow w.heap.size 5 1 v3 N ((out l k).map (Value.int .u8)) ∧ Below w.heap.size w wr
def LbyIn (L0 : List Int) (D nn N Z : Nat) (no : Option Addr) (m : Msg) (w : World) (v3 v9 : Value) (wr : World) : Prop := ∃ q : Nat, q ≤ nn ∧ v9 = .int .i64 q ∧ wr.ownsRow w.heap.size 5 1 v3 (N + q) ((L0 ++ (numL D).take q).map (Value.int .u8)) ∧ Ints .u8 wr no nn (numL D) ∧ (∀ a, no = some a → v3.ownBlock ≠ some a.block) ∧ Five wr Z m.t m.k m.c m.a m.b ∧ Below w.heap.size w wr
def LbyPost (l : List Msg) (n : Nat) (w : World) (e : Ending) (w' : World) : Prop := ∃ ro rn rc, e = .returned (.slice ro rn rc) ∧ rn ≤ rc ∧ Ints .u8 w' ro rn (out l n) ∧ Below w.heap.size w w'
set_option maxRecDepth 100000 in
set_option maxHeartbeats 4000000 in
theorem lbytes_any (ao : Option Addr) (n cap : Nat) (l : List Msg) (hn : n ≤ 4096) (w : World) (h : Msgs w ao n l) (hg : Good l n) : Calls Try.prog 17 #[.slice ao n cap] w (LbyPost l n w) := by
  have HG := Lib.hid hg
  clear hg
  go_enter Try.func17, Try.ntmps17
  go_wp2_with fail
  go_loopw [3, 4, 5, 6] (fun v3 v4 v5 v6 wr => LbyRel l n w v3 v4 v5 v6 wr) (fun _ _ _ v6 _ => (n - (intOf v6).toNat))
  case atStart => exact ⟨0, 0, by omega, rfl, rfl, rfl, rfl, World.ownsRow_nil _ _ _ _, Below.refl _ _⟩
  case round =>
    obtain ⟨k, N, hk, rfl, rfl, rfl, hN, hown, hb⟩ := hrel
    by_cases hlt : k < n
    · obtain ⟨a, rfl, hAt⟩ := (h.keep0 hb).cell k hlt
      have hgk : Good l k := fun i hi => HG.out i (by omega)
      have htm := tm_bd hgk
      have hss := ss_bd hgk
      have hok := (HG.out k hlt).1
      have hTm := (HG.out k hlt).2
      have hnext : Hid (tm l (k + 1) = (l.getD k m0).t ∧ ss l (k + 1) = (l.getD k m0).k + (l.getD k m0).c ∧ out l (k + 1) = out l k ++ enc (tm l k) (ss l k) (l.getD k m0)) := ⟨rfl, rfl, rfl⟩
      have holen : N ≤ 32768 := by have := out_len l k; have := hN.out; omega
      clear hgk
      generalize l.getD k m0 = m at *
      generalize tm l k = T at *
      generalize ss l k = S at *
      obtain ⟨q0, q1, q2, q3, q4⟩ := hAt
      have hmr := (ok_iff m).1 hok
      obtain ⟨hmr0, hmr1, hmr2, hmr3, hmr4, hmr5, hmr6, hmr7, hmr8⟩ := hmr
      have hkk := kind_of hok
      have hkb : 128 ≤ m.k ∧ m.k ≤ 224 := by omega
      obtain ⟨D, hD⟩ : ∃ D : Nat, m.t - T = D := ⟨(m.t - T).toNat, by omega⟩
      have hDl : D ≤ 268435455 := by omega
      have hnl := numL_len D
      have HEN := Lib.hid (show enc T S m = numL D ++ (if m.k + m.c = S then [] else [m.k + m.c]) ++ m.a :: (if twoB m.k = true then [m.b] else []) by unfold enc; rw [show (m.t - T).toNat = D by omega])
      have hz0 : Five (wr.alloc (.cells #[.int .i64 m.t, .int .i64 m.k, .int .i64 m.c, .int .i64 m.a, .int .i64 m.b] 23)) wr.heap.size m.t m.k m.c m.a m.b := heap_alloc_new _ _
      have hown1 := own_below hown (below_alloc wr (.cells #[.int .i64 m.t, .int .i64 m.k, .int .i64 m.c, .int .i64 m.a, .int .i64 m.b] 23))
      have hb1 := balloc hb (.cells #[.int .i64 m.t, .int .i64 m.k, .int .i64 m.c, .int .i64 m.a, .int .i64 m.b] 23)
      have HZ0 := Lib.hid hz0
      have hn2 := Lib.hid (lnumber_at D hDl)
      clear hz0 hmr0 hkk
      go_upto_region 7 with fail
      generalize wr.alloc (.cells #[.int .i64 m.t, .int .i64 m.k, .int .i64 m.c, .int .i64 m.a, .int .i64 m.b] 23) = W at *
      obtain ⟨z0, z1, z2, z3, z4, -⟩ := Five.cells HZ0.out
      go_wp2_with (go_at_call 11; refine (hn2.out _).mono ?_; rintro e w2 ⟨no, nn, nc, rfl, hnc, hni, hna, hb4⟩)
      have hz2 := five_below HZ0.out hb4
      have hown3 := own_below hown1 hb4
      have hb5 := bstep hb1 hb4
      have hnn := Lib.hid hni.hlen
      have hsep : ∀ a, no = some a → u3.ownBlock ≠ some a.block := fun a' ha' hS => by
        have h1 := hna a' ha'
        have h2 := (hown1.lt _ hS).2
        omega
      have hnn5 : nn ≤ 5 := by have := hni.hlen; omega
      clear z0 z1 z2 z3 z4 HZ0 hown1 hb1 hb4 hown hb q0 q1 q2 q3 q4 hna hn2
      generalize wr.heap.size = Z at *
      go_loopw [3, 9] (fun v3 v9 wr2 => LbyIn (out l k) D nn N Z no m w v3 v9 wr2) (fun _ v9 _ => (nn - (intOf v9).toNat))
      case atStart => exact ⟨0, by omega, rfl, by simpa using hown3, hni, hsep, hz2, hb5⟩
      case round =>
        clear hown3 hni hsep hz2 hb5
        obtain ⟨q, hq, rfl, hownq, hniq, hsepq, hzq, hbq⟩ := hrel
        have HZQ := Lib.hid hzq
        clear hzq
        by_cases hqlt : q < nn
        · obtain ⟨ad, c, rfl, hcv, hcell, hc256⟩ := hniq.byte hqlt
          have htk := take_succ_getD (numL D) q (by rw [hnn.out]; exact hqlt)
          rw [hcv.out] at htk
          have HTK := Lib.hid htk
          have hnS := Lib.hid (hsepq ad rfl)
          have hbl := World.block_lt_of_cell? _ _ hcell
          rw [Addr.add_block] at hbl
          clear htk hcv hsepq
          go_wp2_with (at_builtin; refine wpList_append_one_at rfl (.tmp 31) (.tmp 36) 24 5 rfl Try.underlying24 infoByte rfl w.heap.size _ _ _ rfl hownq (.int .u8 _) rfl rfl ?_ ?_ ?_ ?_)
          case refine_1 => omega
          case refine_2 => unfold maxLen; omega
          case refine_3 => exact hbq.size
          intro v' w' hown' hkp hblk
          have hb' := hbq.trans (owns_below hownq hkp hbq.size)
          have hni' := hniq.kept hkp (fun a0 ha hS => by cases ha; exact hnS.out hS)
          have hz' := five_app hownq hkp HZQ.out
          have hsep' : ∀ a, some ad = some a → v'.ownBlock ≠ some a.block := fun a0 ha hS => by
            cases ha
            rcases hblk with h1 | ⟨k', h1, h2⟩
            · rw [h1] at hS; exact hnS.out hS
            · rw [h1] at hS; cases hS; omega
          have HZ' := Lib.hid hz'
          clear hblk hkp hownq hniq HZQ hz' hcell
          go_wp2_with fail
          go_roundw
          case rel => exact ⟨q + 1, by omega, by go_num, by rw [HTK.out]; simpa [Nat.add_assoc] using hown', hni', hsep', HZ'.out, hb'⟩
          case measure => simp [intOf]; omega
        · obtain rfl : q = nn := by omega
          have htk : (numL D).take q = numL D := List.take_of_length_le (by rw [hnn.out]; omega)
          rw [htk] at hownq
          clear htk
          obtain ⟨y0, y1, y2, y3, y4, -⟩ := Five.cells HZQ.out
          have hnq := hnn.out
          go_upto_if 46 with fail
          go_cut [3, 5] (fun v3 v5 wx => ∃ N2 : Nat, v5 = .int .i64 (m.k + m.c) ∧ Hid (N2 = (out l k ++ numL D ++ (if m.k + m.c = S then [] else [m.k + m.c])).length) ∧ N2 ≤ N + 6 ∧ wx.ownsRow w.heap.size 5 1 v3 N2 ((out l k ++ numL D ++ (if m.k + m.c = S then [] else [m.k + m.c])).map (Value.int .u8)) ∧ Five wx Z m.t m.k m.c m.a m.b ∧ Below w.heap.size w wx)
          case first =>
            by_cases hs : m.k + m.c = S
            · have hsb : (m.k + m.c != S) = false := by simpa using hs
              have HSS := Lib.hid hs
              clear hs
              go_wp2_with fail
              go_meet
              refine ⟨N + q, by rw [HSS.out], ?_, by omega, ?_, HZQ.out, hbq⟩
              · have := hN.out
                unfold Hid
                rw [if_pos HSS.out]; simp; omega
              · rw [if_pos HSS.out]
                simpa using hownq
            · have hsb : (m.k + m.c != S) = true := by simpa using hs
              have HSS := Lib.hid hs
              clear hs
              go_wp2_with (at_builtin; refine wpList_append_one rfl (.tmp 52) (.tmp 55) 24 5 rfl Try.underlying24 infoByte rfl w.heap.size _ _ _ rfl hownq (.int .u8 _) rfl rfl ?_ ?_ ?_ ?_)
              case refine_1 => omega
              case refine_2 => unfold maxLen; omega
              case refine_3 => exact hbq.size
              intro v5' w4 hown5 hk5
              have HZ4 := Lib.hid (five_app hownq hk5 HZQ.out)
              have hb7 := hbq.trans (owns_below hownq hk5 hbq.size)
              clear hownq hk5
              go_wp2_with fail
              go_meet
              refine ⟨N + q + 1, rfl, ?_, by omega, ?_, HZ4.out, hb7⟩
              · have := hN.out
                unfold Hid
                rw [if_neg HSS.out]; simp; omega
              · rw [if_neg HSS.out]
                simpa using hown5
          case rest =>
            obtain ⟨N2, rfl, hN2, hN26, hown5, hz4, hb7⟩ := hcut
            obtain ⟨w4, rfl⟩ : ∃ w', w' = wc := ⟨_, rfl⟩
            have HZ4 := Lib.hid hz4
            have HOUT := Lib.hid (show out l (k + 1) = (out l k ++ numL D ++ (if m.k + m.c = S then [] else [m.k + m.c])) ++ m.a :: (if twoB m.k = true then [m.b] else []) by rw [hnext.out.2.2, HEN.out]; simp)
            clear hz4 hownq HZQ hbq y0 y1 y2 y3 y4 HEN hniq hsepq
            generalize out l k ++ numL D ++ (if m.k + m.c = S then [] else [m.k + m.c]) = L2 at *
            obtain ⟨y0, y1, y2, y3, y4, -⟩ := Five.cells HZ4.out
            go_upto_region 17 with (at_builtin; refine wpList_append_one rfl (.tmp 57) (.tmp 61) 24 5 rfl Try.underlying24 infoByte rfl w.heap.size _ _ _ rfl hown5 (.int .u8 _) rfl rfl ?_ ?_ ?_ ?_)
            case refine_1 => omega
            case refine_2 => unfold maxLen; omega
            case refine_3 => exact hb7.size
            intro v6' w5 hown6 hk6
            have HZ5 := Lib.hid (five_app hown5 hk6 HZ4.out)
            have hb8 := hb7.trans (owns_below hown5 hk6 hb7.size)
            have hlen3 : Hid (N2 + 1 = (L2 ++ [m.a]).length) := by have := hN2.out; unfold Hid; simp; omega
            clear hown5 hk6 y0 y1 y2 y3 y4 HZ4 hb7
            obtain ⟨y0, y1, y2, y3, y4, -⟩ := Five.cells HZ5.out
            cases h2 : twoB m.k with
            | false =>
              have H2 := Lib.hid h2
              clear h2
              have hfin : Hid (out l (k + 1) = L2 ++ [m.a]) := by have := HOUT.out; rw [H2.out] at this; unfold Hid; simpa using this
              go_wp2_with (go_at_call 19; refine (ltwo_any _ _).mono ?_; rintro e w' ⟨rfl, rfl⟩; rw [H2.out])
              go_roundw
              case rel => exact ⟨k + 1, N2 + 1, by omega, by go_num, by rw [hnext.out.1], by rw [hnext.out.2.1], by rw [hfin.out]; exact hlen3.out, by rw [hfin.out]; simpa using hown6, hb8⟩
              case measure => simp [intOf]; omega
            | true =>
              have H2 := Lib.hid h2
              clear h2
              have hfin : Hid (out l (k + 1) = L2 ++ [m.a] ++ [m.b]) := by have := HOUT.out; rw [H2.out] at this; unfold Hid; simpa using this
              go_wp2_with (first | (go_at_call 19; refine (ltwo_any _ _).mono ?_; rintro e w' ⟨rfl, rfl⟩; rw [H2.out]) | (at_builtin; refine wpList_append_one rfl (.tmp 66) (.tmp 70) 24 5 rfl Try.underlying24 infoByte rfl w.heap.size _ _ _ rfl hown6 (.int .u8 _) rfl rfl ?_ ?_ ?_ ?_))
              case refine_1 => omega
              case refine_2 => unfold maxLen; omega
              case refine_3 => exact hb8.size
              intro v7' w6 hown7 hk7
              have hb9 := hb8.trans (owns_below hown6 hk7 hb8.size)
              clear hown6 hk7 y0 y1 y2 y3 y4 HZ5
              go_wp2_with fail
              go_roundw
              case rel => exact ⟨k + 1, N2 + 1 + 1, by omega, by go_num, by rw [hnext.out.1], by rw [hnext.out.2.1], by rw [hfin.out, List.length_append, ← hlen3.out]; rfl, by rw [hfin.out]; simpa using hown7, hb9⟩
              case measure => simp [intOf]; omega
    · obtain rfl : k = n := by omega
      obtain ⟨ro, rc, rfl, hrc, hrow, hrl, _, _⟩ := own_slice hown
      have hints := Lib.hid (hrow.ints hrl (out_wf l k HG.out))
      clear hrow hown
      go_wp2_with fail
      go_ret
      exact ⟨ro, N, rc, rfl, hrc, hints.out, hb⟩
end Go.Proofs.Ytmhlmaimmbopfaa

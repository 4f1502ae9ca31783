/- The statement AdpcmWhole. -/
import Derived.Test.YtbhopghfglgibaaWpl
namespace Go.Proofs.Ytbhopghfglgibaa
open Go.RowKit Go.Calli
set_option linter.unusedVariables false
/-- The two ways of an answer of All. -/
def AllRes (zs : List Int) (n : Nat) (w' : World) (co : Option Addr) (cn cc : Nat) (E : Int) : Prop :=
  (¬ InR zs n ∧ co = none ∧ cn = 0 ∧ cc = 0 ∧ E = 5) ∨
  (InR zs n ∧ E = 0 ∧ cn = 20 * ((n + 31) / 32) ∧ cn ≤ cc ∧ cc ≤ maxLen ∧ Ints .u8 w' co cn (allB zs ((n + 31) / 32)))
theorem AllRes.keep0 {zs : List Int} {n : Nat} {w w' : World} {co : Option Addr} {cn cc : Nat} {E : Int} (h : AllRes zs n w co cn cc E) (hb : Below w.heap.size w w') : AllRes zs n w' co cn cc E := by
  rcases h with h | ⟨h1, h2, h3, h4, h5, h6⟩
  · exact .inl h
  · exact .inr ⟨h1, h2, h3, h4, h5, h6.keep0 hb⟩
theorem all_uni (ao : Option Addr) (n cap : Nat) (zs : List Int) (hn : n ≤ 150) (hc : n ≤ cap) (hcm : cap ≤ maxLen) (w : World) (h : Ints .i64 w ao n zs) : Calls Try.prog 22 #[.slice ao n cap] w fun e w' => ∃ co cn cc E, e = .returned (.tuple #[.slice co cn cc, .int .i64 E]) ∧ AllRes zs n w' co cn cc E ∧ Below w.heap.size w w' := by
  refine (all_any ao n cap zs hn hc hcm w h).mono ?_
  rintro e w1 (⟨h1, rfl, h2⟩ | ⟨h1, co, cc, rfl, h2, h3, h4, h5⟩)
  · exact ⟨_, _, _, _, rfl, .inl ⟨h1, rfl, rfl, rfl, rfl⟩, h2⟩
  · exact ⟨_, _, _, _, rfl, .inr ⟨h1, rfl, rfl, h2, h3, h4⟩, h5⟩
/-- What the law's own loop holds. -/
def LawRel (zs : List Int) (n S : Nat) (X : World) (v8 v9 v10 : Value) (wr : World) : Prop := ∃ (m lo : Nat), Hid (lo = 32 * m) ∧ lo < n + 32 ∧ v10 = .int .i64 (lo : Nat) ∧ v8 = .string (strOfNums (allB zs m)) ∧ wr.ownsRow S 3 1 v9 (min n (32 * m)) ((allO zs m).map (Value.int .i64)) ∧ wr.heap[S]? = some (.cells #[.int .i64 (cS zs m).1, .int .i64 (cS zs m).2] 23 (0, 0)) ∧ InR zs (min n (32 * m)) ∧ Below S X wr
def LawCut (zs : List Int) (n S m lo d : Nat) (X : World) (v9 v13 v14 v15 : Value) (wx : World) : Prop := ∃ T' oo oc P', v13 = .slice (some ⟨T', 0, none⟩) 20 20 ∧ v14 = .slice oo d oc ∧ v15 = .pointer (some ⟨P', 0, none⟩) ∧ S < P' ∧ (∀ a, oo = some a → S < a.block ∧ v9.ownBlock ≠ some a.block) ∧ wx.heap[P']? = some (.cells #[.int .i64 (cS zs (m + 1)).1, .int .i64 (cS zs (m + 1)).2] 23 (0, 0)) ∧ Blk .u8 wx T' 5 (chP zs m) ∧ Ints .i64 wx oo d (eouts (cS zs m).1 (cS zs m).2 (chZ zs m) d) ∧ wx.ownsRow S 3 1 v9 (min n lo) ((allO zs m).map (Value.int .i64)) ∧ wx.heap[S]? = some (.cells #[.int .i64 (cS zs m).1, .int .i64 (cS zs m).2] 23 (0, 0)) ∧ Below S X wx
/-- The three ways of an answer of Whole. -/
def WRes (bs : List Int) (k rn : Nat) (E : Int) : Prop := (k % 20 ≠ 0 ∧ rn = 0 ∧ E = 12) ∨ (k % 20 = 0 ∧ ¬ AllOk bs (k / 20) ∧ rn = 0 ∧ E = 4) ∨ (k % 20 = 0 ∧ AllOk bs (k / 20) ∧ E = 0)
theorem whole_uni (ao : Option Addr) (n cap : Nat) (bs : List Int) (hn : n ≤ 200) (hc : n ≤ cap) (hcm : cap ≤ maxLen) (w : World) (h : Ints .u8 w ao n bs) : Calls Try.prog 23 #[.slice ao n cap] w fun e w' => ∃ ro rn rc E, e = .returned (.tuple #[.slice ro rn rc, .int .i64 E]) ∧ Hid (WRes bs n rn E) ∧ Below w.heap.size w w' := by
  refine (whole_any ao n cap bs hn hc hcm w h).mono ?_
  rintro e w1 (⟨h1, rfl, h2⟩ | ⟨h0, h1, rfl, h2⟩ | ⟨h0, h1, ro, rk, rc, rfl, h2, h3⟩)
  · exact ⟨_, _, _, _, rfl, .inl ⟨h1, rfl, rfl⟩, h2⟩
  · exact ⟨_, _, _, _, rfl, .inr (.inl ⟨h0, h1, rfl, rfl⟩), h2⟩
  · exact ⟨_, _, _, _, rfl, .inr (.inr ⟨h0, h1, rfl⟩), h3⟩
set_option maxRecDepth 100000 in
set_option maxHeartbeats 2000000 in
theorem wholes_any (ao bo : Option Addr) (n0 cap k0 kap : Nat) (zs0 bs0 : List Int) (hc0 : n0 ≤ cap) (hcm : cap ≤ maxLen) (hkc0 : k0 ≤ kap) (hkm : kap ≤ maxLen) (w : World) (h0 : Ints .i64 w ao n0 zs0) (hB0 : Ints .u8 w bo k0 bs0) : Calls Try.prog 7 #[.slice ao n0 cap, .slice bo k0 kap] w (RightPost true w) := by
  have hcm2 := hcm
  have hkm2 := hkm
  unfold maxLen at hcm2 hkm2
  go_enter Try.func7, Try.ntmps7
  go_upto_if 27 with fail
  go_cut [0] (fun v wx => ∃ n, v = .slice ao n cap ∧ Hid (n = min n0 150) ∧ w = wx)
  case first =>
    by_cases hgt : 150 < n0
    · obtain ⟨a, rfl, -⟩ := h0.some (by omega)
      go_wp2_with fail
      go_meet
      exact ⟨150, rfl, by unfold Hid; omega, rfl⟩
    · go_wp2_with fail
      go_meet
      exact ⟨n0, rfl, by unfold Hid; omega, rfl⟩
  case rest =>
  obtain ⟨n, rfl, hn0, rfl⟩ := hcut
  go_upto_if 32 with fail
  go_cut [1] (fun v wx => ∃ k, v = .slice bo k kap ∧ Hid (k = min k0 200) ∧ w = wx)
  case first =>
    by_cases hgt : 200 < k0
    · obtain ⟨a, rfl, -⟩ := hB0.some (by omega)
      go_wp2_with fail
      go_meet
      exact ⟨200, rfl, by unfold Hid; omega, rfl⟩
    · go_wp2_with fail
      go_meet
      exact ⟨k0, rfl, by unfold Hid; omega, rfl⟩
  case rest =>
  obtain ⟨k, rfl, hk0, rfl⟩ := hcut
  have hn : n ≤ 150 := by have := hn0.out; omega
  have hk : k ≤ 200 := by have := hk0.out; omega
  have hc : n ≤ cap := by have := hn0.out; omega
  have hkc : k ≤ kap := by have := hk0.out; omega
  have h : Ints .i64 w ao n (zs0.take n) := h0.take (by have := hn0.out; omega)
  have hB : Ints .u8 w bo k (bs0.take k) := hB0.take (by have := hk0.out; omega)
  clear h0 hB0 hc0 hkc0 hn0 hk0 hcm2 hkm2
  generalize zs0.take n = zs at h
  generalize bs0.take k = bs at hB
  clear zs0 bs0
  have hA := all_uni ao n cap zs hn hc hcm w h
  unfold maxLen at hcm hkm
  go_upto_region 6 with (go_at_call 22; refine hA.mono ?_; rintro e w1 ⟨co, cn, cc, E, rfl, HR, hb1⟩)
  clear hA
  have h1 := h.keep0 hb1
  have hB1 := hB.keep0 hb1
  have hS : (w1.alloc (.cells #[.int .i64 0, .int .i64 0] 23)).heap[w1.heap.size]? = some (.cells #[.int .i64 0, .int .i64 0] 23 (0, 0)) := heap_alloc_new _ _
  have hb2 := below_alloc w1 (.cells #[.int .i64 0, .int .i64 0] 23)
  go_wp2_with fail
  go_loopw [8, 9, 10] (fun v8 v9 v10 wr => LawRel zs n w1.heap.size w1 v8 v9 v10 wr) (fun _ _ i _ => (n + 32 - intOf i).toNat)
  case atStart => exact ⟨0, 0, rfl, by omega, rfl, rfl, by rw [Nat.mul_zero, Nat.min_zero]; exact World.ownsRow_nil _ _ _ _, hS, fun q hq => by omega, hb2⟩
  case round =>
    clear hS hb2
    obtain ⟨m, lo, hlo, hm, rfl, rfl, hown, hD, hin, hb⟩ := hrel
    by_cases hlt : lo < n
    · obtain ⟨a, rfl, -⟩ := h.some (by omega)
      have hzl := h.hlen
      have hj : Hid ((chZ zs m).length = min 32 (n - lo)) := by rw [← hzl, hlo.out]; exact chZ_len zs m
      have hj32 : (chZ zs m).length ≤ 32 := by rw [hj.out]; omega
      have hj0 : 0 < (chZ zs m).length := by rw [hj.out]; omega
      have hjn : lo + (chZ zs m).length ≤ n := by rw [hj.out]; omega
      have hbw := bstep hb1 hb
      obtain ⟨J, hJ⟩ : ∃ J, J = lo + (chZ zs m).length := ⟨_, rfl⟩
      have HJ := Lib.hid hJ
      have hJn : J ≤ n := by omega
      have hJl : lo < J := by omega
      have hJ2 := hJ
      rw [hj.out] at hJ2
      clear hJ
      go_upto_if 52 with fail
      go_cut [11] (fun v wx => v = .int .i64 (J : Nat) ∧ wr = wx)
      case first =>
        by_cases hgt : (n : Int) < (lo : Int) + 32
        · have e := Lib.hid (show J = n by omega)
          clear hJ2
          go_wp2_with fail
          go_meet
          exact ⟨by rw [e.out], rfl⟩
        · have e := Lib.hid (show (J : Int) = (lo : Int) + 32 by omega)
          clear hJ2
          go_wp2_with fail
          go_meet
          exact ⟨by rw [e.out], rfl⟩
      case rest =>
        obtain ⟨rfl, rfl⟩ := hcut
        clear hJ2
        go_wp2_with fail
        have hh := h.keep0 hbw
        go_loopw [12] (fun v12 wx => ∃ q : Nat, lo ≤ q ∧ q ≤ J ∧ v12 = .int .i64 (q : Nat) ∧ InR zs q ∧ wx = wr) (fun v12 _ => (J - intOf v12).toNat)
        case atStart => exact ⟨lo, by omega, by omega, rfl, fun q hq => hin q (by have := hlo.out; omega), rfl⟩
        case round =>
          obtain ⟨q, hq1, hq2, rfl, hqi, rfl⟩ := hrel
          by_cases hqJ : q < J
          · obtain ⟨a0, v, ha0, hv, hcv, hv1, hv2⟩ := hh.int (i := q) (by omega)
            cases ha0
            by_cases hvr : -32768 ≤ v ∧ v ≤ 32767
            · have hsa := fun w => sample_yes v hvr w
              have hqi2 : InR zs (q + 1) := fun q' hq' => by
                by_cases e : q' = q
                · rw [e, hv.out]; exact hvr
                · exact hqi q' (by omega)
              have HQ := Lib.hid hqi2
              clear hqi2 hqi hvr
              go_wp2_with (go_at_call 20; refine (hsa _).mono ?_; rintro e w5 ⟨rfl, rfl⟩)
              go_roundw
              case rel => exact ⟨q + 1, by omega, by omega, by go_num, HQ.out, by first | rfl | trivial⟩
              case measure => simp [intOf]; omega
            · have hsa := fun w => sample_no v (by omega) w
              have hno : ¬ InR zs n := fun hh => hvr (by have := hh q (by omega); rw [hv.out] at this; exact this)
              have hR := HR
              rcases hR with ⟨-, rfl, rfl, rfl, rfl⟩ | ⟨h1, -⟩
              · clear hno hvr hqi HR
                go_wp2_with (first | (go_at_call 20; refine (hsa _).mono ?_; rintro e w5 ⟨rfl, rfl⟩) | (go_at_call 13; refine (awake_any _).mono ?_; rintro e w9 ⟨rfl, hb10⟩))
                go_ret
                exact ⟨rfl, bstep hbw hb10⟩
              · exact absurd h1 hno
          · obtain rfl : q = J := by omega
            have HQ := Lib.hid hqi
            have HD := Lib.hid hD
            obtain ⟨x0, x1, f0, f1⟩ := two_cells hD
            clear hqi hin hD
            have hlen : q - lo = (chZ zs m).length := by have := HJ.out; omega
            have hI : Ints .i64 w (some (a.add lo)) (q - lo) (chZ zs m) := by
              have h2 := (h.drop (j := lo) (by omega)).take (n := q - lo) (by omega)
              have e : (zs.drop lo).take (q - lo) = chZ zs m := by
                have hl2 := (h.drop (j := lo) (by omega)).hlen
                have hjo := hj.out
                unfold chZ
                rw [← hlo.out]
                rcases Nat.le_total 32 (n - lo) with h3 | h3
                · rw [show q - lo = 32 by omega]
                · rw [List.take_of_length_le (by omega), List.take_of_length_le (by omega)]
              rw [e] at h2
              exact h2
            have hinm : InM (chZ zs m) (q - lo) := fun p hp => by
              rw [chZ_get zs m p (by omega)]
              have := HQ.out (32 * m + p) (by have := hlo.out; omega)
              omega
            have hbk := fun (W : World) (hW : Below w.heap.size w W) => block_any (some (a.add lo)) (q - lo) (cap - lo) (cS zs m).1 (cS zs m).2 (chZ zs m) (by omega) (cS_right zs m) hinm W (hI.keep0 hW)
            have hcl : ¬ (cap = lo) := by omega
            have hi1 : (lo : Int) ≤ (q : Int) := by omega
            have hi2 : (q : Int) ≤ (cap : Int) := by omega
            have hnw0 := World.new_ne wr ⟨w1.heap.size, 0, none⟩ x0
            have hnw1 := World.new_ne wr ⟨w1.heap.size, 1, none⟩ x1
            have HLEN := Lib.hid hlen
            have hez : eS (cS zs m).1 (cS zs m).2 (chZ zs m) (q - lo) = cS zs (m + 1) := by rw [hlen]; rfl
            have hpz : pbs (cS zs m).1 (cS zs m).2 (chZ zs m) (q - lo) (q - lo) = chP zs m := by rw [hlen]; rfl
            have hbD := lt_of_block HD.out
            have hown' : wr.ownsRow w1.heap.size 3 1 u9 (min n lo) ((allO zs m).map (Value.int .i64)) := by rw [hlo.out]; exact hown
            clear hinm hI hlen hown
            go_upto_region 20 with fail
            go_cut [13, 14, 15] (fun v13 v14 v15 wx => LawCut zs n w1.heap.size m lo (q - lo) w1 u9 v13 v14 v15 wx)
            case first =>
              go_region_held3 (fun w' => w'.cell? ⟨w1.heap.size, 0, none⟩ = some (.int .i64 (cS zs m).1) ∧ w'.cell? ⟨w1.heap.size, 1, none⟩ = some (.int .i64 (cS zs m).2)) (go_keep) (first | (go_at_call 21; refine (hbk _ hbw.drew).mono ?_; rintro e w2 ⟨T', oo, oc, rfl, hT2, hO2, hOb, hb2⟩; obtain ⟨y0, y1, -⟩ := two_cells ((hb2.block w1.heap.size (lt_of_block HD.out)).trans HD.out)) | (go_at_call 21; refine (hbk _ (balloc hbw _).drew).mono ?_; rintro e w2 ⟨T', oo, oc, rfl, hT2, hO2, hOb, hb2⟩; obtain ⟨y0, y1, -⟩ := two_cells ((hb2.block w1.heap.size (by have := lt_of_block HD.out; simp; omega)).trans ((Below.heap_alloc wr _ _ (lt_of_block HD.out)).trans HD.out)); obtain ⟨z0, z1, g0, g1⟩ := two_cells ((hb2.block wr.heap.size (by simp)).trans (heap_alloc_new wr (.cells #[.int .i64 0, .int .i64 0] 23)))))
              · go_wp2_with fail
                go_meet
                have hb2' : Below wr.heap.size wr w2 := (Below.refl wr.heap.size wr).drew.trans hb2
                try rw [hez]
                try rw [hpz] at hT2
                have hkk : Below wr.heap.size wr (w2.alloc (.cells #[.int .i64 (cS zs (m + 1)).1, .int .i64 (cS zs (m + 1)).2] 23)) := balloc hb2' _
                exact ⟨T', oo, oc, w2.heap.size, rfl, rfl, rfl, Nat.lt_of_lt_of_le hbD hb2'.size, (fun a0 ha => ⟨Nat.lt_of_lt_of_le hbD (hOb a0 ha), fun hS => by have h3 := (hown'.lt _ hS).2; have h4 := hOb a0 ha; simp at h4; omega⟩), heap_alloc_new _ _, hT2.keep0 (below_alloc _ _), hO2.keep0 (below_alloc _ _), owns_kept (S := fun _ => False) hown' (Keeps.ofBelow hkk (Nat.le_refl _)) (fun _ _ h => h), (hkk.block _ hbD).trans HD.out, bstep hb hkk⟩
              · go_wp2_with fail
                go_meet
                have hb2' : Below wr.heap.size wr w2 := ((below_alloc wr (.cells #[.int .i64 0, .int .i64 0] 23)).drew).trans (hb2.mono (by simp))
                try rw [hez]
                try rw [hpz] at hT2
                have hzz := (hb2.block wr.heap.size (by simp)).trans (heap_alloc_new wr (.cells #[.int .i64 0, .int .i64 0] 23))
                have hkk : Below wr.heap.size wr ((w2.setCell ⟨wr.heap.size, 0, none⟩ (.int .i64 (cS zs (m + 1)).1)).setCell ⟨wr.heap.size, 1, none⟩ (.int .i64 (cS zs (m + 1)).2)) := (hb2'.setCell (p := ⟨wr.heap.size, 0, none⟩) (Nat.le_refl _) _).setCell (p := ⟨wr.heap.size, 1, none⟩) (Nat.le_refl _) _
                have hkp : Keeps (fun b => b = wr.heap.size) w2 ((w2.setCell ⟨wr.heap.size, 0, none⟩ (.int .i64 (cS zs (m + 1)).1)).setCell ⟨wr.heap.size, 1, none⟩ (.int .i64 (cS zs (m + 1)).2)) := ((Keeps.refl (fun b => b = wr.heap.size) w2).setCell (p := ⟨wr.heap.size, 0, none⟩) (.inr rfl) _).setCell (p := ⟨wr.heap.size, 1, none⟩) (.inr rfl) _
                exact ⟨T', oo, oc, wr.heap.size, rfl, rfl, rfl, hbD, (fun a0 ha => ⟨by have := hOb a0 ha; simp at this; omega, fun hS => by have h3 := (hown'.lt _ hS).2; have h4 := hOb a0 ha; simp at h4; omega⟩), two_same hzz _ _, hT2.kept hkp (fun hS => by
                  have hS' : T' = wr.heap.size := hS
                  have hT3 : w2.heap[T']? = _ := hT2
                  rw [hS', hzz] at hT3; cases hT3), hO2.kept hkp (fun a0 ha hS => by have := hOb a0 ha; have hS' : a0.block = wr.heap.size := hS; simp at this; omega), owns_kept (S := fun _ => False) hown' (Keeps.ofBelow hkk (Nat.le_refl _)) (fun _ _ h => h), (hkk.block _ hbD).trans HD.out, bstep hb hkk⟩
            case rest =>
              obtain ⟨T', oo, oc, P', rfl, rfl, rfl, hSP, hOS, hP', hT', hO', hown2, hD2, hb2⟩ := hcut
              obtain ⟨p0, p1, -⟩ := two_cells hP'
              obtain ⟨d0, d1, df0, df1⟩ := two_cells hD2
              have hD4 := two_same hD2 (.int .i64 (cS zs (m + 1)).1) (.int .i64 (cS zs (m + 1)).2)
              have hkp : Keeps (fun b => b = w1.heap.size) wc ((wc.setCell ⟨w1.heap.size, 0, none⟩ (.int .i64 (cS zs (m + 1)).1)).setCell ⟨w1.heap.size, 1, none⟩ (.int .i64 (cS zs (m + 1)).2)) := ((Keeps.refl (fun b => b = w1.heap.size) wc).setCell (p := ⟨w1.heap.size, 0, none⟩) (.inr rfl) _).setCell (p := ⟨w1.heap.size, 1, none⟩) (.inr rfl) _
              have hT4 := hT'.kept hkp (fun hS => by
                have hS' : T' = w1.heap.size := hS
                have hT3 : wc.heap[T']? = _ := hT'
                rw [hS', hD2] at hT3; cases hT3)
              have hown4 := owns_kept hown2 hkp (fun b hb hS => by
                obtain ⟨cs, hcs⟩ := own_block_type hown2 hb
                have hS' : b = w1.heap.size := hS
                rw [hS', hD2] at hcs; cases hcs)
              have hb4 : Below w1.heap.size w1 ((wc.setCell ⟨w1.heap.size, 0, none⟩ (.int .i64 (cS zs (m + 1)).1)).setCell ⟨w1.heap.size, 1, none⟩ (.int .i64 (cS zs (m + 1)).2)) := (hb2.setCell (p := ⟨w1.heap.size, 0, none⟩) (Nat.le_refl _) _).setCell (p := ⟨w1.heap.size, 1, none⟩) (Nat.le_refl _) _
              have hlD := lt_of_block hD2
              go_upto_region 22 with fail
              have hO4 := hO'.kept hkp (fun a0 ha hS => by have := (hOS a0 ha).1; have hS' : a0.block = w1.heap.size := hS; omega)
              clear hkp hown2 hO' hT' hb2 p0 p1 d0 d1 df0 df1 hP' hD2
              have hOS2 : ∀ a, oo = some a → u9.ownBlock ≠ some a.block := fun a0 ha => (hOS a0 ha).2
              clear hOS
              generalize (wc.setCell ⟨w1.heap.size, 0, none⟩ (.int .i64 (cS zs (m + 1)).1)).setCell ⟨w1.heap.size, 1, none⟩ (.int .i64 (cS zs (m + 1)).2) = Y at *
              have hpl : (chP zs m).length = 20 := by simp [chP, pbs_len]
              have hc1 := run_convert_bytes_arg (P := Try.prog) Y 33 5 rfl rfl T' 0 20 20 (chP zs m) hpl (fun i hi => by rw [Nat.zero_add]; exact hT4.cell (by rw [hpl]; exact hi)) 9 rfl
              have hab := allB_len zs m
              have hm5 : m ≤ 5 := by have := hlo.out; omega
              have hadd : ∀ w : World, (Op.stringOp .add (strOfNums (allB zs m)) (strOfNums (chP zs m))).run Try.prog w = .ok (.string (strOfNums (allB zs (m + 1)))) w := fun w => by
                have h3 := run_string_add_sum (P := Try.prog) w (strOfNums (allB zs m)) (strOfNums (chP zs m)) (by rw [strOfNums_size, strOfNums_size, hab, hpl]; omega)
                rw [← str_append] at h3
                exact h3
              have HD4 := Lib.hid hD4
              have hT44 : Hid (Blk .u8 Y T' 5 (chP zs m)) := hT4
              clear hD4 hT4 hab hpl
              go_upto_region 23 with fail
              clear hadd hc1
              go_wp2_with fail
              have hel := eouts_len (cS zs m).1 (cS zs m).2 (chZ zs m) (q - lo)
              have HEL := Lib.hid hel
              clear hel
              go_loopw [9, 16] (fun v9 v16 wx => ∃ r : Nat, r ≤ q - lo ∧ v16 = .int .i64 (r : Nat) ∧ wx.ownsRow w1.heap.size 3 1 v9 (min n lo + r) ((allO zs m).map (Value.int .i64) ++ ((eouts (cS zs m).1 (cS zs m).2 (chZ zs m) (q - lo)).take r).map (Value.int .i64)) ∧ wx.heap[w1.heap.size]? = some (.cells #[.int .i64 (cS zs (m + 1)).1, .int .i64 (cS zs (m + 1)).2] 23 (0, 0)) ∧ Ints .i64 wx oo (q - lo) (eouts (cS zs m).1 (cS zs m).2 (chZ zs m) (q - lo)) ∧ (∀ a, oo = some a → v9.ownBlock ≠ some a.block) ∧ Below w1.heap.size w1 wx) (fun _ v16 _ => (q - lo - intOf v16).toNat)
              case atStart => exact ⟨0, by omega, rfl, by simpa using hown4, HD4.out, hO4, hOS2, hb4⟩
              case round =>
                clear hown4 hO4 hb4 HD4
                obtain ⟨r, hr, rfl, hownr, hDr, hOr, hOSr, hbr⟩ := hrel
                have HDR := Lib.hid hDr
                by_cases hrd : r < q - lo
                · obtain ⟨b, x, rfl, hx, hcx, hx1, hx2⟩ := hOr.int hrd
                  have htk := take_succ_getD (eouts (cS zs m).1 (cS zs m).2 (chZ zs m) (q - lo)) r (by rw [HEL.out]; exact hrd)
                  rw [hx.out] at htk
                  have HTK := Lib.hid htk
                  have hnS := Lib.hid (hOSr b rfl)
                  have hbl := World.block_lt_of_cell? _ _ hcx
                  rw [Addr.add_block] at hbl
                  clear htk hx hOSr
                  go_wp2_with (at_builtin; refine wpList_append_one_at rfl (.tmp 98) (.tmp 103) 34 3 rfl Try.underlying34 infoInt rfl w1.heap.size _ _ _ rfl hownr (.int .i64 _) rfl rfl ?_ ?_ ?_ ?_)
                  case refine_1 => omega
                  case refine_2 => unfold maxLen; omega
                  case refine_3 => exact hbr.size
                  intro v' w' hown' hkp hblk
                  have hb' := hbr.trans (owns_below hownr hkp hbr.size)
                  have hO' := hOr.kept hkp (fun a0 ha hS => by cases ha; exact hnS.out hS)
                  have hD' := hkp.heap HDR.out (fun hS => by
                    obtain ⟨cs, hcs⟩ := own_block_type hownr hS
                    rw [HDR.out] at hcs; cases hcs)
                  have hOS' : ∀ a, some b = some a → v'.ownBlock ≠ some a.block := fun a0 ha hS => by
                    cases ha
                    rcases hblk with h1 | ⟨k', h1, h2⟩
                    · rw [h1] at hS; exact hnS.out hS
                    · rw [h1] at hS; cases hS; omega
                  have HD' := Lib.hid hD'
                  clear hblk hkp hownr hOr hDr HDR hD' hcx
                  go_wp2_with fail
                  go_roundw
                  case rel => exact ⟨r + 1, by omega, by go_num, by rw [HTK.out]; simpa [Nat.add_assoc] using hown', HD'.out, hO', hOS', hb'⟩
                  case measure => simp [intOf]; omega
                · obtain rfl : r = q - lo := by omega
                  have htk : (eouts (cS zs m).1 (cS zs m).2 (chZ zs m) (q - lo)).take (q - lo) = eouts (cS zs m).1 (cS zs m).2 (chZ zs m) (q - lo) := List.take_of_length_le (by rw [HEL.out]; omega)
                  rw [htk] at hownr
                  clear htk
                  go_wp2_with fail
                  have hlo' := hlo.out
                  have hlen' := HLEN.out
                  have hj' := hj.out
                  have hJ' := HJ.out
                  have hcnt : min n lo + (q - lo) = min n (32 * (m + 1)) := by omega
                  rw [hcnt, hlen'] at hownr
                  refine ⟨⟨m + 1, lo + 32, by unfold Hid; omega, by omega, by push_cast; rfl, rfl, ?_, HDR.out, fun p hp => HQ.out p (by omega), hbr⟩, ?_⟩
                  · simp only [allO, List.map_append]
                    exact hownr
                  · simp [intOf]; omega
    · obtain ⟨M, hM⟩ : ∃ M, M = (n + 31) / 32 := ⟨_, rfl⟩
      obtain rfl : m = M := by have := hlo.out; omega
      have hlo' := hlo.out
      rw [show min n (32 * m) = n by omega] at hown hin
      rcases HR with ⟨hno, -⟩ | ⟨-, rfl, hcn, hcc, hcx, hco⟩
      · exact absurd hin hno
      · rw [← hM] at hcn hco
        subst hcn
        have hm5 : m ≤ 5 := by omega
        have hzl := h.hlen
        obtain ⟨oo, oc, rfl, hoc, hrow, hol, _, _⟩ := own_slice hown
        have hO := hrow.ints hol (allO_wf zs m)
        have hW := whole_any co (20 * m) cc (allB zs m) (by omega) hcc hcx wr (hco.keep0 hb)
        have hmod : 20 * m % 20 = 0 := by omega
        have hdiv : 20 * m / 20 = m := by omega
        have hW2 : Calls Try.prog 23 #[.slice co (20 * m) cc] wr fun e w' => ∃ ro rc, e = .returned (.tuple #[.slice ro n rc, .int .i64 0]) ∧ Ints .i64 w' ro n (allO zs m) ∧ Below wr.heap.size wr w' := hW.mono (fun e w' hp => by
          rcases hp with ⟨g1, _⟩ | ⟨_, g1, _⟩ | ⟨_, _, ro, rk, rc, g1, h2, h3⟩
          · omega
          · rw [hdiv] at g1; exact absurd (allOk_allB zs m) g1
          · rw [hdiv, whole_all zs m m (Nat.le_refl _)] at h2
            have hl2 := h2.hlen
            rw [allO_len, hzl] at hl2
            have hrk : rk = n := by omega
            subst hrk
            exact ⟨ro, rc, g1, h2, h3⟩)
        have HIN := Lib.hid hin
        have hbw := bstep hb1 hb
        clear hW hmod hdiv hM hlo' hlo hin hown hrow hD
        go_upto_region 28 with (go_at_call 23; refine hW2.mono ?_; rintro e w3 ⟨ro, rc, rfl, hR3, hb3⟩)
        have hcv := conv_ints (P := Try.prog) ((hco.keep0 hb).keep0 hb3) 33 5 9 cc rfl rfl rfl
        have hs := same_yes ro oo n rc oc (allO zs m) w3 hR3 (hO.keep0 hb3)
        have hb4 := bstep hbw hb3
        clear hW2 hco hO hR3
        go_cut [134] (fun v wx => v = .bool false ∧ Below w.heap.size w wx)
        case first =>
          go_wp2_with (go_at_call 18; refine hs.mono ?_; rintro e w5 ⟨rfl, hb5⟩)
          go_meet
          exact ⟨by simp, bstep hb4 hb5⟩
        case rest =>
          obtain ⟨rfl, hb5⟩ := hcut
          clear hcv hs hb4 hb3 hbw hb h1 hB1 hb1 HIN h
          obtain ⟨w5, rfl⟩ : ∃ w', w' = wc := ⟨_, rfl⟩
          have hBx := hB.keep0 hb5
          have hWW := whole_uni bo k kap bs hk hkc (by unfold maxLen; omega) w5 hBx
          have HB := Lib.hid hB
          clear hB hBx
          go_upto_region 31 with (go_at_call 23; refine hWW.mono ?_; rintro e w6 ⟨qo, qn, qc, E, rfl, HW, hb6⟩)
          have hb7 := bstep hb5 hb6
          clear hb5 hb6 hWW
          by_cases hk20 : k % 20 = 0
          · have hm : (k : Int) % 20 = 0 := by omega
            have HW2 : Hid ((¬ AllOk bs (k / 20) ∧ qn = 0 ∧ E = 4) ∨ (AllOk bs (k / 20) ∧ E = 0)) := by
              rcases HW.out with ⟨q1, _⟩ | ⟨_, q1, q2, q3⟩ | ⟨_, q1, q2⟩
              · exact absurd hk20 q1
              · exact .inl ⟨q1, q2, q3⟩
              · exact .inr ⟨q1, q2⟩
            clear HW hk20
            go_wp2_with fail
            clear hm
            go_loopw [21, 22, 23, 24] (fun v21 v22 v23 v24 wr => ∃ i : Nat, i ≤ k / 20 ∧ v21 = .int .i64 i ∧ Hid (AllOk bs i) ∧ Below w.heap.size w wr) (fun v21 _ _ _ _ => (k / 20 - (intOf v21).toNat))
            case atStart => exact ⟨0, by omega, rfl, fun q hq => by omega, hb7⟩
            case round =>
              clear hb7
              obtain ⟨i, hi, rfl, hok, hb⟩ := hrel
              by_cases hlt : i < k / 20
              · have hlt' : (i : Int) < (k : Int) / 20 := by omega
                obtain ⟨a, rfl, -⟩ := HB.out.some (by omega)
                have hcl : ¬ (kap = 20 * i) := by omega
                have hi1 : (20 * (i : Int)) ≤ 20 * (i : Int) + 20 := by omega
                have hi2 : 20 * (i : Int) + 20 ≤ (kap : Int) := by omega
                have hin : Ints .u8 wr (some (a.add (20 * i))) 20 (chB bs i) := by
                  have h2 := (((HB.out.keep0 hb).drop (j := 20 * i) (by omega)).take (n := 20) (by omega))
                  exact h2
                have hU := unpack_uni (some (a.add (20 * i))) (kap - 20 * i) (chB bs i) wr hin
                clear hin
                go_upto_region 36 with fail
                go_wp2_with fail
                refine hU.mono ?_
                rintro e w7 ⟨ro2, rn2, rc2, L, I, E2, rfl, HR2, hb8⟩
                have hb9 := bstep hb hb8
                clear hU hb hb8 hlt' hcl hi1 hi2
                rcases HR2 with ⟨hok2, -, -, -, rfl, -⟩ | ⟨hno2, rfl, rfl, rfl, rfl, rfl, rfl⟩
                · have HOK := Lib.hid (hok.out.succ hok2)
                  clear hok hok2
                  go_wp2_with fail
                  go_roundw
                  case rel =>
                    have hb10 := balloc hb9 (.cells #[.int .i64 L, .int .i64 I] 23)
                    skip
                    exact ⟨i + 1, by omega, by go_num, HOK.out, hb10⟩
                  case measure => simp [intOf]; omega
                · have hall : ¬ AllOk bs (k / 20) := fun hh => hno2 (hh i hlt)
                  rcases HW2.out with ⟨_, q2, q3⟩ | ⟨q1, _⟩
                  · subst q2
                    subst q3
                    clear hall hno2 HW2 hok
                    go_wp2_with (go_at_call 13; refine (awake_any _).mono ?_; rintro e w9 ⟨rfl, hb10⟩)
                    go_ret
                    exact ⟨rfl, bstep (balloc hb9 _) hb10⟩
                  · exact absurd q1 hall
              · obtain rfl : i = k / 20 := by omega
                rcases HW2.out with ⟨q1, _⟩ | ⟨_, q2⟩
                · exact absurd hok.out q1
                · subst q2
                  clear HW2 hok
                  go_wp2_with (go_at_call 13; refine (awake_any _).mono ?_; rintro e w9 ⟨rfl, hb10⟩)
                  go_ret
                  exact ⟨rfl, bstep hb hb10⟩
          · have hm' : ((k : Int) % 20 == 0) = false := by simp; omega
            have HW2 : Hid (qn = 0 ∧ E = 12) := by
              rcases HW.out with ⟨_, q2⟩ | ⟨q1, _⟩ | ⟨q1, _⟩
              · exact q2
              · exact absurd q1 hk20
              · exact absurd q1 hk20
            obtain ⟨q2, q3⟩ := HW2.out
            subst q2
            subst q3
            clear HW HW2 hk20
            go_wp2_with (go_at_call 13; refine (awake_any _).mono ?_; rintro e w9 ⟨rfl, hb9⟩)
            go_ret
            exact ⟨rfl, bstep hb7 hb9⟩
end Go.Proofs.Ytbhopghfglgibaa

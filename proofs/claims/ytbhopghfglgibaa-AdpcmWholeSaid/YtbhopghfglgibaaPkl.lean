/- The statement AdpcmPacks. -/
import Derived.Test.YtbhopghfglgibaaBlo
import Derived.Laws.BytesArg
namespace Go.Proofs.Ytbhopghfglgibaa
open Go.RowKit Go.Calli
set_option linter.unusedVariables false
/-! What a block that was packed tells. -/
theorem byte_pbs {l i : Int} (zs : List Int) {n : Nat} (k : Nat) {p : Nat} (hp : p < 20) : byteAt (pbs l i zs n k) p = pb l i zs n k p := by
  unfold byteAt; rw [pbs_get _ _ _ _ _ _ hp]; exact Int.toNat_natCast _
theorem code_pbs {l i : Int} (zs : List Int) {n : Nat} (k : Nat) {q : Nat} (hq : q < 32) : codeAt (pbs l i zs n k) q = nib l i zs k q := by
  have a := nib_lt l i zs k (2 * (q / 2))
  have b := nib_lt l i zs k (2 * (q / 2) + 1)
  unfold codeAt
  rw [byte_pbs zs k (by omega), pb4 _ _ _ _ _ _ (by omega), show 2 * (4 + q / 2 - 4) = 2 * (q / 2) by omega]
  by_cases h : q % 2 = 0
  · rw [if_pos h, show 2 * (q / 2) = q by omega] at *
    omega
  · rw [if_neg h, show 2 * (q / 2) + 1 = q by omega] at *
    omega
theorem run_pbs {l i : Int} (zs : List Int) {n : Nat} (hr : RightS l i) (hn : n ≤ 32) : ∀ k, k ≤ n → run (pbs l i zs n n) k = eS l i zs k := by
  obtain ⟨h1, h2, h3, h4⟩ := hr
  intro k
  induction k with
  | zero =>
    intro _
    unfold run eS
    rw [byte_pbs zs n (by omega), byte_pbs zs n (by omega), byte_pbs zs n (by omega)]
    unfold pb
    simp
    omega
  | succ k ih =>
    intro hk
    have e := ih (by omega)
    have hc : codeAt (pbs l i zs n n) k = eC l i zs k := by
      rw [code_pbs zs n (by omega)]; unfold nib; rw [if_pos (by omega)]
    unfold run
    rw [e, hc]
    rfl
theorem ok_pbs {l i : Int} (zs : List Int) {n : Nat} (hr : RightS l i) (hn : n ≤ 32) : OkB (pbs l i zs n n) ∧ byteAt (pbs l i zs n n) 3 = n := by
  have e3 : byteAt (pbs l i zs n n) 3 = n := by rw [byte_pbs zs n (by omega)]; rfl
  have e2 : byteAt (pbs l i zs n n) 2 = i.toNat := by rw [byte_pbs zs n (by omega)]; rfl
  obtain ⟨h1, h2, h3, h4⟩ := hr
  refine ⟨⟨by rw [e2]; omega, by rw [e3]; omega, fun q h1 h2 => ?_⟩, e3⟩
  rw [e3] at h1
  rw [code_pbs zs n h2]; unfold nib; rw [if_neg (by omega)]
theorem outs_pbs {l i : Int} (zs : List Int) {n : Nat} (hr : RightS l i) (hn : n ≤ 32) : ∀ k, k ≤ n → outs (pbs l i zs n n) k = eouts l i zs k := by
  intro k
  induction k with
  | zero => intro _; rfl
  | succ k ih => intro hk; unfold outs eouts; rw [ih (by omega), run_pbs zs hr hn (k + 1) hk]
theorem unpack_packed {l i : Int} (zs : List Int) {n : Nat} (hr : RightS l i) (hn : n ≤ 32) (b cap : Nat) (w : World) (h : Blk .u8 w b 5 (pbs l i zs n n)) : Calls Try.prog 17 #[.slice (some ⟨b, 0, none⟩) 20 cap] w fun e w' => ∃ ao c, e = .returned (.tuple #[.slice ao n c, .agg #[.int .i64 (eS l i zs n).1, .int .i64 (eS l i zs n).2], .int .i64 0]) ∧ Ints .i64 w' ao n (eouts l i zs n) ∧ Below w.heap.size w w' := by
  obtain ⟨ho, e3⟩ := ok_pbs zs hr hn
  refine (unpack_any (some ⟨b, 0, none⟩) cap _ w (h.ints 20 (pbs_len _ _ _ _ _) (by decide) (pbs_wf zs hr hn n))).mono ?_
  rintro e w1 (⟨h1, ao, c, rfl, h2, h3⟩ | ⟨h1, rfl, h3⟩)
  · rw [e3, run_pbs zs hr hn n (Nat.le_refl _)] at *
    rw [outs_pbs zs hr hn n (Nat.le_refl _)] at h2
    exact ⟨ao, c, rfl, h2, h3⟩
  · exact absurd ho h1
theorem sample_yes (v : Int) (h : -32768 ≤ v ∧ v ≤ 32767) (w : World) : Calls Try.prog 20 #[.int .i64 v] w fun e w' => e = .returned (.bool true) ∧ w = w' := by
  obtain ⟨h1, h2⟩ := h
  go_enter Try.func20, Try.ntmps20
  go_wp2
  go_ret
  exact ⟨rfl, rfl⟩
theorem sample_no (v : Int) (h : v < -32768 ∨ 32767 < v) (w : World) : Calls Try.prog 20 #[.int .i64 v] w fun e w' => e = .returned (.bool false) ∧ w = w' := by
  by_cases h1 : v < -32768
  · clear h
    go_enter Try.func20, Try.ntmps20
    go_wp2
    go_ret
    exact ⟨rfl, rfl⟩
  · have h2 : decide (v ≤ 32767) = false := by simp; omega
    clear h
    go_enter Try.func20, Try.ntmps20
    go_wp2
    go_ret
    exact ⟨rfl, rfl⟩
set_option maxRecDepth 100000 in
set_option maxHeartbeats 1000000 in
theorem packs_refuse (ao : Option Addr) (n cap : Nat) (l i : Int) (hn : n ≤ 40) (h : 32 < n ∨ ¬ RightS l i) (w : World) : Calls Try.prog 6 #[.slice ao n cap, .agg #[.int .i64 l, .int .i64 i]] w (RightPost true w) := by
  have hS : (w.alloc (.cells #[.int .i64 l, .int .i64 i] 23)).heap[w.heap.size]? = some (.cells #[.int .i64 l, .int .i64 i] 23 (0, 0)) := heap_alloc_new _ _
  have hb := below_alloc w (.cells #[.int .i64 l, .int .i64 i] 23)
  go_enter Try.func6, Try.ntmps6
  go_upto_region 1 with fail
  generalize w.alloc (.cells #[.int .i64 l, .int .i64 i] 23) = W at *
  obtain ⟨x0, x1, -⟩ := two_cells hS
  have HS := Lib.hid hS
  clear hS
  have hp := fun w => pack_no1 ao n cap l i (by unfold maxLen; omega) h w
  go_upto_region 4 with (go_at_call 19; refine (hp _).mono ?_; rintro e w1 ⟨rfl, hb1⟩)
  clear hp
  have hS1 := (hb1.block _ (lt_of_block HS.out)).trans HS.out
  have hba := below_alloc w1 (.cells #[.int .i64 l, .int .i64 i] 23)
  have hS2 := (hba.block _ (lt_of_block hS1)).trans hS1
  have hR2 : (w1.alloc (.cells #[.int .i64 l, .int .i64 i] 23)).heap[w1.heap.size]? = some (.cells #[.int .i64 l, .int .i64 i] 23 (0, 0)) := heap_alloc_new _ _
  have hb2 := bstep (bstep hb hb1) hba
  clear hba hS1 HS x0 x1 hb hb1
  generalize w1.heap.size = R at *
  generalize w1.alloc (.cells #[.int .i64 l, .int .i64 i] 23) = Y at *
  have HS := Lib.hid hS2
  have HR := Lib.hid hR2
  obtain ⟨x0, x1, -⟩ := two_cells hS2
  obtain ⟨y0, y1, -⟩ := two_cells hR2
  clear hS2 hR2
  by_cases h1 : 32 < n
  · clear h
    go_wp2_with (go_at_call 13; refine (awake_any _).mono ?_; rintro e w3 ⟨rfl, hb3⟩)
    go_ret
    exact ⟨rfl, bstep hb2 hb3⟩
  · have hr : ¬ RightS l i := by rcases h with h | h <;> first | omega | exact h
    clear h
    go_wp2_with (first | (go_at_call 11; refine (lright_no _ _ hr _).mono ?_; rintro e w3 ⟨rfl, hb3⟩; obtain ⟨x0, x1, -⟩ := two_cells ((hb3.block _ (lt_of_block HS.out)).trans HS.out); obtain ⟨y0, y1, -⟩ := two_cells ((hb3.block _ (lt_of_block HR.out)).trans HR.out)) | (go_at_call 13; refine (awake_any _).mono ?_; rintro e w4 ⟨rfl, hb4⟩))
    go_ret
    exact ⟨rfl, bstep (bstep hb2 hb3) hb4⟩
set_option maxRecDepth 100000 in
set_option maxHeartbeats 2000000 in
theorem packs_any (ao : Option Addr) (n cap : Nat) (l i : Int) (zs : List Int) (hn : n ≤ 32) (hr : RightS l i) (w : World) (h : Ints .i64 w ao n zs) : Calls Try.prog 6 #[.slice ao n cap, .agg #[.int .i64 l, .int .i64 i]] w (RightPost true w) := by
  have hS : (w.alloc (.cells #[.int .i64 l, .int .i64 i] 23)).heap[w.heap.size]? = some (.cells #[.int .i64 l, .int .i64 i] 23 (0, 0)) := heap_alloc_new _ _
  have hb := below_alloc w (.cells #[.int .i64 l, .int .i64 i] 23)
  go_enter Try.func6, Try.ntmps6
  go_upto_region 1 with fail
  generalize w.alloc (.cells #[.int .i64 l, .int .i64 i] 23) = W at *
  obtain ⟨x0, x1, -⟩ := two_cells hS
  have HS := Lib.hid hS
  clear hS
  have hp := pack_any ao n cap l i zs hn hr W (h.keep0 hb)
  by_cases hin : InR zs n
  · have hp2 : Calls Try.prog 19 #[.slice ao n cap, .agg #[.int .i64 l, .int .i64 i]] W (PckYes l i n zs W) := hp.mono (fun e w1 h => by
      rcases h with h | h
      · exact h.2
      · exact absurd hin h.1)
    clear hp
    have HIN := Lib.hid hin
    clear hin
    go_upto_region 4 with (go_at_call 19; refine hp2.mono ?_; rintro e w1 ⟨T, rfl, hT, hb1, -⟩)
    clear hp2
    have hS1 := (hb1.block _ (lt_of_block HS.out)).trans HS.out
    have hba := below_alloc w1 (.cells #[.int .i64 (eS l i zs n).1, .int .i64 (eS l i zs n).2] 23)
    have hS2 := (hba.block _ (lt_of_block hS1)).trans hS1
    have hT2 := hT.keep0 hba
    have hR2 : (w1.alloc (.cells #[.int .i64 (eS l i zs n).1, .int .i64 (eS l i zs n).2] 23)).heap[w1.heap.size]? = some (.cells #[.int .i64 (eS l i zs n).1, .int .i64 (eS l i zs n).2] 23 (0, 0)) := heap_alloc_new _ _
    have hb2 := bstep (bstep hb hb1) hba
    clear hba hS1 HS x0 x1 hb hb1 hT
    generalize w1.heap.size = R at *
    generalize w1.alloc (.cells #[.int .i64 (eS l i zs n).1, .int .i64 (eS l i zs n).2] 23) = Y at *
    have HS := Lib.hid hS2
    have HR := Lib.hid hR2
    have HT : Hid (Blk .u8 Y T 5 (pbs l i zs n n)) := hT2
    obtain ⟨x0, x1, -⟩ := two_cells hS2
    clear hS2 hR2 hT2
    go_upto_region 6 with (go_at_call 11; refine (lright_yes _ _ hr _).mono ?_; rintro e w3 ⟨rfl, hb3⟩)
    have hS3 := Lib.hid ((hb3.block _ (lt_of_block HS.out)).trans HS.out)
    have hR3 := Lib.hid ((hb3.block _ (lt_of_block HR.out)).trans HR.out)
    have hT3 : Hid (Blk .u8 w3 T 5 (pbs l i zs n n)) := Blk.keep0 HT.out hb3
    have hb4 := bstep hb2 hb3
    clear HS HR HT x0 x1 hb2 hb3
    go_wp2_with fail
    go_loopw [8] (fun iv wr => ∃ k : Nat, k ≤ n ∧ iv = .int .i64 k ∧ wr = w3) (fun iv _ => (n - intOf iv).toNat)
    case atStart => exact ⟨0, by omega, rfl, rfl⟩
    case round =>
      obtain ⟨k, hk, rfl, rfl⟩ := hrel
      by_cases hlt : k < n
      · obtain ⟨a, v, rfl, hv, hc, hv1, hv2⟩ := (h.keep0 hb4).int hlt
        have hvr := HIN.out k hlt
        rw [hv.out] at hvr
        have hsa := fun w => sample_yes v hvr w
        clear hvr hv
        go_wp2_with (go_at_call 20; refine (hsa _).mono ?_; rintro e w5 ⟨rfl, rfl⟩)
        go_roundw
        case rel => exact ⟨k + 1, by omega, by go_num, by first | rfl | trivial⟩
        case measure => simp [intOf]; omega
      · have hM : InM zs n := fun q hq => by have := HIN.out q hq; omega
        have hbl := block_any ao n cap l i zs hn hr hM wr (h.keep0 hb4)
        obtain ⟨x0, x1, -⟩ := two_cells hS3.out
        go_upto_region 12 with (go_at_call 21; refine hbl.mono ?_; rintro e w5 ⟨T', bo, bc, rfl, hT5, hI5, -, hb5⟩)
        clear hbl x0 x1 hlt HIN
        have hS5 := (hb5.block _ (lt_of_block hS3.out)).trans hS3.out
        have hR5 := (hb5.block _ (lt_of_block hR3.out)).trans hR3.out
        have hU5 : Blk .u8 w5 T 5 (pbs l i zs n n) := Blk.keep0 hT3.out hb5
        have hba := below_alloc w5 (.cells #[.int .i64 (eS l i zs n).1, .int .i64 (eS l i zs n).2] 23)
        have hR6 := (hba.block _ (lt_of_block hR5)).trans hR5
        have hT6 := hT5.keep0 hba
        have hU6 := hU5.keep0 hba
        have hI6 := hI5.keep0 hba
        have hQ6 : (w5.alloc (.cells #[.int .i64 (eS l i zs n).1, .int .i64 (eS l i zs n).2] 23)).heap[w5.heap.size]? = some (.cells #[.int .i64 (eS l i zs n).1, .int .i64 (eS l i zs n).2] 23 (0, 0)) := heap_alloc_new _ _
        have hb6 := bstep (bstep hb4 hb5) hba
        clear hba hS5 hR5 hU5 hT5 hI5 hb5 hS3 hR3 hT3 hb4
        generalize w5.heap.size = Q at *
        generalize w5.alloc (.cells #[.int .i64 (eS l i zs n).1, .int .i64 (eS l i zs n).2] 23) = Z at *
        have HR := Lib.hid hR6
        have HQ := Lib.hid hQ6
        have HT : Hid (Blk .u8 Z T' 5 (pbs l i zs n n)) := hT6
        have HU : Hid (Blk .u8 Z T 5 (pbs l i zs n n)) := hU6
        have hup := unpack_packed zs hr hn T 20 Z hU6
        clear hR6 hQ6 hT6 hU6
        go_upto_region 13 with (go_at_call 17; refine hup.mono ?_; rintro e w7 ⟨uo, uc, rfl, hI7, hb7⟩)
        clear hup
        have hR7 := (hb7.block _ (lt_of_block HR.out)).trans HR.out
        have hQ7 := (hb7.block _ (lt_of_block HQ.out)).trans HQ.out
        have hT7 : Blk .u8 w7 T' 5 (pbs l i zs n n) := Blk.keep0 HT.out hb7
        have hU7 : Blk .u8 w7 T 5 (pbs l i zs n n) := Blk.keep0 HU.out hb7
        have hJ7 := hI6.keep0 hb7
        have hba := below_alloc w7 (.cells #[.int .i64 (eS l i zs n).1, .int .i64 (eS l i zs n).2] 23)
        have hR8 := (hba.block _ (lt_of_block hR7)).trans hR7
        have hQ8 := (hba.block _ (lt_of_block hQ7)).trans hQ7
        have hT8 := hT7.keep0 hba
        have hU8 := hU7.keep0 hba
        have hI8 := hI7.keep0 hba
        have hJ8 := hJ7.keep0 hba
        have hP8 : (w7.alloc (.cells #[.int .i64 (eS l i zs n).1, .int .i64 (eS l i zs n).2] 23)).heap[w7.heap.size]? = some (.cells #[.int .i64 (eS l i zs n).1, .int .i64 (eS l i zs n).2] 23 (0, 0)) := heap_alloc_new _ _
        have hb8 := bstep (bstep hb6 hb7) hba
        clear hba hR7 hQ7 hT7 hU7 hI7 hJ7 hI6 HR HQ HT HU hb6 hb7
        generalize w7.heap.size = P' at *
        generalize w7.alloc (.cells #[.int .i64 (eS l i zs n).1, .int .i64 (eS l i zs n).2] 23) = V at *
        have HR := Lib.hid hR8
        have HQ := Lib.hid hQ8
        have HP := Lib.hid hP8
        have hc1 := run_convert_bytes_arg (P := Try.prog) V 33 5 rfl rfl T 0 20 20 (pbs l i zs n n) (pbs_len _ _ _ _ _) (fun i hi => by rw [Nat.zero_add]; exact hU8.cell (by rw [pbs_len]; exact hi)) 9 rfl
        have hc2 := run_convert_bytes_arg (P := Try.prog) V 33 5 rfl rfl T' 0 20 20 (pbs l i zs n n) (pbs_len _ _ _ _ _) (fun i hi => by rw [Nat.zero_add]; exact hT8.cell (by rw [pbs_len]; exact hi)) 9 rfl
        obtain ⟨x0, x1, -⟩ := two_cells hR8
        obtain ⟨y0, y1, -⟩ := two_cells hQ8
        have hs := same_yes uo bo n uc bc (eouts l i zs n) V hI8 hJ8
        clear hR8 hQ8 hP8 hT8 hU8 hI8 hJ8
        go_wp2_with (first | (go_at_call 18; refine hs.mono ?_; rintro e w8 ⟨rfl, hb9⟩; obtain ⟨y0, y1, -⟩ := two_cells ((hb9.block _ (lt_of_block HQ.out)).trans HQ.out); obtain ⟨z0, z1, -⟩ := two_cells ((hb9.block _ (lt_of_block HP.out)).trans HP.out)) | (go_at_call 13; refine (awake_any _).mono ?_; rintro e w9 ⟨rfl, hb10⟩))
        go_ret
        exact ⟨rfl, bstep (bstep hb8 hb9) hb10⟩
  · have hp2 : Calls Try.prog 19 #[.slice ao n cap, .agg #[.int .i64 l, .int .i64 i]] W (PckNo l i 5 W) := hp.mono (fun e w1 h => by
      rcases h with h | h
      · exact absurd h.1 hin
      · exact h.2)
    clear hp
    have HIN := Lib.hid hin
    clear hin
    go_upto_region 4 with (go_at_call 19; refine hp2.mono ?_; rintro e w1 ⟨rfl, hb1⟩)
    clear hp2
    have hS1 := (hb1.block _ (lt_of_block HS.out)).trans HS.out
    have hba := below_alloc w1 (.cells #[.int .i64 l, .int .i64 i] 23)
    have hS2 := (hba.block _ (lt_of_block hS1)).trans hS1
    have hR2 : (w1.alloc (.cells #[.int .i64 l, .int .i64 i] 23)).heap[w1.heap.size]? = some (.cells #[.int .i64 l, .int .i64 i] 23 (0, 0)) := heap_alloc_new _ _
    have hb2 := bstep (bstep hb hb1) hba
    clear hba hS1 HS x0 x1 hb hb1
    generalize w1.heap.size = R at *
    generalize w1.alloc (.cells #[.int .i64 l, .int .i64 i] 23) = Y at *
    have HS := Lib.hid hS2
    have HR := Lib.hid hR2
    obtain ⟨x0, x1, -⟩ := two_cells hS2
    clear hS2 hR2
    go_upto_region 6 with (go_at_call 11; refine (lright_yes _ _ hr _).mono ?_; rintro e w3 ⟨rfl, hb3⟩)
    have hS3 := Lib.hid ((hb3.block _ (lt_of_block HS.out)).trans HS.out)
    have hR3 := Lib.hid ((hb3.block _ (lt_of_block HR.out)).trans HR.out)
    have hb4 := bstep hb2 hb3
    clear HS HR x0 x1 hb2 hb3
    go_wp2_with fail
    go_loopw [8] (fun iv wr => ∃ k : Nat, k ≤ n ∧ iv = .int .i64 k ∧ Hid (InR zs k) ∧ wr = w3) (fun iv _ => (n - intOf iv).toNat)
    case atStart => exact ⟨0, by omega, rfl, fun q hq => by omega, rfl⟩
    case round =>
      obtain ⟨k, hk, rfl, hki, rfl⟩ := hrel
      by_cases hlt : k < n
      · obtain ⟨a, v, rfl, hv, hc, hv1, hv2⟩ := (h.keep0 hb4).int hlt
        by_cases hvr : -32768 ≤ v ∧ v ≤ 32767
        · have hsa := fun w => sample_yes v hvr w
          have HV := Lib.hid hvr
          clear hvr
          go_wp2_with (go_at_call 20; refine (hsa _).mono ?_; rintro e w5 ⟨rfl, rfl⟩)
          go_roundw
          case rel => exact ⟨k + 1, by omega, by go_num, fun q hq => by
            by_cases hqk : q = k
            · rw [hqk, hv.out]; exact HV.out
            · exact hki.out q (by omega), by first | rfl | trivial⟩
          case measure => simp [intOf]; omega
        · have hsa := fun w => sample_no v (by omega) w
          clear hvr
          obtain ⟨x0, x1, -⟩ := two_cells hS3.out
          obtain ⟨y0, y1, -⟩ := two_cells hR3.out
          go_wp2_with (first | (go_at_call 20; refine (hsa _).mono ?_; rintro e w5 ⟨rfl, rfl⟩) | (go_at_call 13; refine (awake_any _).mono ?_; rintro e w9 ⟨rfl, hb10⟩))
          go_ret
          exact ⟨rfl, bstep hb4 hb10⟩
      · obtain rfl : k = n := by omega
        exact absurd hki.out HIN.out
set_option maxRecDepth 100000 in
set_option maxHeartbeats 1000000 in
theorem packs_long (ao : Option Addr) (n cap : Nat) (l i : Int) (hn : 40 < n) (hm : n ≤ maxLen) (hc : n ≤ cap) (w : World) : Calls Try.prog 6 #[.slice ao n cap, .agg #[.int .i64 l, .int .i64 i]] w (RightPost true w) := by
  have hS : (w.alloc (.cells #[.int .i64 l, .int .i64 i] 23)).heap[w.heap.size]? = some (.cells #[.int .i64 l, .int .i64 i] 23 (0, 0)) := heap_alloc_new _ _
  have hb := below_alloc w (.cells #[.int .i64 l, .int .i64 i] 23)
  unfold maxLen at hm
  go_enter Try.func6, Try.ntmps6
  go_upto_region 1 with fail
  generalize w.alloc (.cells #[.int .i64 l, .int .i64 i] 23) = W at *
  obtain ⟨x0, x1, -⟩ := two_cells hS
  have HS := Lib.hid hS
  clear hS
  have hp := fun w => pack_no1 ao 40 cap l i (by unfold maxLen; omega) (.inl (by omega)) w
  go_upto_region 4 with (go_at_call 19; refine (hp _).mono ?_; rintro e w1 ⟨rfl, hb1⟩)
  clear hp
  have hS1 := (hb1.block _ (lt_of_block HS.out)).trans HS.out
  have hba := below_alloc w1 (.cells #[.int .i64 l, .int .i64 i] 23)
  have hS2 := (hba.block _ (lt_of_block hS1)).trans hS1
  have hR2 : (w1.alloc (.cells #[.int .i64 l, .int .i64 i] 23)).heap[w1.heap.size]? = some (.cells #[.int .i64 l, .int .i64 i] 23 (0, 0)) := heap_alloc_new _ _
  have hb2 := bstep (bstep hb hb1) hba
  clear hba hS1 HS x0 x1 hb hb1
  generalize w1.heap.size = R at *
  generalize w1.alloc (.cells #[.int .i64 l, .int .i64 i] 23) = Y at *
  obtain ⟨x0, x1, -⟩ := two_cells hS2
  obtain ⟨y0, y1, -⟩ := two_cells hR2
  clear hS2 hR2
  go_wp2_with (go_at_call 13; refine (awake_any _).mono ?_; rintro e w3 ⟨rfl, hb3⟩)
  go_ret
  exact ⟨rfl, bstep hb2 hb3⟩
theorem adpcmPacks_any (ao : Option Addr) (n cap : Nat) (l i : Int) (zs : List Int) (w : World) (h : Ints .i64 w ao n zs) (hc : n ≤ cap) : Calls Try.prog 6 #[.slice ao n cap, .agg #[.int .i64 l, .int .i64 i]] w (RightPost true w) := by
  by_cases h1 : 40 < n
  · exact packs_long ao n cap l i h1 h.lim hc w
  · by_cases h2 : 32 < n ∨ ¬ RightS l i
    · exact packs_refuse ao n cap l i (by omega) h2 w
    · have hr : RightS l i := Classical.byContradiction fun hh => h2 (.inr hh)
      exact packs_any ao n cap l i zs (by omega) hr w h
end Go.Proofs.Ytbhopghfglgibaa

/- The walks of adpcm.Unpack and of the statement's same; the statement AdpcmUnpacks. -/
import Derived.Test.YtbhopghfglgibaaNear
namespace Go.Proofs.Ytbhopghfglgibaa
open Go.RowKit Go.Calli
set_option linter.unusedVariables false
theorem infoInt : (Try.prog.info? 3).map (fun i => (i.zero, i.size, i.bytes)) = some (some (.int .i64 0), 1, 8) := by kernel_rfl
/-- A byte of bytes. -/
def byteAt (bs : List Int) (i : Nat) : Nat := (bs.getD i 0).toNat
/-- A block's code. -/
def codeAt (bs : List Int) (i : Nat) : Nat := if i % 2 = 0 then byteAt bs (4 + i / 2) / 16 else byteAt bs (4 + i / 2) % 16
/-- The states that a block tells. -/
def run (bs : List Int) : Nat → Int × Int
  | 0 => (256 * (byteAt bs 0 : Int) + byteAt bs 1 - 32768, byteAt bs 2)
  | k + 1 => (nextL (run bs k).1 (run bs k).2 (codeAt bs k), nextI (run bs k).2 (codeAt bs k))
def outs (bs : List Int) : Nat → List Int
  | 0 => []
  | k + 1 => outs bs k ++ [(run bs (k + 1)).1]
theorem outs_len (bs : List Int) (k : Nat) : (outs bs k).length = k := by induction k with
  | zero => rfl
  | succ k ih => simp [outs, ih]
/-- Bytes that are a block. -/
def OkB (bs : List Int) : Prop := byteAt bs 2 ≤ 48 ∧ byteAt bs 3 ≤ 32 ∧ ∀ q, byteAt bs 3 ≤ q → q < 32 → codeAt bs q = 0
theorem byteAt_lt {bs : List Int} (h : ∀ z ∈ bs, (Lit.int .u8 z).wf = true) (i : Nat) : byteAt bs i < 256 := by
  have := bounds_u8 (getD_wf h (by decide) i)
  unfold byteAt; omega
theorem codeAt_lt {bs : List Int} (h : ∀ z ∈ bs, (Lit.int .u8 z).wf = true) (i : Nat) : codeAt bs i < 16 := by
  have := byteAt_lt h (4 + i / 2)
  unfold codeAt; split <;> omega
theorem run_right {bs : List Int} (h : ∀ z ∈ bs, (Lit.int .u8 z).wf = true) (h2 : byteAt bs 2 ≤ 48) (k : Nat) : RightS (run bs k).1 (run bs k).2 := by
  cases k with
  | zero =>
    have h0 := byteAt_lt h 0
    have h1 := byteAt_lt h 1
    unfold RightS run
    simp only
    omega
  | succ k => exact next_right _ _ _
theorem outs_wf {bs : List Int} (k : Nat) : ∀ z ∈ outs bs k, (Lit.int .i64 z).wf = true := by
  induction k with
  | zero => intro z hz; simp [outs] at hz
  | succ k ih =>
    intro z hz
    rcases List.mem_append.1 hz with hz | hz
    · exact ih z hz
    · simp at hz; subst hz
      have := next_right (run bs k).1 (run bs k).2 (codeAt bs k)
      exact WalkArith.wf_i64 (by unfold RightS at this; show _ ≤ nextL _ _ _ ∧ nextL _ _ _ ≤ _; omega)
/-- One byte of a block in memory. -/
theorem byte_cell {w : World} {a : Addr} {n : Nat} {bs : List Int} (h : Ints .u8 w (some a) n bs) {i : Nat} (hi : i < n) : w.cell? (a.add i) = some (.int .u8 (byteAt bs i : Nat)) := by
  obtain ⟨a', ha, hc⟩ := h.cell i hi
  cases ha
  have := bounds_u8 (getD_wf h.wf (by decide) i)
  rw [hc]; unfold byteAt; congr 2; omega

theorem and15 : ∀ c, c < 16 → bits BinOp.and IntKind.i64 ((c : Nat) : Int) 15 = ((c : Nat) : Int) := by decide
theorem and15' : ∀ c, c < 256 → bits BinOp.and IntKind.i64 ((c : Nat) : Int) 15 = ((c % 16 : Nat) : Int) := by decide +kernel
/-- What Unpack answers. -/
def UnpPost (bs : List Int) (w : World) (e : Ending) (w' : World) : Prop :=
  (OkB bs ∧ ∃ ao c, e = .returned (.tuple #[.slice ao (byteAt bs 3) c, .agg #[.int .i64 (run bs (byteAt bs 3)).1, .int .i64 (run bs (byteAt bs 3)).2], .int .i64 0]) ∧ Ints .i64 w' ao (byteAt bs 3) (outs bs (byteAt bs 3)) ∧ Below w.heap.size w w') ∨
  (¬ OkB bs ∧ e = .returned (.tuple #[.slice none 0 0, .agg #[.int .i64 0, .int .i64 0], .int .i64 4]) ∧ Below w.heap.size w w')
def UnpSize (w : World) (e : Ending) (w' : World) : Prop := e = .returned (.tuple #[.slice none 0 0, .agg #[.int .i64 0, .int .i64 0], .int .i64 12]) ∧ Below w.heap.size w w'
set_option maxRecDepth 100000 in
set_option maxHeartbeats 1000000 in
theorem unpack_size (ao : Option Addr) (n cap : Nat) (hn : n ≠ 20) (hm : n ≤ maxLen) (w : World) : Calls Try.prog 17 #[.slice ao n cap] w (UnpSize w) := by
  unfold maxLen at hm
  have hn' : ((n : Int) == 20) = false := by simp; omega
  clear hn
  go_enter Try.func17, Try.ntmps17
  go_wp2_with fail
  refine bodyPost_ret (v := .tuple #[.slice none 0 0, .agg #[.int .i64 0, .int .i64 0], .int .i64 12]) (by simp [results, Try.results17, go_sem]) rfl ⟨rfl, below_alloc _ _⟩
set_option maxRecDepth 100000 in
set_option maxHeartbeats 2000000 in
theorem unpack_any (ao : Option Addr) (cap : Nat) (bs : List Int) (w : World) (h : Ints .u8 w ao 20 bs) : Calls Try.prog 17 #[.slice ao 20 cap] w (UnpPost bs w) := by
  obtain ⟨a, rfl, -⟩ := h.some (by omega)
  have hwf := h.wf
  go_enter Try.func17, Try.ntmps17
  go_upto_region 3 with fail
  have hz := heap_alloc_new w (.cells #[.int .i64 0, .int .i64 0] 23)
  have hb := below_alloc w (.cells #[.int .i64 0, .int .i64 0] 23)
  have hi := h.keep0 hb
  generalize w.alloc (.cells #[.int .i64 0, .int .i64 0] 23) = W at *
  have HZ := Lib.hid hz
  clear hz
  have k0 : W.cell? a = some (.int .u8 (byteAt bs 0 : Nat)) := byte_cell (i := 0) hi (by omega)
  have k1 : W.cell? ⟨a.block, a.off + 1, none⟩ = some (.int .u8 (byteAt bs 1 : Nat)) := byte_cell (i := 1) hi (by omega)
  have k2 : W.cell? ⟨a.block, a.off + 2, none⟩ = some (.int .u8 (byteAt bs 2 : Nat)) := byte_cell (i := 2) hi (by omega)
  have k3 : W.cell? ⟨a.block, a.off + 3, none⟩ = some (.int .u8 (byteAt bs 3 : Nat)) := byte_cell (i := 3) hi (by omega)
  have hal := World.block_lt_of_cell? W _ k0
  have l0 := byteAt_lt hwf 0
  have l1 := byteAt_lt hwf 1
  have l2 := byteAt_lt hwf 2
  have l3 := byteAt_lt hwf 3
  go_region
  go_wp2_with fail
  have hL : (byteAt bs 0 : Int) * 256 + (byteAt bs 1 : Int) + -32768 = (run bs 0).1 := by show _ = 256 * (byteAt bs 0 : Int) + (byteAt bs 1 : Int) - 32768; omega
  have hI : (byteAt bs 2 : Int) = (run bs 0).2 := rfl
  have hr0 := run_right hwf (k := 0)
  simp only [hL]
  have hx : (W.alloc (.cells #[.int .i64 (run bs 0).1, .int .i64 (byteAt bs 2 : Int)] 23)).drew.heap[W.heap.size]? = some (.cells #[.int .i64 (run bs 0).1, .int .i64 (run bs 0).2] 23 (0, 0)) := heap_alloc_new _ _
  have hz : (W.alloc (.cells #[.int .i64 (run bs 0).1, .int .i64 (byteAt bs 2 : Int)] 23)).drew.heap[w.heap.size]? = some (.cells #[.int .i64 0, .int .i64 0] 23 (0, 0)) := (Below.heap_alloc _ _ _ (lt_of_block HZ.out)).trans HZ.out
  have hbx : Below W.heap.size W (W.alloc (.cells #[.int .i64 (run bs 0).1, .int .i64 (byteAt bs 2 : Int)] 23)).drew := (below_alloc _ _).drew
  have hi2 := hi.keep0 hbx
  have hb2 := bstep hb hbx
  have hns : w.heap.size < W.heap.size := lt_of_block HZ.out
  clear hL HZ k0 k1 k2 k3 l0 l1
  generalize (W.alloc (.cells #[.int .i64 (run bs 0).1, .int .i64 (byteAt bs 2 : Int)] 23)).drew = X at *
  have HX := Lib.hid hx
  have HZ := Lib.hid hz
  have k3 : X.cell? ⟨a.block, a.off + 3, none⟩ = some (.int .u8 (byteAt bs 3 : Nat)) := byte_cell (i := 3) hi2 (by omega)
  obtain ⟨x0, x1, -⟩ := two_cells hx
  obtain ⟨z0, z1, f0, f1⟩ := two_cells hz
  rw [← hI] at x1
  clear hx hz hbx hi hI
  by_cases h2 : byteAt bs 2 ≤ 48
  · have hr := hr0 h2
    clear hr0
    have hgo := right_yes (run bs 0).1 (byteAt bs 2 : Int) hr X
    have HG := Lib.hid hgo
    clear hgo
    refine HG.out.mono ?_
    rintro e w1 ⟨rfl, hb1⟩
    have HX1 := Lib.hid ((hb1.block _ (lt_of_block HX.out)).trans HX.out)
    have HZ1 := Lib.hid ((hb1.block _ (lt_of_block HZ.out)).trans HZ.out)
    obtain ⟨y0, y1, g0, g1⟩ := two_cells HZ1.out
    have hb3 := bstep hb2 hb1
    clear HX HZ hi2 k3 x0 x1 z0 z1 f0 f1 hb1 HG hb2
    by_cases hn : byteAt bs 3 ≤ 32
    · go_wp2_with fail
      clear y0 y1 g0 g1
      go_loopw [7, 43] (fun v i wr => ∃ k : Nat, k ≤ 32 ∧ i = .int .i64 k ∧ wr.ownsRow w.heap.size 3 1 v (min k (byteAt bs 3)) ((outs bs (min k (byteAt bs 3))).map (Value.int .i64)) ∧ (∀ q, byteAt bs 3 ≤ q → q < k → codeAt bs q = 0) ∧ wr.heap[W.heap.size]? = some (.cells #[.int .i64 (run bs (min k (byteAt bs 3))).1, .int .i64 (run bs (min k (byteAt bs 3))).2] 23 (0, 0)) ∧ wr.heap[w.heap.size]? = some (.cells #[.int .i64 0, .int .i64 0] 23 (0, 0)) ∧ Below w.heap.size w wr) (fun _ i _ => (32 - intOf i).toNat)
      case atStart => exact ⟨0, by omega, rfl, by rw [Nat.zero_min]; exact World.ownsRow_nil _ _ _ _, fun q h1 h2 => by omega, by rw [Nat.zero_min]; exact HX1.out, HZ1.out, hb3⟩
      case round =>
        clear HX1 HZ1 hb3
        obtain ⟨k, hk, rfl, hown, hzero, hx, hz, hb⟩ := hrel
        have HX := Lib.hid hx
        have HZ := Lib.hid hz
        have HQ := Lib.hid hzero
        obtain ⟨x0, x1, xf0, xf1⟩ := two_cells hx
        obtain ⟨z0, z1, zf0, zf1⟩ := two_cells hz
        have hne : w.heap.size ≠ W.heap.size := by omega
        clear hx hz hzero
        by_cases hlt : k < 32
        · have hc := byte_cell (h.keep0 hb) (i := 4 + k / 2) (by omega)
          have hbl := byteAt_lt hwf (4 + k / 2)
          have hcl := codeAt_lt hwf k
          have hcode : Hid (codeAt bs k = if k % 2 = 0 then byteAt bs (4 + k / 2) / 16 else byteAt bs (4 + k / 2) % 16) := rfl
          generalize byteAt bs (4 + k / 2) = B at *
          go_upto_region 11 with fail
          go_cut [9] (fun v wx => v = .int .i64 (codeAt bs k : Nat) ∧ wr = wx)
          case first =>
            by_cases hp : (k : Int) % 2 = 0
            · have e := Lib.hid (show bits BinOp.and IntKind.i64 ((B : Int) / 16) 15 = (codeAt bs k : Nat) by
                rw [hcode.out, if_pos (by omega)]; exact and15 (B / 16) (by omega))
              go_wp2_with fail
              go_meet
              exact ⟨by rw [e.out], rfl⟩
            · have hp1 : (k : Int) % 2 = 1 := by omega
              have e := Lib.hid (show bits BinOp.and IntKind.i64 (B : Int) 15 = (codeAt bs k : Nat) by
                rw [hcode.out, if_neg (by omega)]; exact (and15' B hbl))
              clear hp
              go_wp2_with fail
              go_meet
              exact ⟨by rw [e.out], rfl⟩
          case rest =>
            obtain ⟨rfl, rfl⟩ := hcut
            clear hcode hc hbl
            by_cases hkn : k < byteAt bs 3
            · rw [show min k (byteAt bs 3) = k by omega] at hown x0 x1 HX
              have hr := run_right hwf h2 k
              have hv := next_right (run bs k).1 (run bs k).2 (codeAt bs k)
              go_wp2_with fail
              refine (decode_yes _ _ _ hr hcl _).mono ?_
              rintro e w2 ⟨rfl, hb2⟩
              have HX2 := Lib.hid ((hb2.block _ (lt_of_block HX.out)).trans HX.out)
              have HZ2 := Lib.hid ((hb2.block _ (lt_of_block HZ.out)).trans HZ.out)
              have hown2 := owns_kept (S := fun _ => False) hown (Keeps.ofBelow hb2 (Nat.le_refl _)) (fun _ _ h => h)
              obtain ⟨y0, y1, yf0, yf1⟩ := two_cells HX2.out
              have hsz2 := lt_of_block HX2.out
              clear x0 x1 xf0 xf1 z0 z1 zf0 zf1 HX HZ hown
              have hb3 := bstep hb hb2
              clear hb
              go_upto_region 17 with fail
              have hx4 := two_same HX2.out (.int .i64 (nextL (run bs k).1 (run bs k).2 (codeAt bs k))) (.int .i64 (nextI (run bs k).2 (codeAt bs k)))
              have hkp : Keeps (fun b => b = W.heap.size) w2 ((w2.setCell ⟨W.heap.size, 0, none⟩ (.int .i64 (nextL (run bs k).1 (run bs k).2 (codeAt bs k)))).setCell ⟨W.heap.size, 1, none⟩ (.int .i64 (nextI (run bs k).2 (codeAt bs k)))) := ((Keeps.refl (fun b => b = W.heap.size) w2).setCell (p := ⟨W.heap.size, 0, none⟩) (.inr rfl) _).setCell (p := ⟨W.heap.size, 1, none⟩) (.inr rfl) _
              have hb4 : Below w.heap.size w ((w2.setCell ⟨W.heap.size, 0, none⟩ (.int .i64 (nextL (run bs k).1 (run bs k).2 (codeAt bs k)))).setCell ⟨W.heap.size, 1, none⟩ (.int .i64 (nextI (run bs k).2 (codeAt bs k)))) := (hb3.setCell (Nat.le_of_lt hns) _).setCell (Nat.le_of_lt hns) _
              have hz4 := hkp.heap HZ2.out hne
              have hown4 := owns_kept hown2 hkp (fun b hb hS => by
                obtain ⟨cs, hcs⟩ := own_block_type hown2 hb
                have hS' : b = W.heap.size := hS
                rw [hS', HX2.out] at hcs
                cases hcs)
              clear hkp hb3 hown2 HX2 HZ2 y0 y1 yf0 yf1 hsz2 hb2
              generalize (w2.setCell ⟨W.heap.size, 0, none⟩ (.int .i64 (nextL (run bs k).1 (run bs k).2 (codeAt bs k)))).setCell ⟨W.heap.size, 1, none⟩ (.int .i64 (nextI (run bs k).2 (codeAt bs k))) = Y at *
              have HX4 := Lib.hid hx4
              have HZ4 := Lib.hid hz4
              clear hx4 hz4
              have hs : Hid (outs bs (k + 1) = outs bs k ++ [nextL (run bs k).1 (run bs k).2 (codeAt bs k)]) := rfl
              go_wp2_with (at_builtin; refine wpList_append_one rfl (.tmp 71) (.tmp 73) 34 3 rfl Try.underlying34 infoInt rfl w.heap.size _ _ _ rfl hown4 (.int .i64 _) rfl rfl ?_ ?_ ?_ ?_)
              case refine_1 => omega
              case refine_2 => unfold maxLen; omega
              case refine_3 => exact hb4.size
              intro v' w' hown' hkp
              have hb' := hb4.trans (owns_below hown4 hkp hb4.size)
              have HX' := Lib.hid (hkp.heap HX4.out (fun hS => by
                obtain ⟨cs, hcs⟩ := own_block_type hown4 hS
                rw [HX4.out] at hcs; cases hcs))
              have HZ' := Lib.hid (hkp.heap HZ4.out (fun hS => by
                obtain ⟨cs, hcs⟩ := own_block_type hown4 hS
                rw [HZ4.out] at hcs; cases hcs))
              clear hown4 hkp hb4 HX4 HZ4
              go_wp2_with fail
              go_roundw
              case rel => exact ⟨k + 1, by omega, by go_num, by rw [show min (k + 1) (byteAt bs 3) = k + 1 by omega, hs.out]; simpa using hown', fun q h1 h2 => by omega, by rw [show min (k + 1) (byteAt bs 3) = k + 1 by omega]; exact HX'.out, HZ'.out, hb'⟩
              case measure => simp [intOf]; omega
            · by_cases hc0 : codeAt bs k = 0
              · rw [hc0]
                have HC := Lib.hid hc0
                clear hc0
                go_wp2_with fail
                go_roundw
                case rel => exact ⟨k + 1, by omega, by go_num, by rw [show min (k + 1) (byteAt bs 3) = min k (byteAt bs 3) by omega]; exact hown, fun q h1 h2 => by
                  by_cases hq : q = k
                  · rw [hq]; exact HC.out
                  · exact HQ.out q h1 (by omega), by rw [show min (k + 1) (byteAt bs 3) = min k (byteAt bs 3) by omega]; exact HX.out, HZ.out, hb⟩
                case measure => simp [intOf]; omega
              · have hno : ¬ OkB bs := fun h => hc0 (h.2.2 k (by omega) (by omega))
                have HN := Lib.hid hno
                have hpos : 0 < codeAt bs k := by omega
                clear hno hc0
                go_wp2_with fail
                obtain ⟨s0, s1, -⟩ := two_cells (two_same HZ.out (.int .i64 0) (.int .i64 0))
                refine bodyPost_ret (v := .tuple #[.slice none 0 0, .agg #[.int .i64 0, .int .i64 0], .int .i64 4]) (by simp [results, Try.results17, go_sem, s0, s1]) rfl (.inr ⟨HN.out, rfl, ?_⟩)
                exact (hb.setCell (Nat.le_refl _) _).setCell (Nat.le_refl _) _
        · obtain rfl : k = 32 := by omega
          rw [show min 32 (byteAt bs 3) = byteAt bs 3 by omega] at hown HX x0 x1
          obtain ⟨a', c', rfl, hc', hrow, hl, _, hbt⟩ := own_slice hown
          have hints := hrow.ints hl (outs_wf _)
          obtain ⟨s0, s1, -⟩ := two_cells (two_same HZ.out (.int .i64 (run bs (byteAt bs 3)).1) (.int .i64 (run bs (byteAt bs 3)).2))
          have hkp := ((Keeps.refl (fun b => b = w.heap.size) wr).setCell (p := ⟨w.heap.size, 0, none⟩) (.inr rfl) (.int .i64 (run bs (byteAt bs 3)).1)).setCell (p := ⟨w.heap.size, 1, none⟩) (.inr rfl) (.int .i64 (run bs (byteAt bs 3)).2)
          have HI := Lib.hid (hints.kept hkp (fun a0 ha hS => by
            obtain ⟨_, cs, hcs⟩ := hbt a0 ha
            have hS' : a0.block = w.heap.size := hS
            rw [hS', HZ.out] at hcs
            cases hcs))
          clear hkp hbt
          clear hown hints hrow
          go_wp2_with fail
          go_region
          go_wp2_with fail
          refine bodyPost_ret (v := .tuple #[.slice a' (byteAt bs 3) c', .agg #[.int .i64 (run bs (byteAt bs 3)).1, .int .i64 (run bs (byteAt bs 3)).2], .int .i64 0]) (by simp [results, Try.results17, go_sem, s0, s1]) rfl (.inl ⟨⟨h2, hn, HQ.out⟩, a', c', rfl, HI.out.keep0 (Below.refl _ _).drew, ?_⟩)
          exact ((hb.setCell (p := ⟨w.heap.size, 0, none⟩) (Nat.le_refl _) _).setCell (p := ⟨w.heap.size, 1, none⟩) (Nat.le_refl _) _).drew
    · have hno : ¬ OkB bs := fun h => hn h.2.1
      have HN := Lib.hid hno
      clear hno
      go_wp2_with fail
      obtain ⟨s0, s1, -⟩ := two_cells (two_same HZ1.out (.int .i64 0) (.int .i64 0))
      refine bodyPost_ret (v := .tuple #[.slice none 0 0, .agg #[.int .i64 0, .int .i64 0], .int .i64 4]) (by simp [results, Try.results17, go_sem, s0, s1]) rfl (.inr ⟨HN.out, rfl, ?_⟩)
      exact (hb3.setCell (Nat.le_refl _) _).setCell (Nat.le_refl _) _
  · have hnr : ¬ RightS (run bs 0).1 (byteAt bs 2 : Int) := fun h => by unfold RightS at h; omega
    have hno : ¬ OkB bs := fun h => h2 h.1
    clear hr0
    have hgo := right_no _ _ hnr X
    have HG := Lib.hid hgo
    have HN := Lib.hid hno
    clear hgo hno hnr
    refine HG.out.mono ?_
    rintro e w1 ⟨rfl, hb1⟩
    obtain ⟨y0, y1, g0, g1⟩ := two_cells ((hb1.block _ (lt_of_block HZ.out)).trans HZ.out)
    go_wp2_with fail
    obtain ⟨s0, s1, -⟩ := two_cells (two_same ((hb1.block _ (lt_of_block HZ.out)).trans HZ.out) (.int .i64 0) (.int .i64 0))
    refine bodyPost_ret (v := .tuple #[.slice none 0 0, .agg #[.int .i64 0, .int .i64 0], .int .i64 4]) (by simp [results, Try.results17, go_sem, s0, s1]) rfl (.inr ⟨HN.out, rfl, ?_⟩)
    exact ((bstep hb2 hb1).setCell (Nat.le_refl _) _).setCell (Nat.le_refl _) _
end Go.Proofs.Ytbhopghfglgibaa

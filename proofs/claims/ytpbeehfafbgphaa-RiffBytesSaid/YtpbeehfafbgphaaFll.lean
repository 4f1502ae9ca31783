/- The walk of riff.fill. -/
import Derived.Test.YtpbeehfafbgphaaSha
namespace Go.Proofs.Ytpbeehfafbgphaa
open Go Go.RowKit Go.Calli
set_option linter.unusedVariables false
set_option linter.unusedSimpArgs false
attribute [local irreducible] wpStill wpAnyH wpAnyS wpList Code.wp
/-- So many samples of a channel. -/
def rowF (d : List Int) (n k c : Nat) : List Int := (List.range c).map (fun q => sgn (numL ((d.drop (2 * (q * n + k))).take 2)))
theorem rowF_succ (d : List Int) (n k c : Nat) : rowF d n k (c + 1) = rowF d n k c ++ [sgn (numL ((d.drop (2 * (c * n + k))).take 2))] := by simp [rowF, List.range_succ]
theorem rowF_len (d : List Int) (n k c : Nat) : (rowF d n k c).length = c := by simp [rowF]
theorem sgn_bound {d : List Int} (hb : Byt d) (j : Nat) : -32768 ≤ sgn (numL ((d.drop j).take 2)) ∧ sgn (numL ((d.drop j).take 2)) < 32768 := by
  have := numL_lt ((hb.drop j).take 2) (k := 2) (by rw [List.length_take]; omega)
  unfold sgn
  split <;> omega
theorem rowF_wf {d : List Int} (hb : Byt d) (n k c : Nat) : ∀ z ∈ rowF d n k c, (Lit.int .i64 z).wf = true := by
  intro z hz
  obtain ⟨q, -, rfl⟩ := List.mem_map.1 hz
  have := sgn_bound hb (2 * (q * n + k))
  exact WalkArith.wf_i64 ⟨by omega, by omega⟩
theorem infoInt : (Try.prog.info? 3).map (fun i => (i.zero, i.size, i.bytes)) = some (some (.int .i64 0), 1, 8) := by kernel_rfl
theorem make1 (w : World) : (Instr.makeSlice 35 (.int .i64 1) (.int .i64 1)).run Try.prog w = .ok (.slice (some ⟨w.heap.size, 0, none⟩) 1 1) (w.alloc (.cells #[.slice none 0 0] 52)) := by kernel_rfl
theorem make2 (w : World) : (Instr.makeSlice 35 (.int .i64 2) (.int .i64 2)).run Try.prog w = .ok (.slice (some ⟨w.heap.size, 0, none⟩) 2 2) (w.alloc (.cells #[.slice none 0 0, .slice none 0 0] 52)) := by kernel_rfl
def FillPost (d : List Int) (n : Nat) (w : World) (e : Ending) (w' : World) : Prop := ∃ (ro : Option Addr) (rn rc : Nat) (ok : Bool), e = .returned (.tuple #[.slice ro rn rc, .bool ok]) ∧ (ok = true ↔ d.length % (2 * n) = 0) ∧ rn ≤ rc ∧ (ok = true → ∀ w2, Keeps (fun k => k < w.heap.size) w' w2 → Rows w2 ro rn (fillL d n)) ∧ Below w.heap.size w w'
theorem fill_bad (ao : Option Addr) (len cap : Nat) (d : List Int) (n : Nat) (hn : n = 1 ∨ n = 2) (w : World) (h : Ints .u8 w ao len d) (hbad : d.length % (2 * n) ≠ 0) : Calls Try.prog 23 #[.slice ao len cap, .int .i64 n] w (FillPost d n w) := by
  have hl := h.hlen
  have hlim := h.lim
  unfold maxLen at hlim
  rw [hl] at hbad
  have hP : FillPost d n w (.returned (.tuple #[.slice none 0 0, .bool false])) w := ⟨none, 0, 0, false, rfl, ⟨(fun e => by cases e), (fun e => absurd e (by rw [hl]; exact hbad))⟩, Nat.le_refl _, (fun e => by cases e), Below.refl _ _⟩
  have HP := Lib.hid hP
  clear hP h hl
  rcases hn with rfl | rfl
  · have hm : ¬ ((len : Int) % 2 = 0) := by omega
    clear hbad
    go_enter Try.func23, Try.ntmps23
    go_wp2_with fail
    exact bodyPost_ret (v := .tuple #[.slice none 0 0, .bool false]) (by simp [results, Try.results23, go_sem]) rfl HP.out
  · have hm : ¬ ((len : Int) % 4 = 0) := by omega
    clear hbad
    go_enter Try.func23, Try.ntmps23
    go_wp2_with fail
    exact bodyPost_ret (v := .tuple #[.slice none 0 0, .bool false]) (by simp [results, Try.results23, go_sem]) rfl HP.out
def sgnOf (v : Int) : Int := if 32768 ≤ v then v - 65536 else v
def F1Rel (d : List Int) (w : World) (v7 : Value) (wr : World) : Prop := ∃ (i j : Nat) (v0 : Value), Hid (i = 2 * j) ∧ i ≤ d.length ∧ v7 = .int .i64 i ∧ wr.heap[w.heap.size]? = some (.cells #[v0] 52 (0, 0)) ∧ wr.ownsRow w.heap.size 3 1 v0 j ((rowF d 1 0 j).map (Value.int .i64)) ∧ Below w.heap.size w wr
set_option maxRecDepth 100000 in
set_option maxHeartbeats 4000000 in
theorem fill_one (ao : Option Addr) (len cap : Nat) (d : List Int) (w : World) (h : Ints .u8 w ao len d) (hlc : len ≤ cap) (hl2 : len ≤ 100000000) (hok : d.length % (2 * 1) = 0) : Calls Try.prog 23 #[.slice ao len cap, .int .i64 1] w (FillPost d 1 w) := by
  have hl := h.hlen
  rw [hl] at hok
  have HOK := Lib.hid hok
  have hm : (len : Int) % 2 = 0 := by omega
  have hmk := make1
  have hb0 := below_alloc w (.cells #[.slice none 0 0] 52)
  have hz0 := heap_alloc_new w (.cells #[.slice none 0 0] 52)
  have HL := Lib.hid hl
  clear hok
  go_enter Try.func23, Try.ntmps23
  go_wp2_with fail
  generalize w.alloc (.cells #[.slice none 0 0] 52) = W at *
  have hR0 : F1Rel d w (.int .i64 0) W := ⟨0, 0, _, rfl, Nat.zero_le _, rfl, hz0, World.ownsRow_nil _ _ _ _, hb0⟩
  clear hz0 hb0 hmk hm
  go_loopw [7] (fun v7 wr => F1Rel d w v7 wr) (fun v7 _ => len - (intOf v7).toNat)
  case atStart => exact hR0
  case round =>
    clear hR0
    obtain ⟨i, j, v0, hij, hi, rfl, hx, hO, hb⟩ := hrel
    rw [HL.out] at hi
    by_cases hlt : i < len
    · have hi2 : i + 2 ≤ len := by have := hij.out; have := HOK.out; omega
      obtain ⟨a, rfl, -⟩ := h.some (by omega)
      obtain ⟨a2, hsl, hblk, hsub⟩ := slice_part (P := Try.prog) 25 5 Try.underlying25 (by kernel_rfl) a len cap i (i + 2) (i : Int) ((i : Int) + 2) rfl (by omega) (by omega) hi2 hlc
      have hI2 := hsub .u8 wr d (h.keep0 hb)
      rw [show i + 2 - i = 2 by omega, show (d.take (i + 2)).drop i = (d.drop i).take 2 by rw [List.drop_take]; congr 1; omega] at hI2
      have hN := number_any (some a2) 2 (cap - i) _ (by omega) wr hI2
      have hbd := numL_lt (byt_of hI2.wf) (k := 2) (by rw [List.length_take]; omega)
      rw [show i + 2 - i = 2 by omega] at hsl
      have hsg : sgn (numL ((d.drop i).take 2)) = if 32768 ≤ numL ((d.drop i).take 2) then numL ((d.drop i).take 2) - 65536 else numL ((d.drop i).take 2) := rfl
      have hrow : Hid ((rowF d 1 0 (j + 1)).map (Value.int .i64) = (rowF d 1 0 j).map (Value.int .i64) ++ [Value.int .i64 (sgn (numL ((d.drop i).take 2)))]) := by unfold Hid; rw [rowF_succ, List.map_append, hij.out]; simp
      generalize numL ((d.drop i).take 2) = v at *
      have HN := Lib.hid hN
      have HSG := Lib.hid hsg
      clear hI2 hsub hN hsg hblk
      go_upto_if 31 with (go_at_call 20; refine HN.out.mono ?_; rintro e w2 ⟨rfl, rfl⟩)
      go_cut [8] (fun v8 wx => ∃ x, v8 = .int .i64 x ∧ Hid (x = sgnOf v) ∧ -32768 ≤ x ∧ x < 32768 ∧ wr = wx)
      case first =>
        by_cases h8 : 32768 ≤ v
        · go_wp2_with fail
          go_meet
          exact ⟨v - 65536, rfl, by unfold Hid sgnOf; rw [if_pos h8], by omega, by omega, rfl⟩
        · go_wp2_with fail
          go_meet
          exact ⟨v, rfl, by unfold Hid sgnOf; rw [if_neg (by omega)], by omega, by omega, rfl⟩
      case rest =>
        obtain ⟨x, rfl, hx8, hx0, hx1, rfl⟩ := hcut
        have hrow2 : Hid ((rowF d 1 0 (j + 1)).map (Value.int .i64) = (rowF d 1 0 j).map (Value.int .i64) ++ [Value.int .i64 x]) := by
          unfold Hid; rw [hrow.out, hx8.out, HSG.out]; rfl
        clear hx8 hrow HSG
        have p0 : wr.cell? ⟨w.heap.size, 0, none⟩ = some v0 := (cell_of_row _ _ _ _ _ _ hx).trans rfl
        go_upto_region 11 with fail
        go_wp2_with (at_builtin; refine wpList_append_one rfl (.tmp 43) (.tmp 45) 52 3 rfl Try.underlying52 infoInt rfl w.heap.size v0 j _ rfl hO (.int .i64 x) rfl rfl ?_ ?_ ?_ ?_)
        case refine_1 => have := hij.out; omega
        case refine_2 => have := hij.out; unfold maxLen; omega
        case refine_3 => exact hb.size
        intro v' w' hown hk'
        obtain ⟨ao', cap', rfl, _⟩ := own_slice hown
        have hx' := hk'.heap hx (fun e => by obtain ⟨cs, hcs⟩ := own_block_type hO e; exact block_ne hx hcs (by decide) rfl)
        have hks : Keeps (fun k => k = w.heap.size) w' (w'.setCell ⟨w.heap.size, 0, none⟩ (.slice ao' (j + 1) cap')) := (Keeps.refl (fun k => k = w.heap.size) w').setCell (p := ⟨w.heap.size, 0, none⟩) (.inr rfl) _
        have hb' := hb.trans (owns_below hO hk' hb.size)
        have HR : Hid (F1Rel d w (.int .i64 ((i : Int) + 2)) (w'.setCell ⟨w.heap.size, 0, none⟩ (.slice ao' (j + 1) cap'))) := by
          refine ⟨i + 2, j + 1, .slice ao' (j + 1) cap', by unfold Hid; rw [hij.out]; omega, by rw [HL.out]; exact hi2, by go_num, heap_setCell_same _ _ _ _ _ _ hx', ?_, hb'.setCell (p := ⟨w.heap.size, 0, none⟩) (Nat.le_refl _) _⟩
          rw [hrow2.out]
          exact owns_kept hown hks (fun k hk e => by
            obtain ⟨cs, hcs⟩ := own_block_type hown hk
            exact block_ne hcs (e ▸ hx') (by decide) rfl)
        have p2 : w'.cell? ⟨w.heap.size, 0, none⟩ = some v0 := (cell_of_row _ _ _ _ _ _ hx').trans rfl
        have fz : w'.frozen? ⟨w.heap.size, 0, none⟩ = false := frozen_of_row _ _ _ _ _ hx'
        clear hown hk' hO hx' hks
        go_wp2_with fail
        refine ⟨HR.out, ?_⟩
        simp [intOf] <;> omega
    · obtain rfl : i = len := by omega
      have hP : FillPost d 1 w (.returned (.tuple #[.slice (some ⟨w.heap.size, 0, none⟩) 1 1, .bool true])) wr := by
        refine ⟨some ⟨w.heap.size, 0, none⟩, 1, 1, true, rfl, ⟨fun _ => by rw [HL.out]; exact HOK.out, fun _ => rfl⟩, Nat.le_refl _, fun _ w2 hk2 => ?_, hb⟩
        have hO := owns_kept hO hk2 (fun k e => by have := (hO.lt k e).1; omega)
        have hx := hk2.heap hx (by omega)
        obtain ⟨ao', cap', rfl, hc', hrow, hrl, _⟩ := own_slice hO
        refine ⟨fill_len d 1, by unfold maxLen; omega, fun q hq => ?_⟩
        obtain rfl : q = 0 := by omega
        have he : (fillL d 1).getD 0 [] = rowF d 1 0 j := by
          unfold fillL rowF
          rw [show d.length / (2 * 1) = j by have := HL.out; have := hij.out; omega]
          simp
        rw [he]
        exact ⟨_, ao', j, cap', rfl, (cell_of_row _ _ _ _ _ _ hx).trans rfl, hc', hrow.ints hrl (rowF_wf (byt_of h.wf) 1 0 j)⟩
      have HP := Lib.hid hP
      clear hP hO
      go_wp2_with fail
      exact bodyPost_ret (v := .tuple #[.slice (some ⟨w.heap.size, 0, none⟩) 1 1, .bool true]) (by simp [results, Try.results23, go_sem]) rfl HP.out
end Go.Proofs.Ytpbeehfafbgphaa

/- The walk of the statement's same; the statement AdpcmUnpacks. -/
import Derived.Test.YtbhopghfglgibaaUnp
import Derived.BigQuiet
namespace Go.Proofs.Ytbhopghfglgibaa
open Go.RowKit Go.Calli
set_option linter.unusedVariables false
set_option maxHeartbeats 400000 in
theorem same_yes (ao bo : Option Addr) (n c d : Nat) (zs : List Int) (w : World) (ha : Ints .i64 w ao n zs) (hb : Ints .i64 w bo n zs) : Calls Try.prog 18 #[.slice ao n c, .slice bo n d] w (RightPost true w) := by
  have hm := ha.lim
  unfold maxLen at hm
  go_enter Try.func18, Try.ntmps18
  go_wp2_with fail
  go_loopw [5] (fun i wr => ∃ k : Nat, k ≤ n ∧ i = .int .i64 k ∧ Below w.heap.size w wr) (fun i _ => (n - intOf i).toNat)
  case atStart => exact ⟨0, by omega, rfl, Below.refl _ _⟩
  case round =>
    obtain ⟨k, hk, rfl, hbl⟩ := hrel
    by_cases hlt : k < n
    · obtain ⟨a, x, rfl, hx, hc, hx1, hx2⟩ := (ha.keep0 hbl).int hlt
      obtain ⟨b, y, rfl, hy, hd, hy1, hy2⟩ := (hb.keep0 hbl).int hlt
      have hxy : y = x := by rw [← hx.out, ← hy.out]
      subst hxy
      clear hx hy
      go_wp2_with fail
      go_quiet (fail)
      go_wp2_with fail
      go_roundw
      case rel => exact ⟨k + 1, by omega, by go_num, hbl.os, hbl.tape, hbl.output, hbl.size, hbl.block⟩
      case measure => simp [intOf]; omega
    · go_wp2_with fail
      go_ret
      exact ⟨rfl, hbl⟩

set_option maxRecDepth 100000 in
set_option maxHeartbeats 1000000 in
theorem unpacks_size (ao : Option Addr) (n cap : Nat) (hn : n ≠ 20) (hm : n ≤ 30) (w : World) : Calls Try.prog 5 #[.slice ao n cap] w (RightPost true w) := by
  go_enter Try.func5, Try.ntmps5
  have hn' : ((n : Int) == 20) = false := by simp; omega
  go_wp2_with (first | (go_at_call 17; refine (unpack_size _ _ _ hn (by unfold maxLen; omega) _).mono ?_; rintro e w1 ⟨rfl, hb1⟩) | (go_at_call 13; refine (awake_any _).mono ?_; rintro e w2 ⟨rfl, hb2⟩))
  go_ret
  exact ⟨rfl, bstep (balloc hb1 _) hb2⟩
set_option maxRecDepth 100000 in
set_option maxHeartbeats 1000000 in
theorem unpacks_long (ao : Option Addr) (n cap : Nat) (hn : 30 < n) (hm : n ≤ maxLen) (hc : n ≤ cap) (w : World) : Calls Try.prog 5 #[.slice ao n cap] w (RightPost true w) := by
  go_enter Try.func5, Try.ntmps5
  unfold maxLen at hm
  go_wp2_with (first | (go_at_call 17; refine (unpack_size _ _ _ (by decide) (by decide) _).mono ?_; rintro e w1 ⟨rfl, hb1⟩) | (go_at_call 13; refine (awake_any _).mono ?_; rintro e w2 ⟨rfl, hb2⟩))
  go_ret
  exact ⟨rfl, bstep (balloc hb1 _) hb2⟩
/-- The two ways of an answer of Unpack. -/
def UnpRes (bs : List Int) (w' : World) (ao : Option Addr) (n c : Nat) (L I E : Int) : Prop := (OkB bs ∧ n = byteAt bs 3 ∧ L = (run bs (byteAt bs 3)).1 ∧ I = (run bs (byteAt bs 3)).2 ∧ E = 0 ∧ Ints .i64 w' ao (byteAt bs 3) (outs bs (byteAt bs 3))) ∨ (¬ OkB bs ∧ ao = none ∧ n = 0 ∧ c = 0 ∧ L = 0 ∧ I = 0 ∧ E = 4)
theorem UnpRes.keep0 {bs : List Int} {w w' : World} {ao : Option Addr} {n c : Nat} {L I E : Int} (h : UnpRes bs w ao n c L I E) (hb : Below w.heap.size w w') : UnpRes bs w' ao n c L I E := by
  rcases h with ⟨h1, h2, h3, h4, h5, h6⟩ | h
  · exact .inl ⟨h1, h2, h3, h4, h5, h6.keep0 hb⟩
  · exact .inr h
theorem unpack_uni (ao : Option Addr) (cap : Nat) (bs : List Int) (w : World) (h : Ints .u8 w ao 20 bs) : Calls Try.prog 17 #[.slice ao 20 cap] w fun e w' => ∃ ao n c L I E, e = .returned (.tuple #[.slice ao n c, .agg #[.int .i64 L, .int .i64 I], .int .i64 E]) ∧ UnpRes bs w' ao n c L I E ∧ Below w.heap.size w w' := by
  refine (unpack_any ao cap bs w h).mono ?_
  rintro e w1 (⟨h1, ao, c, rfl, h2, h3⟩ | ⟨h1, rfl, h3⟩)
  · exact ⟨ao, _, c, _, _, _, rfl, .inl ⟨h1, rfl, rfl, rfl, rfl, h2⟩, h3⟩
  · exact ⟨none, 0, 0, 0, 0, 4, rfl, .inr ⟨h1, rfl, rfl, rfl, rfl, rfl, rfl⟩, h3⟩
theorem byteAt_cast (bs : List Int) (i : Nat) : (byteAt bs i : Int).toNat = byteAt bs i := rfl
set_option maxRecDepth 100000 in
set_option maxHeartbeats 2000000 in
theorem unpacks_twenty (ao : Option Addr) (cap : Nat) (bs : List Int) (w : World) (h : Ints .u8 w ao 20 bs) : Calls Try.prog 5 #[.slice ao 20 cap] w (RightPost true w) := by
  obtain ⟨a, rfl, -⟩ := h.some (by omega)
  have hwf := h.wf
  go_enter Try.func5, Try.ntmps5
  have hU := unpack_uni (some a) cap bs w h
  go_upto_region 6 with (go_at_call 17; refine hU.mono ?_; rintro e w1 ⟨ro, rn, rc, L, I, E, rfl, HR, hb1⟩)
  clear hU
  have hz := heap_alloc_new w1 (.cells #[.int .i64 L, .int .i64 I] 23)
  have hb2 := bstep hb1 (below_alloc w1 (.cells #[.int .i64 L, .int .i64 I] 23))
  have HR := HR.keep0 (below_alloc w1 (.cells #[.int .i64 L, .int .i64 I] 23))
  have hi := h.keep0 hb2
  have hsz : w.heap.size ≤ w1.heap.size := hb1.size
  generalize hA : w1.heap.size = A at *
  generalize w1.alloc (.cells #[.int .i64 L, .int .i64 I] 23) = W at *
  have HZ := Lib.hid hz
  clear hz hb1 hA
  have k0 : W.cell? a = some (.int .u8 (byteAt bs 0 : Nat)) := byte_cell (i := 0) hi (by omega)
  have k1 : W.cell? ⟨a.block, a.off + 1, none⟩ = some (.int .u8 (byteAt bs 1 : Nat)) := byte_cell (i := 1) hi (by omega)
  have k2 : W.cell? ⟨a.block, a.off + 2, none⟩ = some (.int .u8 (byteAt bs 2 : Nat)) := byte_cell (i := 2) hi (by omega)
  have k3 : W.cell? ⟨a.block, a.off + 3, none⟩ = some (.int .u8 (byteAt bs 3 : Nat)) := byte_cell (i := 3) hi (by omega)
  have hal := World.block_lt_of_cell? W _ k0
  have l0 := byteAt_lt hwf 0
  have l1 := byteAt_lt hwf 1
  have l2 := byteAt_lt hwf 2
  have l3 := byteAt_lt hwf 3
  go_region
  go_upto_region 7 with fail
  have hL : 256 * (byteAt bs 0 : Int) + (byteAt bs 1 : Int) - 32768 = (run bs 0).1 := rfl
  simp only [hL]
  have hI : (byteAt bs 2 : Int) = (run bs 0).2 := rfl
  have hx : (W.alloc (.cells #[.int .i64 (run bs 0).1, .int .i64 (byteAt bs 2 : Int)] 23)).drew.heap[W.heap.size]? = some (.cells #[.int .i64 (run bs 0).1, .int .i64 (run bs 0).2] 23 (0, 0)) := heap_alloc_new _ _
  have hbx : Below W.heap.size W (W.alloc (.cells #[.int .i64 (run bs 0).1, .int .i64 (byteAt bs 2 : Int)] 23)).drew := (below_alloc _ _).drew
  have hz := (hbx.block _ (lt_of_block HZ.out)).trans HZ.out
  have hi2 := hi.keep0 hbx
  have hb3 := bstep hb2 hbx
  have HR2 := HR.keep0 hbx
  have hns : A < W.heap.size := lt_of_block HZ.out
  clear hL HZ k0 k1 k2 k3 l0 l1 HR hbx hb2 hi
  generalize (W.alloc (.cells #[.int .i64 (run bs 0).1, .int .i64 (byteAt bs 2 : Int)] 23)).drew = X at *
  have HX := Lib.hid hx
  have HZ := Lib.hid hz
  have k3 : X.cell? ⟨a.block, a.off + 3, none⟩ = some (.int .u8 (byteAt bs 3 : Nat)) := byte_cell (i := 3) hi2 (by omega)
  obtain ⟨x0, x1, -⟩ := two_cells hx
  have hnx := lt_of_block hx
  rw [← hI] at x1
  clear hx hz hI
  go_cut [7] (fun v wx => v = .bool (decide (byteAt bs 2 ≤ 48 ∧ byteAt bs 3 ≤ 32)) ∧ X = wx)
  case first =>
    by_cases h2 : byteAt bs 2 ≤ 48
    · by_cases h3 : byteAt bs 3 ≤ 32
      · have e := Lib.hid (show decide (byteAt bs 2 ≤ 48 ∧ byteAt bs 3 ≤ 32) = true by simp [h2, h3])
        go_wp2_with fail
        go_meet
        exact ⟨by rw [e.out]; first | rfl | (simp; omega), rfl⟩
      · have e := Lib.hid (show decide (byteAt bs 2 ≤ 48 ∧ byteAt bs 3 ≤ 32) = false by simp [h2, h3])
        go_wp2_with fail
        go_meet
        exact ⟨by rw [e.out]; first | rfl | (simp; omega), rfl⟩
    · have e := Lib.hid (show decide (byteAt bs 2 ≤ 48 ∧ byteAt bs 3 ≤ 32) = false by simp [h2])
      go_wp2_with fail
      go_meet
      exact ⟨by rw [e.out], rfl⟩
  case rest =>
    obtain ⟨rfl, rfl⟩ := hcut
    obtain ⟨x0, x1, -⟩ := two_cells HX.out
    go_wp2_with fail
    have hd : (X.alloc (.cells #[.int .i64 (run bs 0).1, .int .i64 (run bs 0).2] 23)).heap[X.heap.size]? = some (.cells #[.int .i64 (run bs 0).1, .int .i64 (run bs 0).2] 23 (0, 0)) := heap_alloc_new _ _
    have hbd : Below X.heap.size X (X.alloc (.cells #[.int .i64 (run bs 0).1, .int .i64 (run bs 0).2] 23)) := below_alloc _ _
    clear x0 x1 k3 hi2 HX
    have hwX := hb3.size
    go_loopw [7, 8, 10] (fun f v i wr => ∃ (k : Nat) (ok : Bool), k ≤ 32 ∧ f = .bool ok ∧ i = .int .i64 k ∧ Hid (ok = true → byteAt bs 2 ≤ 48 ∧ byteAt bs 3 ≤ 32 ∧ ∀ q, byteAt bs 3 ≤ q → q < k → codeAt bs q = 0) ∧ Hid (ok = false → ¬ OkB bs) ∧ (ok = true → wr.ownsRow X.heap.size 3 1 v (min k (byteAt bs 3)) ((outs bs (min k (byteAt bs 3))).map (Value.int .i64)) ∧ wr.heap[X.heap.size]? = some (.cells #[.int .i64 (run bs (min k (byteAt bs 3))).1, .int .i64 (run bs (min k (byteAt bs 3))).2] 23 (0, 0))) ∧ Below X.heap.size X wr) (fun _ _ i _ => (32 - intOf i).toNat)
    case atStart =>
      refine ⟨0, _, by omega, rfl, rfl, fun ht => ?_, fun hf ho => ?_, fun _ => ⟨by rw [Nat.zero_min]; exact World.ownsRow_nil _ _ _ _, by rw [Nat.zero_min]; exact hd⟩, hbd⟩
      · have := of_decide_eq_true ht
        exact ⟨this.1, this.2, fun q _ h => by omega⟩
      · exact (of_decide_eq_false hf) ⟨ho.1, ho.2.1⟩
    case round =>
      clear hd hbd
      obtain ⟨k, ok, hk, rfl, rfl, hyes, hno, hst, hb⟩ := hrel
      by_cases hgo : k < 32 ∧ ok = true
      · obtain ⟨hlt, rfl⟩ := hgo
        obtain ⟨hown, hx⟩ := hst rfl
        obtain ⟨x0, x1, xf0, xf1⟩ := two_cells hx
        have HX := Lib.hid hx
        have hDw := lt_of_block hx
        obtain ⟨h2, h3, HQ⟩ := hyes.out rfl
        have HQ := Lib.hid HQ
        clear hyes hno hst hx
        have hbw := hb3.trans (hb.mono hwX)
        have hc := byte_cell (h.keep0 hbw) (i := 4 + k / 2) (by omega)
        have k3 : wr.cell? ⟨a.block, a.off + 3, none⟩ = some (.int .u8 (byteAt bs 3 : Nat)) := byte_cell (i := 3) (h.keep0 hbw) (by omega)
        have hbl := byteAt_lt hwf (4 + k / 2)
        have hcl := codeAt_lt hwf k
        have hcode : Hid (codeAt bs k = if k % 2 = 0 then byteAt bs (4 + k / 2) / 16 else byteAt bs (4 + k / 2) % 16) := rfl
        generalize byteAt bs (4 + k / 2) = B at *
        go_upto_if 84 with fail
        go_cut [11] (fun v wx => v = .int .i64 (codeAt bs k : Nat) ∧ wr = wx)
        case first =>
          by_cases hp : (k : Int) % 2 = 0
          · have e := Lib.hid (show ((B : Int) / 16) = (codeAt bs k : Nat) by
              rw [hcode.out, if_pos (by omega)]; omega)
            go_wp2_with fail
            go_meet
            exact ⟨by rw [← e.out], rfl⟩
          · have hp1 : (k : Int) % 2 = 1 := by omega
            have e := Lib.hid (show (B : Int) % 16 = (codeAt bs k : Nat) by
              rw [hcode.out, if_neg (by omega)]; omega)
            clear hp
            go_wp2_with fail
            go_meet
            exact ⟨by rw [← e.out], rfl⟩
        case rest =>
          obtain ⟨rfl, rfl⟩ := hcut
          clear hcode hc hbl
          by_cases hkn : k < byteAt bs 3
          · have hr := run_right hwf h2 k
            rw [show min k (byteAt bs 3) = k by omega] at hown x0 x1 HX
            clear hcl
            have hcl := codeAt_lt hwf k
            go_upto_region 19 with (go_at_call 14; refine (lnext_any _ _ (codeAt bs k) hr hcl _).mono ?_; rintro e w2 ⟨rfl, hb2⟩; obtain ⟨y0, y1, yf0, yf1⟩ := two_cells ((hb2.block _ (lt_of_block HX.out)).trans HX.out))
            have hHX2 := (hb2.block _ (lt_of_block HX.out)).trans HX.out
            have hown2 := owns_kept (S := fun _ => False) hown (Keeps.ofBelow hb2 (Nat.le_refl _)) (fun _ _ h => h)
            have hx4 := two_same hHX2 (.int .i64 (nextL (run bs k).1 (run bs k).2 (codeAt bs k))) (.int .i64 (nextI (run bs k).2 (codeAt bs k)))
            have hkp : Keeps (fun b => b = X.heap.size) w2 ((w2.setCell ⟨X.heap.size, 0, none⟩ (.int .i64 (nextL (run bs k).1 (run bs k).2 (codeAt bs k)))).setCell ⟨X.heap.size, 1, none⟩ (.int .i64 (nextI (run bs k).2 (codeAt bs k)))) := ((Keeps.refl (fun b => b = X.heap.size) w2).setCell (p := ⟨X.heap.size, 0, none⟩) (.inr rfl) _).setCell (p := ⟨X.heap.size, 1, none⟩) (.inr rfl) _
            have hb4 : Below X.heap.size X ((w2.setCell ⟨X.heap.size, 0, none⟩ (.int .i64 (nextL (run bs k).1 (run bs k).2 (codeAt bs k)))).setCell ⟨X.heap.size, 1, none⟩ (.int .i64 (nextI (run bs k).2 (codeAt bs k)))) := ((bstep hb hb2).setCell (p := ⟨X.heap.size, 0, none⟩) (Nat.le_refl _) _).setCell (p := ⟨X.heap.size, 1, none⟩) (Nat.le_refl _) _
            have hown4 := owns_kept hown2 hkp (fun b hb hS => by
              obtain ⟨cs, hcs⟩ := own_block_type hown2 hb
              have hS' : b = X.heap.size := hS
              rw [hS', hHX2] at hcs
              cases hcs)
            clear hkp hown2 hHX2 y0 y1 yf0 yf1 hb2 x0 x1 xf0 xf1 HX hown hb hbw k3 hDw
            generalize (w2.setCell ⟨X.heap.size, 0, none⟩ (.int .i64 (nextL (run bs k).1 (run bs k).2 (codeAt bs k)))).setCell ⟨X.heap.size, 1, none⟩ (.int .i64 (nextI (run bs k).2 (codeAt bs k))) = Y at *
            obtain ⟨x0, x1, -⟩ := two_cells hx4
            have HX4 := Lib.hid hx4
            clear hx4
            have hs : Hid (outs bs (k + 1) = outs bs k ++ [nextL (run bs k).1 (run bs k).2 (codeAt bs k)]) := rfl
            go_wp2_with (at_builtin; refine wpList_append_one rfl (.tmp 104) (.tmp 107) 34 3 rfl Try.underlying34 infoInt rfl X.heap.size _ _ _ rfl hown4 (.int .i64 _) rfl rfl ?_ ?_ ?_ ?_)
            case refine_1 => omega
            case refine_2 => unfold maxLen; omega
            case refine_3 => exact hb4.size
            intro v' w' hown' hkp
            have hb' := hb4.trans (owns_below hown4 hkp hb4.size)
            have HX' := Lib.hid (hkp.heap HX4.out (fun hS => by
              obtain ⟨cs, hcs⟩ := own_block_type hown4 hS
              rw [HX4.out] at hcs; cases hcs))
            clear hown4 hkp hb4 HX4 x0 x1
            go_wp2_with fail
            go_roundw
            case rel => exact ⟨k + 1, true, by omega, rfl, by go_num, fun _ => ⟨h2, h3, fun q h1 h2 => by omega⟩, fun h => (by cases h), fun _ => by rw [show min (k + 1) (byteAt bs 3) = k + 1 by omega, hs.out]; exact ⟨by simpa using hown', HX'.out⟩, hb'⟩
            case measure => simp [intOf]; omega
          · by_cases hc0 : codeAt bs k = 0
            · rw [hc0]
              have HC := Lib.hid hc0
              clear hc0
              go_wp2_with fail
              go_roundw
              case rel => exact ⟨k + 1, true, by omega, rfl, by go_num, fun _ => ⟨h2, h3, fun q h1 h2 => by
                by_cases hq : q = k
                · rw [hq]; exact HC.out
                · exact HQ.out q h1 (by omega)⟩, fun h => (by cases h), fun _ => by rw [show min (k + 1) (byteAt bs 3) = min k (byteAt bs 3) by omega]; exact ⟨hown, HX.out⟩, hb⟩
              case measure => simp [intOf]; omega
            · have hno : ¬ OkB bs := fun h => hc0 (h.2.2 k (by omega) (by omega))
              have HN := Lib.hid hno
              have hpos : 0 < codeAt bs k := by omega
              have hcf : ((codeAt bs k : Int) == 0) = false := by simp; omega
              clear hno hc0
              go_wp2_with fail
              go_roundw
              case rel => exact ⟨k + 1, false, by omega, by first | rfl | rw [hcf], by go_num, fun h => (by cases h), fun _ => HN.out, fun h => (by cases h), hb⟩
              case measure => simp [intOf]; omega
      · have HR3 := HR2.keep0 hb
        have HZ3 := Lib.hid ((hb.block _ (lt_of_block HZ.out)).trans HZ.out)
        obtain ⟨z0, z1, zf0, zf1⟩ := two_cells HZ3.out
        have hbw := hb3.trans (hb.mono hwX)
        cases ok with
        | true =>
          obtain rfl : k = 32 := by
            by_cases hlt : k < 32
            · exact absurd ⟨hlt, rfl⟩ hgo
            · omega
          obtain ⟨h2, h3, hQ⟩ := hyes.out rfl
          have hOk : OkB bs := ⟨h2, h3, hQ⟩
          obtain ⟨hown, hx⟩ := hst rfl
          rw [show min 32 (byteAt bs 3) = byteAt bs 3 by omega] at hown hx
          rcases HR3 with ⟨-, rfl, rfl, rfl, rfl, hro⟩ | ⟨hn, -⟩
          · obtain ⟨a', c', rfl, hc', hrow, hl, _, _⟩ := own_slice hown
            have hints := hrow.ints hl (outs_wf _)
            obtain ⟨x0, x1, -⟩ := two_cells hx
            have HXE := Lib.hid hx
            clear hown hrow hst hyes hno hQ hx hgo HR2 HR hOk hnx hns
            go_wp2_with (first | (go_at_call 18; refine (same_yes _ _ _ _ _ _ _ hro hints).mono ?_; rintro e w5 ⟨rfl, hb5⟩; obtain ⟨p0, p1, -⟩ := two_cells ((hb5.block _ (lt_of_block HXE.out)).trans HXE.out); obtain ⟨q0, q1, -⟩ := two_cells ((hb5.block _ (lt_of_block HZ3.out)).trans HZ3.out)) | (go_at_call 13; refine (awake_any _).mono ?_; rintro e w6 ⟨rfl, hb6⟩))
            go_ret
            exact ⟨rfl, bstep (bstep hbw hb5) hb6⟩
          · exact absurd hOk hn
        | false =>
          have hn := hno.out rfl
          rcases HR3 with ⟨hOk, -⟩ | ⟨-, rfl, rfl, rfl, rfl, rfl, rfl⟩
          · exact absurd hOk hn
          · have HN := Lib.hid hn
            clear hn hno hyes hst hgo HR2 HR
            by_cases hlt : k < 32
            all_goals
              go_wp2_with (go_at_call 13; refine (awake_any _).mono ?_; rintro e w6 ⟨rfl, hb6⟩)
              go_ret
              exact ⟨rfl, bstep hbw hb6⟩

theorem adpcmUnpacks_any (ao : Option Addr) (n cap : Nat) (bs : List Int) (w : World) (h : Ints .u8 w ao n bs) (hc : n ≤ cap) : Calls Try.prog 5 #[.slice ao n cap] w (RightPost true w) := by
  by_cases h1 : 30 < n
  · exact unpacks_long ao n cap h1 h.lim hc w
  · by_cases h2 : n = 20
    · subst h2; exact unpacks_twenty ao cap bs w h
    · exact unpacks_size ao n cap h2 (by omega) w
end Go.Proofs.Ytbhopghfglgibaa

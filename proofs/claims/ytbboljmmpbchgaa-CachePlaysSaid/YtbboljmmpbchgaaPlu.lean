/- The walk of the law's span. -/
import Derived.Test.YtbboljmmpbchgaaPls
namespace Go.Proofs.Ytbboljmmpbchgaa
open Go Go.RowKit Go.Calli Go.Dskp Go.Maps
set_option linter.unusedVariables false
set_option linter.unusedSimpArgs false
attribute [local irreducible] wpStill wpAnyH wpAnyS wpList Code.wp
/-- A slice's length. -/
def lenV : Value → Nat
  | .slice _ n _ => n
  | _ => 0
theorem pspan_bad {B : Bd} {w : World} {n : Nat} {ds : List Dv} (c : Ca) (hd : c.d.Ok) (at_ m : Int) (hb : at_ < 0 ∨ (0 ≤ at_ ∧ m < 0) ∨ (0 ≤ at_ ∧ 0 ≤ m ∧ (c.d.pages : Int) * 64 < at_) ∨ (0 ≤ at_ ∧ 0 ≤ m ∧ at_ ≤ (c.d.pages : Int) * 64 ∧ (c.d.pages : Int) * 64 - at_ < m)) (H : PlSt B w n c ds) : Calls Try.prog 29 #[.pointer (some ⟨B.pb, 0, none⟩), .int .i64 at_, .int .i64 m] w (PsPost B n ⟨5, [], c⟩ w) := by
  obtain ⟨m0, -, hD⟩ := H.m.dsk
  have hP := pages_any B.qb B.qm B.qi B.qk m0 c.d hd w hD
  obtain ⟨c0, c1, c2, c3, c4, c5, c6, c7, c8, c9⟩ := H.m.cells
  have hpb : (c.d.pages : Int) ≤ 65536 := by have := hd.1; unfold Dk.pages; omega
  have HF : Hid (PsPost B n ⟨5, [], c⟩ w (.returned (.tuple #[.slice none 0 0, .int .i64 5])) w) := ⟨none, 0, ds, rfl, H, Ints.nil _ _ _, Keeps.refl _ _⟩
  clear H hD
  generalize c.d.pages = N at *
  have hw1 : IntKind.i64.wrap (64 * (N : Int)) = (N : Int) * 64 := by rw [IntWalk.i64_in _ (by omega)]; omega
  rcases hb with h1 | ⟨h1, h2⟩ | ⟨h1, h2, h3⟩ | ⟨h1, h2, h3, h4⟩
  all_goals
    try have hw2 : IntKind.i64.wrap ((N : Int) * 64 - at_) = (N : Int) * 64 - at_ := IntWalk.i64_in _ (by omega)
    go_enter Try.func29, Try.ntmps29
    go_wp2_with (go_at_call 27; refine hP.mono ?_; rintro e w' ⟨rfl, rfl⟩)
    go_ret2
    exact HF.out
set_option maxRecDepth 100000 in
set_option maxHeartbeats 2000000 in
theorem pspan_good {B : Bd} {w : World} {n : Nat} {ds : List Dv} (hn1 : n ≤ 1024) (c : Ca) (K : Nat) (hK : K + 5000 ≤ 100000) (hC : COk c) (hL : CLim K c) (hi : c.d.img.length ≤ 512) (a0 m0 : Nat) (h1 : (a0 : Int) ≤ (c.d.pages : Int) * 64) (h2 : (m0 : Int) ≤ (c.d.pages : Int) * 64 - a0) (H : PlSt B w n c ds) : Calls Try.prog 29 #[.pointer (some ⟨B.pb, 0, none⟩), .int .i64 a0, .int .i64 m0] w (PsPost B n (spanL m0 c a0 m0 []) w) := by
  obtain ⟨mm, -, hD⟩ := H.m.dsk
  have hP := pages_any B.qb B.qm B.qi B.qk mm c.d hL.ok w hD
  obtain ⟨c0, c1, c2, c3, c4, c5, c6, c7, c8, c9⟩ := H.m.cells
  have hpb : (c.d.pages : Int) ≤ 8 := by unfold Dk.pages; omega
  have hBin := H.m.inW
  have HH := Lib.hid H
  have hxn := H.m.away.2
  clear H hD
  generalize c.d.pages = N at *
  have hw1 : IntKind.i64.wrap (64 * (N : Int)) = (N : Int) * 64 := by rw [IntWalk.i64_in _ (by omega)]; omega
  have hw2 : IntKind.i64.wrap ((N : Int) * 64 - a0) = (N : Int) * 64 - a0 := IntWalk.i64_in _ (by omega)
  have ham : a0 + m0 ≤ 512 := by omega
  go_enter Try.func29, Try.ntmps29
  go_wp2_with (go_at_call 27; refine hP.mono ?_; rintro e w' ⟨rfl, rfl⟩)
  clear c0 c1 c2 c3 c4 c5 c6 c7 c8 c9 hP hw1 hw2 h1 h2
  have HOW : Hid (PlSt (B.own (.slice none 0 0)) w n c ds) := HH.out.setX hC (Keeps.refl _ _) (fun k hx => hx.elim (fun e => ⟨(hxn k e).1, .inl e⟩) (fun e => by cases e))
  have HC := Lib.hid hC
  have HL := Lib.hid hL
  clear hC hL
  go_loopw [9] (fun v9 wr => ∃ (k : Nat) (c' : Ca) (out : List Int) (ds' : List Dv) (ao : Option Addr) (cap : Nat), v9 = .slice ao out.length cap ∧ out.length ≤ m0 ∧ m0 - out.length ≤ k ∧ k ≤ m0 ∧ wr.ownsRow w.heap.size 5 1 (.slice ao out.length cap) out.length (out.map (Value.int .u8)) ∧ Hid (spanL m0 c a0 m0 [] = spanL k c' (a0 + out.length) (m0 - out.length) out) ∧ PlSt (B.own (.slice ao out.length cap)) wr n c' ds' ∧ COk c' ∧ CLim (K + (m0 - k)) c' ∧ (∀ z ∈ out, (Lit.int .u8 z).wf = true) ∧ Keeps B.S w wr) (fun v9 _ => m0 - lenV v9)
  case atStart => exact ⟨m0, c, [], ds, none, 0, rfl, Nat.zero_le _, by simp, Nat.le_refl _, World.ownsRow_nil _ _ _ _, rfl, HOW.out, HC.out, by rw [Nat.sub_self]; exact HL.out, by simp, Keeps.refl _ _⟩
  case round =>
    obtain ⟨k, c', out, ds', ao, cap, rfl, hol, hmk, hk0, hown, hE, hS, hok, hlim, hwf, hK'⟩ := hrel
    by_cases hm0 : out.length = m0
    · have hfin : spanL k c' (a0 + out.length) (m0 - out.length) out = ⟨0, out, c'⟩ := by
        rw [hm0, Nat.sub_self]; cases k <;> rfl
      rw [hfin] at hE
      have HE := Lib.hid hE.out
      obtain ⟨ro, rc, hv, hic, hrow2, hlim2, hund, hblk⟩ := own_slice hown
      cases hv
      have hI := hrow2.ints hlim2 hwf
      have HM := Lib.hid hm0
      have hge : ¬ out.length < m0 := by omega
      clear hE hfin hown hrow2 hm0
      go_wp2_with fail
      go_ret2
      rw [HE.out]
      exact ⟨ao, cap, ds', rfl, hS.noOwn, hI, hK'⟩
    · obtain ⟨j, rfl⟩ : ∃ j, k = j + 1 := ⟨k - 1, by omega⟩
      obtain ⟨a, ha⟩ : ∃ a, a = a0 + out.length := ⟨_, rfl⟩
      obtain ⟨m, hm⟩ : ∃ m, m = m0 - out.length := ⟨_, rfl⟩
      have hTk := take_any (B := B.own (.slice ao out.length cap)) hn1 c' hok (K + (m0 - (j + 1))) (by omega) hlim ((a / 64 : Nat) : Int) (by omega) (WalkArith.wf_i64 (by omega)) hS
      have hp := pageC_ok hok ((a / 64 : Nat) : Int) (WalkArith.wf_i64 (by omega))
      have hl := hlim.page ((a / 64 : Nat) : Int)
      have hst : spanL (j + 1) c' a m out = if m = 0 then ⟨0, out, c'⟩ else if (pageC c' ((a / 64 : Nat) : Int)).e ≠ 0 then ⟨(pageC c' ((a / 64 : Nat) : Int)).e, [], (pageC c' ((a / 64 : Nat) : Int)).c⟩ else spanL j (pageC c' ((a / 64 : Nat) : Int)).c (a + min (64 - a % 64) m) (m - min (64 - a % 64) m) (out ++ (((pageC c' ((a / 64 : Nat) : Int)).b.drop (a % 64)).take m)) := rfl
      rw [if_neg (by omega)] at hst
      rw [← ha, ← hm, hst] at hE
      clear hst
      generalize pageC c' ((a / 64 : Nat) : Int) = R at *
      have hqa : ((a : Int)) / 64 = ((a / 64 : Nat) : Int) := by omega
      rw [← hqa] at hTk
      have HPP := Lib.hid hp
      have hwa : IntKind.i64.wrap ((a0 : Int) + (out.length : Int)) = (a : Int) := by rw [IntWalk.i64_in _ (by omega)]; omega
      have hlt : out.length < m0 := by omega
      have HA := Lib.hid ha
      have HMM := Lib.hid hm
      have hma : a + m ≤ 512 := by omega
      clear hp hqa ha hm hlim hok hS hm0
      go_upto_region 8 with (go_at_call 34; refine hTk.mono ?_; clear hTk; rintro e w1 ⟨bo, bc, ds1, rfl, hbc, hS1, hI1, hnT, hk1⟩)
      by_cases he : R.e = 0
      · rw [if_neg (by rw [he]; exact fun h => h rfl)] at hE
        have hlen := HPP.out.2.1 he
        rw [he]
        rw [hlen] at hbc hI1 ⊢
        obtain ⟨xa, rfl, hx⟩ := hI1.some (by decide)
        obtain ⟨d, hd⟩ : ∃ d, d = a % 64 := ⟨_, rfl⟩
        have hd64 : d < 64 := by omega
        have hdz : ((a : Int) % 64) = (d : Int) := by omega
        obtain ⟨q, hq⟩ : ∃ q, q = min (64 - d) m := ⟨_, rfl⟩
        have epart : (R.b.drop d).take m = (R.b.drop d).take q := by
          have hdl : (R.b.drop d).length = 64 - d := by rw [List.length_drop, hlen]
          by_cases hmm : m ≤ 64 - d
          · rw [show q = m by omega]
          · rw [List.take_of_length_le (by omega), List.take_of_length_le (by omega)]
        rw [← hd, ← hq, epart] at hE
        have HE := Lib.hid hE.out
        have HLEN := Lib.hid hlen
        have hown1 := owns_kept hown hk1 (fun k hk hS => by have := (hown.lt k hk).1; have := hBin k hS; omega)
        have hK1 := hK'.trans hk1
        have HQ := Lib.hid hq
        have hq1 : q ≤ 64 - d := by omega
        have hq2 : 1 ≤ q := by have := HMM.out; omega
        have hq3 : out.length + q ≤ m0 := by have := HMM.out; omega
        have HQE : Hid (∀ t, ¬ t < q → t ≤ q → 64 ≤ d + t ∨ (d + t < 64 ∧ m0 ≤ out.length + t)) := fun t h1 h2 => by have := HMM.out; have := HQ.out; omega
        clear hE hd hq epart hlen hown hx hwa
        have h00 : (0 : Int) = 0 := rfl
        go_upto_region 11 with fail
        have hob : Hid (∀ k, (Value.slice ao out.length cap).ownBlock = some k → w.heap.size ≤ k) := fun k e => (hown1.lt k e).1
        clear hdz
        go_loopw [9, 13] (fun v9 v13 wx => ∃ (t : Nat) (ao' : Option Addr) (cap' : Nat), t ≤ q ∧ v13 = .int .i64 ((d + t : Nat) : Int) ∧ v9 = .slice ao' (out.length + t) cap' ∧ wx.ownsRow w.heap.size 5 1 (.slice ao' (out.length + t) cap') (out.length + t) ((out ++ (R.b.drop d).take t).map (Value.int .u8)) ∧ Keeps (fun k => (Value.slice ao out.length cap).ownBlock = some k) w1 wx ∧ ((Value.slice ao' (out.length + t) cap').ownBlock = (Value.slice ao out.length cap).ownBlock ∨ ∃ k, (Value.slice ao' (out.length + t) cap').ownBlock = some k ∧ w1.heap.size ≤ k)) (fun _ v13 _ => 64 - (intOf v13).toNat)
        case atStart => exact ⟨0, ao, cap, Nat.zero_le _, by simp, by simp, by simpa using hown1, Keeps.refl _ _, .inl rfl⟩
        case round =>
          clear hown1
          obtain ⟨t, ao', cap', htq, rfl, rfl, hownx, hkx, hblk⟩ := hrel
          have hIx := hI1.kept hkx (fun a ha e => hnT a ha (.inr (.inr e)))
          have hKx : Keeps B.S w wr := hK1.andThen hkx (fun i hi e => by have := hob.out i e; omega)
          by_cases htl : t < q
          · have h64 : d + t < 64 := by omega
            have hmt : out.length + t < m0 := by omega
            obtain ⟨xa2, hxe, hx⟩ := hIx.some (by decide)
            cases hxe
            have hxt := hx (d + t) h64
            have HTK : Hid ((R.b.drop d).take (t + 1) = (R.b.drop d).take t ++ [R.b.getD (d + t) 0]) := by
              have := take_succ_getD (R.b.drop d) t (by rw [List.length_drop, HLEN.out]; omega)
              rw [show (R.b.drop d).getD t 0 = R.b.getD (d + t) 0 by simp [List.getD, List.getElem?_drop]] at this
              exact this
            generalize R.b.getD (d + t) 0 = X at *
            clear hx hIx
            have hsx := hKx.size
            have wt : IntKind.i64.wrap (((d + t : Nat) : Int) + 1) = ((d + (t + 1) : Nat) : Int) := by rw [IntWalk.i64_in _ (by omega)]; omega
            go_wp2_with (at_builtin; refine wpList_append_one_at rfl (.tmp 70) (.tmp 75) 22 5 rfl Try.underlying22 infoByte rfl w.heap.size _ _ _ rfl hownx (.int .u8 _) rfl rfl ?_ ?_ ?_ ?_)
            · omega
            · unfold maxLen; omega
            · exact hsx
            · intro v' w2 hown2 hkp hblk2
              have e1 : out.map (Value.int .u8) ++ (((R.b.map (Value.int .u8)).drop d).take t ++ [Value.int .u8 X]) = (out ++ (R.b.drop d).take (t + 1)).map (Value.int .u8) := by
                rw [HTK.out, List.map_append, List.map_append, List.map_take, List.map_drop]; rfl
              rw [e1, Nat.add_assoc] at hown2
              obtain ⟨ao2, cap2, rfl, -, -, -, -, -⟩ := own_slice hown2
              have hkx2 := hkx.andThen hkp (fun i hi e => by
                rcases hblk with e2 | ⟨k2, e2, e3⟩
                · rw [← e2]; exact e
                · rw [e2] at e; cases e; omega)
              have hblk3 : (Value.slice ao2 (out.length + (t + 1)) cap2).ownBlock = (Value.slice ao out.length cap).ownBlock ∨ ∃ k, (Value.slice ao2 (out.length + (t + 1)) cap2).ownBlock = some k ∧ w1.heap.size ≤ k := by
                rcases hblk2 with e2 | ⟨k2, e2, e3⟩
                · rw [e2]; exact hblk
                · exact .inr ⟨k2, e2, Nat.le_trans hkx.size e3⟩
              have HB3 := Lib.hid hblk3
              clear e1 hownx hkp hblk2 hblk hblk3
              go_wp2_with fail
              go_roundw
              case rel => exact ⟨t + 1, ao2, cap2, by omega, by first | rfl | go_num, rfl, hown2, hkx2, HB3.out⟩
              case measure => simp [intOf]; omega
          · have hex := HQE.out t htl htq
            obtain rfl : t = q := by omega
            have hS2 : PlSt (B.own (.slice ao' (out.length + t) cap')) wr n R.c ds1 := by
              refine hS1.setX HPP.out.1 (hkx.mono fun k _ e => .inr e) (fun k hx => ?_)
              rcases hx with e | e
              · exact ⟨Nat.lt_of_lt_of_le (hS1.m.away.2 k (.inl e)).1 hkx.size, .inl (.inl e)⟩
              · refine ⟨(hownx.lt k e).2, ?_⟩
                rcases hblk with e2 | ⟨k2, e2, e3⟩
                · exact .inl (.inr (by rw [← e2]; exact e))
                · rw [e2] at e; cases e; exact .inr e3
            have HLL : Hid ((out ++ (R.b.drop d).take t).length = out.length + t) := by
              show _ = _
              rw [List.length_append, List.length_take, List.length_drop, HLEN.out]; omega
            have HW2 : Hid (∀ z ∈ out ++ (R.b.drop d).take t, (Lit.int .u8 z).wf = true) := fun z hz => by
              rcases List.mem_append.1 hz with e | e
              · exact hwf z e
              · exact hI1.wf z (List.mem_of_mem_drop (List.mem_of_mem_take e))
            have HS2 := Lib.hid hS2
            have HOX := Lib.hid hownx
            clear hS2 hownx hIx hblk
            have hne : ¬ (64 : Nat) ≠ 64 := by omega
            rcases hex with hex | ⟨hex, hex2⟩
            · go_wp2_with fail
              go_roundw
              case rel =>
                refine ⟨j, R.c, out ++ (R.b.drop d).take t, ds1, ao', cap', by rw [HLL.out], by rw [HLL.out]; omega, by rw [HLL.out]; omega, by omega, by rw [HLL.out]; exact HOX.out, ?_, by rw [HLL.out]; exact HS2.out, HPP.out.1, hl.mono (by omega), HW2.out, hKx⟩
                rw [HLL.out]
                rw [show a0 + (out.length + t) = a + t by rw [HA.out]; omega, show m0 - (out.length + t) = m - t by rw [HMM.out]; omega]
                exact HE.out
              case measure => simp [lenV]; omega
            · go_wp2_with fail
              go_roundw
              case rel =>
                refine ⟨j, R.c, out ++ (R.b.drop d).take t, ds1, ao', cap', by rw [HLL.out], by rw [HLL.out]; omega, by rw [HLL.out]; omega, by omega, by rw [HLL.out]; exact HOX.out, ?_, by rw [HLL.out]; exact HS2.out, HPP.out.1, hl.mono (by omega), HW2.out, hKx⟩
                rw [HLL.out]
                rw [show a0 + (out.length + t) = a + t by rw [HA.out]; omega, show m0 - (out.length + t) = m - t by rw [HMM.out]; omega]
                exact HE.out
              case measure => simp [lenV]; omega
      · have heb : (R.e == 0) = false := by simpa using he
        rw [if_pos he] at hE
        have HE := Lib.hid hE.out
        clear hE
        go_wp2_with fail
        go_ret2
        rw [HE.out]
        exact ⟨none, 0, ds1, rfl, hS1.noOwn, Ints.nil _ _ _, hK'.trans hk1⟩
theorem pspan_any {B : Bd} {w : World} {n : Nat} {ds : List Dv} (hn1 : n ≤ 1024) (c : Ca) (K : Nat) (hK : K + 5000 ≤ 100000) (hC : COk c) (hL : CLim K c) (hi : c.d.img.length ≤ 512) (a m : Int) (H : PlSt B w n c ds) : Calls Try.prog 29 #[.pointer (some ⟨B.pb, 0, none⟩), .int .i64 a, .int .i64 m] w (PsPost B n (spanC c a m) w) := by
  unfold spanC
  split
  · exact pspan_bad c hL.ok a m (by omega) H
  · obtain ⟨x, rfl⟩ : ∃ x : Nat, a = x := ⟨a.toNat, by omega⟩
    obtain ⟨y, rfl⟩ : ∃ y : Nat, m = y := ⟨m.toNat, by omega⟩
    rw [Int.toNat_natCast, Int.toNat_natCast]
    exact pspan_good hn1 c K hK hC hL hi x y (by omega) (by omega) H
end Go.Proofs.Ytbboljmmpbchgaa

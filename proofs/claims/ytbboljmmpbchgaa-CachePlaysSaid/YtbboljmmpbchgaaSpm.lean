/- The walk of cache's Span: the loop. -/
import Derived.Test.YtbboljmmpbchgaaSpn
namespace Go.Proofs.Ytbboljmmpbchgaa
open Go Go.RowKit Go.Calli Go.Dskp Go.Maps
set_option linter.unusedVariables false
set_option linter.unusedSimpArgs false
attribute [local irreducible] wpStill wpAnyH wpAnyS wpList Code.wp
def Ad.own (A : Ad) (v : Value) : Ad := { A with x := fun k => A.x k ∨ v.ownBlock = some k }
theorem CaIs.noOwn {A : Ad} {v : Value} {w : World} {n : Nat} {c : Ca} (h : CaIs (A.own v) w n c) : CaIs A w n c := by
  obtain ⟨ms, hS, hM⟩ := h.slots
  exact ⟨h.row, ⟨ms, hS, ⟨hM.len, fun i hi => ⟨(hM.is i hi).p, (hM.is i hi).u, (hM.is i hi).f, fun hf => by
    obtain ⟨a1, a2, a4, a5⟩ := (hM.is i hi).bs hf
    exact ⟨a1, a2, a4, fun a ha hT => a5 a ha (hT.elim .inl (fun e => .inr (.inl e)))⟩⟩⟩⟩, h.dsk, h.len, h.hand, h.dist, ⟨h.away.1, fun k e => h.away.2 k (.inl e)⟩⟩
set_option maxRecDepth 100000 in
set_option maxHeartbeats 2000000 in
theorem span_good (A : Ad) (n : Nat) (hn1 : n ≤ 1024) (c : Ca) (K : Nat) (hK : K + 5000 ≤ 100000) (hC : COk c) (hL : CLim K c) (hi : c.d.img.length ≤ 512) (a0 m0 : Nat) (h1 : (a0 : Int) ≤ (c.d.pages : Int) * 64) (h2 : (m0 : Int) ≤ (c.d.pages : Int) * 64 - a0) (w : World) (h : CaIs A w n c) : Calls Try.prog 16 #[.pointer (some ⟨A.cb, 0, none⟩), .int .i64 a0, .int .i64 m0] w (GtPost A n (spanL m0 c a0 m0 []) w) := by
  have hN := cnone_any A n c w h
  obtain ⟨mm, -, hD⟩ := h.dsk
  have hP := pages_any A.b A.mb A.ib A.kap mm c.d hL.ok w hD
  obtain ⟨c0, c1, c2, c3, c4, c5, c6, c7⟩ := eight_cells h.row
  have hpb : (c.d.pages : Int) ≤ 8 := by unfold Dk.pages; omega
  have hAin := h.inW
  have HH := Lib.hid h
  clear h hD
  generalize c.d.pages = N at *
  have hw1 : IntKind.i64.wrap ((N : Int) * 64) = (N : Int) * 64 := IntWalk.i64_in _ (by omega)
  have hw2 : IntKind.i64.wrap ((N : Int) * 64 - a0) = (N : Int) * 64 - a0 := IntWalk.i64_in _ (by omega)
  have ham : a0 + m0 ≤ 512 := by omega
  go_enter Try.func16, Try.ntmps16
  go_wp2_with (first | (go_at_call 24; refine hN.mono ?_; rintro e w' ⟨rfl, rfl⟩) | (go_at_call 27; refine hP.mono ?_; rintro e w' ⟨rfl, rfl⟩))
  clear c0 c1 c2 c3 c4 c5 c6 c7 hN hP hw1 hw2 h1 h2
  have HC := Lib.hid hC
  have HL := Lib.hid hL
  have HOW : Hid (CaIs (A.own (.slice none 0 0)) w n c) := HH.out.setX hC (Keeps.refl _ _) (fun k hx => hx.elim (fun e => ⟨(HH.out.away.2 k e).1, .inl e⟩) (fun e => by cases e))
  go_loopw [1, 2, 8] (fun v1 v2 v8 wr => ∃ (k : Nat) (c' : Ca) (a m : Nat) (out : List Int), m ≤ k ∧ k ≤ m0 ∧ a + m ≤ 512 ∧ v1 = .int .i64 a ∧ v2 = .int .i64 m ∧ wr.ownsRow w.heap.size 5 1 v8 out.length (out.map (Value.int .u8)) ∧ out.length + m ≤ 512 ∧ Hid (spanL m0 c a0 m0 [] = spanL k c' a m out) ∧ CaIs (A.own v8) wr n c' ∧ COk c' ∧ CLim (K + (m0 - k)) c' ∧ (∀ z ∈ out, (Lit.int .u8 z).wf = true) ∧ Keeps A.S w wr) (fun _ v2 _ _ => (intOf v2).toNat)
  case atStart => exact ⟨m0, c, a0, m0, [], Nat.le_refl _, Nat.le_refl _, ham, rfl, rfl, World.ownsRow_nil _ _ _ _, by simp; omega, rfl, HOW.out, HC.out, by rw [Nat.sub_self]; exact HL.out, by simp, Keeps.refl _ _⟩
  case round =>
    obtain ⟨k, c', a, m, out, hmk, hk0, ham2, rfl, rfl, hown, holm, hE, hC', hok, hlim, hwf, hK'⟩ := hrel
    by_cases hm0 : m = 0
    · subst hm0
      have hfin : spanL k c' a 0 out = ⟨0, out, c'⟩ := by cases k <;> rfl
      rw [hfin] at hE
      have HE := Lib.hid hE.out
      obtain ⟨ro, rc, rfl, hic, hrow2, hlim2, hund, hblk⟩ := own_slice hown
      have hI := hrow2.ints hlim2 hwf
      clear hE hfin hown hrow2
      go_wp2_with fail
      go_ret2
      rw [HE.out]
      exact ⟨ro, rc, rfl, hic, hC'.noOwn, hI, fun x hx => (hblk x hx).1, hK'⟩
    · obtain ⟨j, rfl⟩ : ∃ j, k = j + 1 := ⟨k - 1, by omega⟩
      have hP := page_any (A.own u8) n hn1 c' (K + (m0 - (j + 1))) (by omega) hlim ((a / 64 : Nat) : Int) (WalkArith.wf_i64 (by omega)) wr hC'
      have hp := pageC_ok hok ((a / 64 : Nat) : Int) (WalkArith.wf_i64 (by omega))
      have hl := hlim.page ((a / 64 : Nat) : Int)
      have hst : spanL (j + 1) c' a m out = if m = 0 then ⟨0, out, c'⟩ else if (pageC c' ((a / 64 : Nat) : Int)).e ≠ 0 then ⟨(pageC c' ((a / 64 : Nat) : Int)).e, [], (pageC c' ((a / 64 : Nat) : Int)).c⟩ else spanL j (pageC c' ((a / 64 : Nat) : Int)).c (a + min (64 - a % 64) m) (m - min (64 - a % 64) m) (out ++ (((pageC c' ((a / 64 : Nat) : Int)).b.drop (a % 64)).take m)) := rfl
      rw [if_neg hm0] at hst
      generalize pageC c' ((a / 64 : Nat) : Int) = R at *
      have hq : ((a : Int)) / 64 = ((a / 64 : Nat) : Int) := by omega
      rw [← hq] at hP
      have HST := Lib.hid hst
      have HPP := Lib.hid hp
      clear hst hp hq
      go_upto_region 8 with (go_at_call 23; refine hP.mono ?_; clear hP; rintro e w1 ⟨bo, bc, rfl, hbc, hC1, hI1, hno, hk1⟩)
      by_cases he : R.e = 0
      · have hst := HST.out
        have hp := HPP.out
        rw [if_neg (by rw [he]; exact fun h => h rfl)] at hst
        have hlen := hp.2.1 he
        rw [he]
        rw [hlen] at hbc hI1 ⊢
        obtain ⟨xa, rfl, hx⟩ := hI1.some (by decide)
        rw [hst] at hE
        have HE := Lib.hid hE.out
        have HX := Lib.hid hx
        clear hE hst hp HST hx
        go_upto_region 11 with fail
        go_upto_region 12 with fail
        obtain ⟨q, hq⟩ : ∃ q, q = min (64 - a % 64) m := ⟨_, rfl⟩
        have e1 : (if m < 64 - a % 64 then (m : Int) else ((64 - a % 64 : Nat) : Int)) = (q : Int) := by split <;> omega
        have hq1 : q ≤ 64 - a % 64 := by omega
        have hq2 : 1 ≤ q := by omega
        have hq3 : q ≤ m := by omega
        have hpt := (hI1.drop (j := a % 64) (by omega)).take hq1
        have epart : (R.b.drop (a % 64)).take m = (R.b.drop (a % 64)).take q := by
          have hdl : (R.b.drop (a % 64)).length = 64 - a % 64 := by rw [List.length_drop, hlen]
          by_cases hmm : m ≤ 64 - a % 64
          · rw [show q = m by omega]
          · rw [List.take_of_length_le (by omega), List.take_of_length_le (by omega)]
        rw [← hq, epart] at HE
        rw [e1, Int.toNat_natCast]
        have hdiv : a % 64 < 64 := by omega
        clear e1 hq epart hI1 hlen
        generalize (R.b.drop (a % 64)).take q = part at *
        generalize a % 64 = d at *
        have hown1 := owns_kept hown hk1 (fun k hk hS => by have := (hown.lt k hk).1; have := hAin k hS; omega)
        have hrow := hpt.row
        have hnil := hpt.nil_len
        have hpl := hpt.hlen
        have hpw := hpt.wf
        have hK1 := hK'.trans hk1
        have hw1 : IntKind.i64.wrap ((a : Int) + q) = (a : Int) + q := IntWalk.i64_in _ (by omega)
        have hw2 : IntKind.i64.wrap ((m : Int) - q) = (m : Int) - q := IntWalk.i64_in _ (by omega)
        have HPL := Lib.hid hpl
        clear hown hpt hpl
        go_wp2_with (at_builtin; refine wpList_append_row_at rfl _ _ 22 5 rfl Try.underlying22 infoByte rfl w.heap.size _ _ _ rfl hown1 (xa.add d) q (bc - d) (part.map (Value.int .u8)) rfl hrow (one_ints _ _) ?_ ?_ ?_ ?_)
        · omega
        · unfold maxLen; omega
        · exact hK1.size
        · intro v' w2 hown2 hkp hblk
          have hk12 : Keeps A.S w w2 := hK1.andThen hkp (fun i hi e => by have := (hown1.lt i e).1; omega)
          have HC2 : Hid (CaIs (A.own v') w2 n R.c) := by
            refine hC1.setX HPP.out.1 (hkp.mono fun k _ e => .inr e) (fun k hx => ?_)
            rcases hx with e | e
            · exact ⟨Nat.lt_of_lt_of_le (hC1.away.2 k (.inl e)).1 hkp.size, .inl (.inl e)⟩
            · refine ⟨(hown2.lt k e).2, ?_⟩
              rcases hblk with e2 | e2
              · exact .inl (.inr (by rw [← e2]; exact e))
              · rw [e2] at e; cases e; exact .inr (Nat.le_refl _)
          have HW2 : Hid (∀ z ∈ out ++ part, (Lit.int .u8 z).wf = true) := fun z hz => by
            rcases List.mem_append.1 hz with e | e
            · exact hwf z e
            · exact hpw z e
          have HO2 : Hid (w2.ownsRow w.heap.size 5 1 v' (out ++ part).length ((out ++ part).map (Value.int .u8))) := by
            rw [List.length_append, HPL.out, List.map_append]
            exact hown2
          have HLL : Hid ((out ++ part).length + (m - q) ≤ 512) := by
            show _ ≤ 512
            rw [List.length_append, HPL.out]; omega
          clear hown1 hown2 hkp hblk hrow hnil hC1 hC'
          go_wp2_with fail
          go_roundw
          case rel => exact ⟨j, R.c, a + q, m - q, out ++ part, by omega, by omega, by omega, by go_num, by go_num, HO2.out, HLL.out, HE.out, HC2.out, HPP.out.1, hl.mono (by omega), HW2.out, hk12⟩
          case measure => simp [intOf]; omega
      · have hst := HST.out
        rw [if_pos he] at hst
        have heb : (R.e == 0) = false := by simpa using he
        rw [hst] at hE
        have HE := Lib.hid hE.out
        clear hE hst
        go_wp2_with fail
        go_ret2
        rw [HE.out]
        exact ⟨none, 0, rfl, Nat.le_refl _, hC1.noOwn, Ints.nil _ _ _, fun x hx => (by cases hx), hK'.trans hk1⟩
end Go.Proofs.Ytbboljmmpbchgaa

/- The walk of cache's page. -/
import Derived.Test.YtbboljmmpbchgaaCpl
import Derived.Test.YtbboljmmpbchgaaSlp
import Derived.StillTailTactics
namespace Go.Proofs.Ytbboljmmpbchgaa
open Go Go.RowKit Go.Calli Go.Dskp Go.Maps
set_option linter.unusedVariables false
set_option linter.unusedSimpArgs false
attribute [local irreducible] wpStill wpAnyH wpAnyS wpList Code.wp
def PgPost (A : Ad) (n : Nat) (R : PR) (w : World) (e : Ending) (w' : World) : Prop := ∃ ro rc, e = .returned (.tuple #[.slice ro R.b.length rc, .int .i64 R.e]) ∧ R.b.length ≤ rc ∧ CaIs A w' n R.c ∧ Ints .u8 w' ro R.b.length R.b ∧ (∀ a, ro = some a → ¬ A.S a.block) ∧ Keeps A.S w w'
def Row8 (w : World) (cb : Nat) (x0 x1 x2 x3 x4 x5 x6 x7 : Value) : Prop := w.heap[cb]? = some (.cells #[x0, x1, x2, x3, x4, x5, x6, x7] 47 (0, 0))
/-- A store to the cache's own block. -/
theorem own_put {w : World} {A : Ad} {x0 x1 x2 x3 x4 x5 x6 x7 y0 y1 y2 y3 y4 y5 y6 y7 : Value} (hr : Row8 w A.cb x0 x1 x2 x3 x4 x5 x6 x7) (o : Nat) (v : Value) (hc : (#[x0, x1, x2, x3, x4, x5, x6, x7]).setIfInBounds o v = #[y0, y1, y2, y3, y4, y5, y6, y7]) :
    Row8 (w.setCell ⟨A.cb, o, none⟩ v) A.cb y0 y1 y2 y3 y4 y5 y6 y7 ∧ Keeps (fun k => k = A.cb) w (w.setCell ⟨A.cb, o, none⟩ v) := by
  refine ⟨?_, (Keeps.refl (fun k => k = A.cb) w).setCell (p := ⟨A.cb, o, none⟩) (.inr rfl) _⟩
  unfold Row8
  rw [heap_setCell_same _ _ _ _ _ _ hr, hc]
set_option maxHeartbeats 2000000 in
theorem page_hit (A : Ad) (n : Nat) (hn1 : n ≤ 1024) (c : Ca) (k : Nat) (hk : k ≤ 100000) (hL : CLim k c) (p : Int) (i : Nat) (hi : i < n) (hf : (c.ss.getD i q0).f = true) (hfi : findP c.ss p n 0 = i) (w : World) (h : CaIs A w n c) : Calls Try.prog 23 #[.pointer (some ⟨A.cb, 0, none⟩), .int .i64 p] w (PgPost A n ⟨0, (c.ss.getD i q0).bs, hitC c i⟩ w) := by
  obtain ⟨ms, hS, hM⟩ := h.slots
  have hF := find_any A.cb A.sb n ms p _ _ _ _ _ _ _ hn1 w h.row hS
  unfold FindPost at hF
  rw [find_rel hM p n 0 (by rw [h.len]; omega), hfi] at hF
  have HH := Lib.hid h
  have hd := h.dist.1
  have hh0 := hL.h0
  have hh1 := hL.h1
  clear hfi h hS hM hL
  go_enter Try.func23, Try.ntmps23
  go_upto_region 3 with (go_at_call 26; refine hF.mono ?_; clear hF; rintro e w1 ⟨rfl, hb1⟩)
  have h1 := HH.out.keep0 hb1
  have hr1 : Row8 w1 A.cb _ _ _ _ _ _ _ _ := h1.row
  obtain ⟨c0, c1, c2, c3, c4, c5, c6, c7⟩ := eight_cells hr1
  have cf := frozen_of_row _ _ 0 _ _ hr1
  have hw0 : IntKind.i64.wrap (c.h + 1) = c.h + 1 := IntWalk.i64_in _ (by omega)
  obtain ⟨hr2, hk2⟩ := own_put hr1 0 (.int .i64 (c.h + 1)) rfl
  go_upto_region 4 with fail
  obtain ⟨ms, hS1, hM1⟩ := h1.slots
  have hS2 := hS1.kept hk2 (fun e => hd e.symm)
  clear c0 c1 c2 c3 c4 c5 c6 c7 cf
  generalize w1.setCell ⟨A.cb, 0, none⟩ (.int .i64 (c.h + 1)) = W2 at *
  obtain ⟨c0, c1, c2, c3, c4, c5, c6, c7⟩ := eight_cells hr2
  obtain ⟨s0, s1, s2, s3⟩ := hS2.at_ i hi
  have sf := frozen_of_row _ _ (i * 4 + 1) _ _ hS2.2
  have hS3 := hS2.setu i hi true
  have hk3 : Keeps (fun k => k = A.sb) W2 (W2.setCell ⟨A.sb, i * 4 + 1, none⟩ (.bool true)) := (Keeps.refl (fun k => k = A.sb) W2).setCell (p := ⟨A.sb, i * 4 + 1, none⟩) (.inr rfl) _
  go_upto_region 5 with fail
  have hr3 : Row8 (W2.setCell ⟨A.sb, i * 4 + 1, none⟩ (.bool true)) A.cb _ _ _ _ _ _ _ _ := hk3.heap hr2 (fun e => hd e)
  clear c0 c1 c2 c3 c4 c5 c6 c7 s0 s1 s2 s3 sf
  generalize W2.setCell ⟨A.sb, i * 4 + 1, none⟩ (.bool true) = W3 at *
  obtain ⟨c0, c1, c2, c3, c4, c5, c6, c7⟩ := eight_cells hr3
  obtain ⟨s0, s1, s2, s3⟩ := hS3.at_ i hi
  have hml : i < ms.length := by rw [hS2.1]; exact hi
  have e3 : (ms.set i { ms.getD i Slot.none with u := true }).getD i Slot.none = { ms.getD i Slot.none with u := true } := by simp [List.getD, hml]
  rw [e3] at s0 s1 s2 s3
  have hsi := hM1.is i (by rw [h1.len]; exact hi)
  obtain ⟨b1, b2, b4, b55⟩ := hsi.bs hf
  have b5 : ∀ a, (ms.getD i Slot.none).bo = some a → ¬ A.S a.block := fun a ha e => b55 a ha (.inl e)
  have hkk : Keeps A.S w1 W3 := (hk2.mono fun k _ h => .inl h).trans (hk3.mono fun k _ h => .inr (.inl h))
  have HFIN : Hid (CaIs A W3 n (hitC c i)) := by
    obtain ⟨m, hm1, hm2⟩ := h1.dsk
    obtain ⟨d1, d2, d3, d4, d5, d6⟩ := h1.dist
    refine ⟨hr3, ⟨_, hS3, (hM1.kept hkk).set i ⟨hsi.p, rfl, hsi.f, fun hf => ?_⟩⟩, ⟨m, hm1, (hm2.kept hk2 d2 d3 (fun a ha => (d6 a ha).1)).kept hk3 d4 d5 (fun a ha => (d6 a ha).2)⟩, by show (c.ss.set i _).length = n; rw [List.length_set]; exact h1.len, h1.hand, h1.dist, h1.away.mono hkk.size⟩
    obtain ⟨a1, a2, a4, a5⟩ := hsi.bs hf
    exact ⟨a1, a2, a4.kept hkk (fun a ha e => a5 a ha (.inl e)), a5⟩
  have HB4 := Lib.hid (b4.kept hkk b5)
  have HKK := Lib.hid ((Keeps.ofBelow (S := A.S) hb1 (Nat.le_refl _)).trans hkk)
  clear hS3 hr3 hS2 hr2 hS1 hr1 h1 hM1 hsi hk2 hk3 hkk hf b4 b55 e3
  generalize (c.ss.getD i q0).bs = BS at *
  generalize (ms.getD i Slot.none).bo = bo at *
  generalize (ms.getD i Slot.none).bn = bn at *
  generalize (ms.getD i Slot.none).bc = bc at *
  subst b1
  go_wp2_with fail
  go_ret2
  exact ⟨bo, bc, rfl, b2, HFIN.out, HB4.out, b5, HKK.out⟩
set_option maxHeartbeats 2000000 in
theorem page_miss (A : Ad) (n : Nat) (hn1 : n ≤ 1024) (c : Ca) (k : Nat) (hk : k ≤ 100000) (hL : CLim k c) (p : Int) (hwp : (Lit.int .i64 p).wf = true) (hfi : findP c.ss p n 0 = -1) (R : TR) (hR : tryD p (c.retry.toNat + 1) c.d 8 = R) (w : World) (h : CaIs A w n c) : Calls Try.prog 23 #[.pointer (some ⟨A.cb, 0, none⟩), .int .i64 p] w (PgPost A n (if R.e = 0 then ⟨0, R.b, tookC c p R (vicP n (cntP c.ss) c.ss c.hand)⟩ else ⟨R.e, [], lostC c R⟩) w) := by
  obtain ⟨ms, hS, hM⟩ := h.slots
  have hF := find_any A.cb A.sb n ms p _ _ _ _ _ _ _ hn1 w h.row hS
  unfold FindPost at hF
  rw [find_rel hM p n 0 (by rw [h.len]; omega), hfi] at hF
  have HH := Lib.hid h
  have HLI := Lib.hid hL
  obtain ⟨d1, d2, d3, d4, d5, d6⟩ := h.dist
  have hm0 := hL.m0
  have hm1 := hL.m1
  have hl0 := hL.l0
  have hl1 := hL.l1
  have HRR := Lib.hid hR
  clear hfi h hS hM hL hR
  go_enter Try.func23, Try.ntmps23
  go_upto_region 6 with (go_at_call 26; refine hF.mono ?_; clear hF; rintro e w1 ⟨rfl, hb1⟩)
  have h1 := HH.out.keep0 hb1
  have hr1 : Row8 w1 A.cb _ _ _ _ _ _ _ _ := h1.row
  obtain ⟨c0, c1, c2, c3, c4, c5, c6, c7⟩ := eight_cells hr1
  have cf := frozen_of_row _ _ 1 _ _ hr1
  have hw0 : IntKind.i64.wrap (c.m + 1) = c.m + 1 := IntWalk.i64_in _ (by omega)
  obtain ⟨hr2, hk2⟩ := own_put hr1 1 (.int .i64 (c.m + 1)) rfl
  go_upto_region 7 with fail
  obtain ⟨ms, hS1, hM1⟩ := h1.slots
  obtain ⟨m, hm, hD1⟩ := h1.dsk
  have hS2 := hS1.kept hk2 (fun e => d1 e.symm)
  have hD2 := hD1.kept hk2 d2 d3 (fun a ha => (d6 a ha).1)
  have hM2 := hM1.kept (hk2.mono fun k _ h => .inl h)
  have hmx := HLI.out.mx
  have hkw : Keeps A.S w1 (w1.setCell ⟨A.cb, 1, none⟩ (.int .i64 (c.m + 1))) := hk2.mono fun k _ h => .inl h
  have hlen := h1.len
  have hhand := h1.hand
  clear c0 c1 c2 c3 c4 c5 c6 c7 cf hr1 hS1 hD1 hM1 h1 hk2
  generalize w1.setCell ⟨A.cb, 1, none⟩ (.int .i64 (c.m + 1)) = W2 at *
  have hT := try_any A.cb _ _ _ _ _ A.b A.mb A.ib A.kap m c.retry c.t c.d p ⟨HLI.out.r0, HLI.out.r1⟩ ⟨HLI.out.t0, by have := HLI.out.t1; omega⟩ HLI.out.ok (by omega) (by have := HLI.out.r; omega) hwp ⟨d2, d3, fun a ha => (d6 a ha).1⟩ W2 hr2 hD2
  rw [HRR.out] at hT
  have hw2 := hkw.size
  have hAin := HH.out.inW
  have hXin := HH.out.away
  have hbs := hb1.size
  go_upto_region 8 with (go_at_call 32; refine hT.mono ?_; clear hT; rintro e w3 ⟨ro, rc, rfl, hrc, hr3, ⟨m3, hm3, hD3⟩, hI3, hnew, hk3⟩)
  unfold TRow at hr3
  have hS3 := hS2.kept hk3 (fun e => by rcases e with e | e | e <;> omega)
  have hk3' : Keeps A.S W2 w3 := hk3.mono fun k _ h => by
    rcases h with h | h | h
    · exact .inl h
    · exact .inr (.inr (.inl h))
    · exact .inr (.inr (.inr h))
  have hM3 := hM2.kept hk3'
  have hkw3 : Keeps A.S w1 w3 := hkw.trans hk3'
  have hro : ∀ a, ro = some a → ¬ A.S a.block := fun a ha hS => by
    have := hnew a ha
    have := hAin _ hS
    omega
  have hroT : ∀ a, ro = some a → ¬ A.T a.block := fun a ha hT => by
    rcases hT with hS | hx
    · exact hro a ha hS
    · have := hnew a ha
      have := (hXin.2 _ hx).1
      omega
  clear hr2 hD2 hS2 hM2 hk3 hk3' hkw hnew
  by_cases he : R.e = 0
  · rw [if_pos he]
    have hc2 : CRow w3 A.cb A.sb n (.int .i64 c.h) (.int .i64 (c.m + 1)) (.int .i64 (c.t + R.n)) (.int .i64 c.l) (.pointer (some ⟨A.b, 0, none⟩)) (.int .i64 c.retry) c.hand := hr3
    have hV := vic_any A.cb A.sb n ms c.hand _ _ _ _ _ _ hn1 hhand d1 w3.drew hc2 hS3
    rw [cnt_rel hM3] at hV
    have hvr := vic_rel (A := A) (w := w3) (by omega) (cntP c.ss) hM3 hlen c.hand hhand
    generalize vicP n (cntP c.ss) c.ss c.hand = V at *
    generalize vic n (cntP c.ss) ms c.hand = U at *
    obtain ⟨i, us, g⟩ := U
    obtain ⟨u1, u2, u3, u4, u5, u6⟩ := hvr
    simp only at u1 u2 u3
    have hi : i < n := by omega
    have HV := Lib.hid hV
    have HU1 := Lib.hid u1
    have HU2 := Lib.hid u2
    have hg5 : w3.cell? ⟨A.cb, 5, none⟩ = some (.slice (some ⟨A.sb, 0, none⟩) n n) := (eight_cells hr3).2.2.2.2.2.1
    clear hV u1 u2
    go_upto_region 11 with fail
    go_region_with (first | (go_at_call 33; refine HV.out.mono ?_; rintro e w5 ⟨rfl, hc5, hS5, hk5⟩; have g5 : w5.cell? ⟨A.cb, 5, none⟩ = some (.slice (some ⟨A.sb, 0, none⟩) n n) := (eight_cells hc5).2.2.2.2.2.1; obtain ⟨s0, s1, s2, s3⟩ := hS5.at_ i hi; have f0 := frozen_of_row _ _ (i * 4) _ _ hS5.2; have f1 := frozen_of_row _ _ (i * 4 + 1) _ _ hS5.2; have f2 := frozen_of_row _ _ (i * 4 + 2) _ _ hS5.2; have f3 := frozen_of_row _ _ (i * 4 + 3) _ _ hS5.2))
    all_goals
      replace hk5 : Keeps (fun k => k = A.cb ∨ k = A.sb) w3 w5 := ((Keeps.refl _ w3).drew).trans hk5
      have hk35 : Keeps A.S w3 w5 := hk5.mono fun k _ h => by
        rcases h with h | h
        · exact .inl h
        · exact .inr (.inl h)
      have hS6 : Slots ((((w5.setCell ⟨A.sb, i * 4, none⟩ (.int .i64 p)).setCell ⟨A.sb, i * 4 + 1, none⟩ (.bool true)).setCell ⟨A.sb, i * 4 + 2, none⟩ (.bool true)).setCell ⟨A.sb, i * 4 + 3, none⟩ (.slice ro R.b.length rc)) A.sb n (us.set i ⟨p, true, true, ro, R.b.length, rc⟩) := hS5.put i hi ⟨p, true, true, ro, R.b.length, rc⟩
      have hk6 : Keeps (fun k => k = A.sb) w5 ((((w5.setCell ⟨A.sb, i * 4, none⟩ (.int .i64 p)).setCell ⟨A.sb, i * 4 + 1, none⟩ (.bool true)).setCell ⟨A.sb, i * 4 + 2, none⟩ (.bool true)).setCell ⟨A.sb, i * 4 + 3, none⟩ (.slice ro R.b.length rc)) := ((((Keeps.refl (fun k => k = A.sb) w5).setCell (p := ⟨A.sb, i * 4, none⟩) (.inr rfl) _).setCell (p := ⟨A.sb, i * 4 + 1, none⟩) (.inr rfl) _).setCell (p := ⟨A.sb, i * 4 + 2, none⟩) (.inr rfl) _).setCell (p := ⟨A.sb, i * 4 + 3, none⟩) (.inr rfl) _
      have hc6 := hk6.heap hc5 d1
      have hk56 : Keeps A.S w5 _ := hk6.mono fun k _ h => .inr (.inl h)
      have HS6 := Lib.hid hS6
      have HC6 := Lib.hid hc6
      have HK6 := Lib.hid hk6
      have HK56 := Lib.hid hk56
      clear hS6 hc6 hk6 hk56 s0 s1 s2 s3 f0 f1 f2 f3
      generalize ((((w5.setCell ⟨A.sb, i * 4, none⟩ (.int .i64 p)).setCell ⟨A.sb, i * 4 + 1, none⟩ (.bool true)).setCell ⟨A.sb, i * 4 + 2, none⟩ (.bool true)).setCell ⟨A.sb, i * 4 + 3, none⟩ (.slice ro R.b.length rc)) = W6 at *
      go_wp2_with fail
      go_ret2
      have hK36 : Keeps A.S w3 W6 := hk35.trans HK56.out
      have hI6 := hI3.kept hK36 hro
      have hD6 : Dsk W6 A.b A.mb A.ib A.kap m3 R.d := (hD3.kept hk5 (fun e => e.elim d2 d4) (fun e => e.elim d3 d5) (fun a ha e => e.elim (d6 a ha).1 (d6 a ha).2)).kept HK6.out d4 d5 (fun a ha => (d6 a ha).2)
      have hMU := u3.kept hK36
      refine ⟨ro, rc, rfl, hrc, ⟨?_, ⟨_, HS6.out, ?_⟩, ⟨m3, by show m3 ≤ c.mx + 9; omega, hD6⟩, ?_, u5, ⟨d1, d2, d3, d4, d5, d6⟩, hXin.mono (by have := hkw3.size; have := hK36.size; omega)⟩, hI6, hro, (Keeps.ofBelow (S := A.S) hb1 (Nat.le_refl _)).trans (hkw3.trans hK36)⟩
      · have := HC6.out
        unfold CRow at this
        rw [HU2.out] at this
        exact this
      · have hset := hMU.set i (s := ⟨p, true, true, ro, R.b.length, rc⟩) (q := ⟨p, true, true, R.b⟩) ⟨rfl, rfl, rfl, fun _ => ⟨rfl, hrc, hI6, hroT⟩⟩
        show SlotsAre A W6 _ (V.2.1.set V.1 _)
        rw [← HU1.out]
        exact hset
      · show (V.2.1.set V.1 _).length = n
        rw [List.length_set]
        exact u6
  · rw [if_neg he]
    have heb : (R.e == 0) = false := by simpa using he
    go_upto_region 9 with fail
    obtain ⟨c0, c1, c2, c3, c4, c5, c6, c7⟩ := eight_cells hr3
    have cf := frozen_of_row _ _ 3 _ _ hr3
    have hw3 : IntKind.i64.wrap (c.l + 1) = c.l + 1 := IntWalk.i64_in _ (by omega)
    obtain ⟨hr4, hk4⟩ := own_put (A := A) hr3 3 (.int .i64 (c.l + 1)) rfl
    have hS4 := hS3.kept hk4 (fun e => d1 e.symm)
    have hD4 := hD3.kept hk4 d2 d3 (fun a ha => (d6 a ha).1)
    have hM4 := hM3.kept (hk4.mono fun k _ h => .inl h)
    have hK4 := (Keeps.ofBelow (S := A.S) hb1 (Nat.le_refl _)).trans (hkw3.trans (hk4.mono fun k _ h => .inl h))
    clear hS3 hD3 hM3 hkw3 hk4
    go_wp2_with fail
    go_ret2
    exact ⟨none, 0, rfl, Nat.le_refl _, ⟨hr4, ⟨ms, hS4, hM4⟩, ⟨m3, by show m3 ≤ c.mx + 9; omega, hD4⟩, hlen, hhand, ⟨d1, d2, d3, d4, d5, d6⟩, hXin.mono hK4.size⟩, Ints.nil _ _ _, fun a ha => (by cases ha), hK4⟩
end Go.Proofs.Ytbboljmmpbchgaa

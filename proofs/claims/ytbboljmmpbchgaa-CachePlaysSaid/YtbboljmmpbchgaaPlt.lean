/- The walk of the law's take: a hit. -/
import Derived.Test.YtbboljmmpbchgaaPlf
namespace Go.Proofs.Ytbboljmmpbchgaa
open Go Go.RowKit Go.Calli Go.Dskp Go.Maps
set_option linter.unusedVariables false
set_option linter.unusedSimpArgs false
attribute [local irreducible] wpStill wpAnyH wpAnyS wpList Code.wp
theorem map_set_same {α : Type} (f : PS → α) (ss : List PS) (i : Nat) (q : PS) (h : f q = f (ss.getD i q0)) : (ss.set i q).map f = ss.map f := by
  apply List.ext_getElem?
  intro j
  rw [List.getElem?_map, List.getElem?_map, List.getElem?_set]
  by_cases e : i = j
  · subst e
    by_cases hl : i < ss.length
    · simp [hl, h, List.getD]
    · simp [hl]
  · simp [e]
def PkPost (B : Bd) (n : Nat) (R : PR) (w : World) (e : Ending) (w' : World) : Prop := ∃ ro rc ds, e = .returned (.tuple #[.slice ro R.b.length rc, .int .i64 R.e]) ∧ R.b.length ≤ rc ∧ PlSt B w' n R.c ds ∧ Ints .u8 w' ro R.b.length R.b ∧ (∀ a, ro = some a → ¬ B.T a.block) ∧ Keeps B.S w w'
set_option maxRecDepth 100000 in
set_option maxHeartbeats 2000000 in
theorem take_hit {B : Bd} {w : World} {n : Nat} {ds : List Dv} (hn : n ≤ 1024) (c : Ca) (k : Nat) (hk : k ≤ 100000) (hL : CLim k c) (p : Int) (hp : 0 ≤ p) (i : Nat) (hi : i < n) (hf : (c.ss.getD i q0).f = true) (hfi : findP c.ss p n 0 = i) (H : PlSt B w n c ds) : Calls Try.prog 34 #[.pointer (some ⟨B.pb, 0, none⟩), .int .i64 p] w (PkPost B n ⟨0, (c.ss.getD i q0).bs, hitC c i⟩ w) := by
  have hF := pfind_any hn p H.m
  have hl := H.len
  rw [find_pg c.ss p hp n 0 (by omega), hfi] at hF
  have hh0 := hL.h0
  have hh1 := hL.h1
  have hw0 : IntKind.i64.wrap (c.h + 1) = c.h + 1 := IntWalk.i64_in _ (by omega)
  have H1 := H.m.own (hd' := c.hand) (re' := c.retry) (h' := c.h + 1) (m' := c.m) (t' := c.t) (l' := c.l) 6 (.int .i64 (c.h + 1)) rfl
  have H2 := H1.setMk i true
  have hkk : Keeps B.S w ((w.setCell ⟨B.pb, 6, none⟩ (.int .i64 (c.h + 1))).setCell ⟨B.kb, i, none⟩ (.bool true)) := ((keep_cell w B.pb 6 _).mono fun k _ h => .inl h).trans ((keep_cell _ B.kb i _).mono fun k _ h => .inr (.inr (.inl h)))
  obtain ⟨a1, a2, a3, a4⟩ := H.dat i (by omega) hf
  have HFIN : Hid (PlSt B _ n (hitC c i) ds) := ⟨by
    have e1 : (hitC c i).ss.map pgOf = c.ss.map pgOf := map_set_same pgOf _ _ _ rfl
    have e2 : (hitC c i).ss.map PS.u = (c.ss.map PS.u).set i true := List.map_set
    show PlM B _ n ((hitC c i).ss.map pgOf) ((hitC c i).ss.map PS.u) c.hand c.retry (c.h + 1) c.m c.t c.l ds c.d c.mx
    rw [e1, e2]
    exact H2, (H.dat.kept hkk).qset i (fun _ => hf) (fun _ => rfl), by show (c.ss.set i _).length = n; rw [List.length_set]; exact H.len, H.hand⟩
  have HIN := Lib.hid (a3.kept hkk (fun a ha e => a4 a ha (.inl e)))
  have hnS : ∀ a, (ds.getD i dv0).a = some a → ¬ B.T a.block := a4
  have HK := Lib.hid hkk
  obtain ⟨c0, c1, c2, c3, c4, c5, c6, c7, c8, c9⟩ := H.m.cells
  have cf := frozen_of_row _ _ 6 _ _ H.m.row
  obtain ⟨d0, d1, d2, d3, d4, d5, d6, d7, d8, d9⟩ := H1.cells
  have k0 := H1.mkAt i hi
  have kf := frozen_of_row _ _ i _ _ H1.mkc
  obtain ⟨e0, e1, e2, e3, e4, e5, e6, e7, e8, e9⟩ := H2.cells
  have g0 := H2.dtAt i hi
  clear H H1 H2 hkk hL a3 a4 hf hfi
  generalize (c.ss.getD i q0).bs = BS at *
  generalize ds.getD i dv0 = D at *
  obtain ⟨Da, Dn, Dc⟩ := D
  simp only [Dv.v] at *
  subst a1
  go_enter Try.func34, Try.ntmps34
  go_upto_region 4 with (go_at_call 35; refine hF.mono ?_; rintro e w' ⟨rfl, rfl⟩)
  clear c0 c1 c2 c3 c4 c5 c6 c7 c8 c9 cf
  generalize w.setCell ⟨B.pb, 6, none⟩ (.int .i64 (c.h + 1)) = W1 at *
  go_upto_region 5 with fail
  clear d0 d1 d2 d3 d4 d5 d6 d7 d8 d9 k0 kf
  generalize W1.setCell ⟨B.kb, i, none⟩ (.bool true) = W2 at *
  go_wp2_with fail
  go_ret2
  exact ⟨Da, Dc, ds, rfl, a2, HFIN.out, HIN.out, hnS, HK.out⟩
end Go.Proofs.Ytbboljmmpbchgaa

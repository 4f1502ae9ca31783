/- The walks of the law's get, span. -/
import Derived.Test.YtbboljmmpbchgaaPlk
namespace Go.Proofs.Ytbboljmmpbchgaa
open Go Go.RowKit Go.Calli Go.Dskp Go.Maps
set_option linter.unusedVariables false
set_option linter.unusedSimpArgs false
attribute [local irreducible] wpStill wpAnyH wpAnyS wpList Code.wp
theorem take_any {B : Bd} {w : World} {n : Nat} {ds : List Dv} (hn : n ≤ 1024) (c : Ca) (hC : COk c) (k : Nat) (hk : k ≤ 100000) (hL : CLim k c) (p : Int) (hp : 0 ≤ p) (hwp : (Lit.int .i64 p).wf = true) (H : PlSt B w n c ds) : Calls Try.prog 34 #[.pointer (some ⟨B.pb, 0, none⟩), .int .i64 p] w (PkPost B n (pageC c p) w) := by
  have hl := H.len
  rcases findP_bd c.ss p c.ss.length 0 with e | ⟨e1, e2, e3, e4⟩
  · have hm := take_miss hn c hC k hk hL p hp hwp (by rw [← hl]; exact e) _ rfl H
    unfold pageC
    rw [if_neg (by omega), hl]
    exact hm
  · have hm := take_hit hn c k hk hL p hp (findP c.ss p c.ss.length 0).toNat (by omega) e3 (by rw [← hl]; omega) H
    unfold pageC
    rw [if_pos (by omega)]
    exact hm
def PsPost (B : Bd) (n : Nat) (R : PR) (w : World) (e : Ending) (w' : World) : Prop := ∃ ro rc ds, e = .returned (.tuple #[.slice ro R.b.length rc, .int .i64 R.e]) ∧ PlSt B w' n R.c ds ∧ Ints .u8 w' ro R.b.length R.b ∧ Keeps B.S w w'
theorem pget_any {B : Bd} {w : World} {n : Nat} {ds : List Dv} (hn : n ≤ 1024) (c : Ca) (hC : COk c) (k : Nat) (hk : k ≤ 100000) (hL : CLim k c) (p : Int) (hwp : (Lit.int .i64 p).wf = true) (H : PlSt B w n c ds) : Calls Try.prog 28 #[.pointer (some ⟨B.pb, 0, none⟩), .int .i64 p] w (PsPost B n (getC c p) w) := by
  obtain ⟨m, -, hD⟩ := H.m.dsk
  have hP := pages_any B.qb B.qm B.qi B.qk m c.d hL.ok w hD
  obtain ⟨c0, c1, c2, c3, c4, c5, c6, c7, c8, c9⟩ := H.m.cells
  have hpb : (c.d.pages : Int) ≤ 65536 := by have := hL.ok.1; unfold Dk.pages; omega
  unfold getC
  by_cases ho : c.d.out p
  · rw [if_pos ho]
    have ho2 : p < 0 ∨ (0 ≤ p ∧ (c.d.pages : Int) ≤ p) := by unfold Dk.out at ho; omega
    have HH := Lib.hid H
    clear hD ho H
    have HF : Hid (PsPost B n ⟨5, [], c⟩ w (.returned (.tuple #[.slice none 0 0, .int .i64 5])) w) := ⟨none, 0, ds, rfl, HH.out, Ints.nil _ _ _, Keeps.refl _ _⟩
    generalize c.d.pages = N at *
    rcases ho2 with h1 | ⟨h1, h2⟩
    all_goals
      go_enter Try.func28, Try.ntmps28
      go_wp2_with (go_at_call 27; refine hP.mono ?_; rintro e w' ⟨rfl, rfl⟩)
      go_ret2
      exact HF.out
  · rw [if_neg ho]
    have h1 : 0 ≤ p := by unfold Dk.out at ho; omega
    have h2 : p < c.d.pages := by unfold Dk.out at ho; omega
    have hT := take_any hn c hC k hk hL p h1 hwp H
    clear hD ho H
    generalize pageC c p = R at *
    generalize c.d.pages = N at *
    go_enter Try.func28, Try.ntmps28
    go_wp2_with (first | (go_at_call 27; refine hP.mono ?_; rintro e w' ⟨rfl, rfl⟩) | (go_at_call 34; refine hT.mono ?_; rintro e w' ⟨ro, rc, ds', rfl, hrc, hS, hI, hnT, hK⟩))
    go_ret2
    exact ⟨ro, rc, ds', rfl, hS, hI, hK⟩
theorem PlSt.setX {B : Bd} {w w' : World} {n : Nat} {ds : List Dv} {c : Ca} (H : PlSt B w n c ds) (hC : COk c) (hk : Keeps B.x w w') {x : Nat → Prop} (hx : ∀ k, x k → k < w'.heap.size ∧ (B.x k ∨ w.heap.size ≤ k)) : PlSt { B with x := x } w' n c ds := by
  have H' := H.keptX hk
  refine ⟨⟨H'.m.row, H'.m.pgc, H'.m.mkc, H'.m.dtc, H'.m.dsk, H'.m.lp, H'.m.lm, H'.m.ld, H'.m.ne, ⟨H'.m.away.1, fun k hxk => ⟨(hx k hxk).1, ?_, ?_⟩⟩⟩, fun i hi hf => ?_, H.len, H.hand⟩
  · rcases (hx k hxk).2 with e | e
    · exact (H.m.away.2 k e).2.1
    · intro hS
      have := H.m.inW k hS
      omega
  · intro a ha
    rcases (hx k hxk).2 with e | e
    · exact (H.m.away.2 k e).2.2 a ha
    · have := (H.m.away.1 a ha).1
      omega
  · obtain ⟨a1, a2, a3, a4⟩ := H'.dat i hi hf
    obtain ⟨b1, b2, b3, b4⟩ := H.dat i hi hf
    refine ⟨a1, a2, a3, fun a ha hT => ?_⟩
    rcases hT with hT | hT
    · exact a4 a ha (.inl hT)
    · rcases (hx _ hT).2 with e | e
      · exact a4 a ha (.inr e)
      · have := b3.under (by rw [b1, ((hC i hi) hf).1]; decide) a ha
        omega
def Bd.own (B : Bd) (v : Value) : Bd := { B with x := fun k => B.x k ∨ v.ownBlock = some k }
theorem PlSt.noOwn {B : Bd} {v : Value} {w : World} {n : Nat} {c : Ca} {ds : List Dv} (h : PlSt (B.own v) w n c ds) : PlSt B w n c ds :=
  ⟨⟨h.m.row, h.m.pgc, h.m.mkc, h.m.dtc, h.m.dsk, h.m.lp, h.m.lm, h.m.ld, h.m.ne, ⟨h.m.away.1, fun k e => h.m.away.2 k (.inl e)⟩⟩, fun i hi hf => by
    obtain ⟨a1, a2, a3, a4⟩ := h.dat i hi hf
    exact ⟨a1, a2, a3, fun a ha hT => a4 a ha (hT.elim .inl (fun e => .inr (.inl e)))⟩, h.len, h.hand⟩
end Go.Proofs.Ytbboljmmpbchgaa

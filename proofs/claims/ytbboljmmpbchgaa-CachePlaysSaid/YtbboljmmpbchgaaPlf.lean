/- The walk of the law's find, evict. -/
import Derived.Test.YtbboljmmpbchgaaPlm
namespace Go.Proofs.Ytbboljmmpbchgaa
open Go Go.RowKit Go.Calli Go.Dskp Go.Maps
set_option linter.unusedVariables false
set_option linter.unusedSimpArgs false
attribute [local irreducible] wpStill wpAnyH wpAnyS wpList Code.wp
def findI (pg : List Int) (p : Int) : Nat → Nat → Int
  | 0, _ => -1
  | k + 1, i => if pg.getD i 0 = p then (i : Int) else findI pg p k (i + 1)
theorem find_pg (ss : List PS) (p : Int) (hp : 0 ≤ p) : ∀ k i, i + k ≤ ss.length → findI (ss.map pgOf) p k i = findP ss p k i := by
  intro k
  induction k with
  | zero => intro i _; rfl
  | succ k ih =>
    intro i hi
    simp only [findI, findP]
    rw [ih (i + 1) (by omega)]
    have e : (ss.map pgOf).getD i 0 = pgOf (ss.getD i q0) := by simp [List.getD, show i < ss.length by omega]
    rw [e]
    unfold pgOf
    cases hf : (ss.getD i q0).f with
    | true => simp
    | false =>
      simp
      intro h; omega
theorem findI_bd (pg : List Int) (p : Int) : ∀ k i, findI pg p k i = -1 ∨ ((i : Int) ≤ findI pg p k i ∧ findI pg p k i < i + k) := by
  intro k
  induction k with
  | zero => intro i; exact .inl rfl
  | succ k ih =>
    intro i
    simp only [findI]
    split
    · exact .inr ⟨Int.le_refl _, by omega⟩
    · rcases ih (i + 1) with h | ⟨h1, h2⟩
      · exact .inl h
      · exact .inr ⟨by omega, by omega⟩
theorem pfind_any {B : Bd} {w : World} {n : Nat} {pg : List Int} {mk : List Bool} {hd re h m t l : Int} {ds : List Dv} {d : Dk} {mx : Nat} (hn : n ≤ 1024) (p : Int) (H : PlM B w n pg mk hd re h m t l ds d mx) : Calls Try.prog 35 #[.pointer (some ⟨B.pb, 0, none⟩), .int .i64 p] w (Same (.int .i64 (findI pg p n 0)) w) := by
  obtain ⟨c0, c1, c2, c3, c4, c5, c6, c7, c8, c9⟩ := H.cells
  have hpg := fun i hi => H.pgAt i hi
  clear H
  go_enter Try.func35, Try.ntmps35
  go_wp2_with fail
  go_loopw [5] (fun v5 wx => ∃ i : Nat, i ≤ n ∧ v5 = .int .i64 i ∧ Hid (findI pg p n 0 = findI pg p (n - i) i) ∧ wx = w) (fun v5 _ => (n - (intOf v5).toNat))
  case atStart => exact ⟨0, Nat.zero_le _, rfl, rfl, rfl⟩
  case round =>
    obtain ⟨i, hi, rfl, hf, rfl⟩ := hrel
    by_cases hlt : i < n
    · have hx := hpg i hlt
      obtain ⟨j, hj⟩ : ∃ j, n - i = j + 1 := ⟨n - i - 1, by omega⟩
      have hstep : findI pg p (n - i) i = if pg.getD i 0 = p then (i : Int) else findI pg p (n - (i + 1)) (i + 1) := by
        rw [hj, show n - (i + 1) = j by omega]; rfl
      generalize pg.getD i 0 = X at *
      clear hpg
      by_cases hp : X = p
      · subst hp
        have HST := Lib.hid (hstep.trans (if_pos rfl))
        clear hstep
        go_wp2_with fail
        go_ret
        exact ⟨by rw [hf.out, HST.out] <;> rfl, rfl⟩
      · have HST := Lib.hid (hstep.trans (if_neg hp))
        have hpb : (X == p) = false := by simpa using hp
        clear hstep
        go_wp2_with fail
        go_roundw
        case rel => exact ⟨i + 1, by omega, by go_num, hf.out.trans HST.out, trivial⟩
        case measure => simp [intOf]; omega
    · obtain rfl : i = n := by omega
      have HE := Lib.hid (hf.out.trans (by rw [Nat.sub_self]; rfl : findI pg p (i - i) i = -1))
      go_wp2_with fail
      go_ret
      exact ⟨by rw [HE.out] <;> rfl, rfl⟩
theorem evB_neg {c : Ca} (hC : COk c) {p : Int} (hp : p < 0) : findP c.ss p c.ss.length 0 = -1 := by
  rcases findP_bd c.ss p c.ss.length 0 with e | ⟨e1, e2, e3, e4⟩
  · exact e
  · have := (hC _ (show (findP c.ss p c.ss.length 0).toNat < c.ss.length by omega) e3).2.1
    omega
def PePost (B : Bd) (n : Nat) (v : Bool) (c : Ca) (ds : List Dv) (w : World) (e : Ending) (w' : World) : Prop := e = .returned (.bool v) ∧ PlSt B w' n c ds ∧ Keeps B.S w w'
theorem pevict_any {B : Bd} {w : World} {n : Nat} {ds : List Dv} (hn : n ≤ 1024) (c : Ca) (hC : COk c) (p : Int) (H : PlSt B w n c ds) : Calls Try.prog 30 #[.pointer (some ⟨B.pb, 0, none⟩), .int .i64 p] w (PePost B n (evB c p) (evC c p) ds w) := by
  have hF := pfind_any hn p H.m
  have hl := H.len
  by_cases hp : p < 0
  · have e1 : evB c p = false := by unfold evB; rw [evB_neg hC hp]; rfl
    have e2 : evC c p = c := by unfold evC; rw [evB_neg hC hp]; rfl
    rw [e1, e2]
    have hb := findI_bd (c.ss.map pgOf) p n 0
    generalize findI (c.ss.map pgOf) p n 0 = I at *
    have HH := Lib.hid H
    clear H
    by_cases hI : I < 0
    · go_enter Try.func30, Try.ntmps30
      go_wp2_with (go_at_call 35; refine hF.mono ?_; rintro e w' ⟨rfl, rfl⟩)
      go_ret
      exact ⟨rfl, HH.out, Keeps.refl _ _⟩
    · go_enter Try.func30, Try.ntmps30
      go_wp2_with (go_at_call 35; refine hF.mono ?_; rintro e w' ⟨rfl, rfl⟩)
      go_ret
      exact ⟨rfl, HH.out, Keeps.refl _ _⟩
  · rw [find_pg c.ss p (by omega) n 0 (by omega)] at hF
    have eB : evB c p = decide (0 ≤ findP c.ss p n 0) := by unfold evB; rw [hl]
    have eC : evC c p = if 0 ≤ findP c.ss p n 0 then { c with ss := c.ss.set (findP c.ss p n 0).toNat q0 } else c := by unfold evC; rw [hl]
    have hb := findP_bd c.ss p n 0
    rw [eB, eC]
    clear eB eC
    generalize findP c.ss p n 0 = I at *
    have HH := Lib.hid H
    by_cases hI : 0 ≤ I
    · rw [if_pos hI, decide_eq_true hI]
      obtain ⟨j, rfl⟩ : ∃ j : Nat, I = j := ⟨I.toNat, by omega⟩
      have hj : j < n := by omega
      rw [Int.toNat_natCast]
      clear hb
      have H1 := H.m.setPg j (-1)
      have H2 := H1.setMk j false
      have hk : Keeps B.S w ((w.setCell ⟨B.gb, j, none⟩ (.int .i64 (-1))).setCell ⟨B.kb, j, none⟩ (.bool false)) := ((keep_cell w B.gb j _).mono fun k _ h => .inr (.inl h)).trans ((keep_cell _ B.kb j _).mono fun k _ h => .inr (.inr (.inl h)))
      have HFIN : Hid (PlSt B _ n { c with ss := c.ss.set j q0 } ds) := ⟨by
        show PlM B _ n ((c.ss.set j q0).map pgOf) ((c.ss.set j q0).map PS.u) c.hand c.retry c.h c.m c.t c.l ds c.d c.mx
        rw [List.map_set, List.map_set]
        exact H2, (H.dat.kept hk).qset j (fun h => by cases h) (fun h => by cases h), by rw [List.length_set]; exact H.len, H.hand⟩
      have HK := Lib.hid hk
      obtain ⟨c0, c1, c2, c3, c4, c5, c6, c7, c8, c9⟩ := H.m.cells
      obtain ⟨d0, d1, d2, d3, d4, d5, d6, d7, d8, d9⟩ := H1.cells
      have g0 := H.m.pgAt j hj
      have gf := frozen_of_row _ _ j _ _ H.m.pgc
      have k0 := H1.mkAt j hj
      have kf := frozen_of_row _ _ j _ _ H1.mkc
      clear H1 H2 hk H
      go_enter Try.func30, Try.ntmps30
      go_upto_region 5 with (go_at_call 35; refine hF.mono ?_; rintro e w' ⟨rfl, rfl⟩)
      generalize w.setCell ⟨B.gb, j, none⟩ (.int .i64 (-1)) = W1 at *
      go_wp2_with fail
      go_ret
      exact ⟨rfl, HFIN.out, HK.out⟩
    · obtain rfl : I = -1 := by omega
      rw [if_neg (by omega), decide_eq_false (by omega)]
      clear H
      go_enter Try.func30, Try.ntmps30
      go_wp2_with (go_at_call 35; refine hF.mono ?_; rintro e w' ⟨rfl, rfl⟩)
      go_ret
      exact ⟨rfl, HH.out, Keeps.refl _ _⟩
end Go.Proofs.Ytbboljmmpbchgaa

/- The walks of the reader's fail, byte, seven and number. -/
import Derived.Test.YtmhlmaimmbopfaaPlo
import Derived.StillTailTactics
import Derived.Deep.RegionWith
namespace Go.Proofs.Ytmhlmaimmbopfaa
open Go Go.RowKit Go.Calli
set_option linter.unusedVariables false
/-- A reader in memory. -/
def Rd (w : World) (b : Nat) (sl : Value) (p t s e : Int) : Prop := w.heap[b]? = some (.cells #[sl, .int .i64 p, .int .i64 t, .int .i64 s, .int .i64 e] 49 (0, 0))
theorem rd_cells {w : World} {b : Nat} {sl : Value} {p t s e : Int} (h : Rd w b sl p t s e) :
    w.cell? ⟨b, 0, none⟩ = some sl ∧ w.cell? ⟨b, 1, none⟩ = some (.int .i64 p) ∧ w.cell? ⟨b, 2, none⟩ = some (.int .i64 t) ∧ w.cell? ⟨b, 3, none⟩ = some (.int .i64 s) ∧ w.cell? ⟨b, 4, none⟩ = some (.int .i64 e) ∧ w.frozen? ⟨b, 1, none⟩ = false ∧ w.frozen? ⟨b, 2, none⟩ = false ∧ w.frozen? ⟨b, 3, none⟩ = false ∧ w.frozen? ⟨b, 4, none⟩ = false :=
  ⟨(cell_of_row _ _ _ _ _ _ h).trans rfl, (cell_of_row _ _ _ _ _ _ h).trans rfl, (cell_of_row _ _ _ _ _ _ h).trans rfl, (cell_of_row _ _ _ _ _ _ h).trans rfl, (cell_of_row _ _ _ _ _ _ h).trans rfl, frozen_of_row _ _ _ _ _ h, frozen_of_row _ _ _ _ _ h, frozen_of_row _ _ _ _ _ h, frozen_of_row _ _ _ _ _ h⟩
theorem Rd.pos {w : World} {b : Nat} {sl : Value} {p t s e : Int} (h : Rd w b sl p t s e) (p' : Int) : Rd (w.setCell ⟨b, 1, none⟩ (.int .i64 p')) b sl p' t s e := heap_setCell_same _ _ _ _ _ _ h
theorem Rd.time {w : World} {b : Nat} {sl : Value} {p t s e : Int} (h : Rd w b sl p t s e) (t' : Int) : Rd (w.setCell ⟨b, 2, none⟩ (.int .i64 t')) b sl p t' s e := heap_setCell_same _ _ _ _ _ _ h
theorem Rd.status {w : World} {b : Nat} {sl : Value} {p t s e : Int} (h : Rd w b sl p t s e) (s' : Int) : Rd (w.setCell ⟨b, 3, none⟩ (.int .i64 s')) b sl p t s' e := heap_setCell_same _ _ _ _ _ _ h
theorem Rd.bad {w : World} {b : Nat} {sl : Value} {p t s e : Int} (h : Rd w b sl p t s e) (e' : Int) : Rd (w.setCell ⟨b, 4, none⟩ (.int .i64 e')) b sl p t s e' := heap_setCell_same _ _ _ _ _ _ h
theorem Rd.keep0 {w w' : World} {b : Nat} {sl : Value} {p t s e : Int} (h : Rd w b sl p t s e) (hb : Below w.heap.size w w') : Rd w' b sl p t s e := (hb.block _ (lt_of_block h)).trans h
theorem Rd.kept {w w' : World} {b c : Nat} {sl : Value} {p t s e : Int} (h : Rd w b sl p t s e) (hk : Keeps (fun k => k = c) w w') (hn : b ≠ c) : Rd w' b sl p t s e := hk.heap h hn
def RdPost (b : Nat) (sl : Value) (v : Value) (p t s e : Int) (w : World) (E : Ending) (w' : World) : Prop := E = .returned v ∧ Rd w' b sl p t s e ∧ Keeps (fun k => k = b) w w'
def unit0 : Value := .tuple #[]
theorem fail_0 (b : Nat) (sl : Value) (p t s E : Int) (w : World) (h : Rd w b sl p t s 0) : Calls Try.prog 23 #[.pointer (some ⟨b, 0, none⟩), .int .i64 E] w (RdPost b sl (.tuple #[]) p t s E w) := by
  obtain ⟨c0, c1, c2, c3, c4, f1, f2, f3, f4⟩ := rd_cells h
  have H := Lib.hid h
  clear h
  go_enter Try.func23, Try.ntmps23
  go_wp2_with fail
  go_end0
  exact ⟨rfl, H.out.bad _, (Keeps.refl (fun k => k = b) w).setCell (p := ⟨b, 4, none⟩) (.inr rfl) _⟩
theorem fail_e (b : Nat) (sl : Value) (p t s e E : Int) (he : e ≠ 0) (w : World) (h : Rd w b sl p t s e) : Calls Try.prog 23 #[.pointer (some ⟨b, 0, none⟩), .int .i64 E] w (RdPost b sl (.tuple #[]) p t s e w) := by
  obtain ⟨c0, c1, c2, c3, c4, f1, f2, f3, f4⟩ := rd_cells h
  have H := Lib.hid h
  have hb : (e == 0) = false := by simpa using he
  clear h he
  go_enter Try.func23, Try.ntmps23
  go_wp2_with fail
  go_end0
  exact ⟨rfl, H.out, Keeps.refl _ _⟩
theorem byte_e (b : Nat) (sl : Value) (p t s e : Int) (he : e ≠ 0) (w : World) (h : Rd w b sl p t s e) : Calls Try.prog 24 #[.pointer (some ⟨b, 0, none⟩)] w (RdPost b sl (.int .i64 0) p t s e w) := by
  obtain ⟨c0, c1, c2, c3, c4, f1, f2, f3, f4⟩ := rd_cells h
  have H := Lib.hid h
  have hb : (e == 0) = false := by simpa using he
  clear h he
  go_enter Try.func24, Try.ntmps24
  go_wp2_with fail
  go_ret
  exact ⟨rfl, H.out, Keeps.refl _ _⟩
theorem byte_end (b : Nat) (ao : Option Addr) (n cap : Nat) (p : Nat) (hp : n ≤ p) (hn : p ≤ 1000000) (t s : Int) (w : World) (h : Rd w b (.slice ao n cap) p t s 0) : Calls Try.prog 24 #[.pointer (some ⟨b, 0, none⟩)] w (RdPost b (.slice ao n cap) (.int .i64 0) p t s 2 w) := by
  obtain ⟨c0, c1, c2, c3, c4, f1, f2, f3, f4⟩ := rd_cells h
  have H := Lib.hid h
  clear h
  go_enter Try.func24, Try.ntmps24
  go_upto_region 3 with fail
  go_quiet (fail)
  go_wp2_with (go_at_call 23; refine (fail_0 b _ p t s 2 _ (by exact H.out)).mono ?_; rintro e w1 ⟨rfl, h1, hk1⟩)
  go_ret
  exact ⟨rfl, h1, ((Keeps.refl (fun k => k = b) w).drewN _).trans hk1⟩
theorem byte_ok (b : Nat) (a : Addr) (n cap : Nat) (bs : List Int) (p : Nat) (hp : p < n) (hn : n ≤ 1000000) (t s : Int) (hab : a.block ≠ b) (w : World) (hi : Ints .u8 w (some a) n bs) (h : Rd w b (.slice (some a) n cap) p t s 0) : Calls Try.prog 24 #[.pointer (some ⟨b, 0, none⟩)] w (RdPost b (.slice (some a) n cap) (.int .i64 (bs.getD p 0)) (p + 1) t s 0 w) := by
  obtain ⟨a', c, ha, hc, hcell, hlt⟩ := hi.byte hp
  cases ha
  obtain ⟨c0, c1, c2, c3, c4, f1, f2, f3, f4⟩ := rd_cells h
  have H := Lib.hid h
  clear h hi
  go_enter Try.func24, Try.ntmps24
  go_upto_region 3 with fail
  go_quiet (fail)
  go_upto_region 7 with fail
  have hk : Keeps (fun k => k = b) w ((w.drewN nq).setCell ⟨b, 1, none⟩ (.int .i64 ((p : Int) + 1))) := ((Keeps.refl (fun k => k = b) w).drewN nq).setCell (p := ⟨b, 1, none⟩) (.inr rfl) _
  have hc2 := hk.cell hcell (by rw [Addr.add_block]; exact hab)
  have h2 : Rd ((w.drewN nq).setCell ⟨b, 1, none⟩ (.int .i64 ((p : Int) + 1))) b (.slice (some a) n cap) ((p : Int) + 1) t s 0 := Rd.pos (w := w.drewN nq) H.out _
  clear c0 c1 c2 c3 c4 f1 f2 f3 f4 hcell
  generalize (w.drewN nq).setCell ⟨b, 1, none⟩ (.int .i64 ((p : Int) + 1)) = W at *
  obtain ⟨c0, c1, c2, c3, c4, f1, f2, f3, f4⟩ := rd_cells h2
  have H2 := Lib.hid h2
  have e1 : IntKind.i64.wrap ((p : Int) + 1 - 1) = (p : Int) := by rw [show (p : Int) + 1 - 1 = (p : Int) by omega]; exact IntWalk.i64_in _ (by omega)
  have hp0 : (0 : Int) ≤ (p : Int) := by omega
  have hp1 : (p : Int) < (n : Int) := by omega
  clear h2
  go_quiet (fail)
  go_wp2_with fail
  go_ret
  exact ⟨ret_int hc.out.symm, H2.out, hk.drewN _⟩
/-- What is left to be read, and how far that is. -/
theorem rd7_drop (bs : List Int) (p : Nat) (hp : p < bs.length) : bs.drop p = bs.getD p 0 :: bs.drop (p + 1) := by
  rw [List.drop_eq_getElem_cons hp]; simp [hp]
/-- A step of reading: well, or failed. -/
def StepPost (b : Nat) (ao : Option Addr) (n cap : Nat) (E v : Int) (R : List Int) (t s : Int) (w : World) (e : Ending) (w' : World) : Prop :=
  (E = 0 ∧ R.length ≤ n ∧ e = .returned (.int .i64 v) ∧ Rd w' b (.slice ao n cap) ((n - R.length : Nat) : Int) t s 0 ∧ Keeps (fun k => k = b) w w') ∨
  (E ≠ 0 ∧ e = .returned (.int .i64 0) ∧ ∃ p' : Nat, p' ≤ n ∧ Rd w' b (.slice ao n cap) p' t s E ∧ Keeps (fun k => k = b) w w')
set_option maxHeartbeats 1000000 in
theorem seven_any (b : Nat) (ao : Option Addr) (n cap : Nat) (bs : List Int) (p : Nat) (hp : p ≤ n) (hn : n ≤ 1000000) (t s : Int) (hab : ∀ a, ao = some a → a.block ≠ b) (w : World) (hi : Ints .u8 w ao n bs) (h : Rd w b (.slice ao n cap) p t s 0) : Calls Try.prog 25 #[.pointer (some ⟨b, 0, none⟩)] w (StepPost b ao n cap (rd7 (bs.drop p)).1 (rd7 (bs.drop p)).2.1 (rd7 (bs.drop p)).2.2 t s w) := by
  by_cases hlt : p < n
  · obtain ⟨a, rfl, -⟩ := hi.some (by omega)
    have hbl := hi.hlen
    rw [rd7_drop bs p (by omega), rd7_cons]
    have hB := Lib.hid (byte_ok b a n cap bs p hlt hn t s (hab a rfl) w hi h)
    have hz := bounds_u8 (getD_wf hi.wf (by decide) p)
    have hdl : (bs.drop (p + 1)).length = n - (p + 1) := by rw [List.length_drop, hbl]
    have HDL := Lib.hid hdl
    clear hdl hbl
    generalize bs.getD p 0 = c at *
    by_cases hc : 127 < c
    · rw [if_pos hc]
      go_enter Try.func25, Try.ntmps25
      go_wp2_with (first | (go_at_call 24; refine hB.out.mono ?_; rintro e w1 ⟨rfl, h1, hk1⟩) | (go_at_call 23; refine (fail_0 b _ _ t s 4 _ h1).mono ?_; rintro e w2 ⟨rfl, h2, hk2⟩))
      go_ret
      exact .inr ⟨by simp, rfl, p + 1, by omega, by exact h2, hk1.trans hk2⟩
    · rw [if_neg hc]
      go_enter Try.func25, Try.ntmps25
      go_wp2_with (go_at_call 24; refine hB.out.mono ?_; rintro e w1 ⟨rfl, h1, hk1⟩)
      go_ret
      refine .inl ⟨rfl, by rw [HDL.out]; omega, rfl, ?_, hk1⟩
      rw [HDL.out, show n - (n - (p + 1)) = p + 1 by omega]
      exact h1
  · have hd : bs.drop p = [] := by rw [List.drop_eq_nil_iff, hi.hlen]; omega
    rw [hd]
    obtain rfl : p = n := by omega
    clear hd hi
    go_enter Try.func25, Try.ntmps25
    go_wp2_with (go_at_call 24; refine (byte_end b ao p cap p (Nat.le_refl _) hn t s _ h).mono ?_; rintro e w1 ⟨rfl, h1, hk1⟩)
    go_ret
    exact .inr ⟨by simp [rd7], rfl, p, by omega, h1, hk1⟩
theorem seven_e (b : Nat) (sl : Value) (p t s e : Int) (he : e ≠ 0) (w : World) (h : Rd w b sl p t s e) : Calls Try.prog 25 #[.pointer (some ⟨b, 0, none⟩)] w (RdPost b sl (.int .i64 0) p t s e w) := by
  go_enter Try.func25, Try.ntmps25
  go_wp2_with (go_at_call 24; refine (byte_e b sl p t s e he _ h).mono ?_; rintro e w1 ⟨rfl, h1, hk1⟩)
  go_ret
  exact ⟨rfl, h1, hk1⟩
end Go.Proofs.Ytmhlmaimmbopfaa

/- The walks of riff.take and riff.shape. -/
import Derived.Test.YtpbeehfafbgphaaSam
namespace Go.Proofs.Ytpbeehfafbgphaa
open Go Go.RowKit Go.Calli
set_option linter.unusedVariables false
set_option linter.unusedSimpArgs false
attribute [local irreducible] wpStill wpAnyH wpAnyS wpList Code.wp
theorem toList_ne {a b : List Int} (ha : Byt a) (hb : Byt b) (h : a ≠ b) : ((strOfNums a).toList == (strOfNums b).toList) = false := by
  rw [beq_eq_false_iff_ne]
  intro e
  rw [Lib.strOfNums_toList, Lib.strOfNums_toList] at e
  apply h
  apply strOfNums_inj ha hb
  apply ByteArray.ext
  apply Array.ext'
  exact e
theorem box_val {w : World} {bx : Nat} {u : Value} {T : Nat} (hbx : w.heap[bx]? = some (.cells #[u] T (0, 0))) (p : Addr) (v : Value) (hv : w.cell? p = some v) (e : p.block = bx) : v = u := by
  have h1 : w.cell? p = (#[u] : Array Value)[p.off]? := by
    obtain ⟨b, o, s⟩ := p
    simp only at e
    subst e
    cases s with
    | none => exact cell_of_row _ _ _ _ _ _ hbx
    | some _ => simp [World.cell?, hbx] at hv ⊢
  rw [h1] at hv
  match hp : p.off with
  | 0 => rw [hp] at hv; simpa using hv.symm
  | q + 1 => rw [hp] at hv; simp at hv
/-- A box that holds one slice is in no chunk. -/
theorem is_box {w w' : World} {bx : Nat} {x : Option Addr} {xn xc : Nat} {T : Nat} (hbx : w.heap[bx]? = some (.cells #[.slice x xn xc] T (0, 0))) (hk : Keeps (fun k => k = bx) w w') {m : ChM} {c : Ch} (h3 : m.Is w c) : m.Is w' c :=
  h3.kept hk (fun h0 p hp e => by
    have hI := h3.dt
    rw [hp] at hI
    obtain ⟨p', hp', hc⟩ := hI.some (Nat.pos_of_ne_zero h0)
    cases hp'
    have := box_val hbx _ _ (hc 0 (Nat.pos_of_ne_zero h0)) (by rw [Addr.add_block]; exact e)
    cases this)
theorem chs_box {w w' : World} {bx : Nat} {x : Option Addr} {xn xc : Nat} {T : Nat} (hbx : w.heap[bx]? = some (.cells #[.slice x xn xc] T (0, 0))) (hk : Keeps (fun k => k = bx) w w') {ao : Option Addr} {n : Nat} {l : List Ch} (h : Chs w ao n l) : Chs w' ao n l := by
  refine ⟨h.hlen, h.lim, fun i hi => ?_⟩
  obtain ⟨a, m, rfl, h1, h2, h3⟩ := h.cell i hi
  have n1 : (a.add (i * 2)).block ≠ bx := fun e => by have := box_val hbx _ _ h1 e; cases this
  exact ⟨a, m, rfl, hk.cell h1 n1, hk.cell h2 (by rw [Addr.add_block]; exact n1), is_box hbx hk h3⟩
theorem chs_tail {w : World} {a : Addr} {n cap : Nat} {c : Ch} {l : List Ch} (hc : n + 1 ≤ cap) (h : Chs w (some a) (n + 1) (c :: l)) : Chs w (if cap = 1 then some a else some ⟨a.block, a.off + 2, none⟩) n l := by
  have hl := h.hlen
  simp at hl
  by_cases h1 : cap = 1
  · obtain rfl : n = 0 := by omega
    rw [List.eq_nil_of_length_eq_zero hl]
    exact Chs.nil _ _
  · rw [if_neg h1]
    refine ⟨hl, by have := h.lim; omega, fun i hi => ?_⟩
    obtain ⟨a', m, ha, q0, q1, hm⟩ := h.cell (i + 1) (by omega)
    cases ha
    have e : a.add ((i + 1) * 2) = (⟨a.block, a.off + 2, none⟩ : Addr).add (i * 2) := by rw [add0]; cases a; simp [Addr.add]; omega
    rw [e] at q0 q1
    exact ⟨_, m, rfl, q0, q1, by simpa using hm⟩
def TakeYes (bx : Nat) (l : List Ch) (w : World) (e : Ending) (w' : World) : Prop := ∃ (m : ChM) (lo : Option Addr) (ln lc : Nat), e = .returned (.tuple #[.slice m.ao m.n m.cap, .bool true]) ∧ m.Is w' (l.getD 0 c0) ∧ w'.heap[bx]? = some (.cells #[.slice lo ln lc] 22 (0, 0)) ∧ ln ≤ lc ∧ Chs w' lo ln (l.drop 1) ∧ Keeps (fun k => k = bx) w w'
def TakeNo (w : World) (e : Ending) (w' : World) : Prop := e = .returned (.tuple #[.slice none 0 0, .bool false]) ∧ w = w'
theorem take_no (bx : Nat) (lo : Option Addr) (ln lc : Nat) (l : List Ch) (nm : List Int) (hnb : Byt nm) (h4 : nm ≠ []) (w : World) (hx : w.heap[bx]? = some (.cells #[.slice lo ln lc] 22 (0, 0))) (hle : ln ≤ lc) (h : Chs w lo ln l) (hne : (l.getD 0 c0).nm ≠ nm) : Calls Try.prog 21 #[.pointer (some ⟨bx, 0, none⟩), .string (strOfNums nm)] w (TakeNo w) := by
  have p0 : w.cell? ⟨bx, 0, none⟩ = some (.slice lo ln lc) := (cell_of_row _ _ _ _ _ _ hx).trans rfl
  by_cases h0 : ln = 0
  · subst h0
    go_enter Try.func21, Try.ntmps21
    go_wp2_with fail
    exact bodyPost_ret (v := .tuple #[.slice none 0 0, .bool false]) (by simp [results, Try.results21, go_sem]) rfl ⟨rfl, rfl⟩
  · obtain ⟨a, m, rfl, q0, q1, hm⟩ := h.cell 0 (by omega)
    have ha : a.add (0 * 2) = a := by cases a; simp [Addr.add]
    rw [ha] at q0
    have hmn := hm.nm
    have hms : m.s ≠ nm := by rw [hmn]; exact hne
    have hnb2 : Byt m.s := by rw [hmn]; exact hm.byt
    have hbe := toList_ne hnb2 hnb hms
    have hbe2 : ((strOfNums m.s).toList != (strOfNums nm).toList) = true := by rw [bne, hbe]; rfl
    have h0' : ¬ ((ln : Int) = 0) := by omega
    clear hm hne hms hmn h q1
    go_enter Try.func21, Try.ntmps21
    go_wp2_with fail
    exact bodyPost_ret (v := .tuple #[.slice none 0 0, .bool false]) (by simp [results, Try.results21, go_sem]) rfl ⟨rfl, rfl⟩
theorem take_yes (bx : Nat) (lo : Option Addr) (ln lc : Nat) (c : Ch) (l : List Ch) (w : World) (hx : w.heap[bx]? = some (.cells #[.slice lo ln lc] 22 (0, 0))) (hle : ln ≤ lc) (h : Chs w lo ln (c :: l)) : Calls Try.prog 21 #[.pointer (some ⟨bx, 0, none⟩), .string (strOfNums c.nm)] w (TakeYes bx (c :: l) w) := by
  have p0 : w.cell? ⟨bx, 0, none⟩ = some (.slice lo ln lc) := (cell_of_row _ _ _ _ _ _ hx).trans rfl
  have fz : w.frozen? ⟨bx, 0, none⟩ = false := frozen_of_row _ _ _ _ _ hx
  have hl := h.hlen
  have hlim := h.lim
  unfold maxLen at hlim
  simp at hl
  obtain ⟨n, rfl⟩ : ∃ n, ln = n + 1 := ⟨ln - 1, by omega⟩
  obtain ⟨a, m, rfl, q0, q1, hm⟩ := h.cell 0 (by omega)
  have ha : a.add (0 * 2) = a := by cases a; simp [Addr.add]
  rw [ha] at q0 q1
  have e1 : a.add 1 = ⟨a.block, a.off + 1, none⟩ := rfl
  rw [e1] at q1
  have hm' : m.Is w c := hm
  rw [hm'.nm] at q0
  have hT := chs_tail hle h
  have HK : Hid (∀ v, Keeps (fun k => k = bx) w (w.setCell ⟨bx, 0, none⟩ v)) := fun v => (Keeps.refl (fun k => k = bx) w).setCell (p := ⟨bx, 0, none⟩) (.inr rfl) v
  have HM : Hid (∀ v, m.Is (w.setCell ⟨bx, 0, none⟩ v) c ∧ ∀ ao n l, Chs w ao n l → Chs (w.setCell ⟨bx, 0, none⟩ v) ao n l) := fun v => ⟨is_box hx (HK.out v) hm', fun ao n l h => chs_box hx (HK.out v) h⟩
  have HX : Hid (∀ x y z, (w.setCell ⟨bx, 0, none⟩ (.slice x y z)).heap[bx]? = some (.cells #[.slice x y z] 22 (0, 0))) := fun x y z => heap_setCell_same _ _ _ _ _ _ hx
  clear hm hm' h hl
  by_cases hc1 : lc = 1
  · subst hc1
    rw [if_pos rfl] at hT
    obtain rfl : n = 0 := by omega
    have HT := Lib.hid hT
    clear hT
    go_enter Try.func21, Try.ntmps21
    go_wp2_with fail
    exact bodyPost_ret (v := .tuple #[.slice m.ao m.n m.cap, .bool true]) (by simp [results, Try.results21, go_sem]) rfl ⟨m, _, _, _, rfl, (HM.out _).1, HX.out _ _ _, by omega, (HM.out _).2 _ _ _ HT.out, HK.out _⟩
  · rw [if_neg hc1] at hT
    have HT := Lib.hid hT
    clear hT
    go_enter Try.func21, Try.ntmps21
    go_wp2_with fail
    exact bodyPost_ret (v := .tuple #[.slice m.ao m.n m.cap, .bool true]) (by simp [results, Try.results21, go_sem]) rfl ⟨m, _, _, _, rfl, (HM.out _).1, HX.out _ _ _, by omega, (HM.out _).2 _ _ _ HT.out, HK.out _⟩
def ShapePost (f : List Int) (w : World) (e : Ending) (w' : World) : Prop := e = .returned (.tuple #[.int .i64 (if f.length = 16 then shN f else 0), .int .i64 (if f.length = 16 then shR f else 0), .bool (shOk f)]) ∧ Below w.heap.size w w'
theorem shape_short (ao : Option Addr) (n cap : Nat) (f : List Int) (w : World) (h : Ints .u8 w ao n f) (h16 : n ≠ 16) : Calls Try.prog 22 #[.slice ao n cap] w (ShapePost f w) := by
  have hl := h.hlen
  have hok : shOk f = false := decide_eq_false (fun e => h16 (by rw [← hl]; exact e.1))
  have hlim := h.lim
  unfold maxLen at hlim
  have h16' : ¬ ((n : Int) = 16) := by omega
  unfold ShapePost
  rw [hok, if_neg (by omega), if_neg (by omega)]
  go_enter Try.func22, Try.ntmps22
  go_wp2_with fail
  exact bodyPost_ret (v := .tuple #[.int .i64 0, .int .i64 0, .bool false]) (by simp [results, Try.results22, go_sem]) rfl ⟨rfl, Below.refl _ _⟩
end Go.Proofs.Ytpbeehfafbgphaa

/- take and shape, each as one contract; plain laws of reading. -/
import Derived.Test.YtpbeehfafbgphaaFlm
import Derived.Test.YtpbeehfafbgphaaFsm
namespace Go.Proofs.Ytpbeehfafbgphaa
open Go Go.RowKit Go.Calli
set_option linter.unusedVariables false
set_option linter.unusedSimpArgs false
def BoxC (w : World) (bx : Nat) (l : List Ch) : Prop := ∃ lo ln lc, w.heap[bx]? = some (.cells #[.slice lo ln lc] 22 (0, 0)) ∧ ln ≤ lc ∧ Chs w lo ln l
def TakeAny (bx : Nat) (l : List Ch) (nm : List Int) (w : World) (e : Ending) (w' : World) : Prop := ∃ (ao : Option Addr) (n cap : Nat) (ok : Bool) (l' : List Ch) (dt : List Int), e = .returned (.tuple #[.slice ao n cap, .bool ok]) ∧ Hid (ok = true ↔ (l.getD 0 c0).nm = nm) ∧ Hid (ok = true → l' = l.drop 1 ∧ dt = (l.getD 0 c0).dt) ∧ Hid (ok = false → l' = l ∧ dt = []) ∧ n ≤ cap ∧ Ints .u8 w' ao n dt ∧ BoxC w' bx l' ∧ Keeps (fun k => k = bx) w w'
theorem take_any (bx : Nat) (l : List Ch) (nm : List Int) (hnb : Byt nm) (h4 : nm ≠ []) (w : World) (h : BoxC w bx l) : Calls Try.prog 21 #[.pointer (some ⟨bx, 0, none⟩), .string (strOfNums nm)] w (TakeAny bx l nm w) := by
  obtain ⟨lo, ln, lc, hx, hle, hC⟩ := h
  by_cases he : (l.getD 0 c0).nm = nm
  · match l, he, hC with
    | [], he, _ => exact absurd he.symm h4
    | c :: r, he, hC =>
      have he' : c.nm = nm := he
      subst he'
      refine (take_yes bx lo ln lc c r w hx hle hC).mono ?_
      rintro e w' ⟨m, lo', ln', lc', rfl, hm, hx', hle', hC', hk⟩
      exact ⟨m.ao, m.n, m.cap, true, r, c.dt, rfl, ⟨fun _ => rfl, fun _ => rfl⟩, fun _ => ⟨rfl, rfl⟩, (fun h => by cases h), hm.le, hm.dt, ⟨lo', ln', lc', hx', hle', hC'⟩, hk⟩
  · refine (take_no bx lo ln lc l nm hnb h4 w hx hle hC he).mono ?_
    rintro e w' ⟨rfl, rfl⟩
    exact ⟨none, 0, 0, false, l, [], rfl, ⟨(fun h => by cases h), fun h => absurd h he⟩, (fun h => by cases h), fun _ => ⟨rfl, rfl⟩, Nat.le_refl _, Ints.nil _ _ _, ⟨lo, ln, lc, hx, hle, hC⟩, Keeps.refl _ _⟩
theorem shape_any (ao : Option Addr) (n cap : Nat) (f : List Int) (w : World) (h : Ints .u8 w ao n f) (hc : n ≤ cap) : Calls Try.prog 22 #[.slice ao n cap] w (ShapePost f w) := by
  by_cases h16 : n = 16
  · subst h16
    exact shape_full ao cap f w h hc
  · exact shape_short ao n cap f w h h16
theorem BoxC.keep0 {w w' : World} {bx : Nat} {l : List Ch} (h : BoxC w bx l) (hb : Below w.heap.size w w') : BoxC w' bx l := by
  obtain ⟨lo, ln, lc, hx, hle, hC⟩ := h
  exact ⟨lo, ln, lc, (hb.block _ (lt_of_block hx)).trans hx, hle, hC.keep0 hb⟩
/-- A sample's block is in no chunk. -/
theorem six_val {w : World} {b T : Nat} {x0 : ByteArray} {r1 a3 b4 : Int} {l2 : Bool} {v5 : Option Addr} {n5 c5 : Nat} (h : w.heap[b]? = some (.cells #[.string x0, .int .i64 r1, .bool l2, .int .i64 a3, .int .i64 b4, .slice v5 n5 c5] T (0, 0))) (p : Addr) (v : Value) (hv : w.cell? p = some v) (e : p.block = b) : (#[Value.string x0, .int .i64 r1, .bool l2, .int .i64 a3, .int .i64 b4, .slice v5 n5 c5] : Array Value)[p.off]? = some v := by
  obtain ⟨g, o, s⟩ := p
  simp only at e
  subst e
  cases s with
  | none => rw [← hv]; exact (cell_of_row _ _ _ _ _ _ h).symm
  | some _ => simp [World.cell?, h] at hv ⊢
theorem ints_six {w w' : World} {b T : Nat} {x0 : ByteArray} {r1 a3 b4 : Int} {l2 : Bool} {v5 : Option Addr} {n5 c5 : Nat} (h : w.heap[b]? = some (.cells #[.string x0, .int .i64 r1, .bool l2, .int .i64 a3, .int .i64 b4, .slice v5 n5 c5] T (0, 0))) (hk : Keeps (fun k => k = b) w w') {ao : Option Addr} {n : Nat} {zs : List Int} (hI : Ints .u8 w ao n zs) : Ints .u8 w' ao n zs := by
  by_cases h0 : n = 0
  · have := hI.hlen
    subst h0
    rw [List.eq_nil_of_length_eq_zero this]
    exact Ints.nil _ _ _
  · refine hI.kept hk (fun a ha e => ?_)
    obtain ⟨a', ha', hc⟩ := hI.some (Nat.pos_of_ne_zero h0)
    rw [ha] at ha'
    cases ha'
    have := six_val h _ _ (hc 0 (Nat.pos_of_ne_zero h0)) (by rw [Addr.add_block]; exact e)
    match hp : (a.add 0).off with
    | 0 => rw [hp] at this; simp at this
    | 1 => rw [hp] at this; simp at this
    | 2 => rw [hp] at this; simp at this
    | 3 => rw [hp] at this; simp at this
    | 4 => rw [hp] at this; simp at this
    | 5 => rw [hp] at this; simp at this
    | q + 6 => rw [hp] at this; simp at this
theorem chs_six {w w' : World} {b T : Nat} {x0 : ByteArray} {r1 a3 b4 : Int} {l2 : Bool} {v5 : Option Addr} {n5 c5 : Nat} (h : w.heap[b]? = some (.cells #[.string x0, .int .i64 r1, .bool l2, .int .i64 a3, .int .i64 b4, .slice v5 n5 c5] T (0, 0))) (hk : Keeps (fun k => k = b) w w') {ao : Option Addr} {n : Nat} {l : List Ch} (hC : Chs w ao n l) : Chs w' ao n l := by
  refine ⟨hC.hlen, hC.lim, fun i hi => ?_⟩
  obtain ⟨a, m, rfl, h1, h2, h3⟩ := hC.cell i hi
  have n1 : (a.add (i * 2)).block ≠ b := fun e => by
    have q1 := six_val h _ _ h1 e
    have q2 := six_val h _ _ h2 (by rw [Addr.add_block]; exact e)
    have hoff : ((a.add (i * 2)).add 1).off = (a.add (i * 2)).off + 1 := rfl
    rw [hoff] at q2
    match hp : (a.add (i * 2)).off with
    | 0 => rw [hp] at q2; simp at q2
    | 1 => rw [hp] at q1; simp at q1
    | 2 => rw [hp] at q1; simp at q1
    | 3 => rw [hp] at q1; simp at q1
    | 4 => rw [hp] at q1; simp at q1
    | 5 => rw [hp] at q1; simp at q1
    | q + 6 => rw [hp] at q1; simp at q1
  exact ⟨a, m, rfl, hk.cell h1 n1, hk.cell h2 (by rw [Addr.add_block]; exact n1), h3.nm, h3.byt, h3.le, ints_six h hk h3.dt⟩
theorem BoxC.six {w w' : World} {b T : Nat} {x0 : ByteArray} {r1 a3 b4 : Int} {l2 : Bool} {v5 : Option Addr} {n5 c5 : Nat} (h : w.heap[b]? = some (.cells #[.string x0, .int .i64 r1, .bool l2, .int .i64 a3, .int .i64 b4, .slice v5 n5 c5] T (0, 0))) (hk : Keeps (fun k => k = b) w w') {bx : Nat} {l : List Ch} (hT : T ≠ 22) (hB : BoxC w bx l) : BoxC w' bx l := by
  obtain ⟨lo, ln, lc, hx, hle, hC⟩ := hB
  exact ⟨lo, ln, lc, hk.heap hx (fun e => block_ne h hx hT e.symm), hle, chs_six h hk hC⟩
theorem results_cell_tmp {P : Program} {fn : Func} {p q : Tmp} {ty : TypeId} (h : fn.results = #[.cell p ty, .tmp q]) (tmps : Array Value) (w : World) (g : Nat) (t : TypeId) (cs : Array Value) (fr : Nat × Nat) (d : TypeDesc)
    (hp : tmps.getD p undef = .pointer (some ⟨g, 0, none⟩)) (hg : w.heap[g]? = some (.cells cs t fr))
    (hu : P.underlying ty = some d) (hd : (match d with | .struct _ | .array _ _ => true | _ => false) = true) (hi : (P.info? ty).map (·.size) = some cs.size) :
    (results fn tmps).run P w = .ok (.tuple #[.agg cs, tmps.getD q undef]) w := by
  have hp' : tmps[p]?.getD undef = .pointer (some ⟨g, 0, none⟩) := by simpa using hp
  simp [results, h, hp', asAddr, run_loadVar_row w g t ty cs fr d hg hu hd hi]
/-- What reading gives, in memory. -/
def ReadPost (r : Int × Sm) (w : World) (e : Ending) (w' : World) : Prop := ∃ m, e = .returned (.tuple #[.agg (cellsS r.2 m), .int .i64 r.1]) ∧ SmIs w' r.2 m ∧ Below w.heap.size w w'
theorem sm0_is (w : World) : SmIs w s0 ⟨none, 0, 0⟩ := ⟨fun z hz => by simp [s0] at hz, by simp [s0], Nat.le_refl _, Rows.nil _ _⟩
theorem str0 : strOfNums [] = ByteArray.mk #[] := rfl
theorem readL_err {b : List Int} (h : (splitL b.length b).1 ≠ 0) : readL b = ((splitL b.length b).1, s0) := by unfold readL; rw [if_pos h]
def isRiff (l : List Ch) : Prop := ∃ c, l = [c] ∧ c.nm = nRIFF ∧ 4 ≤ c.dt.length ∧ c.dt.take 4 = nWAVE
theorem readL_form {b : List Int} (h : (splitL b.length b).1 = 0) (h2 : ¬ isRiff (splitL b.length b).2) : readL b = (4, s0) := by
  unfold readL
  rw [if_neg (fun e => e h)]
  match hl : (splitL b.length b).2 with
  | [] => rfl
  | [c] => 
    simp only
    rw [if_neg (fun e => h2 ⟨c, hl, e⟩)]
  | _ :: _ :: _ => rfl
theorem readL_go {b : List Int} {c : Ch} (h : (splitL b.length b).1 = 0) (h2 : (splitL b.length b).2 = [c]) (h3 : c.nm = nRIFF ∧ 4 ≤ c.dt.length ∧ c.dt.take 4 = nWAVE) : readL b = if (splitL (c.dt.drop 4).length (c.dt.drop 4)).1 ≠ 0 then ((splitL (c.dt.drop 4).length (c.dt.drop 4)).1, s0) else readC (splitL (c.dt.drop 4).length (c.dt.drop 4)).2 := by
  unfold readL
  rw [if_neg (fun e => e h), h2]
  simp only
  rw [if_pos h3]
end Go.Proofs.Ytpbeehfafbgphaa

/- Maps from int to a struct of two ints and a byte. No program in sight. -/
import Derived.Test.YtbboljmmpbchgaaCommon
import Derived.Maps.OwnSet
namespace Go.Calli
open Go Go.RowKit Go.Maps
set_option linter.unusedVariables false
structure Flt where
  f : Int
  a : Int
  x : Int
def Flt.zero : Flt := ⟨0, 0, 0⟩
def fval (t : Flt) : Value := .agg #[.int .i64 t.f, .int .i64 t.a, .int .u8 t.x]
def fdat (t : Flt) : DataW Unit := .agg [.lit (.int .i64 t.f), .lit (.int .i64 t.a), .lit (.int .u8 t.x)]
def fltR : Value → Option (DataW Unit × List MemPlace)
  | .agg ⟨[.int .i64 f, .int .i64 a, .int .u8 x]⟩ => some (fdat ⟨f, a, x⟩, [])
  | _ => none
theorem fltR_mk (t : Flt) : fltR (fval t) = some (fdat t, []) := rfl
theorem fdat_inj {s t : Flt} (h : fdat s = fdat t) : s = t := by
  cases s; cases t; simp [fdat] at h; obtain ⟨rfl, rfl, rfl⟩ := h; rfl
theorem fltR_inv {v : Value} {t : Flt} {ps : List MemPlace} (h : fltR v = some (fdat t, ps)) : v = fval t := by
  unfold fltR at h
  split at h
  · rename_i f a x
    have h2 := fdat_inj (congrArg Prod.fst (Option.some.inj h))
    subst h2
    rfl
  · cases h
/-- Block b is a map of at most n entries that has F's. -/
def FMap (P : Program) (K : TypeId) (w : World) (b n : Nat) (F : Int → Option Flt) : Prop :=
  ∃ D : DataW Unit, w.ownsMap P K fltR b n D ∧ ∀ k : Int, (match F k with
    | none => Maps.has D (.int .i64 k) = false
    | some t => Maps.has D (.int .i64 k) = true ∧ ∀ z, D.atKey (.int .i64 k) z = fdat t)
variable {P : Program} {K e T : TypeId} {w : World} {b n : Nat} {F : Int → Option Flt}
theorem FMap.made (w : World) : FMap P K (w.alloc (.map #[] 0)) w.heap.size 0 (fun _ => none) := ⟨_, World.ownsMap_made _ _ _ _, fun k => rfl⟩
theorem FMap.lt (h : FMap P K w b n F) : b < w.heap.size := by obtain ⟨D, h, _⟩ := h; exact h.lt
theorem FMap.heap (h : FMap P K w b n F) {w' : World} (he : w'.heap[b]? = w.heap[b]?) : FMap P K w' b n F := by
  obtain ⟨D, ⟨es, clock, hb, r⟩, hF⟩ := h
  exact ⟨D, ⟨es, clock, by rw [he]; exact hb, r⟩, hF⟩
theorem FMap.kept (h : FMap P K w b n F) {S : Nat → Prop} {w' : World} (hk : Keeps S w w') (hS : ¬ S b) : FMap P K w' b n F := by
  have hlt := h.lt
  exact h.heap (hk.block b hlt hS)
theorem FMap.keep0 (h : FMap P K w b n F) {w' : World} (hb : Below w.heap.size w w') : FMap P K w' b n F :=
  h.kept (Keeps.ofBelow (S := fun _ => False) hb (Nat.le_refl _)) id
theorem FMap.setCell (h : FMap P K w b n F) {a : Addr} (ha : b ≠ a.block) (u : Value) : FMap P K (w.setCell a u) b n F := by
  obtain ⟨D, h, hF⟩ := h
  exact ⟨D, h.setCell ha u, hF⟩
theorem FMap.mono (h : FMap P K w b n F) {n' : Nat} (hn : n ≤ n') : FMap P K w b n' F := by obtain ⟨D, h, hF⟩ := h; exact ⟨D, h.mono hn, hF⟩
theorem FMap.notCells (h : FMap P K w b n F) {cs : Array Value} {t : TypeId} {f : Nat × Nat} : w.heap[b]? ≠ some (.cells cs t f) := by
  obtain ⟨D, ⟨es, clock, hb, r⟩, hF⟩ := h
  intro h2; rw [hb] at h2; cases h2
set_option linter.unusedVariables false in
theorem FMap.at {D : DataW Unit} {k : Int} (hF : (match F k with
    | none => Maps.has D (.int .i64 k) = false
    | some t => Maps.has D (.int .i64 k) = true ∧ ∀ z, D.atKey (.int .i64 k) z = fdat t)) : Maps.has D (.int .i64 k) = (F k).isSome ∧ D.atKey (.int .i64 k) (fdat Flt.zero) = fdat ((F k).getD Flt.zero) := by
  cases h : F k with
  | none => rw [h] at hF; exact ⟨hF, Maps.atKey_of_not_has hF _⟩
  | some t => rw [h] at hF; exact ⟨hF.1, hF.2 _⟩
section
variable (L : Keyed P K) (hk : P.underlying K = some (.int .i64)) (ht : P.underlying T = some (.map K e)) (hz : ∀ w, (zeroValue e).run P w = .ok (fval Flt.zero) w)
include L hk ht hz
theorem FMap.look (h : FMap P K w b n F) {k : Int} (hw : (Lit.int .i64 k).wf = true) : (Instr.lookup T (.map (some b)) (.int .i64 k) false).run P w = .ok (fval ((F k).getD Flt.zero)) w := by
  obtain ⟨D, h, hF⟩ := h
  obtain ⟨v, ps, hrun, hv⟩ := h.lookup L ht (hz w) (fltR_mk Flt.zero) (keyOf_int_mk hk hw)
  obtain ⟨_, h2⟩ := FMap.at (hF k)
  rw [h2] at hv
  rw [hrun, fltR_inv hv]
theorem FMap.look_ok (h : FMap P K w b n F) {k : Int} (hw : (Lit.int .i64 k).wf = true) : (Instr.lookup T (.map (some b)) (.int .i64 k) true).run P w = .ok (.tuple #[fval ((F k).getD Flt.zero), .bool (F k).isSome]) w := by
  obtain ⟨D, h, hF⟩ := h
  obtain ⟨v, ps, hrun, hv⟩ := h.look_ok L ht (hz w) (fltR_mk Flt.zero) (keyOf_int_mk hk hw)
  obtain ⟨h1, h2⟩ := FMap.at (hF k)
  rw [h2] at hv
  rw [hrun, fltR_inv hv, h1]
omit hz
theorem FMap.store (h : FMap P K w b n F) (hn : n < maxLen) {k : Int} (hw : (Lit.int .i64 k).wf = true) (t : Flt) :
    ∃ w', (Instr.mapUpdate T (.map (some b)) (.int .i64 k) (fval t)).run P w = .ok () w' ∧ FMap P K w' b (n + 1) (fun j => if j = k then some t else F j) ∧ Keeps (fun i => i = b) w w' := by
  obtain ⟨D, h, hF⟩ := h
  obtain ⟨w', hrun, hown, hg⟩ := h.update L ht hn (keyOf_int_mk hk hw) (fltR_mk t)
  refine ⟨w', hrun, ⟨_, hown, fun j => ?_⟩, (Keeps.refl _ w).grown hg (fun i hi => .inr (by cases hi; rfl))⟩
  have hD := h.isMap
  have hkl : WideAt.IsKeyLit (Lit.int .i64 k) := by trivial
  by_cases hj : j = k
  · subst hj
    simp only [if_true]
    exact ⟨Maps.has_put_same hD hkl _, fun z => Maps.atKey_put_same hD hkl _ z⟩
  · have hne : (Lit.int .i64 j) ≠ (Lit.int .i64 k) := fun h => hj (by cases h; rfl)
    simp only [if_neg hj]
    have := hF j
    cases hFj : F j with
    | none => rw [hFj] at this; simp only [] at this ⊢; rw [Maps.has_put_other hne]; exact this
    | some t' => rw [hFj] at this; simp only [] at this ⊢; rw [Maps.has_put_other hne]; exact ⟨this.1, fun z => by rw [Maps.atKey_put_other hne]; exact this.2 z⟩
theorem FMap.drop (h : FMap P K w b n F) {k : Int} (hw : (Lit.int .i64 k).wf = true) (ty : TypeId) :
    ∃ w', (Builtin.delete_ #[T, K] ty #[.map (some b), .int .i64 k]).run P w = .ok (.tuple #[]) w' ∧ FMap P K w' b n (fun j => if j = k then none else F j) ∧ Keeps (fun i => i = b) w w' := by
  obtain ⟨D, h, hF⟩ := h
  obtain ⟨w', hrun, hown, hg⟩ := h.drop L ht (keyOf_int_mk hk hw) ty
  refine ⟨w', hrun, ⟨_, hown, fun j => ?_⟩, (Keeps.refl _ w).grown hg.grown (fun i hi => .inr (by cases hi; rfl))⟩
  by_cases hj : j = k
  · subst hj
    simp only [if_true]
    exact Maps.has_del_same
  · have hne : (Lit.int .i64 j) ≠ (Lit.int .i64 k) := fun h => hj (by cases h; rfl)
    simp only [if_neg hj]
    have := hF j
    cases hFj : F j with
    | none => rw [hFj] at this; simp only [] at this ⊢; rw [Maps.has_del_other hne]; exact this
    | some t' => rw [hFj] at this; simp only [] at this ⊢; rw [Maps.has_del_other hne]; exact ⟨this.1, fun z => by rw [Maps.atKey_del_other hne]; exact this.2 z⟩
end
/-- A store at the operation. -/
theorem wpList_mapUpdate_fmap {ops : Array Oper} {rest : List Oper} {o : Oper} {a : Act} {Q : Exit → Act → World → Prop} (hg : o.guard = none) (m x v : Operand) (hop : o.op = Op.mapUpdate T m x v)
    (L : Keyed P K) (hk : P.underlying K = some (.int .i64)) (ht : P.underlying T = some (.map K e)) (hm : a.eval m = .map (some b)) (h : FMap P K w b n F) (hn : n < maxLen) (k : Int) (t : Flt) (hx : a.eval x = .int .i64 k) (hv : a.eval v = fval t) (hw : (Lit.int .i64 k).wf = true)
    (hK : ∀ w', FMap P K w' b (n + 1) (fun j => if j = k then some t else F j) → Keeps (fun i => i = b) w w' → wpList P ops Q rest (a.put o.dst undef) w') : wpList P ops Q (o :: rest) a w := by
  refine wpList_plain hg fun K' hK' => ?_
  obtain ⟨w', hrun, r1, r2⟩ := h.store L hk ht hn hw t
  unfold Oper.wp
  simp [execOp, hop, hm, hx, hv, hrun, Result.andThen]
  exact hK' _ _ (hK w' r1 r2)
theorem wpList_delete_fmap {ops : Array Oper} {rest : List Oper} {o : Oper} {a : Act} {Q : Exit → Act → World → Prop} (hg : o.guard = none) (m x : Operand) (hop : o.op = Op.call { callee := Callee.builtin Builtin.delete, args := #[m, x], argTypes := #[T, K] })
    (L : Keyed P K) (hk : P.underlying K = some (.int .i64)) (ht : P.underlying T = some (.map K e)) (hm : a.eval m = .map (some b)) (h : FMap P K w b n F) (k : Int) (hx : a.eval x = .int .i64 k) (hw : (Lit.int .i64 k).wf = true)
    (hK : ∀ w', FMap P K w' b n (fun j => if j = k then none else F j) → Keeps (fun i => i = b) w w' → wpList P ops Q rest (a.put o.dst (.tuple #[])) w') : wpList P ops Q (o :: rest) a w := by
  refine wpList_plain hg fun K' hK' => ?_
  obtain ⟨w', hrun, r1, r2⟩ := h.drop L hk ht hw o.type
  unfold Oper.wp
  simp [execOp, hop, resolve, invoke, builtin, hm, hx, hrun, Result.andThen]
  exact hK' _ _ (hK w' r1 r2)
end Go.Calli

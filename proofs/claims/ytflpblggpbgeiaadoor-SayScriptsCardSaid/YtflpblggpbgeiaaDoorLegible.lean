/- What an argument reads as, whatever its type: 'Legible P w t cs': the cells cs can be read as a value of type t. Opened type by type. No program in sight. -/
import Derived.Test.YtflpblggpbgeiaaDoorCommon
import Derived.Deep.Slices
namespace Go.Calli
open Go.RowKit

/-- The cells can be read as a value of type t. -/
def Legible (P : Program) (w : World) (t : TypeId) (cs : List Value) : Prop :=
  ∃ (H : Type) (enc : TypeId × Value → H) (n : Nat) (x : DataW H × List MemPlace), DataW.trod enc P w 0 (fun _ => true) true n t cs = some x

variable {P : Program} {w : World} {t : TypeId} {cs : List Value}

theorem Legible.of_trod {H : Type} {enc : TypeId × Value → H} {v : Value} {d : DataW H} {ps : List MemPlace} (h : DataW.Trod enc P w 0 (fun _ => true) true t v d ps) : Legible P w t v.cells.toList := by
  obtain ⟨n, hn⟩ := h
  exact ⟨H, enc, n, _, hn⟩
theorem Legible.int {k : IntKind} (ht : P.underlying t = some (.int k)) (h : Legible P w t cs) : ∃ n, cs = [.int k n] ∧ (Lit.int k n).wf = true := by
  obtain ⟨H, enc, n, x, h⟩ := h
  obtain ⟨m, rfl, _, hw⟩ := DataW.trod_int ht h
  exact ⟨m, rfl, hw⟩
theorem Legible.bool (ht : P.underlying t = some .bool) (h : Legible P w t cs) : ∃ b, cs = [.bool b] := by
  obtain ⟨H, enc, n, x, h⟩ := h
  obtain ⟨b, rfl, _⟩ := DataW.trod_bool ht h
  exact ⟨b, rfl⟩
theorem Legible.string (ht : P.underlying t = some .string) (h : Legible P w t cs) : ∃ s : ByteArray, cs = [.string s] ∧ s.size ≤ maxLen := by
  obtain ⟨H, enc, n, x, h⟩ := h
  obtain ⟨s, rfl, _, hs⟩ := DataW.trod_string ht h
  exact ⟨s, rfl, hs⟩
/-- A slice of elements of any size. -/
theorem Legible.slice {e : TypeId} (ht : P.underlying t = some (.slice e)) (h : Legible P w t cs) :
    cs = [.slice none 0 0] ∨ ∃ a len cap, cs = [.slice (some a) len cap] ∧ len ≤ cap ∧ cap ≤ maxLen ∧
      ∀ i, i < len → ∃ ds, ds.length = P.cellsOf e ∧ (∀ j, j < P.cellsOf e → w.cell? ((a.add (i * P.cellsOf e)).add j) = ds[j]?) ∧ Legible P w e ds := by
  obtain ⟨H, enc, n, x, h⟩ := h
  rcases Deep.open_slice ht h with ⟨rfl, _⟩ | ⟨a, len, cap, m, n', D, Pl, rfl, _, hl, hm, hmm, _, hx⟩
  · exact .inl rfl
  · refine .inr ⟨a, len, cap, rfl, hl, hm, fun i hi => ?_⟩
    obtain ⟨ds, h1, h2⟩ := hx i (by rw [hmm]; simp; omega)
    obtain ⟨_, hlen, hcell⟩ := World.cells?_some h1
    exact ⟨ds, hlen, hcell, H, enc, n', _, h2⟩
theorem Legible.struct {fs : Array Field} (ht : P.underlying t = some (.struct fs)) (h : Legible P w t cs) :
    cs.length = P.cellsOf t ∧ ∀ (i : Nat) (f : Field), fs[i]? = some f → Legible P w f.type ((cs.drop f.offset).take (P.cellsOf f.type)) := by
  obtain ⟨H, enc, n, x, h⟩ := h
  obtain ⟨xs, n', _, _, hlen, hxs, hf⟩ := DataW.trod_struct ht h
  refine ⟨hlen, fun i f hi => ?_⟩
  have := hf i f hi
  have hlt : i < xs.length := by
    have := (Array.getElem?_eq_some_iff.1 hi).1
    omega
  rw [List.getElem?_eq_getElem hlt] at this
  exact ⟨H, enc, n', _, this⟩
theorem Legible.array {n : Nat} {e : TypeId} (ht : P.underlying t = some (.array n e)) (h : Legible P w t cs) :
    cs.length = P.cellsOf t ∧ ∀ i, i < n → Legible P w e ((cs.drop (i * P.cellsOf e)).take (P.cellsOf e)) := by
  obtain ⟨H, enc, m, x, h⟩ := h
  obtain ⟨xs, n', _, _, hlen, hxs, hf⟩ := DataW.trod_array ht h
  refine ⟨hlen, fun i hi => ?_⟩
  have := hf i hi
  rw [List.getElem?_eq_getElem (show i < xs.length by omega)] at this
  exact ⟨H, enc, n', _, this⟩

theorem choose_list {α : Type} (n : Nat) (p : Nat → α → Prop) (h : ∀ i, i < n → ∃ x, p i x) : ∃ l : List α, l.length = n ∧ ∀ i x, l[i]? = some x → p i x := by
  induction n with
  | zero => exact ⟨[], rfl, fun i x hx => by simp at hx⟩
  | succ n ih =>
    obtain ⟨l, hl, hp⟩ := ih (fun i hi => h i (by omega))
    obtain ⟨x, hx⟩ := h n (by omega)
    refine ⟨l ++ [x], by simp [hl], fun i y hy => ?_⟩
    by_cases hi : i < n
    · exact hp i y (by rwa [List.getElem?_append_left (by omega)] at hy)
    · have hin : i = n := by
        have := (List.getElem?_eq_some_iff.1 hy).1
        simp [hl] at this; omega
      subst hin
      rw [List.getElem?_append_right (by omega), hl] at hy
      simp at hy; subst hy; exact hx

/-- A slice of integers. -/
theorem Legible.ints {e : TypeId} {k : IntKind} {ao : Option Addr} {len cap : Nat} (ht : P.underlying t = some (.slice e)) (he : P.underlying e = some (.int k)) (hc : P.cellsOf e = 1)
    (h : Legible P w t [.slice ao len cap]) : len ≤ cap ∧ ∃ zs, Ints k w ao len zs := by
  rcases h.slice ht with h | ⟨a, l, c, h, hl, hm, hx⟩
  · simp at h; obtain ⟨rfl, rfl, rfl⟩ := h
    exact ⟨Nat.le_refl _, [], Ints.nil _ _ _⟩
  · simp at h; obtain ⟨rfl, rfl, rfl⟩ := h
    refine ⟨hl, ?_⟩
    obtain ⟨zs, hzl, hz⟩ := choose_list (α := Int) len (fun i z => w.cell? (a.add i) = some (.int k z) ∧ (Lit.int k z).wf = true) (fun i hi => by
      obtain ⟨ds, hd, hcell, hg⟩ := hx i hi
      obtain ⟨z, rfl, hw⟩ := hg.int he
      have := hcell 0 (by omega)
      rw [hc, Nat.mul_one] at this
      exact ⟨z, by simpa [Addr.add] using this, hw⟩)
    refine ⟨zs, hzl, by omega, fun i hi => ⟨a, rfl, ?_⟩, fun z hz' => ?_⟩
    · have := (hz i _ (List.getElem?_eq_getElem (show i < zs.length by omega))).1
      simpa [List.getElem?_eq_getElem (show i < zs.length by omega)] using this
    · obtain ⟨i, hi, rfl⟩ := List.getElem_of_mem hz'
      exact (hz i _ (List.getElem?_eq_getElem hi)).2
/-- A slice whose elements are one cell each. -/
theorem Legible.row {e : TypeId} {ao : Option Addr} {len cap : Nat} (ht : P.underlying t = some (.slice e)) (hc : P.cellsOf e = 1)
    (h : Legible P w t [.slice ao len cap]) : len ≤ cap ∧ len ≤ maxLen ∧ ∃ vs, Row w ao len vs ∧ ∀ v ∈ vs, Legible P w e [v] := by
  rcases h.slice ht with h | ⟨a, l, c, h, hl, hm, hx⟩
  · simp at h; obtain ⟨rfl, rfl, rfl⟩ := h
    exact ⟨Nat.le_refl _, by unfold maxLen; omega, [], ⟨rfl, fun i v hv => by simp at hv⟩, fun v hv => by simp at hv⟩
  · simp at h; obtain ⟨rfl, rfl, rfl⟩ := h
    refine ⟨hl, by omega, ?_⟩
    obtain ⟨vs, hvl, hv⟩ := choose_list (α := Value) len (fun i v => w.cell? (a.add i) = some v ∧ Legible P w e [v]) (fun i hi => by
      obtain ⟨ds, hd, hcell, hg⟩ := hx i hi
      have h0 := hcell 0 (by omega)
      rw [hc, Nat.mul_one] at h0
      obtain ⟨v, rfl⟩ : ∃ v, ds = [v] := by
        match ds, hd.trans hc with
        | [v], _ => exact ⟨v, rfl⟩
      exact ⟨v, by simpa [Addr.add] using h0, hg⟩)
    refine ⟨vs, ⟨hvl, fun i v hiv => ⟨a, rfl, (hv i v hiv).1⟩⟩, fun v hv' => ?_⟩
    obtain ⟨i, hi, rfl⟩ := List.getElem_of_mem hv'
    exact (hv i _ (List.getElem?_eq_getElem hi)).2
/-- A struct's fields are ints, one cell each. -/
def intFieldsB (P : Program) (fs : Array Field) (n : Nat) : Bool :=
  (List.range n).all fun i => match fs[i]? with
    | some f => (f.offset == i) && (match P.underlying f.type with | some (.int .i64) => true | _ => false) && (P.cellsOf f.type == 1)
    | none => false
theorem Legible.ints_struct {fs : Array Field} {n : Nat} (ht : P.underlying t = some (.struct fs)) (hn : P.cellsOf t = n) (hf : intFieldsB P fs n = true) (h : Legible P w t cs) :
    ∃ zs : List Int, zs.length = n ∧ cs = zs.map (Value.int .i64) ∧ ∀ z ∈ zs, (Lit.int .i64 z).wf = true := by
  obtain ⟨hlen, hfs⟩ := h.struct ht
  rw [hn] at hlen
  have hone : ∀ i, i < n → ∃ z, cs[i]? = some (.int .i64 z) ∧ (Lit.int .i64 z).wf = true := by
    intro i hi
    have := List.all_eq_true.1 hf i (List.mem_range.2 hi)
    cases hfi : fs[i]? with
    | none => simp [hfi] at this
    | some f =>
      simp only [hfi, Bool.and_eq_true, beq_iff_eq] at this
      obtain ⟨⟨ho, hu⟩, hc⟩ := this
      have hu' : P.underlying f.type = some (.int .i64) := by
        split at hu
        · assumption
        · cases hu
      obtain ⟨z, hz, hw⟩ := (hfs i f hfi).int hu'
      rw [ho, hc] at hz
      refine ⟨z, ?_, hw⟩
      have h0 : ((cs.drop i).take 1)[0]? = some (.int .i64 z) := by rw [hz]; rfl
      simpa using h0
  obtain ⟨zs, hzl, hz⟩ := choose_list n (fun i z => cs[i]? = some (.int .i64 z) ∧ (Lit.int .i64 z).wf = true) hone
  refine ⟨zs, hzl, ?_, fun z hz' => ?_⟩
  · apply List.ext_getElem?
    intro i
    by_cases hi : i < n
    · rw [(hz i _ (List.getElem?_eq_getElem (show i < zs.length by omega))).1, List.getElem?_map, List.getElem?_eq_getElem (show i < zs.length by omega)]; rfl
    · rw [List.getElem?_eq_none (by omega), List.getElem?_eq_none (by simp; omega)]
  · obtain ⟨i, hi, rfl⟩ := List.getElem_of_mem hz'
    exact (hz i _ (List.getElem?_eq_getElem hi)).2

/-- A list of values, each with what it reads as. -/
theorem pair_up {β : Type} {vs : List Value} {p : Value → β → Prop} (h : ∀ v ∈ vs, ∃ b, p v b) : ∃ L : List (Value × β), L.map Prod.fst = vs ∧ ∀ x ∈ L, p x.1 x.2 := by
  induction vs with
  | nil => exact ⟨[], rfl, fun x hx => by simp at hx⟩
  | cons v r ih =>
    obtain ⟨L, hL, hp⟩ := ih fun v hv => h v (by simp [hv])
    obtain ⟨b, hb⟩ := h v (by simp)
    refine ⟨(v, b) :: L, by simp [hL], fun x hx => ?_⟩
    rcases List.mem_cons.1 hx with rfl | hx
    · exact hb
    · exact hp x hx
end Go.Calli

/- Plain lemmas that every seat's walks use: what a slice of integers in memory reads as, and that it stays so while only new blocks are written. No program in sight. -/
import Derived.WalkKit
import Derived.ProofKit
import Derived.OpenShut
import Derived.ShutString
import Derived.ChangeOld
import Derived.Below
import Derived.WalkLawsBesides
import Derived.WalkSpells
import Derived.WalkSmall
import Derived.Outline
import Derived.Lib.Hide
import Derived.Lib.SlBytesConst
import Derived.Deep.QuietTactic
import Derived.BigQuiet
import Derived.Deep.LoopGhost
import Derived.Deep.DeepCutAuto
import Derived.Deep.DeepFit
import Derived.Deep.DeepMust
namespace Go.Calli
open Go.RowKit

/-- A slice's value leads to these cells (each element of one cell). -/
structure Row (w : World) (ao : Option Addr) (len : Nat) (xs : List Value) : Prop where
  hlen : xs.length = len
  cell : ∀ i v, xs[i]? = some v → ∃ a, ao = some a ∧ w.cell? (a.add i) = some v

theorem Addr.add_block (a : Addr) (i : Nat) : (a.add i).block = a.block := by
  unfold Addr.add; split <;> rfl

theorem Row.keep {B : Nat} {w w' : World} {ao : Option Addr} {len : Nat} {xs : List Value} (h : Row w ao len xs) (hb : Below B w w') (hB : w.heap.size ≤ B) : Row w' ao len xs :=
  ⟨h.hlen, fun i v hv => by
    obtain ⟨a, ha, hc⟩ := h.cell i v hv
    exact ⟨a, ha, by rw [hb.cell (Nat.lt_of_lt_of_le (World.block_lt_of_cell? w _ hc) hB)]; exact hc⟩⟩

theorem Row.keep0 {w w' : World} {ao : Option Addr} {len : Nat} {xs : List Value} (h : Row w ao len xs) (hb : Below w.heap.size w w') : Row w' ao len xs := h.keep hb (Nat.le_refl _)

theorem Row.take {w : World} {ao : Option Addr} {len : Nat} {xs : List Value} (h : Row w ao len xs) {n : Nat} (hn : n ≤ len) : Row w ao n (xs.take n) :=
  ⟨by rw [List.length_take, h.hlen]; omega, fun i v hv => h.cell i v (by
    rw [List.getElem?_take] at hv; split at hv
    · exact hv
    · cases hv)⟩

/-- The integers of a slice. -/
structure Ints (k : IntKind) (w : World) (ao : Option Addr) (len : Nat) (zs : List Int) : Prop where
  hlen : zs.length = len
  lim : len ≤ maxLen
  cell : ∀ i, i < len → ∃ a, ao = some a ∧ w.cell? (a.add i) = some (.int k (zs.getD i 0))
  wf : ∀ z ∈ zs, (Lit.int k z).wf = true

theorem Ints.keep {k : IntKind} {B : Nat} {w w' : World} {ao : Option Addr} {len : Nat} {zs : List Int} (h : Ints k w ao len zs) (hb : Below B w w') (hB : w.heap.size ≤ B) : Ints k w' ao len zs :=
  ⟨h.hlen, h.lim, fun i hi => by
    obtain ⟨a, ha, hc⟩ := h.cell i hi
    exact ⟨a, ha, by rw [hb.cell (Nat.lt_of_lt_of_le (World.block_lt_of_cell? w _ hc) hB)]; exact hc⟩, h.wf⟩

theorem Ints.keep0 {k : IntKind} {w w' : World} {ao : Option Addr} {len : Nat} {zs : List Int} (h : Ints k w ao len zs) (hb : Below w.heap.size w w') : Ints k w' ao len zs := h.keep hb (Nat.le_refl _)

theorem Ints.take {k : IntKind} {w : World} {ao : Option Addr} {len : Nat} {zs : List Int} (h : Ints k w ao len zs) {n : Nat} (hn : n ≤ len) : Ints k w ao n (zs.take n) :=
  ⟨by rw [List.length_take, h.hlen]; omega, Nat.le_trans hn h.lim, fun i hi => by
    obtain ⟨a, ha, hc⟩ := h.cell i (by omega)
    refine ⟨a, ha, ?_⟩
    rw [hc]; simp [hi], fun z hz => h.wf z (List.mem_of_mem_take hz)⟩

theorem Ints.nil (k : IntKind) (w : World) (ao : Option Addr) : Ints k w ao 0 [] := ⟨rfl, by unfold maxLen; omega, fun i hi => absurd hi (by omega), fun z hz => by simp at hz⟩

/-- What the frame of a proof tells of a slice of integers that came in. -/
theorem Ints.of_row {k : IntKind} {w : World} {a : Option Addr} {len cap : Nat} {zs : List Int}
    (h : (a = none ∧ len = 0 ∧ cap = 0 ∧ zs = []) ∨ ∃ x, a = some x ∧ len ≤ cap ∧ cap ≤ maxLen ∧ zs.length = cap ∧ (∀ i, i < zs.length → w.cell? (x.add i) = some (.int k (zs.getD i 0))) ∧ ∀ n ∈ zs, (Lit.int k n).wf = true) :
    len ≤ cap ∧ Ints k w a len (zs.take len) := by
  rcases h with ⟨rfl, rfl, rfl, rfl⟩ | ⟨x, rfl, hl, hm, hz, hc, hw⟩
  · exact ⟨Nat.le_refl _, Ints.nil _ _ _⟩
  · refine ⟨hl, by rw [List.length_take]; omega, by omega, fun i hi => ⟨x, rfl, ?_⟩, fun z hz => hw z (List.mem_of_mem_take hz)⟩
    rw [hc i (by omega)]; simp [hi]

theorem add0 (b o j : Nat) : (⟨b, o, none⟩ : Addr).add j = ⟨b, o + j, none⟩ := by unfold Addr.add; split <;> simp_all

/-- The integers of a block that has just been made. -/
theorem Ints.new (k : IntKind) (w : World) (zs : List Int) (e : TypeId) (fr : Nat × Nat) (cs : Array Value) (hcs : cs = (zs.map (Value.int k)).toArray) (n : Nat) (hn : zs.length = n) (hm : n ≤ maxLen) (hw : ∀ z ∈ zs, (Lit.int k z).wf = true) :
    Ints k (w.alloc (.cells cs e fr)) (some ⟨w.heap.size, 0, none⟩) n zs := by
  subst hcs
  refine ⟨hn, hm, fun i hi => ⟨_, rfl, ?_⟩, hw⟩
  have hb : (w.alloc (.cells (zs.map (Value.int k)).toArray e fr)).heap[w.heap.size]? = some (.cells (zs.map (Value.int k)).toArray e fr) := by
    show (w.heap.push _)[w.heap.size]? = _
    simp
  rw [add0, cell_of_row _ _ _ _ _ _ hb]
  simp [show i < zs.length by omega]

/-- One cell of a slice of bytes: a natural number below 256. -/
theorem Ints.byte {w : World} {ao : Option Addr} {len : Nat} {zs : List Int} (h : Ints .u8 w ao len zs) {i : Nat} (hi : i < len) :
    ∃ (a : Addr) (c : Nat), ao = some a ∧ Hid (zs.getD i 0 = (c : Int)) ∧ w.cell? (a.add i) = some (.int .u8 c) ∧ c < 256 := by
  obtain ⟨a, ha, hc⟩ := h.cell i hi
  have h2 := bounds_u8 (h.wf (zs.getD i 0) (by simp [List.getElem?_eq_getElem (show i < zs.length by rw [h.hlen]; exact hi)]))
  refine ⟨a, (zs.getD i 0).toNat, ha, ?_, ?_, by omega⟩
  · unfold Hid; omega
  · rw [hc]; congr 2; omega

/-- One cell of a slice of ints. -/
theorem Ints.int {w : World} {ao : Option Addr} {len : Nat} {zs : List Int} (h : Ints .i64 w ao len zs) {i : Nat} (hi : i < len) :
    ∃ (a : Addr) (c : Int), ao = some a ∧ Hid (zs.getD i 0 = c) ∧ w.cell? (a.add i) = some (.int .i64 c) ∧ -9223372036854775808 ≤ c ∧ c ≤ 9223372036854775807 := by
  obtain ⟨a, ha, hc⟩ := h.cell i hi
  have h2 := bounds_i64 (h.wf (zs.getD i 0) (by simp [List.getElem?_eq_getElem (show i < zs.length by rw [h.hlen]; exact hi)]))
  exact ⟨a, zs.getD i 0, ha, rfl, hc, h2.1, h2.2⟩

theorem take_succ_getD (zs : List Int) (k : Nat) (h : k < zs.length) : zs.take (k + 1) = zs.take k ++ [zs.getD k 0] := by
  rw [List.take_succ_eq_append_getElem h]; simp [List.getElem?_eq_getElem h]

theorem bcell {W w1 : World} (hb : Below W.heap.size W w1) : (∀ b o, b < W.heap.size → w1.cell? ⟨b, o, none⟩ = W.cell? ⟨b, o, none⟩) ∧ (∀ b o, b < W.heap.size → w1.frozen? ⟨b, o, none⟩ = W.frozen? ⟨b, o, none⟩) :=
  ⟨fun b o h => hb.cell (p := ⟨b, o, none⟩) h, fun b o h => hb.frozen (p := ⟨b, o, none⟩) h⟩

theorem below_alloc (w : World) (o : Obj) : Below w.heap.size w (w.alloc o) := (Below.refl _ _).alloc (Nat.le_refl _) _
theorem ret_int {k : IntKind} {a b : Int} (h : a = b) : Ending.returned (.int k a) = .returned (.int k b) := by rw [h]
theorem ret_bool {a b : Bool} (h : a = b) : Ending.returned (.bool a) = .returned (.bool b) := by rw [h]
end Go.Calli

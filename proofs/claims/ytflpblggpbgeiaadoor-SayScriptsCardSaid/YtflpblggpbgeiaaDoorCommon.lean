/- Plain lemmas that every seat's walks use: what a slice of integers in memory reads as, and that it stays so while only new blocks are written. No program in sight. -/
import Derived.WalkKit
import Derived.ProofKit
import Derived.OpenShut
import Derived.ShutString
import Derived.ChangeOld
import Derived.Below
import Derived.WalkLawsBesides
import Derived.WalkSpells
import Derived.WalkSmall
import Derived.Outline
import Derived.Lib.Hide
import Derived.Lib.SlBytesConst
import Derived.Deep.QuietTactic
import Derived.BigQuiet
import Derived.Deep.LoopGhost
import Derived.Deep.DeepCutAuto
import Derived.Deep.DeepFit
import Derived.Deep.DeepMust
import Derived.Deep.MidRow
namespace Go.Calli
open Go.RowKit

/-- A slice's value leads to these cells (each element of one cell). -/
structure Row (w : World) (ao : Option Addr) (len : Nat) (xs : List Value) : Prop where
  hlen : xs.length = len
  cell : ∀ i v, xs[i]? = some v → ∃ a, ao = some a ∧ w.cell? (a.add i) = some v

theorem Addr.add_block (a : Addr) (i : Nat) : (a.add i).block = a.block := by
  unfold Addr.add; split <;> rfl

theorem Row.keep {B : Nat} {w w' : World} {ao : Option Addr} {len : Nat} {xs : List Value} (h : Row w ao len xs) (hb : Below B w w') (hB : w.heap.size ≤ B) : Row w' ao len xs :=
  ⟨h.hlen, fun i v hv => by
    obtain ⟨a, ha, hc⟩ := h.cell i v hv
    exact ⟨a, ha, by rw [hb.cell (Nat.lt_of_lt_of_le (World.block_lt_of_cell? w _ hc) hB)]; exact hc⟩⟩

theorem Row.keep0 {w w' : World} {ao : Option Addr} {len : Nat} {xs : List Value} (h : Row w ao len xs) (hb : Below w.heap.size w w') : Row w' ao len xs := h.keep hb (Nat.le_refl _)

theorem Row.take {w : World} {ao : Option Addr} {len : Nat} {xs : List Value} (h : Row w ao len xs) {n : Nat} (hn : n ≤ len) : Row w ao n (xs.take n) :=
  ⟨by rw [List.length_take, h.hlen]; omega, fun i v hv => h.cell i v (by
    rw [List.getElem?_take] at hv; split at hv
    · exact hv
    · cases hv)⟩

/-- The integers of a slice. -/
structure Ints (k : IntKind) (w : World) (ao : Option Addr) (len : Nat) (zs : List Int) : Prop where
  hlen : zs.length = len
  lim : len ≤ maxLen
  cell : ∀ i, i < len → ∃ a, ao = some a ∧ w.cell? (a.add i) = some (.int k (zs.getD i 0))
  wf : ∀ z ∈ zs, (Lit.int k z).wf = true

theorem Ints.keep {k : IntKind} {B : Nat} {w w' : World} {ao : Option Addr} {len : Nat} {zs : List Int} (h : Ints k w ao len zs) (hb : Below B w w') (hB : w.heap.size ≤ B) : Ints k w' ao len zs :=
  ⟨h.hlen, h.lim, fun i hi => by
    obtain ⟨a, ha, hc⟩ := h.cell i hi
    exact ⟨a, ha, by rw [hb.cell (Nat.lt_of_lt_of_le (World.block_lt_of_cell? w _ hc) hB)]; exact hc⟩, h.wf⟩

theorem Ints.keep0 {k : IntKind} {w w' : World} {ao : Option Addr} {len : Nat} {zs : List Int} (h : Ints k w ao len zs) (hb : Below w.heap.size w w') : Ints k w' ao len zs := h.keep hb (Nat.le_refl _)

theorem Ints.take {k : IntKind} {w : World} {ao : Option Addr} {len : Nat} {zs : List Int} (h : Ints k w ao len zs) {n : Nat} (hn : n ≤ len) : Ints k w ao n (zs.take n) :=
  ⟨by rw [List.length_take, h.hlen]; omega, Nat.le_trans hn h.lim, fun i hi => by
    obtain ⟨a, ha, hc⟩ := h.cell i (by omega)
    refine ⟨a, ha, ?_⟩
    rw [hc]; simp [hi], fun z hz => h.wf z (List.mem_of_mem_take hz)⟩

theorem Ints.nil (k : IntKind) (w : World) (ao : Option Addr) : Ints k w ao 0 [] := ⟨rfl, by unfold maxLen; omega, fun i hi => absurd hi (by omega), fun z hz => by simp at hz⟩

/-- What the frame of a proof tells of a slice of integers that came in. -/
theorem Ints.of_row {k : IntKind} {w : World} {a : Option Addr} {len cap : Nat} {zs : List Int}
    (h : (a = none ∧ len = 0 ∧ cap = 0 ∧ zs = []) ∨ ∃ x, a = some x ∧ len ≤ cap ∧ cap ≤ maxLen ∧ zs.length = cap ∧ (∀ i, i < zs.length → w.cell? (x.add i) = some (.int k (zs.getD i 0))) ∧ ∀ n ∈ zs, (Lit.int k n).wf = true) :
    len ≤ cap ∧ Ints k w a len (zs.take len) := by
  rcases h with ⟨rfl, rfl, rfl, rfl⟩ | ⟨x, rfl, hl, hm, hz, hc, hw⟩
  · exact ⟨Nat.le_refl _, Ints.nil _ _ _⟩
  · refine ⟨hl, by rw [List.length_take]; omega, by omega, fun i hi => ⟨x, rfl, ?_⟩, fun z hz => hw z (List.mem_of_mem_take hz)⟩
    rw [hc i (by omega)]; simp [hi]

theorem add0 (b o j : Nat) : (⟨b, o, none⟩ : Addr).add j = ⟨b, o + j, none⟩ := by unfold Addr.add; split <;> simp_all

/-- The integers of a block that has just been made. -/
theorem Ints.new (k : IntKind) (w : World) (zs : List Int) (e : TypeId) (fr : Nat × Nat) (cs : Array Value) (hcs : cs = (zs.map (Value.int k)).toArray) (n : Nat) (hn : zs.length = n) (hm : n ≤ maxLen) (hw : ∀ z ∈ zs, (Lit.int k z).wf = true) :
    Ints k (w.alloc (.cells cs e fr)) (some ⟨w.heap.size, 0, none⟩) n zs := by
  subst hcs
  refine ⟨hn, hm, fun i hi => ⟨_, rfl, ?_⟩, hw⟩
  have hb : (w.alloc (.cells (zs.map (Value.int k)).toArray e fr)).heap[w.heap.size]? = some (.cells (zs.map (Value.int k)).toArray e fr) := by
    show (w.heap.push _)[w.heap.size]? = _
    simp
  rw [add0, cell_of_row _ _ _ _ _ _ hb]
  simp [show i < zs.length by omega]

/-- One cell of a slice of bytes: a natural number below 256. -/
theorem Ints.byte {w : World} {ao : Option Addr} {len : Nat} {zs : List Int} (h : Ints .u8 w ao len zs) {i : Nat} (hi : i < len) :
    ∃ (a : Addr) (c : Nat), ao = some a ∧ Hid (zs.getD i 0 = (c : Int)) ∧ w.cell? (a.add i) = some (.int .u8 c) ∧ c < 256 := by
  obtain ⟨a, ha, hc⟩ := h.cell i hi
  have h2 := bounds_u8 (h.wf (zs.getD i 0) (by simp [List.getElem?_eq_getElem (show i < zs.length by rw [h.hlen]; exact hi)]))
  refine ⟨a, (zs.getD i 0).toNat, ha, ?_, ?_, by omega⟩
  · unfold Hid; omega
  · rw [hc]; congr 2; omega

/-- One cell of a slice of ints. -/
theorem Ints.int {w : World} {ao : Option Addr} {len : Nat} {zs : List Int} (h : Ints .i64 w ao len zs) {i : Nat} (hi : i < len) :
    ∃ (a : Addr) (c : Int), ao = some a ∧ Hid (zs.getD i 0 = c) ∧ w.cell? (a.add i) = some (.int .i64 c) ∧ -9223372036854775808 ≤ c ∧ c ≤ 9223372036854775807 := by
  obtain ⟨a, ha, hc⟩ := h.cell i hi
  have h2 := bounds_i64 (h.wf (zs.getD i 0) (by simp [List.getElem?_eq_getElem (show i < zs.length by rw [h.hlen]; exact hi)]))
  exact ⟨a, zs.getD i 0, ha, rfl, hc, h2.1, h2.2⟩

theorem take_succ_getD (zs : List Int) (k : Nat) (h : k < zs.length) : zs.take (k + 1) = zs.take k ++ [zs.getD k 0] := by
  rw [List.take_succ_eq_append_getElem h]; simp [List.getElem?_eq_getElem h]

theorem bcell {W w1 : World} (hb : Below W.heap.size W w1) : (∀ b o, b < W.heap.size → w1.cell? ⟨b, o, none⟩ = W.cell? ⟨b, o, none⟩) ∧ (∀ b o, b < W.heap.size → w1.frozen? ⟨b, o, none⟩ = W.frozen? ⟨b, o, none⟩) :=
  ⟨fun b o h => hb.cell (p := ⟨b, o, none⟩) h, fun b o h => hb.frozen (p := ⟨b, o, none⟩) h⟩

/-- Values written over a row from a place on. -/
def spl : Array Value → Nat → List Value → Array Value
  | cs, _, [] => cs
  | cs, o, v :: r => spl (cs.setIfInBounds o v) (o + 1) r
theorem spl_size (vs : List Value) : ∀ (cs : Array Value) (o : Nat), (spl cs o vs).size = cs.size := by
  induction vs with
  | nil => intro cs o; rfl
  | cons v r ih => intro cs o; simp [spl, ih]
theorem spl_get (vs : List Value) : ∀ (cs : Array Value) (o j : Nat), o + vs.length ≤ cs.size → (spl cs o vs)[j]? = if o ≤ j ∧ j < o + vs.length then vs[j - o]? else cs[j]? := by
  induction vs with
  | nil => intro cs o j _; simp only [spl, List.length_nil]; rw [if_neg (by omega)]
  | cons v r ih =>
    intro cs o j h
    simp only [List.length_cons] at h
    rw [spl, ih _ _ _ (by simp; omega)]
    by_cases hj : j = o
    · subst hj
      rw [if_neg (by omega), if_pos (by simp), Array.getElem?_setIfInBounds_self_of_lt (by omega)]
      simp
    · by_cases h2 : o + 1 ≤ j ∧ j < o + 1 + r.length
      · rw [if_pos h2, if_pos (by simp; omega), show j - o = (j - (o + 1)) + 1 by omega]
        simp
      · rw [if_neg h2, if_neg (by simp; omega), Array.getElem?_setIfInBounds_ne (by omega)]
theorem spl_all (cs : Array Value) (vs : List Value) (h : vs.length = cs.size) : spl cs 0 vs = vs.toArray := by
  apply Array.ext_getElem?
  intro j
  rw [spl_get vs cs 0 j (by omega)]
  by_cases hj : j < vs.length
  · rw [if_pos (by omega)]; simp
  · rw [if_neg (by omega), Array.getElem?_eq_none (by omega)]; simp; omega
theorem setCells_block (vs : List Value) : ∀ (w : World) (b o : Nat) (cs : Array Value) (t : TypeId), w.heap[b]? = some (.cells cs t (0, 0)) → (w.setCells b o vs).heap[b]? = some (.cells (spl cs o vs) t (0, 0)) := by
  induction vs with
  | nil => intro w b o cs t h; exact h
  | cons v r ih => intro w b o cs t h; exact ih _ _ _ _ _ (heap_setCell_same _ _ _ _ _ _ h)
theorem setCells_other (vs : List Value) : ∀ (w : World) (b o k : Nat), k ≠ b → (w.setCells b o vs).heap[k]? = w.heap[k]? := by
  induction vs with
  | nil => intro w b o k _; rfl
  | cons v r ih => intro w b o k h; rw [World.setCells, ih _ _ _ _ h, heap_setCell_other _ _ _ _ h]
theorem Below_setCells (vs : List Value) : ∀ {B : Nat} {a w : World} (_ : Below B a w) {b : Nat} (_ : B ≤ b) (o : Nat), Below B a (w.setCells b o vs) := by
  induction vs with
  | nil => intro B a w h b _ o; exact h
  | cons v r ih => intro B a w h b hb o; exact ih (h.setCell (by exact hb) v) hb _

theorem below_alloc (w : World) (o : Obj) : Below w.heap.size w (w.alloc o) := (Below.refl _ _).alloc (Nat.le_refl _) _
/-- From w to w' only blocks of S, and new ones, have been written. -/
structure Keeps (S : Nat → Prop) (w w' : World) : Prop where
  os : w'.os = w.os
  tape : w'.tape = w.tape
  output : w'.output = w.output
  size : w.heap.size ≤ w'.heap.size
  block : ∀ k, k < w.heap.size → ¬ S k → w'.heap[k]? = w.heap[k]?

namespace Keeps
variable {S S' : Nat → Prop} {a w w' : World}
theorem refl (S : Nat → Prop) (w : World) : Keeps S w w := ⟨rfl, rfl, rfl, Nat.le_refl _, fun _ _ _ => rfl⟩
theorem trans (h : Keeps S a w) (k : Keeps S w w') : Keeps S a w' :=
  ⟨k.os.trans h.os, k.tape.trans h.tape, k.output.trans h.output, Nat.le_trans h.size k.size, fun i hi hs => (k.block i (Nat.lt_of_lt_of_le hi h.size) hs).trans (h.block i hi hs)⟩
theorem mono (h : Keeps S w w') (hs : ∀ k, k < w.heap.size → S k → S' k) : Keeps S' w w' := ⟨h.os, h.tape, h.output, h.size, fun k hk hn => h.block k hk fun e => hn (hs k hk e)⟩
/-- The two steps, where the second may have written what the first has made. -/
theorem andThen (h : Keeps S a w) (k : Keeps S' w w') (hs : ∀ i, i < a.heap.size → S' i → S i) : Keeps S a w' :=
  ⟨k.os.trans h.os, k.tape.trans h.tape, k.output.trans h.output, Nat.le_trans h.size k.size, fun i hi hn => (k.block i (Nat.lt_of_lt_of_le hi h.size) fun e => hn (hs i hi e)).trans (h.block i hi hn)⟩
theorem drew (h : Keeps S a w) : Keeps S a w.drew := ⟨h.os, h.tape, h.output, h.size, h.block⟩
theorem drewN (h : Keeps S a w) (n : Nat) : Keeps S a (w.drewN n) := ⟨h.os, h.tape, h.output, h.size, h.block⟩
theorem alloc (h : Keeps S a w) (o : Obj) : Keeps S a (w.alloc o) :=
  h.trans ⟨rfl, rfl, rfl, by simp, fun _ hk _ => Below.heap_alloc _ _ _ hk⟩
theorem setCell (h : Keeps S a w) {p : Addr} (hp : a.heap.size ≤ p.block ∨ S p.block) (v : Value) : Keeps S a (w.setCell p v) :=
  h.andThen (S' := fun k => k = p.block) ⟨rfl, rfl, rfl, by simp [World.setCell], fun k _ hn => Below.heap_setCell _ _ _ _ hn⟩ fun i hi e => by
    rcases hp with hp | hp
    · omega
    · exact e ▸ hp
theorem below (h : Keeps S a w) {B : Nat} (hb : Below B w w') (hB : a.heap.size ≤ B) : Keeps S a w' :=
  ⟨hb.os.trans h.os, hb.tape.trans h.tape, hb.output.trans h.output, Nat.le_trans h.size hb.size, fun i hi hn => (hb.block i (by omega)).trans (h.block i hi hn)⟩
theorem ofBelow {B : Nat} (hb : Below B w w') (hB : w.heap.size ≤ B) : Keeps S w w' := (Keeps.refl S w).below hb hB
theorem grown {row : Option Nat} (h : Keeps S a w) (hg : w.grownBy w' row) (hr : ∀ k, row = some k → a.heap.size ≤ k ∨ S k) : Keeps S a w' :=
  h.andThen (S' := fun k => some k = row) ⟨hg.os, hg.tape, hg.output, hg.size, fun k hk hn => hg.block k hk hn⟩ fun i hi e => by
    rcases hr i e.symm with h | h
    · omega
    · exact h
theorem setCells (vs : List Value) : ∀ {w : World} (_ : Keeps S a w) {b : Nat} (_ : a.heap.size ≤ b ∨ S b) (o : Nat), Keeps S a (w.setCells b o vs) := by
  induction vs with
  | nil => intro w h b _ o; exact h
  | cons v r ih => intro w h b hb o; exact ih (h.setCell (by exact hb) v) hb _
/-- Nothing of what there was has been written. -/
theorem toBelow (h : Keeps S a w) {B : Nat} (hB : B ≤ a.heap.size) (hs : ∀ k, k < B → ¬ S k) : Below B a w :=
  ⟨h.os, h.tape, h.output, h.size, fun k hk => h.block k (by omega) (hs k hk)⟩
theorem heap (h : Keeps S w w') {b : Nat} {o : Obj} (hb : w.heap[b]? = some o) (hn : ¬ S b) : w'.heap[b]? = some o :=
  (h.block b (Array.getElem?_eq_some_iff.1 hb).1 hn).trans hb
theorem cell (h : Keeps S w w') {p : Addr} {v : Value} (hc : w.cell? p = some v) (hn : ¬ S p.block) : w'.cell? p = some v :=
  (World.cell?_of_block (h.block p.block (World.block_lt_of_cell? w p hc) hn)).trans hc
end Keeps

theorem Row.kept {S : Nat → Prop} {w w' : World} {ao : Option Addr} {len : Nat} {xs : List Value} (h : Row w ao len xs) (hk : Keeps S w w') (hS : ∀ a, ao = some a → ¬ S a.block) : Row w' ao len xs :=
  ⟨h.hlen, fun i v hv => by
    obtain ⟨a, ha, hc⟩ := h.cell i v hv
    exact ⟨a, ha, hk.cell hc (by rw [Addr.add_block]; exact hS a ha)⟩⟩
theorem Ints.kept {S : Nat → Prop} {k : IntKind} {w w' : World} {ao : Option Addr} {len : Nat} {zs : List Int} (h : Ints k w ao len zs) (hk : Keeps S w w') (hS : ∀ a, ao = some a → ¬ S a.block) : Ints k w' ao len zs :=
  ⟨h.hlen, h.lim, fun i hi => by
    obtain ⟨a, ha, hc⟩ := h.cell i hi
    exact ⟨a, ha, hk.cell hc (by rw [Addr.add_block]; exact hS a ha)⟩, h.wf⟩
/-- A slice's block lies below B. -/
def Under (ao : Option Addr) (B : Nat) : Prop := ∀ a, ao = some a → a.block < B
theorem Ints.under {k : IntKind} {w : World} {ao : Option Addr} {len : Nat} {zs : List Int} (h : Ints k w ao len zs) (hl : 0 < len) : Under ao w.heap.size := fun a ha => by
  obtain ⟨a', ha', hc⟩ := h.cell 0 hl
  obtain rfl : a' = a := by rw [ha] at ha'; exact (Option.some.inj ha').symm
  have := World.block_lt_of_cell? w _ hc
  rwa [Addr.add_block] at this

theorem wpList_built {P : Program} {ops : Array Oper} {rest : List Oper} {o : Oper} {a : Act} {w : World} {Q : Exit → Act → World → Prop} (hgd : o.guard = none) (t : TypeId) (parts : Array (Nat × Operand)) (ho : o.op = .build t parts)
    (l : List (Nat × Value)) (hl : (parts.map fun (i, x) => (i, a.eval x)).toList = l) (cells : Array Value) (hc : P.built t l = some cells)
    (h : wpList P ops Q rest (a.put o.dst (.agg cells)) w) : wpList P ops Q (o :: rest) a w := by
  subst hl
  exact wpList_plain hgd fun _ hK => wp_build t parts ho (by rw [hc]; rfl) (hK _ _ (by rw [hc]; exact h))

/-- What a call owns, as a slice. -/
theorem own_slice {w : World} {base e : Nat} {v : Value} {n : Nat} {xs : List Value} (h : w.ownsRow base e 1 v n xs) :
    ∃ ao cap, v = .slice ao n cap ∧ n ≤ cap ∧ Row w ao n xs ∧ n ≤ maxLen ∧ Under ao w.heap.size ∧ (∀ a, ao = some a → base ≤ a.block ∧ ∃ cs, w.heap[a.block]? = some (.cells cs e (0, 0))) := by
  have hx := h.1
  rcases h.2 with ⟨rfl, rfl⟩ | ⟨g, cap, cur, rfl, hb, hg, hn, hc, hs, ht⟩
  · refine ⟨none, 0, rfl, Nat.le_refl _, ⟨by simpa using hx, ?_⟩, by unfold maxLen; omega, fun a ha => (by cases ha), fun a ha => (by cases ha)⟩
    have : xs = [] := List.eq_nil_of_length_eq_zero (by simpa using hx)
    subst this
    intro i v hv; simp at hv
  · refine ⟨_, cap, rfl, hn, ⟨by simpa using hx, fun i v hv => ⟨_, rfl, h.cells (g := g) rfl i v hv⟩⟩, by omega, fun a ha => ?_, fun a ha => ?_⟩
    · cases ha; exact (Array.getElem?_eq_some_iff.1 hg).1
    · cases ha; exact ⟨hb, _, hg⟩
theorem Row.ints {w : World} {ao : Option Addr} {n : Nat} {k : IntKind} {zs : List Int} (h : Row w ao n (zs.map (Value.int k))) (hm : n ≤ maxLen) (hw : ∀ z ∈ zs, (Lit.int k z).wf = true) : Ints k w ao n zs := by
  have hl : zs.length = n := by have := h.hlen; simpa using this
  refine ⟨hl, hm, fun i hi => ?_, hw⟩
  exact h.cell i _ (by simp [show i < zs.length by omega])
/-- The one cell that 'append(out, x)' lays in a new block. -/
theorem one_new (w : World) (v : Value) (t : TypeId) : ∀ j u, [v][j]? = some u → (w.alloc (.cells #[v] t)).cell? ((⟨w.heap.size, 0, none⟩ : Addr).add j) = some u := by
  intro j u hu
  have hj : j = 0 := by
    have := (List.getElem?_eq_some_iff.1 hu).1
    simp at this; omega
  subst hj
  simp at hu; subst hu
  rw [add0, cell_of_row _ _ _ _ _ _ (heap_alloc_new _ _)]; rfl
theorem one_ownCell {v : Value} (h : v.oneCell' = true) : ∀ u ∈ [v], u.oneCell' = true := by simpa using h
theorem owns_kept {w w' : World} {S : Nat → Prop} {base e size : Nat} {v : Value} {n : Nat} {xs : List Value} (h : w.ownsRow base e size v n xs) (hk : Keeps S w w') (hS : ∀ k, v.ownBlock = some k → ¬ S k) : w'.ownsRow base e size v n xs := by
  refine ⟨h.1, ?_⟩
  rcases h.2 with hn | ⟨g, cap, cur, rfl, hb, hg, rest⟩
  · exact .inl hn
  · exact .inr ⟨g, cap, cur, rfl, hb, hk.heap hg (hS g rfl), rest⟩
theorem own_block_type {w : World} {base e size : Nat} {v : Value} {n : Nat} {xs : List Value} (h : w.ownsRow base e size v n xs) {k : Nat} (hk : v.ownBlock = some k) : ∃ cs, w.heap[k]? = some (.cells cs e (0, 0)) := by
  rcases h.2 with ⟨rfl, _⟩ | ⟨g, cap, cur, rfl, _, hg, _⟩
  · simp [Value.ownBlock] at hk
  · simp [Value.ownBlock] at hk; subst hk; exact ⟨_, hg⟩
/-- Blocks of two types are two. -/
theorem block_ne {w : World} {a b t u : Nat} {cs ds : Array Value} {f g : Nat × Nat} (h : w.heap[a]? = some (.cells cs t f)) (k : w.heap[b]? = some (.cells ds u g)) (ht : t ≠ u) : a ≠ b := by
  intro e; subst e; rw [h] at k; simp at k; exact ht k.2.1
/-- 'append(out, x)': one element of one cell, onto what the call owns. The one new cell is laid in a block of its own just ahead. -/
theorem wpList_append_one {P : Program} {w : World} {ops : Array Oper} {rest : List Oper} {o : Oper} {a : Act} {Q : Exit → Act → World → Prop} (hgd : o.guard = none) (s x : Operand) (t e : TypeId)
    (ho : o.op = .call { callee := .builtin .append, args := #[s, x], argTypes := #[t, t] }) (hu : P.underlying t = some (.slice e))
    {z : Value} {bytes : Nat} (hinfo : (P.info? e).map (fun i => (i.zero, i.size, i.bytes)) = some (some z, 1, bytes)) (hz1 : z.cells.size = 1)
    (B : Nat) (v : Value) (n : Nat) (xs : List Value) (hs : a.eval s = v) (hown : w.ownsRow B e 1 v n xs) (u : Value) (hx : a.eval x = .slice (some ⟨w.heap.size, 0, none⟩) 1 1) (h1 : u.oneCell' = true)
    (hbd : (n + 1) * bytes ≤ 140737488355328) (hn : n + 1 ≤ maxLen) (hB : B ≤ w.heap.size)
    (h : ∀ v' w', w'.ownsRow B e 1 v' (n + 1) (xs ++ [u]) → Keeps (fun k => v.ownBlock = some k) w w' → wpList P ops Q rest (a.put o.dst v') w') : wpList P ops Q (o :: rest) a (w.alloc (.cells #[u] e)) := by
  obtain ⟨i, hi, hz, hsz, hby⟩ := info_parts hinfo
  refine wpList_append_own _ hgd s x t ho B e i z 1 bytes hu hi hz hsz hby hz1 (by decide) v n xs hs (hown.alloc _) ⟨w.heap.size, 0, none⟩ 1 1 [u] hx rfl (one_new _ _ _) (one_ownCell h1) hn hbd (by simp; omega) ?_
  intro v' w' hown' hg _
  exact h v' w' hown' (((Keeps.refl _ w).alloc _).grown hg fun k hk => .inr hk)
/-- What a call owns lies from B on: so what it has written lies there. -/
theorem owns_below {w w' : World} {B e size : Nat} {v : Value} {n : Nat} {xs : List Value} (h : w.ownsRow B e size v n xs) (hk : Keeps (fun k => v.ownBlock = some k) w w') (hB : B ≤ w.heap.size) : Below B w w' :=
  hk.toBelow hB fun k hkB hv => by have := (h.lt k hv).1; omega
/-- Where a slice is not empty, its address, and all its cells. -/
theorem Ints.some {k : IntKind} {w : World} {ao : Option Addr} {len : Nat} {zs : List Int} (h : Ints k w ao len zs) (hl : 0 < len) : ∃ a, ao = Option.some a ∧ ∀ i, i < len → w.cell? (a.add i) = Option.some (.int k (zs.getD i 0)) := by
  obtain ⟨a, ha, _⟩ := h.cell 0 hl
  refine ⟨a, ha, fun i hi => ?_⟩
  obtain ⟨a', ha', hc⟩ := h.cell i hi
  rw [ha] at ha'; cases ha'; exact hc
theorem getD_wf {k : IntKind} {zs : List Int} (h : ∀ z ∈ zs, (Lit.int k z).wf = true) (h0 : (Lit.int k 0).wf = true) (i : Nat) : (Lit.int k (zs.getD i 0)).wf = true := by
  by_cases hi : i < zs.length
  · rw [show zs.getD i 0 = zs[i] by simp [hi]]; exact h _ (List.getElem_mem _)
  · rw [show zs.getD i 0 = 0 by simp [Nat.le_of_not_lt hi]]; exact h0
theorem bstep {a x y : World} (h : Below a.heap.size a x) (k : Below x.heap.size x y) : Below a.heap.size a y := h.trans (k.mono h.size)
theorem balloc {a x : World} (h : Below a.heap.size a x) (o : Obj) : Below a.heap.size a (x.alloc o) := h.alloc h.size o
theorem ret_int {k : IntKind} {a b : Int} (h : a = b) : Ending.returned (.int k a) = .returned (.int k b) := by rw [h]
theorem ret_bool {a b : Bool} (h : a = b) : Ending.returned (.bool a) = .returned (.bool b) := by rw [h]
end Go.Calli

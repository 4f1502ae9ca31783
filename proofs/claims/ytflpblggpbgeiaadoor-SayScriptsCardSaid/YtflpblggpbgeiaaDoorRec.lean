/- append(out, x) of one record (an element of several cells) onto what the call owns; slices of records. No program in sight. -/
import Derived.Test.YtflpblggpbgeiaaDoorCommon
import Derived.Laws.BytesArg
import Derived.Deep.RegionLaw
namespace Go.Calli
open Go.RowKit
/-- The cells that 'append(out, x)' lays in a new block, for a record. -/
theorem rec_new (w : World) (us : List Value) (t : TypeId) : ∀ j u, us[j]? = some u → (w.alloc (.cells us.toArray t)).cell? ((⟨w.heap.size, 0, none⟩ : Addr).add j) = some u := by
  intro j u hu
  rw [add0, cell_of_row _ _ _ _ _ _ (heap_alloc_new _ _)]
  simpa using hu
theorem wpList_append_rec {P : Program} {w : World} {ops : Array Oper} {rest : List Oper} {o : Oper} {a : Act} {Q : Exit → Act → World → Prop} (hgd : o.guard = none) (s x : Operand) (t e : TypeId) (size : Nat)
    (ho : o.op = .call { callee := .builtin .append, args := #[s, x], argTypes := #[t, t] }) (hu : P.underlying t = some (.slice e))
    {z : Value} {bytes : Nat} (hinfo : (P.info? e).map (fun i => (i.zero, i.size, i.bytes)) = some (some z, size, bytes)) (hz1 : z.cells.size = size) (hs0 : 0 < size)
    (B : Nat) (v : Value) (n : Nat) (xs : List Value) (hs : a.eval s = v) (hown : w.ownsRow B e size v n xs) (us : List Value) (hus : us.length = size) (hx : a.eval x = .slice (some ⟨w.heap.size, 0, none⟩) 1 1) (h1 : ∀ u ∈ us, u.oneCell' = true)
    (hbd : (n + 1) * bytes ≤ 140737488355328) (hn : n + 1 ≤ maxLen) (hB : B ≤ w.heap.size)
    (h : ∀ v' w', w'.ownsRow B e size v' (n + 1) (xs ++ us) → Keeps (fun k => v.ownBlock = some k) w w' → wpList P ops Q rest (a.put o.dst v') w') : wpList P ops Q (o :: rest) a (w.alloc (.cells us.toArray e)) := by
  obtain ⟨i, hi, hz, hsz, hby⟩ := info_parts hinfo
  refine wpList_append_own _ hgd s x t ho B e i z size bytes hu hi hz hsz hby hz1 hs0 v n xs hs (hown.alloc _) ⟨w.heap.size, 0, none⟩ 1 1 us hx (by rw [hus]; omega) (rec_new _ _ _) h1 hn hbd (by simp; omega) ?_
  intro v' w' hown' hg _
  exact h v' w' hown' (((Keeps.refl _ w).alloc _).grown hg fun k hk => .inr hk)
/-- The same, as the run's equation. -/
theorem run_append_rec {P : Program} (w : World) (t ty e : TypeId) (size : Nat) (hu : P.underlying t = some (.slice e))
    {z : Value} {bytes : Nat} (hinfo : (P.info? e).map (fun i => (i.zero, i.size, i.bytes)) = some (some z, size, bytes)) (hz1 : z.cells.size = size) (hs0 : 0 < size)
    (B : Nat) (v : Value) (n : Nat) (xs : List Value) (hown : w.ownsRow B e size v n xs) (us : List Value) (hus : us.length = size) (h1 : ∀ u ∈ us, u.oneCell' = true)
    (hbd : (n + 1) * bytes ≤ 140737488355328) (hn : n + 1 ≤ maxLen) (hB : B ≤ w.heap.size) :
    ∃ v' w', (Builtin.append_ #[t, t] ty #[v, .slice (some ⟨w.heap.size, 0, none⟩) 1 1]).run P (w.alloc (.cells us.toArray e)) = .ok v' w' ∧ w'.ownsRow B e size v' (n + 1) (xs ++ us) ∧ Keeps (fun k => v.ownBlock = some k) w w' := by
  obtain ⟨i, hi, hz, hsz, hby⟩ := info_parts hinfo
  obtain ⟨v', w', hr, h2, h3, _⟩ := run_append_own (P := P) (w.alloc (.cells us.toArray e)) B t ty e i z size bytes hu hi hz hsz hby hz1 hs0 v n xs (hown.alloc _) ⟨w.heap.size, 0, none⟩ 1 1 us (by rw [hus]; omega) (rec_new _ _ _) h1 hn hbd (by simp; omega)
  exact ⟨v', w', hr, h2, ((Keeps.refl _ w).alloc _).grown h3 fun k hk => .inr hk⟩
/-- An append whose run is known, as one step of a region that draws. -/
theorem step_append_eq {P : Program} {w w' : World} {ops : Array Oper} {o : Oper} {a : Act} {K : Act → World → Prop} {Q : Exit → Act → World → Prop} {E : Prop} (hgd : o.guard = none) (s x : Operand) (t u : TypeId)
    (ho : o.op = .call { callee := .builtin .append, args := #[s, x], argTypes := #[t, u] }) {v v' z : Value} (hs : a.eval s = v) (hx : a.eval x = z) (hr : (Builtin.append_ #[t, u] o.type #[v, z]).run P w = .ok v' w')
    (hK : K (a.put o.dst v') w') : if Region.wanted o (yielded ops a.tmps) = true then Oper.wp P o a w K Q else E := by
  have hw : Region.wanted o (yielded ops a.tmps) = true := by simp [Region.wanted, hgd]
  rw [if_pos hw]
  unfold Oper.wp
  simp [execOp, ho, resolve, invoke, builtin, hs, hx, hr, Result.andThen]
  exact hK
/-- Rows of records: the cells of the i-th. -/
theorem flat_at {α : Type} (f : α → List Value) (size : Nat) (hf : ∀ x, (f x).length = size) (d : α) (ms : List α) : ∀ (i j : Nat), i < ms.length → j < size → (ms.flatMap f)[i * size + j]? = (f (ms.getD i d))[j]? := by
  induction ms with
  | nil => intro i j hi; simp at hi
  | cons m r ih =>
    intro i j hi hj
    have hl := hf m
    rw [List.flatMap_cons]
    cases i with
    | zero =>
      rw [Nat.zero_mul, Nat.zero_add, List.getElem?_append_left (by omega)]
      simp
    | succ i =>
      have e : (i + 1) * size = i * size + size := Nat.succ_mul i size
      rw [List.getElem?_append_right (by omega), hl, show (i + 1) * size + j - size = i * size + j by omega, ih i j (by simpa using hi) hj]
      simp
theorem flat_length {α : Type} (f : α → List Value) (size : Nat) (hf : ∀ x, (f x).length = size) (ms : List α) : (ms.flatMap f).length = ms.length * size := by
  induction ms with
  | nil => simp
  | cons m r ih => rw [List.flatMap_cons, List.length_append, ih, hf, List.length_cons, Nat.succ_mul]; omega
/-- A slice of records: each record's cells. -/
structure Recs {α : Type} (f : α → List Value) (size : Nat) (d : α) (w : World) (ao : Option Addr) (n : Nat) (ms : List α) : Prop where
  hlen : ms.length = n
  lim : n ≤ maxLen
  cell : ∀ i, i < n → ∃ a, ao = some a ∧ ∀ j u, (f (ms.getD i d))[j]? = some u → w.cell? ((a.add (i * size)).add j) = some u
theorem Recs.nil {α : Type} (f : α → List Value) (size : Nat) (d : α) (w : World) (ao : Option Addr) : Recs f size d w ao 0 [] := ⟨rfl, by unfold maxLen; omega, fun i hi => by omega⟩
theorem Recs.keep0 {α : Type} {f : α → List Value} {size : Nat} {d : α} {w w' : World} {ao : Option Addr} {n : Nat} {ms : List α} (h : Recs f size d w ao n ms) (hb : Below w.heap.size w w') : Recs f size d w' ao n ms :=
  ⟨h.hlen, h.lim, fun i hi => by
    obtain ⟨a, ha, hc⟩ := h.cell i hi
    exact ⟨a, ha, fun j u hu => by rw [hb.cell (World.block_lt_of_cell? w _ (hc j u hu))]; exact hc j u hu⟩⟩
theorem Recs.kept {α : Type} {f : α → List Value} {size : Nat} {d : α} {S : Nat → Prop} {w w' : World} {ao : Option Addr} {n : Nat} {ms : List α} (h : Recs f size d w ao n ms) (hk : Keeps S w w') (hS : ∀ a, ao = some a → ¬ S a.block) : Recs f size d w' ao n ms :=
  ⟨h.hlen, h.lim, fun i hi => by
    obtain ⟨a, ha, hc⟩ := h.cell i hi
    exact ⟨a, ha, fun j u hu => hk.cell (hc j u hu) (by rw [Addr.add_block, Addr.add_block]; exact hS a ha)⟩⟩
theorem Recs.take {α : Type} {f : α → List Value} {size : Nat} {d : α} {w : World} {ao : Option Addr} {n k : Nat} {ms : List α} (h : Recs f size d w ao n ms) (hk : k ≤ n) : Recs f size d w ao k (ms.take k) :=
  ⟨by rw [List.length_take, h.hlen]; omega, Nat.le_trans hk h.lim, fun i hi => by
    obtain ⟨a, ha, hc⟩ := h.cell i (by omega)
    refine ⟨a, ha, ?_⟩
    have e : (ms.take k).getD i d = ms.getD i d := by simp [List.getD, hi]
    rw [e]; exact hc⟩
/-- What a call owns, as records. -/
theorem own_recs {α : Type} {f : α → List Value} {size : Nat} (d : α) (hf : ∀ x, (f x).length = size) (hs0 : 0 < size) {w : World} {base e : Nat} {v : Value} {n : Nat} {ms : List α} (h : w.ownsRow base e size v n (ms.flatMap f)) :
    ∃ ao cap, v = .slice ao n cap ∧ n ≤ cap ∧ Recs f size d w ao n ms ∧ (∀ a, ao = some a → base ≤ a.block ∧ a.off = 0 ∧ a.spot = none ∧ v.ownBlock = some a.block) := by
  have hx := h.1
  rw [flat_length f size hf] at hx
  have hml : ms.length = n := Nat.eq_of_mul_eq_mul_right hs0 hx
  rcases h.2 with ⟨rfl, rfl⟩ | ⟨g, cap, cur, rfl, hb, hg, hn, hc, hs, ht⟩
  · have : ms = [] := List.eq_nil_of_length_eq_zero hml
    subst this
    exact ⟨none, 0, rfl, by omega, Recs.nil _ _ _ _ _, fun a ha => by cases ha⟩
  · refine ⟨_, cap, rfl, hn, ⟨hml, by omega, fun i hi => ⟨_, rfl, fun j u hu => ?_⟩⟩, fun a ha => by cases ha; exact ⟨hb, rfl, rfl, rfl⟩⟩
    have hj : j < size := by
      have := (List.getElem?_eq_some_iff.1 hu).1
      rw [hf] at this; exact this
    have := h.cells (g := g) rfl (i * size + j) u (by rw [flat_at f size hf d ms i j (by omega) hj]; exact hu)
    rw [add0] at this
    rw [add0, add0, Nat.zero_add]
    rwa [Nat.zero_add] at this
theorem own_below0 {w w' : World} {B e size n : Nat} {v : Value} {xs : List Value} (h : w.ownsRow B e size v n xs) (hb : Below w.heap.size w w') : w'.ownsRow B e size v n xs := owns_kept (S := fun _ => False) h (Keeps.ofBelow hb (Nat.le_refl _)) (fun _ _ h => h)
end Go.Calli

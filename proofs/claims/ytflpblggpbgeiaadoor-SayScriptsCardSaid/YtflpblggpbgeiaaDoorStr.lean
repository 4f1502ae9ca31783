/- append(out, s...) of a string; strings and lists of bytes. No program in sight. -/
import Derived.Test.YtflpblggpbgeiaaDoorApp
import Derived.Lib.AppendStr
namespace Go.Calli
open Go.RowKit
theorem strOfNums_append (a b : List Int) : strOfNums a ++ strOfNums b = strOfNums (a ++ b) := by
  apply ByteArray.ext
  rw [ByteArray.data_append]
  simp [strOfNums]
theorem strOfNums_extract (l : List Int) (a b : Nat) : (strOfNums l).extract a b = strOfNums ((l.take b).drop a) := by
  apply ByteArray.ext
  rw [ByteArray.data_extract]
  apply Array.ext'
  simp [strOfNums, List.extract_eq_take_drop, List.map_drop, List.map_take, List.drop_take]
/-- A string's bytes. -/
def numsOf (s : ByteArray) : List Int := s.data.toList.map fun c => (c.toNat : Int)
theorem strOf_numsOf (s : ByteArray) : strOfNums (numsOf s) = s := by
  apply ByteArray.ext
  apply Array.ext'
  simp only [strOfNums, numsOf, List.map_map]
  conv => rhs; rw [← List.map_id s.data.toList]
  apply List.map_congr_left
  intro c _
  simp
theorem numsOf_len (s : ByteArray) : (numsOf s).length = s.size := by
  unfold numsOf
  rw [List.length_map]
  rfl
theorem numsOf_byt (s : ByteArray) : ∀ z ∈ numsOf s, 0 ≤ z ∧ z < 256 := by
  intro z hz
  simp only [numsOf, List.mem_map] at hz
  obtain ⟨c, _, rfl⟩ := hz
  have := c.toNat_lt
  omega
theorem numsOf_str {l : List Int} (h : ∀ z ∈ l, 0 ≤ z ∧ z < 256) : numsOf (strOfNums l) = l := by
  simp only [numsOf, strOfNums, List.map_map]
  conv => rhs; rw [← List.map_id l]
  apply List.map_congr_left
  intro z hz
  have := h z hz
  simp; omega
theorem strOfNums_inj {a b : List Int} (ha : ∀ z ∈ a, 0 ≤ z ∧ z < 256) (hb : ∀ z ∈ b, 0 ≤ z ∧ z < 256) (h : strOfNums a = strOfNums b) : a = b := by
  rw [← numsOf_str ha, ← numsOf_str hb, h]
theorem strCells_nums {l : List Int} (h : ∀ z ∈ l, 0 ≤ z ∧ z < 256) : Lib.strCells (strOfNums l) = l.map (Value.int .u8) := by
  simp [Lib.strCells, strOfNums]
  intro z hz
  have := h z hz
  omega
theorem wpList_append_str {P : Program} {w : World} {ops : Array Oper} {rest : List Oper} {o : Oper} {a : Act} {Q : Exit → Act → World → Prop} (hgd : o.guard = none) (sl x : Operand) (t u : TypeId)
    (ho : o.op = .call { callee := .builtin .append, args := #[sl, x], argTypes := #[t, u] })
    (B : Nat) (e : TypeId) (ht : P.underlying t = some (.slice e)) (hu : P.underlying u = some .string)
    (hinfo : (P.info? e).map (fun i => (i.zero, i.size, i.bytes)) = some (some (.int .u8 0), 1, 1))
    (v : Value) (n : Nat) (xs : List Value) (hs : a.eval sl = v) (hown : w.ownsRow B e 1 v n xs) (zs : List Int) (hz : ∀ z ∈ zs, 0 ≤ z ∧ z < 256) (hx : a.eval x = .string (strOfNums zs))
    (hbytes : n + zs.length ≤ 140737488355328) (hB : B ≤ w.heap.size)
    (h : ∀ v' w', w'.ownsRow B e 1 v' (n + zs.length) (xs ++ zs.map (Value.int .u8)) → Keeps (fun k => v.ownBlock = some k) w w' → wpList P ops Q rest (a.put o.dst v') w') : wpList P ops Q (o :: rest) a w := by
  obtain ⟨i, hi, h0, h1, h2⟩ := info_parts hinfo
  have hsz := strOfNums_size zs
  refine Lib.wpList_append_own_string (w := w) hgd sl x t u ho B e i ht hu hi h0 h1 h2 v n xs hs hown (strOfNums zs) hx (by rw [hsz]; unfold maxLen; omega) (by rw [hsz]; exact hbytes) hB ?_
  intro v' w' hown' hg _
  rw [hsz, strCells_nums hz] at hown'
  exact h v' w' hown' ((Keeps.refl _ w).grown hg fun k hk => .inr hk)
/-- What lies ahead of what a call owns stays as it was. -/
theorem ints_far {k : IntKind} {W w1 : World} {B e size N n : Nat} {v : Value} {xs : List Value} {ao : Option Addr} {zs : List Int} (hdt : Ints k W ao n zs) (hU : n ≠ 0 → ∀ a, ao = some a → a.block < B) (hown : W.ownsRow B e size v N xs) (hk : Keeps (fun k => v.ownBlock = some k) W w1) : Ints k w1 ao n zs := by
  by_cases h0 : n = 0
  · subst h0
    rw [List.eq_nil_of_length_eq_zero hdt.hlen]
    exact Ints.nil _ _ _
  · exact hdt.kept hk fun a ha hv => by
      have := hU h0 a ha
      have := (hown.lt _ hv).1
      omega
theorem blk_far {W w1 : World} {B e size N : Nat} {v : Value} {xs : List Value} (hown : W.ownsRow B e size v N xs) (hk : Keeps (fun k => v.ownBlock = some k) W w1) {b : Nat} {cs : Array Value} {t : Nat} (h : W.heap[b]? = some (.cells cs t (0, 0))) (ht : t ≠ e) : w1.heap[b]? = some (.cells cs t (0, 0)) :=
  hk.heap h fun hv => by
    obtain ⟨ds, hds⟩ := own_block_type hown hv
    rw [h] at hds
    simp at hds
    exact ht hds.2
theorem own_cap {w : World} {B e size n : Nat} {ao : Option Addr} {k cap : Nat} {xs : List Value} (h : w.ownsRow B e size (.slice ao k cap) n xs) : cap ≤ maxLen := by
  rcases h.2 with ⟨h1, _⟩ | ⟨g, c, cur, h1, hb, hg, hn, hc, hs, ht⟩
  · cases h1; unfold maxLen; omega
  · cases h1; exact hc
theorem two_cells {w : World} {b : Nat} {v0 v1 : Value} {T : Nat} (h : w.heap[b]? = some (.cells #[v0, v1] T (0, 0))) : w.cell? ⟨b, 0, none⟩ = some v0 ∧ w.cell? ⟨b, 1, none⟩ = some v1 :=
  ⟨(cell_of_row _ _ _ _ _ _ h).trans rfl, (cell_of_row _ _ _ _ _ _ h).trans rfl⟩
end Go.Calli

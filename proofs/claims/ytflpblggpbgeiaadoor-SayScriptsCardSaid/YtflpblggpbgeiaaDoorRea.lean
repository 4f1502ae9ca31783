/- append(out, x) of one record, told with the block of what it gives. No program in sight. -/
import Derived.Test.YtflpblggpbgeiaaDoorApp
import Derived.Test.YtflpblggpbgeiaaDoorRec
namespace Go.Calli
open Go.RowKit
theorem append_block_n {P : Program} {w w' : World} (t ty e : TypeId) (size : Nat) (hu : P.underlying t = some (.slice e)) {i : TypeInfo} (hi : P.info? e = some i) {z : Value} (hz : i.zero = some z) (hsz : i.size = size)
    (B : Nat) (v v' : Value) (n : Nat) (xs : List Value) (hown : w.ownsRow B e size v n xs)
    (ad : Addr) (m c : Nat) (news : List Value) (hl : news.length = m * size) (hnews : ∀ j u, news[j]? = some u → w.cell? (ad.add j) = some u) (h1 : ∀ u ∈ news, u.oneCell' = true)
    (hbd : (n + m) * i.bytes ≤ 140737488355328) (hn : n + m ≤ maxLen)
    (hr : (Builtin.append_ #[t, t] ty #[v, .slice (some ad) m c]).run P w = .ok v' w') : v'.ownBlock = v.ownBlock ∨ v'.ownBlock = some w.heap.size := by
  unfold maxLen at hn
  rcases hown.2 with ⟨rfl, rfl⟩ | ⟨g, cap, cur, rfl, hbg, hg, hnc, hcm, hcs, htake⟩
  · by_cases hm : m = 0
    · subst hm
      have hr2 : (Builtin.append_ #[t, t] ty #[.slice none 0 0, .slice (some ad) 0 c]).run P w = .ok (.slice none 0 0) w := by
        simp [Builtin.append_, run_underlying hu, sizeOf, typeInfo, hi, Builtin.lenOf, Builtin.firstCells, loadCells, loadCellsFrom]
      rw [hr2] at hr
      cases hr
      exact .inl rfl
    · have hr2 := run_append_nil (P := P) w t ty e i z hu hi hz ad m c news (by rw [hsz]; exact hl) hnews (by omega) (by omega) (by simp only [Nat.zero_add] at hbd; omega)
      rw [hr2] at hr
      cases hr
      exact .inr rfl
  · by_cases hroom : n + m ≤ cap
    · have hr2 := run_append_room (P := P) w t ty e i hu hi g n cap cur hg ad m c news (by rw [hsz]; exact hl) hnews h1 hroom (by
        rw [hsz, hcs, hl, ← Nat.add_mul]
        exact Nat.mul_le_mul_right _ hroom)
      rw [hr2] at hr
      cases hr
      exact .inl rfl
    · have holds : ∀ j u, xs[j]? = some u → w.cell? ((⟨g, 0, none⟩ : Addr).add j) = some u := hown.cells (g := g) rfl
      have hr2 := run_append_grow (P := P) w t ty e i z hu hi hz ⟨g, 0, none⟩ n cap xs (by rw [hsz]; exact hown.1) holds ad m c news (by rw [hsz]; exact hl) hnews (by omega) (by omega) (growslice_fits (by omega) hbd)
      rw [hr2] at hr
      cases hr
      exact .inr rfl
theorem run_append_rec_at {P : Program} (w : World) (t ty e : TypeId) (size : Nat) (hu : P.underlying t = some (.slice e))
    {z : Value} {bytes : Nat} (hinfo : (P.info? e).map (fun i => (i.zero, i.size, i.bytes)) = some (some z, size, bytes)) (hz1 : z.cells.size = size) (hs0 : 0 < size)
    (B : Nat) (v : Value) (n : Nat) (xs : List Value) (hown : w.ownsRow B e size v n xs) (us : List Value) (hus : us.length = size) (h1 : ∀ u ∈ us, u.oneCell' = true)
    (hbd : (n + 1) * bytes ≤ 140737488355328) (hn : n + 1 ≤ maxLen) (hB : B ≤ w.heap.size) :
    ∃ v' w', (Builtin.append_ #[t, t] ty #[v, .slice (some ⟨w.heap.size, 0, none⟩) 1 1]).run P (w.alloc (.cells us.toArray e)) = .ok v' w' ∧ w'.ownsRow B e size v' (n + 1) (xs ++ us) ∧ Keeps (fun k => v.ownBlock = some k) w w' ∧ (∀ k, v'.ownBlock = some k → v.ownBlock = some k ∨ w.heap.size ≤ k) := by
  obtain ⟨i, hi, hz, hsz, hby⟩ := info_parts hinfo
  obtain ⟨v', w', hr, h2, h3, _⟩ := run_append_own (P := P) (w.alloc (.cells us.toArray e)) B t ty e i z size bytes hu hi hz hsz hby hz1 hs0 v n xs (hown.alloc _) ⟨w.heap.size, 0, none⟩ 1 1 us (by rw [hus]; omega) (rec_new _ _ _) h1 hn hbd (by simp; omega)
  have hblk := append_block_n (P := P) t ty e size hu hi hz hsz B v v' n xs (hown.alloc _) ⟨w.heap.size, 0, none⟩ 1 1 us (by rw [hus]; omega) (rec_new _ _ _) h1 (by rw [hby]; exact hbd) hn hr
  refine ⟨v', w', hr, h2, ((Keeps.refl _ w).alloc _).grown h3 fun k hk => .inr hk, fun k hk => ?_⟩
  rcases hblk with hblk | hblk
  · exact .inl (hblk ▸ hk)
  · rw [hblk] at hk
    cases hk
    exact .inr (by rw [World.size_alloc]; omega)
theorem addr_add (a : Addr) (i j : Nat) : (a.add i).add j = a.add (i + j) := by
  unfold Addr.add
  split <;> split <;> simp_all <;> omega
/-- A slice of records, cell by cell. -/
theorem Recs.flat {α : Type} {f : α → List Value} {size : Nat} {d : α} {w : World} {a : Addr} {n : Nat} {ms : List α} (h : Recs f size d w (some a) n ms) (hf : ∀ x, (f x).length = size) (hs0 : 0 < size) : ∀ j u, (ms.flatMap f)[j]? = some u → w.cell? (a.add j) = some u := by
  intro j u hu
  have hj : j < n * size := by
    have := (List.getElem?_eq_some_iff.1 hu).1
    rwa [flat_length f size hf, h.hlen] at this
  have hq : j / size < n := Nat.div_lt_of_lt_mul (by rw [Nat.mul_comm]; exact hj)
  have hr : j % size < size := Nat.mod_lt _ hs0
  have he : j / size * size + j % size = j := by rw [Nat.mul_comm]; exact Nat.div_add_mod j size
  obtain ⟨a', ha, hc⟩ := h.cell (j / size) hq
  cases ha
  have := flat_at f size hf d ms (j / size) (j % size) (by rw [h.hlen]; exact hq) hr
  rw [he] at this
  have h2 := hc (j % size) u (by rw [← this]; exact hu)
  rwa [addr_add, he] at h2
theorem wpList_append_recs {P : Program} {w : World} {ops : Array Oper} {rest : List Oper} {o : Oper} {a : Act} {Q : Exit → Act → World → Prop} (hgd : o.guard = none) (s x : Operand) (t e : TypeId) (size : Nat)
    (ho : o.op = .call { callee := .builtin .append, args := #[s, x], argTypes := #[t, t] }) (hu : P.underlying t = some (.slice e))
    {z : Value} {bytes : Nat} (hinfo : (P.info? e).map (fun i => (i.zero, i.size, i.bytes)) = some (some z, size, bytes)) (hz1 : z.cells.size = size) (hs0 : 0 < size)
    (B : Nat) (v : Value) (n : Nat) (xs : List Value) (hs : a.eval s = v) (hown : w.ownsRow B e size v n xs) (ad : Addr) (m c : Nat) (us : List Value) (hus : us.length = m * size) (hx : a.eval x = .slice (some ad) m c) (hcell : ∀ j u, us[j]? = some u → w.cell? (ad.add j) = some u) (h1 : ∀ u ∈ us, u.oneCell' = true)
    (hbd : (n + m) * bytes ≤ 140737488355328) (hn : n + m ≤ maxLen) (hB : B ≤ w.heap.size)
    (h : ∀ v' w', w'.ownsRow B e size v' (n + m) (xs ++ us) → Keeps (fun k => v.ownBlock = some k) w w' → wpList P ops Q rest (a.put o.dst v') w') : wpList P ops Q (o :: rest) a w := by
  obtain ⟨i, hi, hz, hsz, hby⟩ := info_parts hinfo
  refine wpList_append_own _ hgd s x t ho B e i z size bytes hu hi hz hsz hby hz1 hs0 v n xs hs hown ad m c us hx hus hcell h1 hn hbd hB ?_
  intro v' w' hown' hg _
  exact h v' w' hown' ((Keeps.refl _ w).grown hg fun k hk => .inr hk)
/-- The empty literal '[]T{}'. -/
theorem own_empty (w : World) (e size : Nat) : (w.alloc (.cells #[] e)).ownsRow w.heap.size e size (.slice (some ⟨w.heap.size, 0, none⟩) 0 0) 0 [] :=
  ⟨by simp, .inr ⟨w.heap.size, 0, #[], rfl, Nat.le_refl _, heap_alloc_new _ _, Nat.le_refl _, by unfold maxLen; omega, by simp, by simp⟩⟩
end Go.Calli

/- A slice of records that may have been cut to its length (its array may be longer); append onto it; one record taken out of it. No program in sight. -/
import Derived.Test.YtmhlmaimmbopfaaRen
namespace Go.Calli
open Go.RowKit
/-- As ownsRow, but the array may be longer than the capacity. -/
def OwnsW (w : World) (base : Nat) (e : TypeId) (size : Nat) (v : Value) (n : Nat) (xs : List Value) : Prop :=
  xs.length = n * size ∧ ((v = .slice none 0 0 ∧ n = 0) ∨
   ∃ g cap cur, v = .slice (some ⟨g, 0, none⟩) n cap ∧ base ≤ g ∧ w.heap[g]? = some (.cells cur e (0, 0)) ∧ n ≤ cap ∧ cap ≤ maxLen ∧ cap * size ≤ cur.size ∧ cur.toList.take (n * size) = xs)
theorem OwnsW.of {w : World} {B e size n : Nat} {v : Value} {xs : List Value} (h : w.ownsRow B e size v n xs) : OwnsW w B e size v n xs := by
  refine ⟨h.1, ?_⟩
  rcases h.2 with h | ⟨g, cap, cur, rfl, hb, hg, hn, hc, hs, ht⟩
  · exact .inl h
  · exact .inr ⟨g, cap, cur, rfl, hb, hg, hn, hc, by omega, ht⟩
theorem OwnsW.nil (w : World) (base : Nat) (e : TypeId) (size : Nat) : OwnsW w base e size (.slice none 0 0) 0 [] := ⟨by simp, .inl ⟨rfl, rfl⟩⟩
theorem OwnsW.form {w : World} {base : Nat} {e : TypeId} {size : Nat} {v : Value} {n : Nat} {xs : List Value} (h : OwnsW w base e size v n xs) : ∃ ao c, v = .slice ao n c ∧ n ≤ c := by
  rcases h.2 with ⟨rfl, rfl⟩ | ⟨g, cap, cur, rfl, _, _, hn, _⟩
  · exact ⟨none, 0, rfl, Nat.le_refl _⟩
  · exact ⟨_, cap, rfl, hn⟩
theorem OwnsW.lt {w : World} {base : Nat} {e : TypeId} {size : Nat} {v : Value} {n : Nat} {xs : List Value} (h : OwnsW w base e size v n xs) : ∀ k, v.ownBlock = some k → base ≤ k ∧ k < w.heap.size := by
  intro k hk
  rcases h.2 with ⟨rfl, _⟩ | ⟨g, cap, cur, rfl, hb, hg, _⟩
  · simp [Value.ownBlock] at hk
  · simp [Value.ownBlock] at hk
    subst hk
    exact ⟨hb, (Array.getElem?_eq_some_iff.1 hg).1⟩
theorem OwnsW.type {w : World} {base e size : Nat} {v : Value} {n : Nat} {xs : List Value} (h : OwnsW w base e size v n xs) {k : Nat} (hk : v.ownBlock = some k) : ∃ cs, w.heap[k]? = some (.cells cs e (0, 0)) := by
  rcases h.2 with ⟨rfl, _⟩ | ⟨g, cap, cur, rfl, _, hg, _⟩
  · simp [Value.ownBlock] at hk
  · simp [Value.ownBlock] at hk; subst hk; exact ⟨_, hg⟩
theorem OwnsW.cells {w : World} {base : Nat} {e : TypeId} {size : Nat} {v : Value} {n : Nat} {xs : List Value} (h : OwnsW w base e size v n xs) {g : Nat} (hg : v.ownBlock = some g) : ∀ j u, xs[j]? = some u → w.cell? ((⟨g, 0, none⟩ : Addr).add j) = some u := by
  intro j u hu
  rcases h.2 with ⟨rfl, _⟩ | ⟨g', cap, cur, rfl, _, hgg, _, _, _, htake⟩
  · simp [Value.ownBlock] at hg
  · simp [Value.ownBlock] at hg
    subst hg
    rw [add0, cell_of_row w g' _ cur e (0, 0) hgg]
    rw [← htake, List.getElem?_take] at hu
    split at hu
    · simpa using hu
    · cases hu
theorem OwnsW.kept {w w' : World} {S : Nat → Prop} {base e size : Nat} {v : Value} {n : Nat} {xs : List Value} (h : OwnsW w base e size v n xs) (hk : Keeps S w w') (hS : ∀ k, v.ownBlock = some k → ¬ S k) : OwnsW w' base e size v n xs := by
  refine ⟨h.1, ?_⟩
  rcases h.2 with hn | ⟨g, cap, cur, rfl, hb, hg, rest⟩
  · exact .inl hn
  · exact .inr ⟨g, cap, cur, rfl, hb, hk.heap hg (hS g rfl), rest⟩
theorem OwnsW.keep0 {w w' : World} {B e size n : Nat} {v : Value} {xs : List Value} (h : OwnsW w B e size v n xs) (hb : Below w.heap.size w w') : OwnsW w' B e size v n xs := h.kept (S := fun _ => False) (Keeps.ofBelow hb (Nat.le_refl _)) (fun _ _ h => h)
/-- As records. -/
theorem OwnsW.recs {α : Type} {f : α → List Value} {size : Nat} (d : α) (hf : ∀ x, (f x).length = size) (hs0 : 0 < size) {w : World} {base e : Nat} {v : Value} {n : Nat} {ms : List α} (h : OwnsW w base e size v n (ms.flatMap f)) :
    ∃ ao cap, v = .slice ao n cap ∧ n ≤ cap ∧ Recs f size d w ao n ms ∧ (∀ a, ao = some a → base ≤ a.block ∧ a.off = 0 ∧ a.spot = none ∧ v.ownBlock = some a.block) := by
  have hx := h.1
  rw [flat_length f size hf] at hx
  have hml : ms.length = n := Nat.eq_of_mul_eq_mul_right hs0 hx
  rcases h.2 with ⟨rfl, rfl⟩ | ⟨g, cap, cur, rfl, hb, hg, hn, hc, hs, ht⟩
  · have : ms = [] := List.eq_nil_of_length_eq_zero hml
    subst this
    exact ⟨none, 0, rfl, by omega, Recs.nil _ _ _ _ _, fun a ha => by cases ha⟩
  · refine ⟨_, cap, rfl, hn, ⟨hml, by omega, fun i hi => ⟨_, rfl, fun j u hu => ?_⟩⟩, fun a ha => by cases ha; exact ⟨hb, rfl, rfl, rfl⟩⟩
    have hj : j < size := by
      have := (List.getElem?_eq_some_iff.1 hu).1
      rw [hf] at this; exact this
    have := h.cells (g := g) rfl (i * size + j) u (by rw [flat_at f size hf d ms i j (by omega) hj]; exact hu)
    rw [add0] at this
    rw [add0, add0, Nat.zero_add]
    rwa [Nat.zero_add] at this
/-- append onto it. -/
theorem OwnsW.append {P : Program} {w : World} (t ty e : TypeId) (size : Nat) (hu : P.underlying t = some (.slice e)) {z : Value} {bytes : Nat} (hinfo : (P.info? e).map (fun i => (i.zero, i.size, i.bytes)) = some (some z, size, bytes)) (hz1 : z.cells.size = size) (hs0 : 0 < size)
    (B : Nat) (v : Value) (n : Nat) (xs : List Value) (h : OwnsW w B e size v n xs) (ad : Addr) (m c : Nat) (news : List Value) (hl : news.length = m * size) (hnews : ∀ j u, news[j]? = some u → w.cell? (ad.add j) = some u) (h1 : ∀ u ∈ news, u.oneCell' = true)
    (hbd : (n + m) * bytes ≤ 140737488355328) (hn : n + m ≤ maxLen) (hB : B ≤ w.heap.size) :
    ∃ v' w', (Builtin.append_ #[t, t] ty #[v, .slice (some ad) m c]).run P w = .ok v' w' ∧ OwnsW w' B e size v' (n + m) (xs ++ news) ∧ Keeps (fun k => v.ownBlock = some k) w w' ∧ (∀ k, v'.ownBlock = some k → v.ownBlock = some k ∨ k = w.heap.size) := by
  obtain ⟨i, hi, hz, hsz, hby⟩ := info_parts hinfo
  subst hsz
  subst hby
  have hlen : (xs ++ news).length = (n + m) * i.size := by rw [List.length_append, h.1, hl, Nat.add_mul]
  unfold maxLen at hn
  have grown : ∀ (old : Nat), old < n + m →
      OwnsW (w.drew.alloc (.cells (xs.toArray ++ news.toArray ++ Builtin.zeroCells z.cells (grownCap w (n + m) old e - (n + m))) e)) B e i.size
        (.slice (some ⟨w.heap.size, 0, none⟩) (n + m) (grownCap w (n + m) old e)) (n + m) (xs ++ news) ∧
      Keeps (fun k => v.ownBlock = some k) w (w.drew.alloc (.cells (xs.toArray ++ news.toArray ++ Builtin.zeroCells z.cells (grownCap w (n + m) old e - (n + m))) e)) := by
    intro old ho
    have hge := grownCap_ge w (n + m) old e
    have hcm : grownCap w (n + m) old e ≤ maxLen := grownCap_le_maxLen w (n + m) old e (by unfold maxLen; omega)
    refine ⟨⟨hlen, .inr ⟨w.heap.size, _, _, rfl, hB, heap_alloc_new w.drew _, hge, hcm, ?_, ?_⟩⟩, ((Keeps.refl _ w).drew).alloc _⟩
    · simp only [Array.size_append, List.size_toArray, size_zeroCells, hz1, h.1, hl, ← Nat.add_mul]
      exact Nat.mul_le_mul_right _ (by omega)
    · simp only [Array.toList_append, List.append_assoc]
      rw [← List.append_assoc, ← hlen]
      exact List.take_left
  rcases h.2 with ⟨rfl, rfl⟩ | ⟨g, cap, cur, rfl, hbg, hg, hnc, hcm, hcs, htake⟩
  · have hx : xs = [] := List.eq_nil_of_length_eq_zero (by simpa using h.1)
    subst hx
    by_cases hm : m = 0
    · subst hm
      have hn : news = [] := List.eq_nil_of_length_eq_zero (by simpa using hl)
      subst hn
      refine ⟨.slice none 0 0, w, ?_, OwnsW.nil w B e i.size, Keeps.refl _ _, fun k hk => by cases hk⟩
      simp [Builtin.append_, run_underlying hu, sizeOf, typeInfo, hi, Builtin.lenOf, Builtin.firstCells, loadCells, loadCellsFrom]
    · have hr := run_append_nil (P := P) w t ty e i z hu hi hz ad m c news hl hnews (by omega) (by omega) (by have hb := hbd; simp only [Nat.zero_add] at hb; omega)
      have hgr := grown 0 (by omega)
      simp only [Nat.zero_add, List.nil_append, Array.empty_append] at hgr ⊢
      exact ⟨_, _, hr, hgr.1, hgr.2, fun k hk => .inr (by cases hk; rfl)⟩
  · by_cases hroom : n + m ≤ cap
    · have hfit : n * i.size + news.length ≤ cur.size := by rw [hl, ← Nat.add_mul]; exact Nat.le_trans (Nat.mul_le_mul_right _ hroom) hcs
      have hr := run_append_room (P := P) w t ty e i hu hi g n cap cur hg ad m c news hl hnews h1 hroom hfit
      refine ⟨_, _, hr, ⟨hlen, .inr ⟨g, cap, _, rfl, hbg, setRow_heap w g cur _ e _ hg, hroom, hcm, ?_, ?_⟩⟩, ((Keeps.refl _ w).grown (row := some g) ⟨rfl, rfl, rfl, by simp, fun k _ hk => setRow_other w g k _ (fun e => hk (by simp [e]))⟩ (fun k hk => .inr hk)), fun k hk => .inl hk⟩
      · simp only [List.size_toArray, List.length_append, List.length_take, List.length_drop, Array.length_toList]
        omega
      · rw [htake, ← hlen]
        exact List.take_left
    · have holds : ∀ j u, xs[j]? = some u → w.cell? ((⟨g, 0, none⟩ : Addr).add j) = some u := h.cells (g := g) rfl
      have hr := run_append_grow (P := P) w t ty e i z hu hi hz ⟨g, 0, none⟩ n cap xs h.1 holds ad m c news hl hnews (by omega) (by omega) (growslice_fits (by omega) hbd)
      have hgr := grown cap (by omega)
      exact ⟨_, _, hr, hgr.1, hgr.2, fun k hk => .inr (by cases hk; rfl)⟩
theorem flat_take {α : Type} (f : α → List Value) (size : Nat) (hf : ∀ x, (f x).length = size) (ms : List α) : ∀ i, (ms.flatMap f).take (i * size) = (ms.take i).flatMap f := by
  induction ms with
  | nil => intro i; simp
  | cons m r ih =>
    intro i
    cases i with
    | zero => simp
    | succ i => rw [List.flatMap_cons, List.take_succ_cons, List.flatMap_cons, Nat.succ_mul, ← ih i, List.take_append, hf, Nat.add_sub_cancel, List.take_of_length_le (by rw [hf]; omega)]
theorem flat_drop {α : Type} (f : α → List Value) (size : Nat) (hf : ∀ x, (f x).length = size) (ms : List α) : ∀ i, (ms.flatMap f).drop (i * size) = (ms.drop i).flatMap f := by
  induction ms with
  | nil => intro i; simp
  | cons m r ih =>
    intro i
    cases i with
    | zero => simp
    | succ i => rw [List.flatMap_cons, List.drop_succ_cons, Nat.succ_mul, ← ih i, List.drop_append, hf, Nat.add_sub_cancel, List.drop_of_length_le (by rw [hf]; omega), List.nil_append]
/-- A record taken out: append(v[:i:i], v[i+1:]...). -/
theorem OwnsW.del_at {P : Program} {w : World} (t ty e : TypeId) (size : Nat) (hu : P.underlying t = some (.slice e)) {z : Value} {bytes : Nat} (hinfo : (P.info? e).map (fun i => (i.zero, i.size, i.bytes)) = some (some z, size, bytes)) (hz1 : z.cells.size = size) (hs0 : 0 < size)
    {α : Type} {f : α → List Value} (hf : ∀ x, (f x).length = size) (hone : ∀ x, ∀ u ∈ f x, u.oneCell' = true)
    (B : Nat) (a : Addr) (ha : a.off = 0) (ha2 : a.spot = none) (n cap : Nat) (ms : List α) (h : OwnsW w B e size (.slice (some a) n cap) n (ms.flatMap f)) (i : Nat) (hi' : i < n)
    (hbd : n * bytes ≤ 140737488355328) (hB : B ≤ w.heap.size) :
    ∃ v' w', (Builtin.append_ #[t, t] ty #[.slice (some a) i i, .slice (if cap = i + 1 then some a else some (a.add ((i + 1) * size))) (n - (i + 1)) (cap - (i + 1))]).run P w = .ok v' w' ∧ OwnsW w' B e size v' (n - 1) ((ms.take i ++ ms.drop (i + 1)).flatMap f) ∧ Keeps (fun k => k = a.block) w w' ∧ (∀ k, v'.ownBlock = some k → k = a.block ∨ k = w.heap.size) := by
  obtain ⟨g, o, s⟩ := a
  simp only at ha ha2
  subst ha
  subst ha2
  rw [add0, Nat.zero_add]
  obtain ⟨ad, had⟩ : ∃ ad, (if cap = i + 1 then some (⟨g, 0, none⟩ : Addr) else some ⟨g, (i + 1) * size, none⟩) = some ad := by split <;> exact ⟨_, rfl⟩
  rw [had]
  have hx := h.1
  rw [flat_length f size hf] at hx
  have hml : ms.length = n := Nat.eq_of_mul_eq_mul_right hs0 hx
  have hfull := h
  rcases h.2 with ⟨h0, _⟩ | ⟨g', cap', cur, h0, hb, hg, hn, hc, hs, ht⟩
  · cases h0
  · cases h0
    have hic : i * size ≤ cap * size := Nat.mul_le_mul_right _ (by omega)
    have hin : i * size ≤ n * size := Nat.mul_le_mul_right _ (by omega)
    have hW : OwnsW w B e size (.slice (some ⟨g, 0, none⟩) i i) i ((ms.take i).flatMap f) := by
      refine ⟨by rw [flat_length f size hf, List.length_take, hml, Nat.min_eq_left (by omega)], .inr ⟨g, i, cur, rfl, hb, hg, Nat.le_refl _, by omega, by omega, ?_⟩⟩
      rw [← flat_take f size hf ms i, ← ht, List.take_take, Nat.min_eq_left hin]
    have hcells := h.cells (g := g) rfl
    have hA := OwnsW.append (P := P) t ty e size hu hinfo hz1 hs0 B _ i _ hW ad (n - (i + 1)) (cap - (i + 1)) ((ms.drop (i + 1)).flatMap f)
      (by rw [flat_length f size hf, List.length_drop, hml])
      (fun j u hj => by
        have hjl : j < (n - (i + 1)) * size := by
          have := (List.getElem?_eq_some_iff.1 hj).1
          rwa [flat_length f size hf, List.length_drop, hml] at this
        have hne : cap ≠ i + 1 := fun e => by
          rw [show n - (i + 1) = 0 by omega, Nat.zero_mul] at hjl
          omega
        rw [if_neg hne] at had
        cases had
        have h2 := hcells ((i + 1) * size + j) u (by rw [← List.getElem?_drop, flat_drop f size hf]; exact hj)
        rw [add0, Nat.zero_add] at h2
        rw [add0]; exact h2)
      (fun u hu => by
        obtain ⟨x, -, hx⟩ := List.mem_flatMap.1 hu
        exact hone x u hx)
      (by rw [show i + (n - (i + 1)) = n - 1 by omega]; exact Nat.le_trans (Nat.mul_le_mul_right _ (by omega)) hbd) (by omega) hB
    rw [show i + (n - (i + 1)) = n - 1 by omega, ← List.flatMap_append] at hA
    obtain ⟨v', w', hr, h2, h3, h4⟩ := hA
    refine ⟨v', w', hr, h2, h3.mono (fun k _ hk => by cases hk; rfl), fun k hk => ?_⟩
    rcases h4 k hk with h5 | h5
    · cases h5; exact .inl rfl
    · exact .inr h5
/-- append of one record, its cells laid in a new block just ahead. -/
theorem OwnsW.append_rec {P : Program} {w : World} (t ty e : TypeId) (size : Nat) (hu : P.underlying t = some (.slice e)) {z : Value} {bytes : Nat} (hinfo : (P.info? e).map (fun i => (i.zero, i.size, i.bytes)) = some (some z, size, bytes)) (hz1 : z.cells.size = size) (hs0 : 0 < size)
    (B : Nat) (v : Value) (n : Nat) (xs : List Value) (h : OwnsW w B e size v n xs) (us : List Value) (hus : us.length = size) (h1 : ∀ u ∈ us, u.oneCell' = true)
    (hbd : (n + 1) * bytes ≤ 140737488355328) (hn : n + 1 ≤ maxLen) (hB : B ≤ w.heap.size) :
    ∃ v' w', (Builtin.append_ #[t, t] ty #[v, .slice (some ⟨w.heap.size, 0, none⟩) 1 1]).run P (w.alloc (.cells us.toArray e)) = .ok v' w' ∧ OwnsW w' B e size v' (n + 1) (xs ++ us) ∧ Keeps (fun k => v.ownBlock = some k) w w' ∧ (∀ k, v'.ownBlock = some k → v.ownBlock = some k ∨ w.heap.size ≤ k) := by
  obtain ⟨v', w', hr, h2, h3, h4⟩ := OwnsW.append (P := P) t ty e size hu hinfo hz1 hs0 B v n xs (h.keep0 (below_alloc w _)) ⟨w.heap.size, 0, none⟩ 1 1 us (by rw [hus]; omega) (rec_new w us e) h1 hbd hn (by simp; omega)
  refine ⟨v', w', hr, h2, ((Keeps.refl _ w).alloc _).trans (h3.mono fun k _ hk => hk), fun k hk => ?_⟩
  rcases h4 k hk with h5 | h5
  · exact .inl h5
  · exact .inr (by rw [h5]; simp)
/-- An append whose run is known, at its operation. -/
theorem wpList_append_eq {P : Program} {w w' : World} {ops : Array Oper} {rest : List Oper} {o : Oper} {a : Act} {Q : Exit → Act → World → Prop} (hgd : o.guard = none) (s x : Operand) (t u : TypeId)
    (ho : o.op = .call { callee := .builtin .append, args := #[s, x], argTypes := #[t, u] }) {v v' z : Value} (hs : a.eval s = v) (hx : a.eval x = z) (hr : (Builtin.append_ #[t, u] o.type #[v, z]).run P w = .ok v' w')
    (h : wpList P ops Q rest (a.put o.dst v') w') : wpList P ops Q (o :: rest) a w :=
  wpList_plain hgd fun _ hK => by
    unfold Oper.wp execOp
    simp only [ho, resolve, invoke, builtin, Sem.run_bind, Sem.run_pure, Result.andThen_ok, List.map_toArray, List.map_cons, List.map_nil, hs, hx, hr]
    exact hK _ _ h
end Go.Calli

/- append(out, xs...) of a whole slice, a nil one too; blocks of integers. No program in sight. -/
import Derived.Test.YtflpblggpbgeiaaDoorCommon
import Derived.Laws.AppendOwn
import Derived.Deep.RegionLaw
import Derived.Laws.BytesArg
namespace Go.Calli
open Go.RowKit
variable {P : Program}
theorem run_append_none (w : World) (t ty e : TypeId) (i : TypeInfo) (ht : P.underlying t = some (.slice e)) (hi : P.info? e = some i) {base size : Nat} {v : Value} {n : Nat} {xs : List Value} (hown : w.ownsRow base e size v n xs) (c : Nat) :
    (Builtin.append_ #[t, t] ty #[v, .slice none 0 c]).run P w = .ok v w := by
  rcases hown.2 with ⟨rfl, rfl⟩ | ⟨g, cap, cur, rfl, hbg, hg, hnc, hcm, hcs, htake⟩
  · simp [Builtin.append_, run_underlying ht, sizeOf, typeInfo, hi, Builtin.lenOf, Builtin.firstCells]
  · have hroom : n + 0 ≤ cap := by omega
    simp [Builtin.append_, run_underlying ht, sizeOf, typeInfo, hi, Builtin.lenOf, hnc, Builtin.firstCells, loadCells, storeCells, Sem.run_pure]
theorem Ints.row {k : IntKind} {w : World} {ao : Option Addr} {n : Nat} {zs : List Int} (h : Ints k w ao n zs) : Row w ao n (zs.map (Value.int k)) := by
  refine ⟨by simpa using h.hlen, fun i v hv => ?_⟩
  have hi : i < zs.length := by
    rcases Nat.lt_or_ge i zs.length with h1 | h1
    · exact h1
    · simp [List.getElem?_eq_none h1] at hv
  obtain ⟨a, ha, hc⟩ := h.cell i (by rw [← h.hlen]; exact hi)
  simp [List.getElem?_eq_getElem hi] at hv
  subst hv
  exact ⟨a, ha, by rw [hc]; simp [hi]⟩
theorem Ints.nil_len {k : IntKind} {w : World} {ao : Option Addr} {n : Nat} {zs : List Int} (h : Ints k w ao n zs) (hh : ao = none) : n = 0 := by
  rcases Nat.eq_zero_or_pos n with h0 | h0
  · exact h0
  · obtain ⟨a', ha', _⟩ := h.some h0
    rw [hh] at ha'; cases ha'
theorem one_ints (k : IntKind) (zs : List Int) : ∀ u ∈ zs.map (Value.int k), u.oneCell' = true := by
  intro u hu
  obtain ⟨z, _, rfl⟩ := List.mem_map.1 hu
  rfl
/-- The rest of a slice. -/
theorem Ints.drop {k : IntKind} {w : World} {a : Addr} {n : Nat} {zs : List Int} (h : Ints k w (Option.some a) n zs) {j : Nat} (hj : j ≤ n) : Ints k w (Option.some (a.add j)) (n - j) (zs.drop j) := by
  refine ⟨by rw [List.length_drop, h.hlen], Nat.le_trans (Nat.sub_le _ _) h.lim, fun i hi => ⟨_, rfl, ?_⟩, fun z hz => h.wf z (List.mem_of_mem_drop hz)⟩
  obtain ⟨a', ha', hc⟩ := h.cell (j + i) (by omega)
  cases ha'
  have e : (a.add j).add i = a.add (j + i) := by
    unfold Addr.add
    by_cases hj0 : j = 0
    · simp [hj0]
    · by_cases hi0 : i = 0
      · simp [hi0]
      · simp [hj0, hi0]; omega
  rw [e, hc]; simp
/-- The block of what append gives: the old one, or a new one. -/
theorem append_block {w w' : World} (t ty e : TypeId) (hu : P.underlying t = some (.slice e)) {i : TypeInfo} (hi : P.info? e = some i) {z : Value} (hz : i.zero = some z) (hsz : i.size = 1)
    (B : Nat) (v v' : Value) (n : Nat) (xs : List Value) (hown : w.ownsRow B e 1 v n xs)
    (ad : Addr) (m c : Nat) (news : List Value) (hl : news.length = m) (hnews : ∀ j u, news[j]? = some u → w.cell? (ad.add j) = some u) (h1 : ∀ u ∈ news, u.oneCell' = true)
    (hbd : (n + m) * i.bytes ≤ 140737488355328) (hn : n + m ≤ maxLen)
    (hr : (Builtin.append_ #[t, t] ty #[v, .slice (some ad) m c]).run P w = .ok v' w') : v'.ownBlock = v.ownBlock ∨ v'.ownBlock = some w.heap.size := by
  unfold maxLen at hn
  rcases hown.2 with ⟨rfl, rfl⟩ | ⟨g, cap, cur, rfl, hbg, hg, hnc, hcm, hcs, htake⟩
  · by_cases hm : m = 0
    · subst hm
      have hr2 : (Builtin.append_ #[t, t] ty #[.slice none 0 0, .slice (some ad) 0 c]).run P w = .ok (.slice none 0 0) w := by
        simp [Builtin.append_, run_underlying hu, sizeOf, typeInfo, hi, Builtin.lenOf, Builtin.firstCells, loadCells, loadCellsFrom]
      rw [hr2] at hr
      cases hr
      exact .inl rfl
    · have hr2 := run_append_nil (P := P) w t ty e i z hu hi hz ad m c news (by rw [hsz]; omega) hnews (by omega) (by omega) (by simp only [Nat.zero_add] at hbd; omega)
      rw [hr2] at hr
      cases hr
      exact .inr rfl
  · by_cases hroom : n + m ≤ cap
    · have hr2 := run_append_room (P := P) w t ty e i hu hi g n cap cur hg ad m c news (by rw [hsz]; omega) hnews h1 hroom (by rw [hsz, hcs, hl]; omega)
      rw [hr2] at hr
      cases hr
      exact .inl rfl
    · have holds : ∀ j u, xs[j]? = some u → w.cell? ((⟨g, 0, none⟩ : Addr).add j) = some u := hown.cells (g := g) rfl
      have hr2 := run_append_grow (P := P) w t ty e i z hu hi hz ⟨g, 0, none⟩ n cap xs (by rw [hsz]; simpa using hown.1) holds ad m c news (by rw [hsz]; omega) hnews (by omega) (by omega) (growslice_fits (by omega) hbd)
      rw [hr2] at hr
      cases hr
      exact .inr rfl
theorem run_append_row (w : World) (t ty e : TypeId) (hu : P.underlying t = some (.slice e))
    {z : Value} {bytes : Nat} (hinfo : (P.info? e).map (fun i => (i.zero, i.size, i.bytes)) = some (some z, 1, bytes)) (hz1 : z.cells.size = 1)
    (B : Nat) (v : Value) (n : Nat) (xs : List Value) (hown : w.ownsRow B e 1 v n xs)
    (ao : Option Addr) (m c : Nat) (news : List Value) (hrow : Row w ao m news) (h1 : ∀ u ∈ news, u.oneCell' = true) (hnil : ao = none → m = 0)
    (hbd : (n + m) * bytes ≤ 140737488355328) (hn : n + m ≤ maxLen) (hB : B ≤ w.heap.size) :
    ∃ v' w', (Builtin.append_ #[t, t] ty #[v, .slice ao m c]).run P w = .ok v' w' ∧ w'.ownsRow B e 1 v' (n + m) (xs ++ news) ∧ Keeps (fun k => v.ownBlock = some k) w w' := by
  obtain ⟨i, hi, hz, hsz, hby⟩ := info_parts hinfo
  cases ao with
  | some ad =>
    obtain ⟨v', w', hr, h2, h3, _⟩ := run_append_own (P := P) w B t ty e i z 1 bytes hu hi hz hsz hby hz1 (by decide) v n xs hown ad m c news (by rw [hrow.hlen]; omega) (fun j u hj => by
      obtain ⟨a', ha', hc⟩ := hrow.cell j u hj
      cases ha'
      exact hc) h1 hn hbd hB
    exact ⟨v', w', hr, h2, (Keeps.refl _ w).grown h3 fun k hk => .inr hk⟩
  | none =>
    obtain rfl := hnil rfl
    have hl := hrow.hlen
    have hnews : news = [] := List.eq_nil_of_length_eq_zero (by simpa using hl)
    subst hnews
    exact ⟨v, w, run_append_none (P := P) w t ty e i hu hi hown c, by simpa using hown, Keeps.refl _ w⟩
/-- The same, as one step of a region that draws. -/
theorem step_append_row {w : World} {ops : Array Oper} {o : Oper} {a : Act} {K : Act → World → Prop} {Q : Exit → Act → World → Prop} {E : Prop} (hgd : o.guard = none) (s x : Operand) (t e : TypeId)
    (ho : o.op = .call { callee := .builtin .append, args := #[s, x], argTypes := #[t, t] }) (hu : P.underlying t = some (.slice e))
    {z : Value} {bytes : Nat} (hinfo : (P.info? e).map (fun i => (i.zero, i.size, i.bytes)) = some (some z, 1, bytes)) (hz1 : z.cells.size = 1)
    (B : Nat) (v : Value) (n : Nat) (xs : List Value) (hs : a.eval s = v) (hown : w.ownsRow B e 1 v n xs)
    (ao : Option Addr) (m c : Nat) (news : List Value) (hx : a.eval x = .slice ao m c) (hrow : Row w ao m news) (h1 : ∀ u ∈ news, u.oneCell' = true) (hnil : ao = none → m = 0)
    (hbd : (n + m) * bytes ≤ 140737488355328) (hn : n + m ≤ maxLen) (hB : B ≤ w.heap.size)
    (hK : ∀ v' w', w'.ownsRow B e 1 v' (n + m) (xs ++ news) → Keeps (fun k => v.ownBlock = some k) w w' → K (a.put o.dst v') w') :
    if Region.wanted o (yielded ops a.tmps) = true then Oper.wp P o a w K Q else E := by
  have hw : Region.wanted o (yielded ops a.tmps) = true := by simp [Region.wanted, hgd]
  rw [if_pos hw]
  obtain ⟨v', w', hr, h2, h3⟩ := run_append_row (P := P) w t o.type e hu hinfo hz1 B v n xs hown ao m c news hrow h1 hnil hbd hn hB
  unfold Oper.wp
  simp [execOp, ho, resolve, invoke, builtin, hs, hx, hr, Result.andThen]
  exact hK v' w' h2 h3
theorem wpList_append_row {w : World} {ops : Array Oper} {rest : List Oper} {o : Oper} {a : Act} {Q : Exit → Act → World → Prop} (hgd : o.guard = none) (s x : Operand) (t e : TypeId)
    (ho : o.op = .call { callee := .builtin .append, args := #[s, x], argTypes := #[t, t] }) (hu : P.underlying t = some (.slice e))
    {z : Value} {bytes : Nat} (hinfo : (P.info? e).map (fun i => (i.zero, i.size, i.bytes)) = some (some z, 1, bytes)) (hz1 : z.cells.size = 1)
    (B : Nat) (v : Value) (n : Nat) (xs : List Value) (hs : a.eval s = v) (hown : w.ownsRow B e 1 v n xs)
    (ao : Option Addr) (m c : Nat) (news : List Value) (hx : a.eval x = .slice ao m c) (hrow : Row w ao m news) (h1 : ∀ u ∈ news, u.oneCell' = true) (hnil : ao = none → m = 0)
    (hbd : (n + m) * bytes ≤ 140737488355328) (hn : n + m ≤ maxLen) (hB : B ≤ w.heap.size)
    (h : ∀ v' w', w'.ownsRow B e 1 v' (n + m) (xs ++ news) → Keeps (fun k => v.ownBlock = some k) w w' → wpList P ops Q rest (a.put o.dst v') w') : wpList P ops Q (o :: rest) a w := by
  obtain ⟨i, hi, hz, hsz, hby⟩ := info_parts hinfo
  cases ao with
  | some ad =>
    refine wpList_append_own _ hgd s x t ho B e i z 1 bytes hu hi hz hsz hby hz1 (by decide) v n xs hs hown ad m c news hx (by rw [hrow.hlen]; omega) (fun j u hj => ?_) h1 hn hbd hB ?_
    · obtain ⟨a', ha', hc⟩ := hrow.cell j u hj
      cases ha'
      exact hc
    · intro v' w' hown' hg _
      exact h v' w' hown' ((Keeps.refl _ w).grown hg fun k hk => .inr hk)
  | none =>
    obtain rfl := hnil rfl
    have hl := hrow.hlen
    have hnews : news = [] := List.eq_nil_of_length_eq_zero (by simpa using hl)
    subst hnews
    have hr := run_append_none (P := P) w t o.type e i hu hi hown c
    refine wpList_plain hgd fun K hK => ?_
    unfold Oper.wp execOp
    simp only [ho, resolve, invoke, builtin, Sem.run_bind, Sem.run_pure, Result.andThen_ok, List.map_toArray, List.map_cons, List.map_nil, hs, hx, hr]
    refine hK _ _ (h v w ?_ (Keeps.refl _ w))
    simpa using hown
/-- string(b) of a slice of bytes. -/
theorem conv_ints {w : World} {ao : Option Addr} {n : Nat} {zs : List Int} (h : Ints .u8 w ao n zs) (src e dst : TypeId) (c : Nat) (hs : P.underlying src = some (.slice e)) (he : P.underlying e = some (.int .u8)) (hd : P.underlying dst = some .string) :
    (convert src dst (.slice ao n c)).run P w = .ok (.string (strOfNums zs)) w := by
  cases ao with
  | none =>
    obtain rfl := h.nil_len rfl
    have hz : zs = [] := List.eq_nil_of_length_eq_zero h.hlen
    subst hz
    rw [run_convert_bytes_nil w src e hs he 0 c dst hd]
    rfl
  | some a =>
    have hl : (loadCells a n).run P w = .ok (zs.map (Value.int .u8)).toArray w := by
      have := run_loadCells_list (P := P) w a (zs.map (Value.int .u8)) (fun j v hj => by
        obtain ⟨a', ha', hc⟩ := h.row.cell j v hj
        cases ha'
        exact hc)
      simpa [h.hlen] using this
    rw [run_convert_bytes_string w src dst e _ n c hs he hd, run_bytesToString w _ n c zs hl, foldl_push_bytes]
    simp [strOfNums, ByteArray.empty, ByteArray.emptyWithCapacity]
    rfl
/-- append(out, x) of one new element, told with the block of what it gives. -/
theorem wpList_append_one_at {w : World} {ops : Array Oper} {rest : List Oper} {o : Oper} {a : Act} {Q : Exit → Act → World → Prop} (hgd : o.guard = none) (s x : Operand) (t e : TypeId)
    (ho : o.op = .call { callee := .builtin .append, args := #[s, x], argTypes := #[t, t] }) (hu : P.underlying t = some (.slice e))
    {z : Value} {bytes : Nat} (hinfo : (P.info? e).map (fun i => (i.zero, i.size, i.bytes)) = some (some z, 1, bytes)) (hz1 : z.cells.size = 1)
    (B : Nat) (v : Value) (n : Nat) (xs : List Value) (hs : a.eval s = v) (hown : w.ownsRow B e 1 v n xs) (u : Value) (hx : a.eval x = .slice (some ⟨w.heap.size, 0, none⟩) 1 1) (h1 : u.oneCell' = true)
    (hbd : (n + 1) * bytes ≤ 140737488355328) (hn : n + 1 ≤ maxLen) (hB : B ≤ w.heap.size)
    (h : ∀ v' w', w'.ownsRow B e 1 v' (n + 1) (xs ++ [u]) → Keeps (fun k => v.ownBlock = some k) w w' → (v'.ownBlock = v.ownBlock ∨ ∃ k, v'.ownBlock = some k ∧ w.heap.size ≤ k) → wpList P ops Q rest (a.put o.dst v') w') : wpList P ops Q (o :: rest) a (w.alloc (.cells #[u] e)) := by
  obtain ⟨i, hi, hz, hsz, hby⟩ := info_parts hinfo
  obtain ⟨v', w', hr, h2, h3, _⟩ := run_append_own (P := P) (w.alloc (.cells #[u] e)) B t o.type e i z 1 bytes hu hi hz hsz hby hz1 (by decide) v n xs (hown.alloc _) ⟨w.heap.size, 0, none⟩ 1 1 [u] rfl (one_new _ _ _) (one_ownCell h1) hn hbd (by simp; omega)
  have hblk := append_block (P := P) t o.type e hu hi hz hsz B v v' n xs (hown.alloc _) ⟨w.heap.size, 0, none⟩ 1 1 [u] rfl (one_new _ _ _) (one_ownCell h1) (by rw [hby]; exact hbd) hn hr
  refine wpList_plain hgd fun K hK => ?_
  unfold Oper.wp execOp
  simp only [ho, resolve, invoke, builtin, Sem.run_bind, Sem.run_pure, Result.andThen_ok, List.map_toArray, List.map_cons, List.map_nil, hs, hx, hr]
  refine hK _ _ (h v' w' h2 (((Keeps.refl _ w).alloc _).grown h3 fun k hk => .inr hk) ?_)
  rcases hblk with hblk | hblk
  · exact .inl hblk
  · exact .inr ⟨_, hblk, by simp⟩
end Go.Calli

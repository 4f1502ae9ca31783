/- Slices of messages in memory; append of one message; the walk of Few. -/
import Derived.Test.YtmhlmaimmbopfaaRdm
namespace Go.Proofs.Ytmhlmaimmbopfaa
open Go Go.RowKit Go.Calli
set_option linter.unusedVariables false
def vals5 (m : Msg) : List Value := [.int .i64 m.t, .int .i64 m.k, .int .i64 m.c, .int .i64 m.a, .int .i64 m.b]
def flat (ms : List Msg) : List Value := ms.flatMap vals5
theorem flat_len (ms : List Msg) : (flat ms).length = ms.length * 5 := by
  induction ms with
  | nil => rfl
  | cons m r ih => simp only [flat, List.flatMap_cons, List.length_append, List.length_cons] at *; rw [ih]; simp [vals5]; omega
theorem flat_snoc (ms : List Msg) (m : Msg) : flat (ms ++ [m]) = flat ms ++ vals5 m := by simp [flat]
theorem flat_get (ms : List Msg) : ∀ (i j : Nat), i < ms.length → j < 5 → (flat ms)[i * 5 + j]? = (vals5 (ms.getD i m0))[j]? := by
  induction ms with
  | nil => intro i j hi; simp at hi
  | cons m r ih =>
    intro i j hi hj
    have hl : (vals5 m).length = 5 := rfl
    show (vals5 m ++ flat r)[i * 5 + j]? = _
    cases i with
    | zero =>
      rw [Nat.zero_mul, Nat.zero_add, List.getElem?_append_left (by omega)]
      simp
    | succ i =>
      rw [List.getElem?_append_right (by omega), hl, show (i + 1) * 5 + j - 5 = i * 5 + j by omega, ih i j (by simpa using hi) hj]
      simp
/-- A message at an address. -/
def At5 (w : World) (A : Addr) (m : Msg) : Prop := w.cell? A = some (.int .i64 m.t) ∧ w.cell? ⟨A.block, A.off + 1, none⟩ = some (.int .i64 m.k) ∧ w.cell? ⟨A.block, A.off + 2, none⟩ = some (.int .i64 m.c) ∧ w.cell? ⟨A.block, A.off + 3, none⟩ = some (.int .i64 m.a) ∧ w.cell? ⟨A.block, A.off + 4, none⟩ = some (.int .i64 m.b)
structure Msgs (w : World) (ao : Option Addr) (n : Nat) (ms : List Msg) : Prop where
  hlen : ms.length = n
  lim : n ≤ maxLen
  cell : ∀ i, i < n → ∃ a, ao = some a ∧ At5 w (a.add (i * 5)) (ms.getD i m0)
theorem At5.keep {w w' : World} {A : Addr} {m : Msg} (h : At5 w A m) (hc : ∀ o, w.cell? ⟨A.block, o, none⟩ ≠ none → w'.cell? ⟨A.block, o, none⟩ = w.cell? ⟨A.block, o, none⟩) (hA : w'.cell? A = w.cell? A) : At5 w' A m := by
  obtain ⟨h0, h1, h2, h3, h4⟩ := h
  exact ⟨hA.trans h0, (hc _ (by rw [h1]; simp)).trans h1, (hc _ (by rw [h2]; simp)).trans h2, (hc _ (by rw [h3]; simp)).trans h3, (hc _ (by rw [h4]; simp)).trans h4⟩
theorem At5.keep0 {w w' : World} {A : Addr} {m : Msg} (h : At5 w A m) (hb : Below w.heap.size w w') : At5 w' A m := by
  have hl := World.block_lt_of_cell? w _ h.1
  exact h.keep (fun o _ => hb.cell (p := ⟨A.block, o, none⟩) hl) (hb.cell hl)
theorem At5.kept {S : Nat → Prop} {w w' : World} {A : Addr} {m : Msg} (h : At5 w A m) (hk : Keeps S w w') (hn : ¬ S A.block) : At5 w' A m := by
  obtain ⟨h0, h1, h2, h3, h4⟩ := h
  exact ⟨hk.cell h0 hn, hk.cell h1 hn, hk.cell h2 hn, hk.cell h3 hn, hk.cell h4 hn⟩
theorem Msgs.keep0 {w w' : World} {ao : Option Addr} {n : Nat} {ms : List Msg} (h : Msgs w ao n ms) (hb : Below w.heap.size w w') : Msgs w' ao n ms :=
  ⟨h.hlen, h.lim, fun i hi => by
    obtain ⟨a, ha, hc⟩ := h.cell i hi
    exact ⟨a, ha, hc.keep0 hb⟩⟩
theorem Msgs.kept {S : Nat → Prop} {w w' : World} {ao : Option Addr} {n : Nat} {ms : List Msg} (h : Msgs w ao n ms) (hk : Keeps S w w') (hS : ∀ a, ao = some a → ¬ S a.block) : Msgs w' ao n ms :=
  ⟨h.hlen, h.lim, fun i hi => by
    obtain ⟨a, ha, hc⟩ := h.cell i hi
    exact ⟨a, ha, hc.kept hk (by rw [Addr.add_block]; exact hS a ha)⟩⟩
theorem Msgs.take {w : World} {ao : Option Addr} {n k : Nat} {ms : List Msg} (h : Msgs w ao n ms) (hk : k ≤ n) : Msgs w ao k (ms.take k) :=
  ⟨by rw [List.length_take, h.hlen]; omega, Nat.le_trans hk h.lim, fun i hi => by
    obtain ⟨a, ha, hc⟩ := h.cell i (by omega)
    refine ⟨a, ha, ?_⟩
    have e : (ms.take k).getD i m0 = ms.getD i m0 := by simp [List.getD, hi]
    rw [e]; exact hc⟩
theorem Msgs.nil (w : World) (ao : Option Addr) : Msgs w ao 0 [] := ⟨rfl, by unfold maxLen; omega, fun i hi => by omega⟩
/-- What a call owns, as messages. -/
theorem own_msgs {w : World} {base : Nat} {v : Value} {n : Nat} {ms : List Msg} (h : w.ownsRow base 23 5 v n (flat ms)) :
    ∃ ao cap, v = .slice ao n cap ∧ n ≤ cap ∧ Msgs w ao n ms ∧ (∀ a, ao = some a → base ≤ a.block) := by
  have hx := h.1
  rw [flat_len] at hx
  rcases h.2 with ⟨rfl, rfl⟩ | ⟨g, cap, cur, rfl, hb, hg, hn, hc, hs, ht⟩
  · have : ms = [] := List.eq_nil_of_length_eq_zero (by omega)
    subst this
    exact ⟨none, 0, rfl, by omega, Msgs.nil _ _, fun a ha => by cases ha⟩
  · refine ⟨_, cap, rfl, hn, ⟨by omega, by omega, fun i hi => ⟨_, rfl, ?_⟩⟩, fun a ha => by cases ha; exact hb⟩
    have hc5 : ∀ j, j < 5 → ∀ u, (vals5 (ms.getD i m0))[j]? = some u → w.cell? ⟨g, i * 5 + j, none⟩ = some u := fun j hj u hu => by
      have := h.cells (g := g) rfl (i * 5 + j) u (by rw [flat_get ms i j (by omega) hj]; exact hu)
      rwa [add0, Nat.zero_add] at this
    rw [add0]
    simp only [Nat.zero_add]
    exact ⟨hc5 0 (by omega) _ rfl, hc5 1 (by omega) _ rfl, hc5 2 (by omega) _ rfl, hc5 3 (by omega) _ rfl, hc5 4 (by omega) _ rfl⟩
/-- The cells that 'append(out, x)' lays in a new block, for a record. -/
theorem rec_new (w : World) (us : List Value) (t : TypeId) : ∀ j u, us[j]? = some u → (w.alloc (.cells us.toArray t)).cell? ((⟨w.heap.size, 0, none⟩ : Addr).add j) = some u := by
  intro j u hu
  rw [add0, cell_of_row _ _ _ _ _ _ (heap_alloc_new _ _)]
  simpa using hu
theorem wpList_append_rec {P : Program} {w : World} {ops : Array Oper} {rest : List Oper} {o : Oper} {a : Act} {Q : Exit → Act → World → Prop} (hgd : o.guard = none) (s x : Operand) (t e : TypeId) (size : Nat)
    (ho : o.op = .call { callee := .builtin .append, args := #[s, x], argTypes := #[t, t] }) (hu : P.underlying t = some (.slice e))
    {z : Value} {bytes : Nat} (hinfo : (P.info? e).map (fun i => (i.zero, i.size, i.bytes)) = some (some z, size, bytes)) (hz1 : z.cells.size = size) (hs0 : 0 < size)
    (B : Nat) (v : Value) (n : Nat) (xs : List Value) (hs : a.eval s = v) (hown : w.ownsRow B e size v n xs) (us : List Value) (hus : us.length = size) (hx : a.eval x = .slice (some ⟨w.heap.size, 0, none⟩) 1 1) (h1 : ∀ u ∈ us, u.oneCell' = true)
    (hbd : (n + 1) * bytes ≤ 140737488355328) (hn : n + 1 ≤ maxLen) (hB : B ≤ w.heap.size)
    (h : ∀ v' w', w'.ownsRow B e size v' (n + 1) (xs ++ us) → Keeps (fun k => v.ownBlock = some k) w w' → wpList P ops Q rest (a.put o.dst v') w') : wpList P ops Q (o :: rest) a (w.alloc (.cells us.toArray e)) := by
  obtain ⟨i, hi, hz, hsz, hby⟩ := info_parts hinfo
  refine wpList_append_own _ hgd s x t ho B e i z size bytes hu hi hz hsz hby hz1 hs0 v n xs hs (hown.alloc _) ⟨w.heap.size, 0, none⟩ 1 1 us hx (by rw [hus]; omega) (rec_new _ _ _) h1 hn hbd (by simp; omega) ?_
  intro v' w' hown' hg _
  exact h v' w' hown' (((Keeps.refl _ w).alloc _).grown hg fun k hk => .inr hk)
theorem infoMsg : (Try.prog.info? 23).map (fun i => (i.zero, i.size, i.bytes)) = some (some (.agg #[.int .i64 0, .int .i64 0, .int .i64 0, .int .i64 0, .int .i64 0]), 5, 40) := by kernel_rfl
theorem vals5_one (m : Msg) : ∀ u ∈ vals5 m, u.oneCell' = true := by
  intro u hu
  simp only [vals5, List.mem_cons, List.not_mem_nil, or_false] at hu
  rcases hu with rfl | rfl | rfl | rfl | rfl <;> rfl
/-- At most 40 messages. -/
theorem few_any (ao : Option Addr) (n cap : Nat) (ms : List Msg) (hc : n ≤ cap) (w : World) (h : Msgs w ao n ms) : Calls Try.prog 12 #[.slice ao n cap] w fun e w' => ∃ n', e = .returned (.slice ao n' cap) ∧ Hid (n' = min n 40) ∧ n' ≤ 40 ∧ n' ≤ cap ∧ w = w' := by
  have hl := h.lim
  unfold maxLen at hl
  by_cases hgt : 40 < n
  · obtain ⟨a, rfl, -⟩ := h.cell 0 (by omega)
    go_enter Try.func12, Try.ntmps12
    go_wp2_with fail
    all_goals go_ret
    all_goals exact ⟨40, rfl, by unfold Hid; omega, by omega, by omega, rfl⟩
  · go_enter Try.func12, Try.ntmps12
    go_wp2_with fail
    go_ret
    exact ⟨n, rfl, by unfold Hid; omega, by omega, hc, rfl⟩
end Go.Proofs.Ytmhlmaimmbopfaa

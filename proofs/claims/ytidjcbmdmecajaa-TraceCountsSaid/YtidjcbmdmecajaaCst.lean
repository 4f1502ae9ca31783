/- TraceCounts: the state of its loop. -/
import Derived.Test.YtidjcbmdmecajaaTog
namespace Go.Proofs.Ytidjcbmdmecajaa
open Go Go.RowKit Go.Calli
set_option linter.unusedVariables false
set_option linter.unusedSimpArgs false
attribute [local irreducible] wpStill wpAnyH wpAnyS wpList Code.wp
/-- The log, and the two lists that the law keeps beside it. -/
structure CSt (Ab B2 : Nat) (vl ve v8 v9 : Value) (g : Lg) (le : List En) (ld : List Ed) (w2 wr : World) : Prop where
  log : LogIs wr Ab B2 vl ve g
  own8 : wr.ownsRow B2 43 4 v8 le.length (le.flatMap valsE)
  own9 : wr.ownsRow B2 45 2 v9 ld.length (ld.flatMap valsD)
  dis8 : ∀ k, v8.ownBlock = some k → vl.ownBlock ≠ some k
  dis9 : ∀ k, v9.ownBlock = some k → ve.ownBlock ≠ some k
  kep : Keeps (fun k => Ab ≤ k) w2 wr
theorem CSt.keep0 {Ab B2 : Nat} {vl ve v8 v9 : Value} {g : Lg} {le : List En} {ld : List Ed} {w2 wr w3 : World} (h : CSt Ab B2 vl ve v8 v9 g le ld w2 wr) (hb : Below wr.heap.size wr w3) : CSt Ab B2 vl ve v8 v9 g le ld w2 w3 :=
  ⟨h.log.keep0 hb, own_below0 h.own8 hb, own_below0 h.own9 hb, h.dis8, h.dis9, h.kep.below hb h.kep.size⟩
theorem CSt.inl {Ab B2 : Nat} {vl ve v8 v9 : Value} {g : Lg} {le : List En} {ld : List Ed} {w2 wr : World} (h : CSt Ab B2 vl ve v8 v9 g le ld w2 wr) : (∀ k, v8.ownBlock = some k → ¬ LogS Ab vl ve k) ∧ (∀ k, v9.ownBlock = some k → ¬ LogS Ab vl ve k) := by
  refine ⟨fun k hk hS => ?_, fun k hk hS => ?_⟩
  · rcases hS with hS | hS | hS
    · exact own_off h.log.blk (by decide) h.own8 (hS ▸ hk)
    · exact h.dis8 k hk hS
    · exact own_off2 h.own8 h.log.ended (by decide) k hk hS
  · rcases hS with hS | hS | hS
    · exact own_off h.log.blk (by decide) h.own9 (hS ▸ hk)
    · exact own_off2 h.own9 h.log.lost (by decide) k hk hS
    · exact h.dis9 k hk hS
/-- Behind a note. -/
theorem CSt.noted {Ab B2 : Nat} {vl ve v8 v9 : Value} {g g2 : Lg} {le : List En} {ld : List Ed} {w2 wr w3 : World} (h : CSt Ab B2 vl ve v8 v9 g le ld w2 wr) (hAB : Ab ≤ B2) (hB : B2 ≤ wr.heap.size)
    (hx : ∃ vl' ve', LogIs w3 Ab B2 vl' ve' g2 ∧ Keeps (LogS Ab vl ve) wr w3 ∧ (∀ k, LogS Ab vl' ve' k → LogS Ab vl ve k ∨ wr.heap.size ≤ k)) : ∃ vl' ve', CSt Ab B2 vl' ve' v8 v9 g2 le ld w2 w3 ∧ Keeps (LogS Ab vl ve) wr w3 := by
  obtain ⟨vl', ve', h1, h2, h3⟩ := hx
  obtain ⟨i8, i9⟩ := h.inl
  refine ⟨vl', ve', ⟨h1, owns_kept h.own8 h2 i8, owns_kept h.own9 h2 i9, fun k hk hS => ?_, fun k hk hS => ?_, ?_⟩, h2⟩
  · rcases h3 k (.inr (.inl hS)) with h4 | h4
    · exact i8 k hk h4
    · have := (h.own8.lt k hk).2; omega
  · rcases h3 k (.inr (.inr hS)) with h4 | h4
    · exact i9 k hk h4
    · have := (h.own9.lt k hk).2; omega
  · exact h.kep.andThen h2 fun k hk hS => by
      rcases h.log.inS k hS with h4 | h4
      · show Ab ≤ k; omega
      · show Ab ≤ k; omega
theorem CSt.add8 {Ab B2 : Nat} {vl ve v8 v9 v' : Value} {g : Lg} {le : List En} {ld : List Ed} {w2 wr w3 : World} (h : CSt Ab B2 vl ve v8 v9 g le ld w2 wr) (hAB : Ab ≤ B2) (e : En)
    (hown : w3.ownsRow B2 43 4 v' (le.length + 1) (le.flatMap valsE ++ valsE e)) (hk : Keeps (fun k => v8.ownBlock = some k) wr w3) (hn : ∀ k, v'.ownBlock = some k → v8.ownBlock = some k ∨ wr.heap.size ≤ k) : CSt Ab B2 vl ve v' v9 g (le ++ [e]) ld w2 w3 := by
  obtain ⟨i8, i9⟩ := h.inl
  refine ⟨h.log.kept hk (fun k hS h8 => i8 k h8 hS), by simpa using hown, owns_kept h.own9 hk (fun k h9 h8 => own_off2 h.own8 h.own9 (by decide) k h8 h9), fun k hk' hS => ?_, h.dis9, h.kep.andThen hk fun k _ h8 => by have := (h.own8.lt k h8).1; show Ab ≤ k; omega⟩
  rcases hn k hk' with h4 | h4
  · exact h.dis8 k h4 hS
  · have := (h.log.lost.lt k hS).2; omega
theorem CSt.add9 {Ab B2 : Nat} {vl ve v8 v9 v' : Value} {g : Lg} {le : List En} {ld : List Ed} {w2 wr w3 : World} (h : CSt Ab B2 vl ve v8 v9 g le ld w2 wr) (hAB : Ab ≤ B2) (e : Ed)
    (hown : w3.ownsRow B2 45 2 v' (ld.length + 1) (ld.flatMap valsD ++ valsD e)) (hk : Keeps (fun k => v9.ownBlock = some k) wr w3) (hn : ∀ k, v'.ownBlock = some k → v9.ownBlock = some k ∨ wr.heap.size ≤ k) : CSt Ab B2 vl ve v8 v' g le (ld ++ [e]) w2 w3 := by
  obtain ⟨i8, i9⟩ := h.inl
  refine ⟨h.log.kept hk (fun k hS h9 => i9 k h9 hS), owns_kept h.own8 hk (fun k h8 h9 => own_off2 h.own8 h.own9 (by decide) k h8 h9), by simpa using hown, h.dis8, fun k hk' hS => ?_, h.kep.andThen hk fun k _ h9 => by have := (h.own9.lt k h9).1; show Ab ≤ k; omega⟩
  rcases hn k hk' with h4 | h4
  · exact h.dis9 k h4 hS
  · have := (h.log.ended.lt k hS).2; omega
theorem wpList_append_rec_at {P : Program} {w : World} {ops : Array Oper} {rest : List Oper} {o : Oper} {a : Act} {Q : Exit → Act → World → Prop} (hgd : o.guard = none) (s x : Operand) (t e : TypeId) (size : Nat)
    (ho : o.op = .call { callee := .builtin .append, args := #[s, x], argTypes := #[t, t] }) (hu : P.underlying t = some (.slice e))
    {z : Value} {bytes : Nat} (hinfo : (P.info? e).map (fun i => (i.zero, i.size, i.bytes)) = some (some z, size, bytes)) (hz1 : z.cells.size = size) (hs0 : 0 < size)
    (B : Nat) (v : Value) (n : Nat) (xs : List Value) (hs : a.eval s = v) (hown : w.ownsRow B e size v n xs) (us : List Value) (hus : us.length = size) (hx : a.eval x = .slice (some ⟨w.heap.size, 0, none⟩) 1 1) (h1 : ∀ u ∈ us, u.oneCell' = true)
    (hbd : (n + 1) * bytes ≤ 140737488355328) (hn : n + 1 ≤ maxLen) (hB : B ≤ w.heap.size)
    (h : ∀ v' w', w'.ownsRow B e size v' (n + 1) (xs ++ us) → Keeps (fun k => v.ownBlock = some k) w w' → (∀ k, v'.ownBlock = some k → v.ownBlock = some k ∨ w.heap.size ≤ k) → wpList P ops Q rest (a.put o.dst v') w') : wpList P ops Q (o :: rest) a (w.alloc (.cells us.toArray e)) := by
  obtain ⟨v', w', hr, h2, h3, h4⟩ := run_append_rec_at (P := P) w t o.type e size hu hinfo hz1 hs0 B v n xs hown us hus h1 hbd hn hB
  refine wpList_plain hgd fun K hK => ?_
  unfold Oper.wp execOp
  simp only [ho, resolve, invoke, builtin, Sem.run_bind, Sem.run_pure, Result.andThen_ok, List.map_toArray, List.map_cons, List.map_nil, hs, hx, hr]
  exact hK _ _ (h v' w' h2 h3 h4)
theorem lt_own {w : World} {B e size n : Nat} {v : Value} {xs : List Value} (h : w.ownsRow B e size v n xs) : ∀ k, v.ownBlock = some k → B ≤ k ∧ k < w.heap.size := h.lt
end Go.Proofs.Ytidjcbmdmecajaa

/- The walk of cache's Span. -/
import Derived.Test.YtbboljmmpbchgaaMad
namespace Go.Proofs.Ytbboljmmpbchgaa
open Go Go.RowKit Go.Calli Go.Dskp Go.Maps
set_option linter.unusedVariables false
set_option linter.unusedSimpArgs false
attribute [local irreducible] wpStill wpAnyH wpAnyS wpList Code.wp
/-- append(out, x...), told with the block of what it gives. -/
theorem wpList_append_row_at {P : Program} {w : World} {ops : Array Oper} {rest : List Oper} {o : Oper} {a : Act} {Q : Exit → Act → World → Prop} (hgd : o.guard = none) (s x : Operand) (t e : TypeId)
    (ho : o.op = .call { callee := .builtin .append, args := #[s, x], argTypes := #[t, t] }) (hu : P.underlying t = some (.slice e))
    {z : Value} {bytes : Nat} (hinfo : (P.info? e).map (fun i => (i.zero, i.size, i.bytes)) = some (some z, 1, bytes)) (hz1 : z.cells.size = 1)
    (B : Nat) (v : Value) (n : Nat) (xs : List Value) (hs : a.eval s = v) (hown : w.ownsRow B e 1 v n xs)
    (ad : Addr) (m c : Nat) (news : List Value) (hx : a.eval x = .slice (some ad) m c) (hrow : Row w (some ad) m news) (h1 : ∀ u ∈ news, u.oneCell' = true)
    (hbd : (n + m) * bytes ≤ 140737488355328) (hn : n + m ≤ maxLen) (hB : B ≤ w.heap.size)
    (h : ∀ v' w', w'.ownsRow B e 1 v' (n + m) (xs ++ news) → Keeps (fun k => v.ownBlock = some k) w w' → (v'.ownBlock = v.ownBlock ∨ v'.ownBlock = some w.heap.size) → wpList P ops Q rest (a.put o.dst v') w') : wpList P ops Q (o :: rest) a w := by
  obtain ⟨i, hi, hz, hsz, hby⟩ := info_parts hinfo
  have hcell : ∀ j u, news[j]? = some u → w.cell? (ad.add j) = some u := fun j u hj => by
    obtain ⟨a', ha', hc⟩ := hrow.cell j u hj
    cases ha'
    exact hc
  obtain ⟨v', w', hr, h2, h3, _⟩ := run_append_own (P := P) w B t o.type e i z 1 bytes hu hi hz hsz hby hz1 (by decide) v n xs hown ad m c news (by rw [hrow.hlen]; omega) hcell h1 hn hbd hB
  have hblk := append_block (P := P) t o.type e hu hi hz hsz B v v' n xs hown ad m c news hrow.hlen hcell h1 (by rw [hby]; exact hbd) hn hr
  refine wpList_plain hgd fun K hK => ?_
  unfold Oper.wp execOp
  simp only [ho, resolve, invoke, builtin, Sem.run_bind, Sem.run_pure, Result.andThen_ok, List.map_toArray, List.map_cons, List.map_nil, hs, hx, hr]
  exact hK _ _ (h v' w' h2 ((Keeps.refl _ w).grown h3 fun k hk => .inr hk) hblk)
/-- The cache stays while others' blocks are written. -/
theorem CaIs.keptX {A : Ad} {w w' : World} {n : Nat} {c : Ca} (h : CaIs A w n c) (hk : Keeps A.x w w') : CaIs A w' n c := by
  obtain ⟨ms, hS, hM⟩ := h.slots
  obtain ⟨m, hm, hD⟩ := h.dsk
  have hx := h.away.2
  exact ⟨hk.heap h.row (fun e => (hx _ e).2.1 (.inl rfl)), ⟨ms, hS.kept hk (fun e => (hx _ e).2.1 (.inr (.inl rfl))), hM.keptT (hk.mono fun k _ e => .inr e)⟩, ⟨m, hm, hD.kept hk (fun e => (hx _ e).2.1 (.inr (.inr (.inl rfl)))) (fun e => (hx _ e).2.1 (.inr (.inr (.inr rfl)))) (fun a ha e => (hx _ e).2.2 a ha rfl)⟩, h.len, h.hand, h.dist, h.away.mono hk.size⟩
/-- Others' blocks that are new. -/
theorem CaIs.setX {A : Ad} {w w' : World} {n : Nat} {c : Ca} (h : CaIs A w n c) (hC : COk c) (hk : Keeps A.x w w') {x : Nat → Prop} (hx : ∀ k, x k → k < w'.heap.size ∧ (A.x k ∨ w.heap.size ≤ k)) : CaIs { A with x := x } w' n c := by
  have h' := h.keptX hk
  obtain ⟨ms, hS, hM⟩ := h.slots
  obtain ⟨m, hm, hD⟩ := h'.dsk
  have hms := hM.keptT (hk.mono fun k _ e => .inr e)
  refine ⟨h'.row, ⟨ms, hS.kept hk (fun e => (h.away.2 _ e).2.1 (.inr (.inl rfl))), ⟨hM.len, fun i hi => ?_⟩⟩, ⟨m, hm, hD⟩, h.len, h.hand, h.dist, ⟨fun a ha => h'.away.1 a ha, fun k hxk => ⟨(hx k hxk).1, ?_, ?_⟩⟩⟩
  · have h1 := hM.is i hi
    have h2 := hms.is i hi
    refine ⟨h1.p, h1.u, h1.f, fun hf => ?_⟩
    obtain ⟨a1, a2, a4, a5⟩ := h2.bs hf
    refine ⟨a1, a2, a4, fun a ha hT => ?_⟩
    rcases hT with hT | hT
    · exact a5 a ha (.inl hT)
    · rcases (hx _ hT).2 with e | e
      · exact a5 a ha (.inr e)
      · have hun := ((h1.bs hf).2.2.1).under (by rw [(h1.bs hf).1, ((hC i hi) hf).1]; decide) a ha
        omega
  · rcases (hx k hxk).2 with e | e
    · exact (h.away.2 k e).2.1
    · intro hS'
      have := h.inW k hS'
      omega
  · intro a ha
    rcases (hx k hxk).2 with e | e
    · exact (h.away.2 k e).2.2 a ha
    · have := h.away.1 a ha
      omega
theorem span_bad (A : Ad) (n : Nat) (c : Ca) (hd : c.d.Ok) (at_ m : Int) (hb : at_ < 0 ∨ (0 ≤ at_ ∧ m < 0) ∨ (0 ≤ at_ ∧ 0 ≤ m ∧ (c.d.pages : Int) * 64 < at_) ∨ (0 ≤ at_ ∧ 0 ≤ m ∧ at_ ≤ (c.d.pages : Int) * 64 ∧ (c.d.pages : Int) * 64 - at_ < m)) (w : World) (h : CaIs A w n c) : Calls Try.prog 16 #[.pointer (some ⟨A.cb, 0, none⟩), .int .i64 at_, .int .i64 m] w (GtPost A n ⟨5, [], c⟩ w) := by
  have hN := cnone_any A n c w h
  obtain ⟨m0, -, hD⟩ := h.dsk
  have hP := pages_any A.b A.mb A.ib A.kap m0 c.d hd w hD
  obtain ⟨c0, c1, c2, c3, c4, c5, c6, c7⟩ := eight_cells h.row
  have hpb : (c.d.pages : Int) ≤ 65536 := by have := hd.1; unfold Dk.pages; omega
  have HH := Lib.hid h
  clear h hD
  have HF : Hid (∀ w', w' = w → GtPost A n ⟨5, [], c⟩ w (.returned (.tuple #[.slice none 0 0, .int .i64 5])) w') := fun w' e => by
    subst e
    exact ⟨none, 0, rfl, Nat.le_refl _, HH.out, Ints.nil _ _ _, fun a ha => (by cases ha), Keeps.refl _ _⟩
  generalize c.d.pages = N at *
  have hw1 : IntKind.i64.wrap ((N : Int) * 64) = (N : Int) * 64 := IntWalk.i64_in _ (by omega)
  rcases hb with h1 | ⟨h1, h2⟩ | ⟨h1, h2, h3⟩ | ⟨h1, h2, h3, h4⟩
  · go_enter Try.func16, Try.ntmps16
    go_wp2_with (first | (go_at_call 24; refine hN.mono ?_; rintro e w' ⟨rfl, rfl⟩) | (go_at_call 27; refine hP.mono ?_; rintro e w' ⟨rfl, rfl⟩))
    go_ret2
    exact HF.out _ rfl
  · go_enter Try.func16, Try.ntmps16
    go_wp2_with (first | (go_at_call 24; refine hN.mono ?_; rintro e w' ⟨rfl, rfl⟩) | (go_at_call 27; refine hP.mono ?_; rintro e w' ⟨rfl, rfl⟩))
    go_ret2
    exact HF.out _ rfl
  · go_enter Try.func16, Try.ntmps16
    go_wp2_with (first | (go_at_call 24; refine hN.mono ?_; rintro e w' ⟨rfl, rfl⟩) | (go_at_call 27; refine hP.mono ?_; rintro e w' ⟨rfl, rfl⟩))
    go_ret2
    exact HF.out _ rfl
  · have hw2 : IntKind.i64.wrap ((N : Int) * 64 - at_) = (N : Int) * 64 - at_ := IntWalk.i64_in _ (by omega)
    go_enter Try.func16, Try.ntmps16
    go_wp2_with (first | (go_at_call 24; refine hN.mono ?_; rintro e w' ⟨rfl, rfl⟩) | (go_at_call 27; refine hP.mono ?_; rintro e w' ⟨rfl, rfl⟩))
    go_ret2
    exact HF.out _ rfl
end Go.Proofs.Ytbboljmmpbchgaa

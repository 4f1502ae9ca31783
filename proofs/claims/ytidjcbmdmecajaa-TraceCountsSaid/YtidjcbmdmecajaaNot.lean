/- The walks of trace's New, Note, All. -/
import Derived.Test.YtidjcbmdmecajaaTms
import Derived.Test.YtidjcbmdmecajaaRea
namespace Go.Proofs.Ytidjcbmdmecajaa
open Go Go.RowKit Go.Calli
set_option linter.unusedVariables false
set_option linter.unusedSimpArgs false
attribute [local irreducible] wpStill wpAnyH wpAnyS wpList Code.wp
def NewPost (w : World) (e : Ending) (w' : World) : Prop := e = .returned (.pointer (some ⟨w.heap.size, 0, none⟩)) ∧ w'.heap.size = w.heap.size + 1 ∧ (∀ B, LogIs w' w.heap.size B (.slice none 0 0) (.slice none 0 0) g0) ∧ Below w.heap.size w w'
theorem new_any (w : World) : Calls Try.prog 7 #[] w (NewPost w) := by
  go_enter Try.func7, Try.ntmps7
  go_wp2_with fail
  go_ret
  exact ⟨rfl, World.size_alloc _ _, fun B => ⟨heap_alloc_new _ _, World.ownsRow_nil _ _ _ _, World.ownsRow_nil _ _ _ _⟩, below_alloc _ _⟩
theorem note_nil (m : RpM) (r : Rp) (w : World) : Calls Try.prog 12 #[.pointer none, .agg (valsR m r).toArray] w (fun e w' => e = .returned (.tuple #[]) ∧ Below w.heap.size w w') := by
  go_enter Try.func12, Try.ntmps12
  go_wp2_with fail
  refine bodyPost_ret (results_none rfl _ _ _) rfl ⟨rfl, below_alloc _ _⟩
def NotePost (b B : Nat) (vl ve : Value) (g' : Lg) (w : World) (e : Ending) (w' : World) : Prop := e = .returned (.tuple #[]) ∧ ∃ vl' ve', LogIs w' b B vl' ve' g' ∧ Keeps (LogS b vl ve) w w' ∧ (∀ k, LogS b vl' ve' k → LogS b vl ve k ∨ w.heap.size ≤ k)
/-- One more lost frame, one more end. -/
def addL (g : Lg) (l : List En) : Lg := { g with lost := g.lost ++ l }
def addE (g : Lg) (l : List Ed) : Lg := { g with ended := g.ended ++ l }
theorem log_lost {W w2 : World} {b B : Nat} {vl ve vl2 : Value} {g : Lg} (h : LogIs W b B vl ve g) (e : En) (hown : w2.ownsRow B 43 4 vl2 (g.lost.length + 1) (g.lost.flatMap valsE ++ valsE e)) (hk : Keeps (fun k => vl.ownBlock = some k) W w2) (hn : ∀ k, vl2.ownBlock = some k → vl.ownBlock = some k ∨ W.heap.size ≤ k) :
    w2.heap[b]? = some (.cells #[.int .i64 g.samples, .int .i64 g.renders, .int .i64 g.frames, .int .i64 g.reads, vl, ve, .int .i64 g.worst] 51 (0, 0)) ∧ LogIs (w2.setCell ⟨b, 4, none⟩ vl2) b B vl2 ve (addL g [e]) ∧ Keeps (LogS b vl ve) W (w2.setCell ⟨b, 4, none⟩ vl2) ∧ ∀ k, LogS b vl2 ve k → LogS b vl ve k ∨ W.heap.size ≤ k := by
  have h1 : w2.heap[b]? = some (.cells #[.int .i64 g.samples, .int .i64 g.renders, .int .i64 g.frames, .int .i64 g.reads, vl, ve, .int .i64 g.worst] 51 (0, 0)) := hk.heap h.blk (own_off h.blk (by decide) h.lost)
  have hks : Keeps (fun k => k = b) w2 (w2.setCell ⟨b, 4, none⟩ vl2) := (Keeps.refl (fun k => k = b) w2).setCell (p := ⟨b, 4, none⟩) (.inr rfl) _
  refine ⟨h1, ⟨?_, ?_, ?_⟩, ?_, ?_⟩
  · rw [heap_setCell_same _ _ _ _ _ _ h1]; rfl
  · have := owns_kept hown hks (fun k hk e => own_off h1 (by decide) hown (e ▸ hk))
    simpa [addL] using this
  · refine owns_kept (owns_kept h.ended hk (fun k h2 h3 => own_off2 h.lost h.ended (by decide) k h3 h2)) hks (fun k hk e => own_off h.blk (by decide) h.ended (e ▸ hk))
  · exact (hk.mono fun k _ h => .inr (.inl h)).andThen hks fun i _ e => .inl e
  · rintro k (rfl | hk | hk)
    · exact .inl (.inl rfl)
    · rcases hn k hk with h | h
      · exact .inl (.inr (.inl h))
      · exact .inr h
    · exact .inl (.inr (.inr hk))
theorem log_ended {W w2 : World} {b B : Nat} {vl ve ve2 : Value} {g : Lg} (h : LogIs W b B vl ve g) (e : Ed) (hown : w2.ownsRow B 45 2 ve2 (g.ended.length + 1) (g.ended.flatMap valsD ++ valsD e)) (hk : Keeps (fun k => ve.ownBlock = some k) W w2) (hn : ∀ k, ve2.ownBlock = some k → ve.ownBlock = some k ∨ W.heap.size ≤ k) :
    w2.heap[b]? = some (.cells #[.int .i64 g.samples, .int .i64 g.renders, .int .i64 g.frames, .int .i64 g.reads, vl, ve, .int .i64 g.worst] 51 (0, 0)) ∧ LogIs (w2.setCell ⟨b, 5, none⟩ ve2) b B vl ve2 (addE g [e]) ∧ Keeps (LogS b vl ve) W (w2.setCell ⟨b, 5, none⟩ ve2) ∧ ∀ k, LogS b vl ve2 k → LogS b vl ve k ∨ W.heap.size ≤ k := by
  have h1 : w2.heap[b]? = some (.cells #[.int .i64 g.samples, .int .i64 g.renders, .int .i64 g.frames, .int .i64 g.reads, vl, ve, .int .i64 g.worst] 51 (0, 0)) := hk.heap h.blk (own_off h.blk (by decide) h.ended)
  have hks : Keeps (fun k => k = b) w2 (w2.setCell ⟨b, 5, none⟩ ve2) := (Keeps.refl (fun k => k = b) w2).setCell (p := ⟨b, 5, none⟩) (.inr rfl) _
  refine ⟨h1, ⟨?_, ?_, ?_⟩, ?_, ?_⟩
  · rw [heap_setCell_same _ _ _ _ _ _ h1]; rfl
  · refine owns_kept (owns_kept h.lost hk (fun k h2 h3 => own_off2 h.lost h.ended (by decide) k h2 h3)) hks (fun k hk e => own_off h.blk (by decide) h.lost (e ▸ hk))
  · have := owns_kept hown hks (fun k hk e => own_off h1 (by decide) hown (e ▸ hk))
    simpa [addE] using this
  · exact (hk.mono fun k _ h => .inr (.inr h)).andThen hks fun i _ e => .inl e
  · rintro k (rfl | hk | hk)
    · exact .inl (.inl rfl)
    · exact .inl (.inr (.inl hk))
    · rcases hn k hk with h | h
      · exact .inl (.inr (.inr h))
      · exact .inr h
theorem ents_take (k : Int) (l : List Ls) (j : Nat) (h : j < l.length) : ents k (l.take (j + 1)) = ents k (l.take j) ++ [⟨k, l.getD j l0⟩] := by
  rw [List.take_succ_eq_append_getElem h, ents, List.map_append]; simp [ents, List.getD, h]
theorem ends_take (k : Int) (l : List Int) (j : Nat) (h : j < l.length) : ends k (l.take (j + 1)) = ends k (l.take j) ++ [⟨k, l.getD j 0⟩] := by
  rw [List.take_succ_eq_append_getElem h, ends, List.map_append]; simp [ends, List.getD, h]
/-- The state of Note's loops. -/
def NtRel (b B : Nat) (vl ve : Value) (g' : Lg) (pb : Nat) (cs : Array Value) (w wr : World) : Prop := ∃ vl' ve', LogIs wr b B vl' ve' g' ∧ Keeps (LogS b vl ve) w wr ∧ (∀ k, LogS b vl' ve' k → LogS b vl ve k ∨ w.heap.size ≤ k) ∧ wr.heap[pb]? = some (.cells cs 32 (0, 0))
theorem own_form {w : World} {B e size n : Nat} {v : Value} {xs : List Value} (h : w.ownsRow B e size v n xs) : ∃ ao cap, v = .slice ao n cap := by
  rcases h.2 with ⟨rfl, rfl⟩ | ⟨g, cap, cur, rfl, _⟩
  · exact ⟨none, 0, rfl⟩
  · exact ⟨_, cap, rfl⟩
theorem nt_step {w W1 w3 : World} {b B : Nat} {vl ve vl' ve' v2 ve2 : Value} {g1 g2 : Lg} {cs : Array Value} (hL : LogIs W1 b B vl' ve' g1) (hbw : b < w.heap.size) (hk1 : Keeps (LogS b vl ve) w W1) (hnw : ∀ k, LogS b vl' ve' k → LogS b vl ve k ∨ w.heap.size ≤ k) (hp1 : W1.heap[w.heap.size]? = some (.cells cs 32 (0, 0)))
    (hL2 : LogIs w3 b B v2 ve2 g2) (hk3 : Keeps (LogS b vl' ve') W1 w3) (hn3 : ∀ k, LogS b v2 ve2 k → LogS b vl' ve' k ∨ W1.heap.size ≤ k) : NtRel b B vl ve g2 w.heap.size cs w w3 := by
  have hs := hk1.size
  refine ⟨v2, ve2, hL2, hk1.andThen hk3 (fun i hi hS => (hnw i hS).resolve_right (by omega)), fun k hk => ?_, hk3.heap hp1 ?_⟩
  · rcases hn3 k hk with h | h
    · exact hnw k h
    · exact .inr (by omega)
  · rintro (h | h | h)
    · omega
    · exact own_off hp1 (by decide) hL.lost h
    · exact own_off hp1 (by decide) hL.ended h
theorem log_put {W : World} {b B : Nat} {vl ve : Value} {g : Lg} (h : LogIs W b B vl ve g) (o : Nat) (v : Value) (g' : Lg) (hl : g'.lost = g.lost) (he : g'.ended = g.ended) (hc : (#[Value.int .i64 g.samples, .int .i64 g.renders, .int .i64 g.frames, .int .i64 g.reads, vl, ve, .int .i64 g.worst]).setIfInBounds o v = #[.int .i64 g'.samples, .int .i64 g'.renders, .int .i64 g'.frames, .int .i64 g'.reads, vl, ve, .int .i64 g'.worst]) :
    LogIs (W.setCell ⟨b, o, none⟩ v) b B vl ve g' ∧ Keeps (LogS b vl ve) W (W.setCell ⟨b, o, none⟩ v) := by
  have hks : Keeps (fun k => k = b) W (W.setCell ⟨b, o, none⟩ v) := (Keeps.refl (fun k => k = b) W).setCell (p := ⟨b, o, none⟩) (.inr rfl) _
  refine ⟨⟨?_, ?_, ?_⟩, hks.mono fun k _ h => .inl h⟩
  · rw [heap_setCell_same _ _ _ _ _ _ h.blk, hc]
  · rw [hl]; exact owns_kept h.lost hks (fun k hk e => own_off h.blk (by decide) h.lost (e ▸ hk))
  · rw [he]; exact owns_kept h.ended hks (fun k hk e => own_off h.blk (by decide) h.ended (e ▸ hk))
/-- The state while the log's numbers are counted up. -/
structure NtSt (b B : Nat) (vl ve vl' ve' : Value) (g' : Lg) (pb : Nat) (v0 v1 v2 v3 v4 : Value) (w wr : World) : Prop where
  log : LogIs wr b B vl' ve' g'
  kep : Keeps (LogS b vl ve) w wr
  new : ∀ k, LogS b vl' ve' k → LogS b vl ve k ∨ w.heap.size ≤ k
  blk : wr.heap[pb]? = some (.cells #[v0, v1, v2, v3, v4] 32 (0, 0))
theorem NtSt.drew {b B : Nat} {vl ve vl' ve' : Value} {g' : Lg} {pb : Nat} {v0 v1 v2 v3 v4 : Value} {w wr : World} (h : NtSt b B vl ve vl' ve' g' pb v0 v1 v2 v3 v4 w wr) : NtSt b B vl ve vl' ve' g' pb v0 v1 v2 v3 v4 w wr.drew := ⟨h.log.keep0 (Below.refl _ _).drew, h.kep.drew, h.new, h.blk⟩
theorem NtSt.put {b B : Nat} {vl ve vl' ve' : Value} {g1 : Lg} {pb : Nat} {v0 v1 v2 v3 v4 : Value} {w wr : World} (h : NtSt b B vl ve vl' ve' g1 pb v0 v1 v2 v3 v4 w wr) (o : Nat) (v : Value) (g' : Lg) (hl : g'.lost = g1.lost) (he : g'.ended = g1.ended) (hc : (#[Value.int .i64 g1.samples, .int .i64 g1.renders, .int .i64 g1.frames, .int .i64 g1.reads, vl', ve', .int .i64 g1.worst]).setIfInBounds o v = #[.int .i64 g'.samples, .int .i64 g'.renders, .int .i64 g'.frames, .int .i64 g'.reads, vl', ve', .int .i64 g'.worst]) :
    NtSt b B vl ve vl' ve' g' pb v0 v1 v2 v3 v4 w (wr.setCell ⟨b, o, none⟩ v) := by
  obtain ⟨l1, l2⟩ := log_put h.log o v g' hl he hc
  refine ⟨l1, h.kep.setCell (.inr (.inl rfl)) _, h.new, ?_⟩
  rw [heap_setCell_other _ _ _ _ (fun e => ?_)]
  · exact h.blk
  · have := h.blk
    rw [e, h.log.blk] at this
    simp at this
theorem NtSt.cells {b B : Nat} {vl ve vl' ve' : Value} {g' : Lg} {pb : Nat} {v0 v1 v2 v3 v4 : Value} {w wr : World} (h : NtSt b B vl ve vl' ve' g' pb v0 v1 v2 v3 v4 w wr) (o : Nat) (v : Value) (hv : (#[Value.int .i64 g'.samples, .int .i64 g'.renders, .int .i64 g'.frames, .int .i64 g'.reads, vl', ve', .int .i64 g'.worst])[o]? = some v) (q : Nat) (u : Value) (hu : (#[v0, v1, v2, v3, v4])[q]? = some u) :
    wr.cell? ⟨b, o, none⟩ = some v ∧ wr.frozen? ⟨b, o, none⟩ = false ∧ wr.cell? ⟨pb, q, none⟩ = some u :=
  ⟨(cell_of_row _ _ _ _ _ _ h.log.blk).trans hv, frozen_of_row _ _ _ _ _ h.log.blk, (cell_of_row _ _ _ _ _ _ h.blk).trans hu⟩
set_option maxRecDepth 100000 in
set_option maxHeartbeats 4000000 in
theorem note_any (b B : Nat) (vl ve : Value) (g : Lg) (m : RpM) (r : Rp) (k : Nat) (hk : k ≤ 1000) (hg : Lim k g) (hr : Sm r) (w : World) (hB : B ≤ w.heap.size) (h : LogIs w b B vl ve g) (hm : m.Is w r) (hf : m.Far (LogS b vl ve)) : Calls Try.prog 12 #[.pointer (some ⟨b, 0, none⟩), .agg (valsR m r).toArray] w (NotePost b B vl ve (note g r) w) := by
  have HN2 := Lib.hid hm.lost.hlen
  have HN3 := Lib.hid hm.ended.hlen
  have s2 : m.n2 ≤ 20 := by rw [← HN2.out]; exact hr.lost
  have s3 : m.n3 ≤ 20 := by rw [← HN3.out]; exact hr.ended
  have s4 : ∀ j, (r.lost.take j).length ≤ 20 := fun j => by rw [List.length_take]; have := hr.lost; omega
  have s5 : ∀ j, (r.ended.take j).length ≤ 20 := fun j => by rw [List.length_take]; have := hr.ended; omega
  have g8 := hg.l
  have g9 := hg.e
  obtain ⟨cs, hcs⟩ : ∃ cs, cs = (valsR m r).toArray := ⟨_, rfl⟩
  rw [← hcs]
  have HCS := Lib.hid hcs
  clear hcs
  go_enter Try.func12, Try.ntmps12
  go_upto_region 2 with fail
  have hblk : (w.alloc (.cells cs 32)).heap[w.heap.size]? = some (.cells cs 32 (0, 0)) := heap_alloc_new _ _
  have hk0 : Keeps (LogS b vl ve) w (w.alloc (.cells cs 32)) := (Keeps.refl _ w).alloc _
  have hL0 := h.keep0 (below_alloc w (.cells cs 32))
  generalize w.alloc (.cells cs 32) = W at *
  rw [HCS.out] at hblk
  obtain ⟨A2, hA2⟩ : ∃ A, A = m.o2 := ⟨_, rfl⟩
  obtain ⟨A3, hA3⟩ : ∃ A, A = m.o3 := ⟨_, rfl⟩
  obtain ⟨p0, p1, p2, p3, p4⟩ : W.cell? ⟨w.heap.size, 0, none⟩ = some (.slice m.o1 m.n1 m.c1) ∧ W.cell? ⟨w.heap.size, 1, none⟩ = some (.slice A2 m.n2 m.c2) ∧ W.cell? ⟨w.heap.size, 2, none⟩ = some (.slice A3 m.n3 m.c3) ∧ W.cell? ⟨w.heap.size, 3, none⟩ = some (.int .i64 r.frames) ∧ W.cell? ⟨w.heap.size, 4, none⟩ = some (.int .i64 r.reads) := ⟨(cell_of_row _ _ _ _ _ _ hblk).trans rfl, (cell_of_row _ _ _ _ _ _ hblk).trans (by rw [hA2]; rfl), (cell_of_row _ _ _ _ _ _ hblk).trans (by rw [hA3]; rfl), (cell_of_row _ _ _ _ _ _ hblk).trans rfl, (cell_of_row _ _ _ _ _ _ hblk).trans rfl⟩
  have HA2 := Lib.hid hA2
  have HA3 := Lib.hid hA3
  clear hA2 hA3
  go_wp2_with fail
  go_loopw [13] (fun v13 wr => ∃ j : Nat, j ≤ m.n2 ∧ v13 = .int .i64 j ∧ NtRel b B vl ve (addL g (ents g.renders (r.lost.take j))) w.heap.size (valsR m r).toArray w wr) (fun v13 _ => (m.n2 - (intOf v13).toNat))
  case atStart => exact ⟨0, by omega, rfl, vl, ve, by simpa [addL, ents] using hL0, hk0, fun k hk => .inl hk, hblk⟩
  case round =>
    obtain ⟨j, hj, rfl, vl', ve', hL, hkw, hnw, hpb⟩ := hrel
    by_cases hlt : j < m.n2
    · obtain ⟨a, ha, hcell⟩ := (hm.kept hkw hf).lost.cell j hlt
      obtain rfl : A2 = some a := HA2.out.trans ha
      clear ha
      have hsn := ents_take g.renders r.lost j (by rw [HN2.out]; exact hlt)
      generalize r.lost.getD j l0 = x at *
      have hc0 : wr.cell? (a.add (j * 3)) = some (.int .i64 x.v) := hcell 0 _ rfl
      have hc1 : wr.cell? ⟨(a.add (j * 3)).block, (a.add (j * 3)).off + 1, none⟩ = some (.int .i64 x.c) := hcell 1 _ rfl
      have hc2 : wr.cell? ⟨(a.add (j * 3)).block, (a.add (j * 3)).off + 2, none⟩ = some (.int .i64 x.b) := hcell 2 _ rfl
      clear hcell
      have HSN := Lib.hid hsn
      clear hsn
      have hlen : (addL g (ents g.renders (r.lost.take j))).lost.length ≤ 20 * k + 20 := by have := s4 j; simp only [addL, ents, List.length_append, List.length_map]; omega
      have hgr : (addL g (ents g.renders (r.lost.take j))).renders = g.renders := rfl
      have hadd : addL (addL g (ents g.renders (r.lost.take j))) [⟨g.renders, x⟩] = addL g (ents g.renders (r.lost.take (j + 1))) := by rw [HSN.out]; simp [addL]
      generalize addL g (ents g.renders (r.lost.take j)) = g1 at *
      have HAD := Lib.hid hadd
      have HGR := Lib.hid hgr
      clear hadd hgr hk0 hL0 p0 p1 p2 p3 p4 hblk
      have hb1 := below_alloc wr (.cells #[.int .i64 x.v, .int .i64 x.c, .int .i64 x.b] 34)
      have hx1 : (wr.alloc (.cells #[.int .i64 x.v, .int .i64 x.c, .int .i64 x.b] 34)).heap[wr.heap.size]? = some (.cells #[.int .i64 x.v, .int .i64 x.c, .int .i64 x.b] 34 (0, 0)) := heap_alloc_new _ _
      have hL1 := hL.keep0 hb1
      have hp1 := (hb1.block _ (lt_of_block hpb)).trans hpb
      have hk1 := hkw.alloc (.cells #[.int .i64 x.v, .int .i64 x.c, .int .i64 x.b] 34)
      have hs1 := hkw.size
      go_upto_region 5 with fail
      generalize wr.alloc (.cells #[.int .i64 x.v, .int .i64 x.c, .int .i64 x.b] 34) = W1 at *
      have hB1 : B ≤ W1.heap.size := Nat.le_trans hB hk1.size
      have hW1 : w.heap.size ≤ W1.heap.size := hk1.size
      obtain ⟨v2, w2, hrun, hown2, hk2, hn2'⟩ := run_append_rec_at (P := Try.prog) W1.drew 39 39 43 4 Try.underlying39 infoE rfl (by decide) B vl' _ _ (own_below0 hL1.lost (Below.refl _ _).drew) (valsE ⟨g.renders, x⟩) rfl (valsE_one _) (by omega) (by unfold maxLen; omega) hB1
      obtain ⟨o5, c5, rfl⟩ := own_form hown2
      have k1 : W1.cell? ⟨b, 1, none⟩ = some (.int .i64 g.renders) := (cell_of_row _ _ _ _ _ _ hL1.blk).trans (by rw [HGR.out]; rfl)
      have k4 : W1.cell? ⟨b, 4, none⟩ = some vl' := (cell_of_row _ _ _ _ _ _ hL1.blk).trans rfl
      have y0 : W1.cell? ⟨wr.heap.size, 0, none⟩ = some (.int .i64 x.v) := (cell_of_row _ _ _ _ _ _ hx1).trans rfl
      have y1 : W1.cell? ⟨wr.heap.size, 1, none⟩ = some (.int .i64 x.c) := (cell_of_row _ _ _ _ _ _ hx1).trans rfl
      have y2 : W1.cell? ⟨wr.heap.size, 2, none⟩ = some (.int .i64 x.b) := (cell_of_row _ _ _ _ _ _ hx1).trans rfl
      obtain ⟨h2, hL2, hk3, hn3'⟩ := log_lost (W := W1) hL1 ⟨g.renders, x⟩ hown2 ⟨hk2.os, hk2.tape, hk2.output, hk2.size, hk2.block⟩ hn2'
      have z1 : w2.cell? ⟨b, 1, none⟩ = some (.int .i64 g.renders) := (cell_of_row _ _ _ _ _ _ h2).trans (by rw [HGR.out]; rfl)
      have z4 : w2.cell? ⟨b, 4, none⟩ = some vl' := (cell_of_row _ _ _ _ _ _ h2).trans rfl
      have f4 : w2.frozen? ⟨b, 4, none⟩ = false := frozen_of_row _ _ _ _ _ h2
      have hx2 : w2.heap[wr.heap.size]? = some (.cells #[.int .i64 x.v, .int .i64 x.c, .int .i64 x.b] 34 (0, 0)) := hk2.heap (w := W1.drew) hx1 (own_off hx1 (by decide) hL1.lost)
      have z5 : w2.cell? ⟨wr.heap.size, 0, none⟩ = some (.int .i64 x.v) := (cell_of_row _ _ _ _ _ _ hx2).trans rfl
      have z6 : w2.cell? ⟨wr.heap.size, 1, none⟩ = some (.int .i64 x.c) := (cell_of_row _ _ _ _ _ _ hx2).trans rfl
      have z7 : w2.cell? ⟨wr.heap.size, 2, none⟩ = some (.int .i64 x.b) := (cell_of_row _ _ _ _ _ _ hx2).trans rfl
      rw [HAD.out] at hL2
      have HR := Lib.hid (nt_step hL1 (lt_of_block h.blk) hk1 hnw hp1 hL2 hk3 hn3')
      clear hL1 hL2 hown2 hL hk3 hn3' hk1 hp1 hnw hkw hpb hx1 hx2 hn2' hk2
      simp only [valsE] at hrun
      have q4 : (W1.alloc (.cells #[.int .i64 g.renders, .int .i64 x.v, .int .i64 x.c, .int .i64 x.b] 43)).cell? ⟨b, 4, none⟩ = some vl' := ((below_alloc W1 _).cell (World.block_lt_of_cell? W1 _ k4)).trans k4
      go_region_law (refine step_append_eq rfl (.tmp 21) (.tmp 28) 39 39 rfl rfl rfl hrun ?_)
      all_goals go_wp2_with fail
      all_goals refine ⟨⟨j + 1, by omega, by go_num, HR.out⟩, ?_⟩
      all_goals (simp [intOf]; omega)
    · obtain rfl : j = m.n2 := by omega
      rw [List.take_of_length_le (by rw [HN2.out]; exact Nat.le_refl _)] at hL
      generalize hgl : addL g (ents g.renders r.lost) = gl at *
      have HGL := Lib.hid hgl
      clear hgl hblk hL0 hk0 p0 p1 p2 p3 p4
      obtain ⟨p0, p1, p2, p3, p4⟩ : wr.cell? ⟨w.heap.size, 0, none⟩ = some (.slice m.o1 m.n1 m.c1) ∧ wr.cell? ⟨w.heap.size, 1, none⟩ = some (.slice A2 m.n2 m.c2) ∧ wr.cell? ⟨w.heap.size, 2, none⟩ = some (.slice A3 m.n3 m.c3) ∧ wr.cell? ⟨w.heap.size, 3, none⟩ = some (.int .i64 r.frames) ∧ wr.cell? ⟨w.heap.size, 4, none⟩ = some (.int .i64 r.reads) := ⟨(cell_of_row _ _ _ _ _ _ hpb).trans rfl, (cell_of_row _ _ _ _ _ _ hpb).trans (by rw [HA2.out]; rfl), (cell_of_row _ _ _ _ _ _ hpb).trans (by rw [HA3.out]; rfl), (cell_of_row _ _ _ _ _ _ hpb).trans rfl, (cell_of_row _ _ _ _ _ _ hpb).trans rfl⟩
      go_wp2_with fail
      go_loopw [36] (fun v36 ws => ∃ j : Nat, j ≤ m.n3 ∧ v36 = .int .i64 j ∧ NtRel b B vl ve (addE gl (ends g.renders (r.ended.take j))) w.heap.size (valsR m r).toArray w ws) (fun v36 _ => (m.n3 - (intOf v36).toNat))
      case atStart => exact ⟨0, by omega, rfl, vl', ve', by simpa [addE, ends] using hL, hkw, hnw, hpb⟩
      case round =>
        clear hkw hnw hpb hL p0 p1 p2 p3 p4
        obtain ⟨j, hj, rfl, vl', ve', hL, hkw, hnw, hpb⟩ := hrel
        by_cases hlt : j < m.n3
        · obtain ⟨a, x, ha, hx, hc0, _, _⟩ := (hm.kept hkw hf).ended.int hlt
          obtain rfl : A3 = some a := HA3.out.trans ha
          clear ha
          have hsn := ends_take g.renders r.ended j (by rw [HN3.out]; exact hlt)
          rw [hx.out] at hsn
          have HSN := Lib.hid hsn
          clear hsn
          have hgll : gl.ended.length ≤ 20 * k := by rw [← HGL.out]; exact g9
          have hlen : (addE gl (ends g.renders (r.ended.take j))).ended.length ≤ 20 * k + 20 := by have := s5 j; simp only [addE, ends, List.length_append, List.length_map]; omega
          have hgr : (addE gl (ends g.renders (r.ended.take j))).renders = g.renders := by rw [← HGL.out]; rfl
          have hadd : addE (addE gl (ends g.renders (r.ended.take j))) [⟨g.renders, x⟩] = addE gl (ends g.renders (r.ended.take (j + 1))) := by rw [HSN.out]; simp [addE]
          generalize addE gl (ends g.renders (r.ended.take j)) = g1 at *
          have HAD := Lib.hid hadd
          have HGR := Lib.hid hgr
          clear hadd hgr
          go_upto_region 10 with fail
          have hB1 : B ≤ wr.heap.size := Nat.le_trans hB hkw.size
          obtain ⟨v2, w2, hrun, hown2, hk2, hn2'⟩ := run_append_rec_at (P := Try.prog) wr.drew 40 40 45 2 Try.underlying40 infoD rfl (by decide) B ve' _ _ (own_below0 hL.ended (Below.refl _ _).drew) (valsD ⟨g.renders, x⟩) rfl (valsD_one _) (by omega) (by unfold maxLen; omega) hB1
          obtain ⟨o5, c5, rfl⟩ := own_form hown2
          have k1 : wr.cell? ⟨b, 1, none⟩ = some (.int .i64 g.renders) := (cell_of_row _ _ _ _ _ _ hL.blk).trans (by rw [HGR.out]; rfl)
          have k4 : wr.cell? ⟨b, 5, none⟩ = some ve' := (cell_of_row _ _ _ _ _ _ hL.blk).trans rfl
          obtain ⟨h2, hL2, hk3, hn3'⟩ := log_ended (W := wr) hL ⟨g.renders, x⟩ hown2 ⟨hk2.os, hk2.tape, hk2.output, hk2.size, hk2.block⟩ hn2'
          have z1 : w2.cell? ⟨b, 1, none⟩ = some (.int .i64 g.renders) := (cell_of_row _ _ _ _ _ _ h2).trans (by rw [HGR.out]; rfl)
          have z4 : w2.cell? ⟨b, 5, none⟩ = some ve' := (cell_of_row _ _ _ _ _ _ h2).trans rfl
          have f4 : w2.frozen? ⟨b, 5, none⟩ = false := frozen_of_row _ _ _ _ _ h2
          rw [HAD.out] at hL2
          have HR := Lib.hid (nt_step hL (lt_of_block h.blk) hkw hnw hpb hL2 hk3 hn3')
          clear hL hL2 hown2 hk3 hn3' hkw hpb hnw hn2' hk2 hc0
          simp only [valsD] at hrun
          have q4 : (wr.alloc (.cells #[.int .i64 g.renders, .int .i64 x] 45)).cell? ⟨b, 5, none⟩ = some ve' := ((below_alloc wr _).cell (World.block_lt_of_cell? wr _ k4)).trans k4
          go_region_law (refine step_append_eq rfl (.tmp 44) (.tmp 51) 40 40 rfl rfl rfl hrun ?_)
          all_goals go_wp2_with fail
          all_goals refine ⟨⟨j + 1, by omega, by go_num, HR.out⟩, ?_⟩
          all_goals (simp [intOf]; omega)
        · obtain rfl : j = m.n3 := by omega
          rw [List.take_of_length_le (by rw [HN3.out]; exact Nat.le_refl _)] at hL
          obtain ⟨p0, p1, p2, p3, p4⟩ : wr.cell? ⟨w.heap.size, 0, none⟩ = some (.slice m.o1 m.n1 m.c1) ∧ wr.cell? ⟨w.heap.size, 1, none⟩ = some (.slice A2 m.n2 m.c2) ∧ wr.cell? ⟨w.heap.size, 2, none⟩ = some (.slice A3 m.n3 m.c3) ∧ wr.cell? ⟨w.heap.size, 3, none⟩ = some (.int .i64 r.frames) ∧ wr.cell? ⟨w.heap.size, 4, none⟩ = some (.int .i64 r.reads) := ⟨(cell_of_row _ _ _ _ _ _ hpb).trans rfl, (cell_of_row _ _ _ _ _ _ hpb).trans (by rw [HA2.out]; rfl), (cell_of_row _ _ _ _ _ _ hpb).trans (by rw [HA3.out]; rfl), (cell_of_row _ _ _ _ _ _ hpb).trans rfl, (cell_of_row _ _ _ _ _ _ hpb).trans rfl⟩
          have hNN : addE gl (ends g.renders r.ended) = addE (addL g (ents g.renders r.lost)) (ends g.renders r.ended) := by rw [← HGL.out]
          rw [hNN] at hL
          have HNN : Hid (note g r = ⟨g.samples + r.out, g.renders + 1, g.frames + r.frames, g.reads + r.reads, g.lost ++ ents g.renders r.lost, g.ended ++ ends g.renders r.ended, max g.worst r.frames⟩) := rfl
          have ho1 : m.n1 ≤ 20 := by rw [hm.out]; exact hr.out
          have b1 := hg.s0; have b2 := hg.s1; have b4 := hg.f0; have b5 := hg.f1; have b6 := hg.r0; have b7 := hg.r1; have b10 := hg.w0; have b11 := hg.w1
          have b3 : 0 ≤ g.renders ∧ g.renders ≤ 1000 := by have := hg.n; omega
          have t4 := hr.f0; have t5 := hr.f1; have t6 := hr.r0; have t7 := hr.r1

          have st0 : NtSt b B vl ve vl' ve' (addE (addL g (ents g.renders r.lost)) (ends g.renders r.ended)) w.heap.size (.slice m.o1 m.n1 m.c1) (.slice m.o2 m.n2 m.c2) (.slice m.o3 m.n3 m.c3) (.int .i64 r.frames) (.int .i64 r.reads) w wr := ⟨hL, hkw, hnw, hpb⟩
          have HO := Lib.hid hm.out
          clear HGL hm hr hg hkw hnw hpb hL p0 p1 p2 p3 p4 s2 s3 s4 s5 g8 g9 h hf
          obtain ⟨c1, f1, q1⟩ := st0.cells 1 (.int .i64 g.renders) rfl 0 _ rfl
          have st1 := st0.put 1 (.int .i64 (g.renders + 1)) { addE (addL g (ents g.renders r.lost)) (ends g.renders r.ended) with renders := g.renders + 1 } rfl rfl rfl
          clear st0
          go_upto_region 13 with fail
          clear c1 f1 q1
          generalize wr.setCell ⟨b, 1, none⟩ (.int .i64 (g.renders + 1)) = W1 at *
          obtain ⟨c1, f1, q1⟩ := st1.cells 0 (.int .i64 g.samples) rfl 0 (.slice m.o1 m.n1 m.c1) rfl
          have hw1 : IntKind.i64.wrap (g.samples + (m.n1 : Int)) = g.samples + (m.n1 : Int) := IntWalk.i64_in _ (by omega)
          have st2 := (st1.put 0 (.int .i64 (g.samples + (m.n1 : Int))) { addE (addL g (ents g.renders r.lost)) (ends g.renders r.ended) with renders := g.renders + 1, samples := g.samples + (m.n1 : Int) } rfl rfl rfl).drew
          clear st1
          go_still_tail 10, (by kernel_rfl)
          repeat still_step
          try refine wpStill_nil ?_
          change wpList _ _ _ _ _ W1.drew
          go_upto_region 14 with fail
          clear c1 f1 q1
          generalize (W1.setCell ⟨b, 0, none⟩ (.int .i64 (g.samples + (m.n1 : Int)))).drew = W2 at *
          obtain ⟨c1, f1, q1⟩ := st2.cells 2 (.int .i64 g.frames) rfl 3 (.int .i64 r.frames) rfl
          have hw2 : IntKind.i64.wrap (g.frames + r.frames) = g.frames + r.frames := IntWalk.i64_in _ (by omega)
          have st3 := (st2.put 2 (.int .i64 (g.frames + r.frames)) { addE (addL g (ents g.renders r.lost)) (ends g.renders r.ended) with renders := g.renders + 1, samples := g.samples + (m.n1 : Int), frames := g.frames + r.frames } rfl rfl rfl).drew
          clear st2
          go_still_tail 9, (by kernel_rfl)
          repeat still_step
          try refine wpStill_nil ?_
          change wpList _ _ _ _ _ W2.drew
          go_upto_region 15 with fail
          clear c1 f1 q1
          generalize (W2.setCell ⟨b, 2, none⟩ (.int .i64 (g.frames + r.frames))).drew = W3 at *
          obtain ⟨c1, f1, q1⟩ := st3.cells 3 (.int .i64 g.reads) rfl 4 (.int .i64 r.reads) rfl
          have hw3 : IntKind.i64.wrap (g.reads + r.reads) = g.reads + r.reads := IntWalk.i64_in _ (by omega)
          have st4 := (st3.put 3 (.int .i64 (g.reads + r.reads)) { addE (addL g (ents g.renders r.lost)) (ends g.renders r.ended) with renders := g.renders + 1, samples := g.samples + (m.n1 : Int), frames := g.frames + r.frames, reads := g.reads + r.reads } rfl rfl rfl).drew
          clear st3
          go_still_tail 9, (by kernel_rfl)
          repeat still_step
          try refine wpStill_nil ?_
          change wpList _ _ _ _ _ W3.drew
          go_upto_region 16 with fail
          clear c1 f1 q1
          generalize (W3.setCell ⟨b, 3, none⟩ (.int .i64 (g.reads + r.reads))).drew = W4 at *
          obtain ⟨c1, f1, q1⟩ := st4.cells 6 (.int .i64 g.worst) rfl 3 (.int .i64 r.frames) rfl
          have st5 := (st4.put 6 (.int .i64 (max g.worst r.frames)) { note g r with samples := g.samples + (m.n1 : Int) } rfl rfl rfl).drew
          clear st4
          have HMX : Hid (max g.worst r.frames = if g.worst < r.frames then r.frames else g.worst) := by unfold Hid; split <;> omega
          go_still_tail 10, (by kernel_rfl)
          repeat still_step
          try refine wpStill_nil ?_
          change wpList _ _ _ _ _ W4.drew
          rw [HMX.out, HO.out] at st5
          have HA := Lib.hid (fun (hlt : g.worst < r.frames) => by rw [if_pos hlt] at st5; exact st5)
          have HB := Lib.hid (fun (hlt : ¬ g.worst < r.frames) => by rw [if_neg hlt] at st5; exact st5)
          clear st5
          go_wp2_with fail
          all_goals go_end0
          · have st := HA.out (by omega)
            exact ⟨rfl, vl', ve', st.log, st.kep, st.new⟩
          · have st := HB.out (by omega)
            exact ⟨rfl, vl', ve', st.log, st.kep, st.new⟩
end Go.Proofs.Ytidjcbmdmecajaa

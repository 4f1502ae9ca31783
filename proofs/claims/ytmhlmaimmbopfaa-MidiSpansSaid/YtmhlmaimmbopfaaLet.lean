/- The walk of midi.Spans's closure: a key is let go. -/
import Derived.Test.YtmhlmaimmbopfaaHel
import Derived.Test.YtmhlmaimmbopfaaSpa
import Derived.Test.YtmhlmaimmbopfaaMsg
namespace Go.Proofs.Ytmhlmaimmbopfaa
open Go Go.RowKit Go.Calli
set_option linter.unusedVariables false
set_option linter.unusedSimpArgs false
attribute [local irreducible] wpStill wpAnyH wpAnyS wpList Code.wp
def valsS (s : Sp) : List Value := [.int .i64 s.c, .int .i64 s.q, .int .i64 s.f, .int .i64 s.t, .int .i64 s.h]
theorem valsS_len (s : Sp) : (valsS s).length = 5 := rfl
theorem valsS_one (s : Sp) : ∀ u ∈ valsS s, u.oneCell' = true := by
  intro u hu
  simp only [valsS, List.mem_cons, List.not_mem_nil, or_false] at hu
  rcases hu with rfl | rfl | rfl | rfl | rfl <;> rfl
theorem infoSp : (Try.prog.info? 35).map (fun i => (i.zero, i.size, i.bytes)) = some (some (.agg #[.int .i64 0, .int .i64 0, .int .i64 0, .int .i64 0, .int .i64 0]), 5, 40) := by kernel_rfl
/-- What the closure writes. -/
def SpS (hb ob : Nat) (hv ov : Value) (k : Nat) : Prop := k = hb ∨ k = ob ∨ hv.ownBlock = some k ∨ ov.ownBlock = some k
/-- The two slices, each in its box. -/
structure SpW (w : World) (hb ob B : Nat) (hv ov : Value) (held out : List Sp) : Prop where
  bh : w.heap[hb]? = some (.cells #[hv] 31 (0, 0))
  bo : w.heap[ob]? = some (.cells #[ov] 31 (0, 0))
  h : OwnsW w B 35 5 hv held.length (held.flatMap valsS)
  o : OwnsW w B 35 5 ov out.length (out.flatMap valsS)
  ne : hb ≠ ob
  sep : ∀ k, hv.ownBlock = some k → ov.ownBlock ≠ some k
  B : B ≤ w.heap.size
theorem SpW.keep0 {w w' : World} {hb ob B : Nat} {hv ov : Value} {held out : List Sp} (h : SpW w hb ob B hv ov held out) (hbl : Below w.heap.size w w') : SpW w' hb ob B hv ov held out :=
  ⟨(hbl.block _ (lt_of_block h.bh)).trans h.bh, (hbl.block _ (lt_of_block h.bo)).trans h.bo, h.h.keep0 hbl, h.o.keep0 hbl, h.ne, h.sep, Nat.le_trans h.B hbl.size⟩
theorem SpW.kept {S : Nat → Prop} {w w' : World} {hb ob B : Nat} {hv ov : Value} {held out : List Sp} (h : SpW w hb ob B hv ov held out) (hk : Keeps S w w') (hS : ∀ k, SpS hb ob hv ov k → ¬ S k) : SpW w' hb ob B hv ov held out :=
  ⟨hk.heap h.bh (hS _ (.inl rfl)), hk.heap h.bo (hS _ (.inr (.inl rfl))), h.h.kept hk (fun k e => hS k (.inr (.inr (.inl e)))), h.o.kept hk (fun k e => hS k (.inr (.inr (.inr e)))), h.ne, h.sep, Nat.le_trans h.B hk.size⟩
theorem own_more {w : World} {B : Nat} {v : Value} {l : List Sp} {x : Sp} (h : OwnsW w B 35 5 v (l.length + 1) (l.flatMap valsS ++ valsS x)) : OwnsW w B 35 5 v (l ++ [x]).length ((l ++ [x]).flatMap valsS) := by
  rw [List.length_append, List.flatMap_append]
  simpa using h
theorem SpW.off {w : World} {hb ob B : Nat} {hv ov : Value} {held out : List Sp} (h : SpW w hb ob B hv ov held out) {b t : Nat} {cs : Array Value} {fr : Nat × Nat} (hx : w.heap[b]? = some (.cells cs t fr)) (h1 : t ≠ 31) (h2 : t ≠ 35) : ¬ SpS hb ob hv ov b := by
  rintro (rfl | rfl | hk | hk)
  · exact block_ne hx h.bh h1 rfl
  · exact block_ne hx h.bo h1 rfl
  · obtain ⟨cs, hcs⟩ := h.h.type hk
    exact block_ne hx hcs h2 rfl
  · obtain ⟨cs, hcs⟩ := h.o.type hk
    exact block_ne hx hcs h2 rfl
theorem SpW.offNew {w : World} {hb ob B : Nat} {hv ov : Value} {held out : List Sp} (h : SpW w hb ob B hv ov held out) {b : Nat} (hx : w.heap.size ≤ b) : ¬ SpS hb ob hv ov b := by
  have := lt_of_block h.bh
  have := lt_of_block h.bo
  rintro (rfl | rfl | hk | hk)
  · omega
  · omega
  · have := h.h.lt _ hk; omega
  · have := h.o.lt _ hk; omega
theorem box_set {w : World} {b : Nat} {v : Value} {t : TypeId} (h : w.heap[b]? = some (.cells #[v] t (0, 0))) (u : Value) : (w.setCell ⟨b, 0, none⟩ u).heap[b]? = some (.cells #[u] t (0, 0)) := heap_setCell_same _ _ _ _ _ _ h
/-- What has been let go has a new slice. -/
theorem SpW.setOut {w w2 : World} {hb ob B : Nat} {hv ov : Value} {held out : List Sp} (h : SpW w hb ob B hv ov held out) {v2 : Value} {out2 : List Sp} (ho : OwnsW w2 B 35 5 v2 out2.length (out2.flatMap valsS)) (hk : Keeps (fun k => ov.ownBlock = some k) w w2) (hn : ∀ k, v2.ownBlock = some k → ov.ownBlock = some k ∨ w.heap.size ≤ k) :
    SpW (w2.setCell ⟨ob, 0, none⟩ v2) hb ob B hv v2 held out2 ∧ Keeps (SpS hb ob hv ov) w (w2.setCell ⟨ob, 0, none⟩ v2) := by
  have n1 : ov.ownBlock ≠ some hb := fun e => by obtain ⟨cs, hcs⟩ := h.o.type e; exact block_ne hcs h.bh (by decide) rfl
  have n2 : ov.ownBlock ≠ some ob := fun e => by obtain ⟨cs, hcs⟩ := h.o.type e; exact block_ne hcs h.bo (by decide) rfl
  have b1 := hk.heap h.bh n1
  have b2 := hk.heap h.bo n2
  have hs : Keeps (fun k => k = ob) w2 (w2.setCell ⟨ob, 0, none⟩ v2) := (Keeps.refl (fun k => k = ob) w2).setCell (p := ⟨ob, 0, none⟩) (.inr rfl) v2
  refine ⟨⟨hs.heap b1 h.ne, box_set b2 v2, ?_, ?_, h.ne, ?_, Nat.le_trans h.B (Nat.le_trans hk.size hs.size)⟩, ?_⟩
  · refine (h.h.kept hk (fun k hk e => h.sep k hk e)).kept hs (fun k hk e => ?_)
    obtain ⟨cs, hcs⟩ := h.h.type hk
    exact block_ne hcs (e ▸ h.bo) (by decide) rfl
  · refine ho.kept hs (fun k hk e => ?_)
    obtain ⟨cs, hcs⟩ := ho.type hk
    exact block_ne hcs (e ▸ b2) (by decide) rfl
  · intro k h1 h2
    rcases hn k h2 with h3 | h3
    · exact h.sep k h1 h3
    · have := h.h.lt k h1; omega
  · exact (hk.mono (fun k _ h => .inr (.inr (.inr h)))).trans (hs.mono (fun k _ h => .inr (.inl h)))
/-- What is held has a new slice. -/
theorem SpW.setHeld {w w2 : World} {hb ob B : Nat} {hv ov : Value} {held out : List Sp} (h : SpW w hb ob B hv ov held out) {v2 : Value} {held2 : List Sp} (ho : OwnsW w2 B 35 5 v2 held2.length (held2.flatMap valsS)) (hk : Keeps (fun k => hv.ownBlock = some k) w w2) (hn : ∀ k, v2.ownBlock = some k → hv.ownBlock = some k ∨ w.heap.size ≤ k) :
    SpW (w2.setCell ⟨hb, 0, none⟩ v2) hb ob B v2 ov held2 out ∧ Keeps (SpS hb ob hv ov) w (w2.setCell ⟨hb, 0, none⟩ v2) := by
  have n1 : hv.ownBlock ≠ some hb := fun e => by obtain ⟨cs, hcs⟩ := h.h.type e; exact block_ne hcs h.bh (by decide) rfl
  have n2 : hv.ownBlock ≠ some ob := fun e => by obtain ⟨cs, hcs⟩ := h.h.type e; exact block_ne hcs h.bo (by decide) rfl
  have b1 := hk.heap h.bh n1
  have b2 := hk.heap h.bo n2
  have hs : Keeps (fun k => k = hb) w2 (w2.setCell ⟨hb, 0, none⟩ v2) := (Keeps.refl (fun k => k = hb) w2).setCell (p := ⟨hb, 0, none⟩) (.inr rfl) v2
  refine ⟨⟨box_set b1 v2, hs.heap b2 (fun e => h.ne e.symm), ?_, ?_, h.ne, ?_, Nat.le_trans h.B (Nat.le_trans hk.size hs.size)⟩, ?_⟩
  · refine ho.kept hs (fun k hk e => ?_)
    obtain ⟨cs, hcs⟩ := ho.type hk
    exact block_ne hcs (e ▸ b1) (by decide) rfl
  · refine (h.o.kept hk (fun k hk e => h.sep k e hk)).kept hs (fun k hk e => ?_)
    obtain ⟨cs, hcs⟩ := h.o.type hk
    exact block_ne hcs (e ▸ h.bh) (by decide) rfl
  · intro k h1 h2
    rcases hn k h1 with h3 | h3
    · exact h.sep k h3 h2
    · have := h.o.lt k h2; omega
  · exact (hk.mono (fun k _ h => .inr (.inr (.inl h)))).trans (hs.mono (fun k _ h => .inl h))
theorem hit_true {m : Msg} {s : Sp} (h1 : s.c = m.c) (h2 : s.q = m.a) : hit m s = true := decide_eq_true ⟨h1, h2⟩
theorem hit_false {m : Msg} {s : Sp} (h : ¬ (s.c = m.c ∧ s.q = m.a)) : hit m s = false := decide_eq_false h
theorem hit_take {m : Msg} {l : List Sp} {k : Nat} (h : ∀ s ∈ l.take k, hit m s = false) (hk : k < l.length) (hs : hit m (l.getD k sp0) = false) : ∀ s ∈ l.take (k + 1), hit m s = false := by
  intro s hm
  rw [List.take_succ_eq_append_getElem hk] at hm
  rcases List.mem_append.1 hm with h1 | h1
  · exact h s h1
  · simp at h1; subst h1
    rwa [show l.getD k sp0 = l[k] by simp [List.getD, hk]] at hs
def LetPost (hb ob B : Nat) (hv ov : Value) (held out : List Sp) (m : Msg) (w : World) (e : Ending) (w' : World) : Prop := e = .returned (.tuple #[]) ∧ ∃ hv' ov', SpW w' hb ob B hv' ov' (letL m held).1 (out ++ (letL m held).2) ∧ Keeps (SpS hb ob hv ov) w w' ∧ (∀ k, SpS hb ob hv' ov' k → SpS hb ob hv ov k ∨ w.heap.size ≤ k)
set_option maxRecDepth 100000 in
theorem let_any (hb ob B : Nat) (hv ov : Value) (held out : List Sp) (m : Msg) (hn : held.length ≤ 1000) (hno : out.length ≤ 1000) (w : World) (h : SpW w hb ob B hv ov held out) : Calls Try.prog 20 #[.agg #[.int .i64 m.t, .int .i64 m.k, .int .i64 m.c, .int .i64 m.a, .int .i64 m.b], .pointer (some ⟨hb, 0, none⟩), .pointer (some ⟨ob, 0, none⟩)] w (LetPost hb ob B hv ov held out m w) := by
  have hk0 : Keeps (fun _ => False) w (w.alloc (.cells #[.int .i64 m.t, .int .i64 m.k, .int .i64 m.c, .int .i64 m.a, .int .i64 m.b] 23)) := (Keeps.refl _ w).alloc _
  have h0 := h.keep0 (below_alloc w (.cells #[.int .i64 m.t, .int .i64 m.k, .int .i64 m.c, .int .i64 m.a, .int .i64 m.b] 23))
  have hz0 : (w.alloc (.cells #[.int .i64 m.t, .int .i64 m.k, .int .i64 m.c, .int .i64 m.a, .int .i64 m.b] 23)).heap[w.heap.size]? = some (.cells #[.int .i64 m.t, .int .i64 m.k, .int .i64 m.c, .int .i64 m.a, .int .i64 m.b] 23 (0, 0)) := heap_alloc_new _ _
  go_enter Try.func20, Try.ntmps20
  go_upto_region 1 with fail
  generalize w.alloc (.cells #[.int .i64 m.t, .int .i64 m.k, .int .i64 m.c, .int .i64 m.a, .int .i64 m.b] 23) = W at *
  obtain ⟨ho, hc, rfl, hle⟩ := h.h.form
  have p0 : W.cell? ⟨hb, 0, none⟩ = some (.slice ho held.length hc) := (cell_of_row _ _ _ _ _ _ h0.bh).trans rfl
  go_wp2_with fail
  go_loopw [8] (fun v8 wr => ∃ k : Nat, k ≤ held.length ∧ v8 = .int .i64 k ∧ Hid (∀ s ∈ held.take k, hit m s = false) ∧ Below W.heap.size W wr) (fun v8 _ => (held.length - (intOf v8).toNat))
  case atStart => exact ⟨0, by omega, rfl, fun s hs => by simp at hs, Below.refl _ _⟩
  case round =>
    clear p0
    obtain ⟨k, hk, rfl, hH, hb1⟩ := hrel
    have h1 := h0.keep0 hb1
    have hz1 := (hb1.block _ (lt_of_block hz0)).trans hz0
    by_cases hlt : k < held.length
    · have hF := fun e => hit_take hH.out hlt e
      have hT := fun e => letL_at m held k hlt hH.out e
      obtain ⟨ao, cap, he, hle2, hR, hRb⟩ := h1.h.recs sp0 valsS_len (by decide)
      cases he
      obtain ⟨a, rfl, hcell⟩ := hR.cell k hlt
      have ha := hRb a rfl
      clear hRb hR
      generalize held.getD k sp0 = x at *
      obtain ⟨xc, xq, xf, xt, xh⟩ := x
      have q0 : wr.cell? (a.add (k * 5)) = some (.int .i64 xc) := hcell 0 _ rfl
      have q1 : wr.cell? ⟨(a.add (k * 5)).block, (a.add (k * 5)).off + 1, none⟩ = some (.int .i64 xq) := hcell 1 _ rfl
      have q2 : wr.cell? ⟨(a.add (k * 5)).block, (a.add (k * 5)).off + 2, none⟩ = some (.int .i64 xf) := hcell 2 _ rfl
      have q3 : wr.cell? ⟨(a.add (k * 5)).block, (a.add (k * 5)).off + 3, none⟩ = some (.int .i64 xt) := hcell 3 _ rfl
      have q4 : wr.cell? ⟨(a.add (k * 5)).block, (a.add (k * 5)).off + 4, none⟩ = some (.int .i64 xh) := hcell 4 _ rfl
      have HT := Lib.hid hT
      have HF := Lib.hid hF
      clear hT hF hcell
      have hx2 : (wr.alloc (.cells #[.int .i64 xc, .int .i64 xq, .int .i64 xf, .int .i64 xt, .int .i64 xh] 35)).heap[wr.heap.size]? = some (.cells #[.int .i64 xc, .int .i64 xq, .int .i64 xf, .int .i64 xt, .int .i64 xh] 35 (0, 0)) := heap_alloc_new _ _
      have hb2 := balloc hb1 (.cells #[.int .i64 xc, .int .i64 xq, .int .i64 xf, .int .i64 xt, .int .i64 xh] 35)
      go_upto_region 4 with fail
      generalize wr.alloc (.cells #[.int .i64 xc, .int .i64 xq, .int .i64 xf, .int .i64 xt, .int .i64 xh] 35) = W2 at *
      have h2 := h0.keep0 hb2
      have hz2 := (hb2.block _ (lt_of_block hz0)).trans hz0
      have hwr : wr.heap.size ≠ hb ∧ wr.heap.size ≠ ob ∧ wr.heap.size ≠ w.heap.size := ⟨by have := lt_of_block h1.bh; omega, by have := lt_of_block h1.bo; omega, by have := lt_of_block hz1; omega⟩
      have hg1 : wr.heap.size ≠ a.block := by have := h1.h.lt _ ha.2.2.2; omega
      obtain ⟨y0, y1, y2, y3, y4⟩ := five_cells hx2
      obtain ⟨z0, z1, z2, z3, z4⟩ := five_cells hz2
      clear q0 q1 q2 q3 q4
      by_cases e1 : xc = m.c
      · subst e1
        by_cases e2 : xq = m.a
        · subst e2
          have hT := HT.out (hit_true rfl rfl)
          have fz : W2.frozen? ⟨wr.heap.size, 3, none⟩ = false := frozen_of_row _ _ _ _ _ hx2
          go_upto_region 6 with fail
          have hS3 : Keeps (fun b => b = wr.heap.size) W2 (W2.setCell ⟨wr.heap.size, 3, none⟩ (.int .i64 m.t)) := (Keeps.refl (fun b => b = wr.heap.size) W2).setCell (p := ⟨wr.heap.size, 3, none⟩) (.inr rfl) _
          have h3 := h2.kept hS3 (fun k hk e => h1.offNew (Nat.le_of_eq e.symm) hk)
          have hx3 : (W2.setCell ⟨wr.heap.size, 3, none⟩ (.int .i64 m.t)).heap[wr.heap.size]? = some (.cells #[.int .i64 m.c, .int .i64 m.a, .int .i64 xf, .int .i64 m.t, .int .i64 xh] 35 (0, 0)) := heap_setCell_same _ _ _ _ _ _ hx2
          have hk3 : Keeps (fun _ => False) W (W2.setCell ⟨wr.heap.size, 3, none⟩ (.int .i64 m.t)) := (Keeps.ofBelow hb2 (Nat.le_refl _)).setCell (p := ⟨wr.heap.size, 3, none⟩) (.inl hb1.size) _
          clear y0 y1 y2 y3 y4 z0 z1 z2 z3 z4 hx2 hz2 fz hS3 h2
          generalize W2.setCell ⟨wr.heap.size, 3, none⟩ (.int .i64 m.t) = W3 at *
          obtain ⟨v2, w2, hrun, hown2, hk2, hn2⟩ := OwnsW.append_rec (P := Try.prog) (w := W3) 31 31 35 5 Try.underlying31 infoSp rfl (by decide) B ov out.length _ h3.o (valsS (cls ⟨m.c, m.a, xf, xt, xh⟩ m.t)) rfl (valsS_one _) (by omega) (by unfold maxLen; omega) h3.B
          obtain ⟨ro2, rc2, rfl, _⟩ := hown2.form
          obtain ⟨h4, hk4⟩ := h3.setOut (own_more hown2) hk2 hn2
          simp only [valsS, cls] at hrun
          obtain ⟨y0, y1, y2, y3, y4⟩ := five_cells hx3
          have p1 : W3.cell? ⟨ob, 0, none⟩ = some ov := (cell_of_row _ _ _ _ _ _ h3.bo).trans rfl
          have hbo2 := hk2.heap h3.bo (fun e => by obtain ⟨cs, hcs⟩ := h3.o.type e; exact block_ne hcs h3.bo (by decide) rfl)
          have p2 : w2.cell? ⟨ob, 0, none⟩ = some ov := (cell_of_row _ _ _ _ _ _ hbo2).trans rfl
          have p3 : w2.frozen? ⟨ob, 0, none⟩ = false := frozen_of_row _ _ _ _ _ hbo2
          go_upto_region 7 with (at_builtin; refine wpList_append_eq rfl (.tmp 28) (.tmp 30) 31 31 rfl rfl rfl hrun ?_)
          clear y0 y1 y2 y3 y4 p1 p2 p3 hrun hown2 hk2 hbo2 hx3
          generalize w2.setCell ⟨ob, 0, none⟩ (.slice ro2 (out.length + 1) rc2) = W4 at *
          have hl5 : held.length - 1 = (held.take k ++ held.drop (k + 1)).length := by rw [List.length_append, List.length_take, List.length_drop]; omega
          obtain ⟨v5, w5, hrun, hown5, hk5, hn5⟩ := OwnsW.del_at (P := Try.prog) (w := W4.drew) 31 31 35 5 Try.underlying31 infoSp rfl (by decide) valsS_len valsS_one B a ha.2.1 ha.2.2.1 held.length hc held (h4.keep0 (Below.refl _ _).drew).h k hlt (by omega) h4.B
          rw [hl5] at hown5
          obtain ⟨ro5, rc5, rfl, _⟩ := hown5.form
          have hob5 : a.block ≠ hb := fun e => by obtain ⟨cs, hcs⟩ := h4.h.type ha.2.2.2; exact block_ne hcs (e ▸ h4.bh) (by decide) rfl
          have hbh5 := hk5.heap (w := W4.drew) h4.bh (fun e => hob5 e.symm)
          obtain ⟨h6, hk6⟩ := h4.setHeld (w := W4) hown5 ⟨hk5.os, hk5.tape, hk5.output, hk5.size, fun k hk hn => hk5.block k hk (fun e => hn (by rw [e]; exact ha.2.2.2))⟩ (fun k hk => by
            rcases hn5 k hk with e | e
            · exact .inl (by rw [e]; exact ha.2.2.2)
            · exact .inr (Nat.le_of_eq e.symm))
          have hs3 : w.heap.size ≤ W3.heap.size := Nat.le_trans hk0.size hk3.size
          have hs4 : w.heap.size ≤ W4.heap.size := Nat.le_trans hs3 hk4.size
          have HR : Hid (∃ hv' ov', SpW (w5.setCell ⟨hb, 0, none⟩ (.slice ro5 (held.take k ++ held.drop (k + 1)).length rc5)) hb ob B hv' ov' (letL m held).1 (out ++ (letL m held).2) ∧ Keeps (SpS hb ob (.slice (some a) held.length hc) ov) w (w5.setCell ⟨hb, 0, none⟩ (.slice ro5 (held.take k ++ held.drop (k + 1)).length rc5)) ∧ (∀ k, SpS hb ob hv' ov' k → SpS hb ob (.slice (some a) held.length hc) ov k ∨ w.heap.size ≤ k)) := by
            unfold Hid
            rw [hT]
            refine ⟨_, _, h6, ?_, ?_⟩
            · refine (((hk0.trans hk3).mono (fun _ _ e => e.elim)).trans hk4).andThen hk6 (fun i hi e => ?_)
              rcases e with e | e | e | e
              · exact .inl e
              · exact .inr (.inl e)
              · exact .inr (.inr (.inl e))
              · rcases hn2 i e with e | e
                · exact .inr (.inr (.inr e))
                · omega
            · intro i e
              rcases e with e | e | e | e
              · exact .inl (.inl e)
              · exact .inl (.inr (.inl e))
              · rcases hn5 i e with e | e
                · exact .inl (.inr (.inr (.inl (by rw [e]; exact ha.2.2.2))))
                · exact .inr (by rw [e]; exact hs4)
              · rcases hn2 i e with e | e
                · exact .inl (.inr (.inr (.inr e)))
                · exact .inr (Nat.le_trans hs3 e)
          have p1 : W4.cell? ⟨hb, 0, none⟩ = some (.slice (some a) held.length hc) := (cell_of_row _ _ _ _ _ _ h4.bh).trans rfl
          have p2 : w5.cell? ⟨hb, 0, none⟩ = some (.slice (some a) held.length hc) := (cell_of_row _ _ _ _ _ _ hbh5).trans rfl
          have p3 : w5.frozen? ⟨hb, 0, none⟩ = false := frozen_of_row _ _ _ _ _ hbh5
          have hw : IntKind.i64.wrap ((k : Int) + 1) = (k : Int) + 1 := IntWalk.i64_in _ (by omega)
          have hkc : k ≤ hc := by omega
          have hkl : (0 : Int) ≤ (k : Int) + 1 ∧ (k : Int) + 1 ≤ (held.length : Int) := by omega
          go_still_tail 8, (by kernel_rfl)
          repeat still_step
          try refine wpStill_nil ?_
          change wpList _ _ _ _ _ W4.drew
          clear hown5 h6 hk6 hk5 hT HT HF hl5
          generalize (held.take k ++ held.drop (k + 1)).length = N at *
          generalize (if hc = k + 1 then some a else some (a.add ((k + 1) * 5))) = ad at *
          refine wpList_append_eq rfl (.tmp 35) (.tmp 39) 31 31 rfl rfl rfl hrun ?_
          go_wp2_with fail
          go_end0
          exact ⟨rfl, HR.out⟩
        · have hN := HF.out (hit_false (fun h => e2 h.2))
          go_wp2_with fail
          refine ⟨⟨k + 1, by omega, by go_num, hN, hb2⟩, ?_⟩
          simp [intOf]; omega
      · have hN := HF.out (hit_false (fun h => e1 h.1))
        go_wp2_with fail
        refine ⟨⟨k + 1, by omega, by go_num, hN, hb2⟩, ?_⟩
        simp [intOf]; omega
    · obtain rfl : k = held.length := by omega
      have hL := letL_none m held (by have := hH.out; rwa [List.take_length] at this)
      have HR : Hid (∃ hv' ov', SpW wr hb ob B hv' ov' (letL m held).1 (out ++ (letL m held).2) ∧ Keeps (SpS hb ob (.slice ho held.length hc) ov) w wr ∧ (∀ k, SpS hb ob hv' ov' k → SpS hb ob (.slice ho held.length hc) ov k ∨ w.heap.size ≤ k)) := by
        unfold Hid
        rw [hL]
        exact ⟨_, _, by rw [List.append_nil]; exact h1, (hk0.mono (fun _ _ e => e.elim)).below hb1 hk0.size, fun k hk => .inl hk⟩
      clear hL
      go_wp2_with fail
      go_end0
      exact ⟨rfl, HR.out⟩
end Go.Proofs.Ytmhlmaimmbopfaa

/- Reports and logs in memory. -/
import Derived.Test.YtidjcbmdmecajaaRows
import Derived.Test.YtidjcbmdmecajaaApp
import Derived.Test.YtidjcbmdmecajaaRec
import Derived.Test.YtidjcbmdmecajaaBlk
import Derived.Test.YtidjcbmdmecajaaPln
import Derived.Laws.Bits128
import Derived.StillTailTactics
import Derived.Deep.RegionHeld3
import Derived.Deep.RegionWith
import Derived.Deep.RegionLaw
import Derived.OwnWalk
namespace Go.Calli
open Go.RowKit
theorem Recs.nul {α : Type} {f : α → List Value} {size : Nat} {d : α} {w w' : World} {ao ao' : Option Addr} {n : Nat} {ms : List α} (h : Recs f size d w ao n ms) (h0 : n = 0) : Recs f size d w' ao' n ms := by
  subst h0
  rw [List.eq_nil_of_length_eq_zero h.hlen]; exact Recs.nil _ _ _ _ _
theorem Ints.nul {k : IntKind} {w w' : World} {ao ao' : Option Addr} {n : Nat} {zs : List Int} (h : Ints k w ao n zs) (h0 : n = 0) : Ints k w' ao' n zs := by
  subst h0
  rw [List.eq_nil_of_length_eq_zero h.hlen]; exact Ints.nil _ _ _
theorem Recs.under {α : Type} {f : α → List Value} {size : Nat} {d : α} {w : World} {ao : Option Addr} {n : Nat} {ms : List α} (h : Recs f size d w ao n ms) (hf : ∀ x, 0 < (f x).length) (hl : 0 < n) : ∀ a, ao = some a → a.block < w.heap.size := fun a ha => by
  obtain ⟨a', ha', hc⟩ := h.cell 0 hl
  obtain rfl : a' = a := by rw [ha] at ha'; exact (Option.some.inj ha').symm
  have := World.block_lt_of_cell? w _ (hc 0 _ (List.getElem?_eq_getElem (hf _)))
  rwa [Addr.add_block, Addr.add_block] at this
end Go.Calli
namespace Go.Proofs.Ytidjcbmdmecajaa
open Go Go.RowKit Go.Calli
set_option linter.unusedVariables false
set_option linter.unusedSimpArgs false
attribute [local irreducible] wpStill wpAnyH wpAnyS wpList Code.wp
def Same (v : Value) (w : World) (e : Ending) (w' : World) : Prop := e = .returned v ∧ w = w'
def valsL (x : Ls) : List Value := [.int .i64 x.v, .int .i64 x.c, .int .i64 x.b]
def valsE (x : En) : List Value := [.int .i64 x.i, .int .i64 x.l.v, .int .i64 x.l.c, .int .i64 x.l.b]
def valsD (x : Ed) : List Value := [.int .i64 x.i, .int .i64 x.v]
theorem valsL_len (x : Ls) : (valsL x).length = 3 := rfl
theorem valsE_len (x : En) : (valsE x).length = 4 := rfl
theorem valsD_len (x : Ed) : (valsD x).length = 2 := rfl
theorem valsL_one (m : Ls) : ∀ u ∈ valsL m, u.oneCell' = true := by intro u hu; simp only [valsL, List.mem_cons, List.not_mem_nil, or_false] at hu; rcases hu with rfl | rfl | rfl <;> rfl
theorem valsE_one (m : En) : ∀ u ∈ valsE m, u.oneCell' = true := by intro u hu; simp only [valsE, List.mem_cons, List.not_mem_nil, or_false] at hu; rcases hu with rfl | rfl | rfl | rfl <;> rfl
theorem valsD_one (m : Ed) : ∀ u ∈ valsD m, u.oneCell' = true := by intro u hu; simp only [valsD, List.mem_cons, List.not_mem_nil, or_false] at hu; rcases hu with rfl | rfl <;> rfl
theorem infoL : (Try.prog.info? 34).map (fun i => (i.zero, i.size, i.bytes)) = some (some (.agg #[.int .i64 0, .int .i64 0, .int .i64 0]), 3, 24) := by kernel_rfl
theorem infoE : (Try.prog.info? 43).map (fun i => (i.zero, i.size, i.bytes)) = some (some (.agg #[.int .i64 0, .int .i64 0, .int .i64 0, .int .i64 0]), 4, 32) := by kernel_rfl
theorem infoD : (Try.prog.info? 45).map (fun i => (i.zero, i.size, i.bytes)) = some (some (.agg #[.int .i64 0, .int .i64 0]), 2, 16) := by kernel_rfl
theorem infoR : (Try.prog.info? 32).map (fun i => (i.zero, i.size, i.bytes)) = some (some (.agg #[.slice none 0 0, .slice none 0 0, .slice none 0 0, .int .i64 0, .int .i64 0]), 5, 88) := by kernel_rfl
/-- A report's slices. -/
structure RpM where
  o1 : Option Addr
  n1 : Nat
  c1 : Nat
  o2 : Option Addr
  n2 : Nat
  c2 : Nat
  o3 : Option Addr
  n3 : Nat
  c3 : Nat
def m0 : RpM := ⟨none, 0, 0, none, 0, 0, none, 0, 0⟩
def valsR (m : RpM) (r : Rp) : List Value := [.slice m.o1 m.n1 m.c1, .slice m.o2 m.n2 m.c2, .slice m.o3 m.n3 m.c3, .int .i64 r.frames, .int .i64 r.reads]
theorem valsR_len (m : RpM) (r : Rp) : (valsR m r).length = 5 := rfl
theorem valsR_one (m : RpM) (r : Rp) : ∀ u ∈ valsR m r, u.oneCell' = true := by intro u hu; simp only [valsR, List.mem_cons, List.not_mem_nil, or_false] at hu; rcases hu with rfl | rfl | rfl | rfl | rfl <;> rfl
/-- What it reads as. -/
structure RpM.Is (w : World) (m : RpM) (r : Rp) : Prop where
  out : m.n1 = r.out
  lim : m.c1 ≤ maxLen ∧ m.c2 ≤ maxLen ∧ m.c3 ≤ maxLen
  le1 : m.n1 ≤ m.c1
  le2 : m.n2 ≤ m.c2
  le3 : m.n3 ≤ m.c3
  some1 : m.n1 ≠ 0 → ∃ a, m.o1 = some a
  lost : Recs valsL 3 l0 w m.o2 m.n2 r.lost
  ended : Ints .i64 w m.o3 m.n3 r.ended
theorem RpM.Is.keep0 {w w' : World} {m : RpM} {r : Rp} (h : m.Is w r) (hb : Below w.heap.size w w') : m.Is w' r := ⟨h.out, h.lim, h.le1, h.le2, h.le3, h.some1, h.lost.keep0 hb, h.ended.keep0 hb⟩
/-- The blocks of a report's slices lie outside S. -/
def RpM.Far (S : Nat → Prop) (m : RpM) : Prop := (m.n2 ≠ 0 → ∀ a, m.o2 = some a → ¬ S a.block) ∧ (m.n3 ≠ 0 → ∀ a, m.o3 = some a → ¬ S a.block)
theorem RpM.Is.kept {S : Nat → Prop} {w w' : World} {m : RpM} {r : Rp} (h : m.Is w r) (hk : Keeps S w w') (hS : m.Far S) : m.Is w' r := ⟨h.out, h.lim, h.le1, h.le2, h.le3, h.some1, by
    by_cases h0 : m.n2 = 0
    · exact h.lost.nul h0
    · exact h.lost.kept hk (hS.1 h0), by
    by_cases h0 : m.n3 = 0
    · exact h.ended.nul h0
    · exact h.ended.kept hk (hS.2 h0)⟩
theorem RpM.Is.far {w : World} {m : RpM} {r : Rp} (h : m.Is w r) : m.Far (fun k => w.heap.size ≤ k) := ⟨fun h0 a ha hS => by
    have := h.lost.under (fun x => by rw [valsL_len]; omega) (Nat.pos_of_ne_zero h0) a ha
    omega, fun h0 a ha hS => by
    have := h.ended.under (Nat.pos_of_ne_zero h0) a ha
    omega⟩
theorem RpM.Far.mono {S T : Nat → Prop} {m : RpM} (h : m.Far S) (hs : ∀ k, T k → S k) : m.Far T := ⟨fun h0 a ha hS => h.1 h0 a ha (hs _ hS), fun h0 a ha hS => h.2 h0 a ha (hs _ hS)⟩
/-- A slice of reports in memory. -/
structure Rps (w : World) (ao : Option Addr) (n : Nat) (l : List Rp) : Prop where
  hlen : l.length = n
  lim : n ≤ maxLen
  cell : ∀ i, i < n → ∃ (a : Addr) (m : RpM), ao = some a ∧ (∀ j u, (valsR m (l.getD i r0))[j]? = some u → w.cell? ((a.add (i * 5)).add j) = some u) ∧ m.Is w (l.getD i r0)
theorem Rps.nil (w : World) (ao : Option Addr) : Rps w ao 0 [] := ⟨rfl, by unfold maxLen; omega, fun i hi => by omega⟩
theorem Rps.keep0 {w w' : World} {ao : Option Addr} {n : Nat} {l : List Rp} (h : Rps w ao n l) (hb : Below w.heap.size w w') : Rps w' ao n l :=
  ⟨h.hlen, h.lim, fun i hi => by
    obtain ⟨a, m, ha, h1, h2⟩ := h.cell i hi
    exact ⟨a, m, ha, fun j u hu => by rw [hb.cell (World.block_lt_of_cell? w _ (h1 j u hu))]; exact h1 j u hu, h2.keep0 hb⟩⟩
/-- What lies below B stays so while only what lies from B on is written. -/
theorem Rps.kept {S : Nat → Prop} {w w' : World} {ao : Option Addr} {n : Nat} {l : List Rp} (h : Rps w ao n l) (hk : Keeps S w w') (hS : ∀ a, ao = some a → ¬ S a.block) (hF : ∀ i, i < n → ∀ (a : Addr) (m : RpM), ao = some a → (∀ j u, (valsR m (l.getD i r0))[j]? = some u → w.cell? ((a.add (i * 5)).add j) = some u) → m.Is w (l.getD i r0) → m.Far S) : Rps w' ao n l :=
  ⟨h.hlen, h.lim, fun i hi => by
    obtain ⟨a, m, ha, h1, h2⟩ := h.cell i hi
    exact ⟨a, m, ha, fun j u hu => hk.cell (h1 j u hu) (by rw [Addr.add_block, Addr.add_block]; exact hS a ha), h2.kept hk (hF i hi a m ha h1 h2)⟩⟩
/-- A log in memory. -/
structure LogIs (w : World) (b B : Nat) (vl ve : Value) (g : Lg) : Prop where
  blk : w.heap[b]? = some (.cells #[.int .i64 g.samples, .int .i64 g.renders, .int .i64 g.frames, .int .i64 g.reads, vl, ve, .int .i64 g.worst] 51 (0, 0))
  lost : w.ownsRow B 43 4 vl g.lost.length (g.lost.flatMap valsE)
  ended : w.ownsRow B 45 2 ve g.ended.length (g.ended.flatMap valsD)
theorem seven_cells {w : World} {b : Nat} {v0 v1 v2 v3 v4 v5 v6 : Value} {T : Nat} (h : w.heap[b]? = some (.cells #[v0, v1, v2, v3, v4, v5, v6] T (0, 0))) :
    w.cell? ⟨b, 0, none⟩ = some v0 ∧ w.cell? ⟨b, 1, none⟩ = some v1 ∧ w.cell? ⟨b, 2, none⟩ = some v2 ∧ w.cell? ⟨b, 3, none⟩ = some v3 ∧ w.cell? ⟨b, 4, none⟩ = some v4 ∧ w.cell? ⟨b, 5, none⟩ = some v5 ∧ w.cell? ⟨b, 6, none⟩ = some v6 :=
  ⟨(cell_of_row _ _ _ _ _ _ h).trans rfl, (cell_of_row _ _ _ _ _ _ h).trans rfl, (cell_of_row _ _ _ _ _ _ h).trans rfl, (cell_of_row _ _ _ _ _ _ h).trans rfl, (cell_of_row _ _ _ _ _ _ h).trans rfl, (cell_of_row _ _ _ _ _ _ h).trans rfl, (cell_of_row _ _ _ _ _ _ h).trans rfl⟩
theorem seven_frozen {w : World} {b : Nat} {v0 v1 v2 v3 v4 v5 v6 : Value} {T : Nat} (h : w.heap[b]? = some (.cells #[v0, v1, v2, v3, v4, v5, v6] T (0, 0))) :
    w.frozen? ⟨b, 0, none⟩ = false ∧ w.frozen? ⟨b, 1, none⟩ = false ∧ w.frozen? ⟨b, 2, none⟩ = false ∧ w.frozen? ⟨b, 3, none⟩ = false ∧ w.frozen? ⟨b, 4, none⟩ = false ∧ w.frozen? ⟨b, 5, none⟩ = false ∧ w.frozen? ⟨b, 6, none⟩ = false :=
  ⟨frozen_of_row _ _ _ _ _ h, frozen_of_row _ _ _ _ _ h, frozen_of_row _ _ _ _ _ h, frozen_of_row _ _ _ _ _ h, frozen_of_row _ _ _ _ _ h, frozen_of_row _ _ _ _ _ h, frozen_of_row _ _ _ _ _ h⟩
/-- What a log owns: its block and its slices'. -/
def LogS (b : Nat) (vl ve : Value) (k : Nat) : Prop := k = b ∨ vl.ownBlock = some k ∨ ve.ownBlock = some k
theorem own_off {w : World} {b B T e size n : Nat} {cs : Array Value} {v : Value} {xs : List Value} (hb : w.heap[b]? = some (.cells cs T (0, 0))) (ht : T ≠ e) (h : w.ownsRow B e size v n xs) : v.ownBlock ≠ some b := fun hv => by
  obtain ⟨ds, hds⟩ := own_block_type h hv
  rw [hb] at hds
  simp at hds
  exact ht hds.2
theorem own_off2 {w : World} {B B' e e' size size' n n' : Nat} {v v' : Value} {xs xs' : List Value} (h : w.ownsRow B e size v n xs) (h' : w.ownsRow B' e' size' v' n' xs') (ht : e ≠ e') : ∀ k, v.ownBlock = some k → v'.ownBlock ≠ some k := fun k hk hk' => by
  obtain ⟨ds, hds⟩ := own_block_type h hk
  obtain ⟨ds', hds'⟩ := own_block_type h' hk'
  rw [hds] at hds'
  simp at hds'
  exact ht hds'.2
theorem LogIs.keep0 {w w' : World} {b B : Nat} {vl ve : Value} {g : Lg} (h : LogIs w b B vl ve g) (hb : Below w.heap.size w w') : LogIs w' b B vl ve g := ⟨(hb.block b (lt_of_block h.blk)).trans h.blk, own_below0 h.lost hb, own_below0 h.ended hb⟩
theorem LogIs.kept {S : Nat → Prop} {w w' : World} {b B : Nat} {vl ve : Value} {g : Lg} (h : LogIs w b B vl ve g) (hk : Keeps S w w') (hS : ∀ k, LogS b vl ve k → ¬ S k) : LogIs w' b B vl ve g :=
  ⟨hk.heap h.blk (hS b (.inl rfl)), owns_kept h.lost hk (fun k hk => hS k (.inr (.inl hk))), owns_kept h.ended hk (fun k hk => hS k (.inr (.inr hk)))⟩
end Go.Proofs.Ytidjcbmdmecajaa

/- The walk of All. -/
import Derived.Test.YtidjcbmdmecajaaNot
namespace Go.Proofs.Ytidjcbmdmecajaa
open Go Go.RowKit Go.Calli
set_option linter.unusedVariables false
set_option linter.unusedSimpArgs false
attribute [local irreducible] wpStill wpAnyH wpAnyS wpList Code.wp
/-- A slice of reports whose blocks lie outside S. -/
structure RpsF (S : Nat → Prop) (w : World) (ao : Option Addr) (n : Nat) (l : List Rp) : Prop where
  hlen : l.length = n
  lim : n ≤ maxLen
  cell : ∀ i, i < n → ∃ (a : Addr) (m : RpM), ao = some a ∧ (∀ j u, (valsR m (l.getD i r0))[j]? = some u → w.cell? ((a.add (i * 5)).add j) = some u) ∧ m.Is w (l.getD i r0) ∧ ¬ S a.block ∧ m.Far S
theorem RpsF.kept {S : Nat → Prop} {w w' : World} {ao : Option Addr} {n : Nat} {l : List Rp} (h : RpsF S w ao n l) (hk : Keeps S w w') : RpsF S w' ao n l :=
  ⟨h.hlen, h.lim, fun i hi => by
    obtain ⟨a, m, ha, h1, h2, h3, h4⟩ := h.cell i hi
    exact ⟨a, m, ha, fun j u hu => hk.cell (h1 j u hu) (by rw [Addr.add_block, Addr.add_block]; exact h3), h2.kept hk h4, h3, h4⟩⟩
theorem RpsF.keep0 {S : Nat → Prop} {w w' : World} {ao : Option Addr} {n : Nat} {l : List Rp} (h : RpsF S w ao n l) (hb : Below w.heap.size w w') : RpsF S w' ao n l := h.kept (Keeps.ofBelow hb (Nat.le_refl _))
theorem RpsF.mono {S T : Nat → Prop} {w : World} {ao : Option Addr} {n : Nat} {l : List Rp} (h : RpsF S w ao n l) (hs : ∀ k, T k → S k) : RpsF T w ao n l :=
  ⟨h.hlen, h.lim, fun i hi => by
    obtain ⟨a, m, ha, h1, h2, h3, h4⟩ := h.cell i hi
    exact ⟨a, m, ha, h1, h2, fun ht => h3 (hs _ ht), h4.mono hs⟩⟩
theorem Rps.far {w : World} {ao : Option Addr} {n : Nat} {l : List Rp} (h : Rps w ao n l) : RpsF (fun k => w.heap.size ≤ k) w ao n l :=
  ⟨h.hlen, h.lim, fun i hi => by
    obtain ⟨a, m, ha, h1, h2⟩ := h.cell i hi
    refine ⟨a, m, ha, h1, h2, fun hS => ?_, h2.far⟩
    have := World.block_lt_of_cell? w _ (h1 0 _ rfl)
    rw [Addr.add_block, Addr.add_block] at this
    omega⟩
theorem LogIs.inS {w : World} {b B : Nat} {vl ve : Value} {g : Lg} (h : LogIs w b B vl ve g) : ∀ k, LogS b vl ve k → k = b ∨ B ≤ k := by
  rintro k (hk | hk | hk)
  · exact .inl hk
  · exact .inr (h.lost.lt k hk).1
  · exact .inr (h.ended.lt k hk).1
/-- The state of a log that takes on a list. -/
def AlRel (b B : Nat) (vl ve : Value) (g : Lg) (w wr : World) : Prop := ∃ vl' ve', LogIs wr b B vl' ve' g ∧ Keeps (LogS b vl ve) w wr ∧ (∀ k, LogS b vl' ve' k → LogS b vl ve k ∨ w.heap.size ≤ k)
theorem AlRel.step {b B : Nat} {vl ve vl' ve' : Value} {g2 : Lg} {w wr w2 w3 : World} (hbr : Below wr.heap.size wr w2) (hk : Keeps (LogS b vl ve) w wr) (hn : ∀ k, LogS b vl' ve' k → LogS b vl ve k ∨ w.heap.size ≤ k) (h2 : ∃ vl2 ve2, LogIs w3 b B vl2 ve2 g2 ∧ Keeps (LogS b vl' ve') w2 w3 ∧ (∀ k, LogS b vl2 ve2 k → LogS b vl' ve' k ∨ w2.heap.size ≤ k)) : AlRel b B vl ve g2 w w3 := by
  obtain ⟨vl2, ve2, h3, h4, h5⟩ := h2
  have s1 := hk.size
  have s2 := hbr.size
  refine ⟨vl2, ve2, h3, (hk.below hbr s1).andThen h4 (fun i hi hS => (hn i hS).resolve_right (by omega)), fun k h => ?_⟩
  rcases h5 k h with h | h
  · exact hn k h
  · exact .inr (by omega)
set_option maxRecDepth 100000 in
set_option maxHeartbeats 2000000 in
theorem all_any (b B : Nat) (vl ve : Value) (k : Nat) (ao : Option Addr) (n c : Nat) (l : List Rp) (hk : k + n ≤ 1000) (g : Lg) (hg : Lim k g) (hs : ∀ r ∈ l, Sm r) (w : World) (hB : B ≤ w.heap.size) (h : LogIs w b B vl ve g) (hl : RpsF (fun k => k = b ∨ B ≤ k) w ao n l) :
    Calls Try.prog 8 #[.pointer (some ⟨b, 0, none⟩), .slice ao n c] w (NotePost b B vl ve (noteL g l) w) := by
  have HLN := Lib.hid hl.hlen
  go_enter Try.func8, Try.ntmps8
  go_wp2_with fail
  go_loopw [8] (fun v8 wr => ∃ j : Nat, j ≤ n ∧ v8 = .int .i64 j ∧ AlRel b B vl ve (noteL g (l.take j)) w wr) (fun v8 _ => (n - (intOf v8).toNat))
  case atStart => exact ⟨0, by omega, rfl, vl, ve, h, Keeps.refl _ _, fun k hk => .inl hk⟩
  case round =>
    obtain ⟨j, hj, rfl, vl', ve', hL, hkw, hnw⟩ := hrel
    by_cases hlt : j < n
    · have hlr := hl.kept (hkw.mono (S' := fun k => k = b ∨ B ≤ k) fun k _ hS => h.inS k hS)
      obtain ⟨a, m, rfl, hcell, hm, hab, hfar⟩ := hlr.cell j hlt
      have hlj : j < l.length := by rw [HLN.out]; exact hlt
      have hsn := noteL_take g l j hlj
      have hlim : Lim (k + j) (noteL g (l.take j)) := by
        have := hg.noteL (l := l.take j) (fun r hr => hs r (List.mem_of_mem_take hr))
        rwa [List.length_take, Nat.min_eq_left (Nat.le_of_lt hlj)] at this
      have hsm : Sm (l.getD j r0) := hs _ (by rw [show l.getD j r0 = l[j] by simp [List.getD, hlj]]; exact List.getElem_mem _)
      generalize l.getD j r0 = r at *
      generalize hgj : noteL g (l.take j) = gj at *
      clear hgj
      have q0 : wr.cell? (a.add (j * 5)) = some (.slice m.o1 m.n1 m.c1) := hcell 0 _ rfl
      have q1 : wr.cell? ⟨(a.add (j * 5)).block, (a.add (j * 5)).off + 1, none⟩ = some (.slice m.o2 m.n2 m.c2) := hcell 1 _ rfl
      have q2 : wr.cell? ⟨(a.add (j * 5)).block, (a.add (j * 5)).off + 2, none⟩ = some (.slice m.o3 m.n3 m.c3) := hcell 2 _ rfl
      have q3 : wr.cell? ⟨(a.add (j * 5)).block, (a.add (j * 5)).off + 3, none⟩ = some (.int .i64 r.frames) := hcell 3 _ rfl
      have q4 : wr.cell? ⟨(a.add (j * 5)).block, (a.add (j * 5)).off + 4, none⟩ = some (.int .i64 r.reads) := hcell 4 _ rfl
      clear hcell
      have hb1 := below_alloc wr (.cells #[.slice m.o1 m.n1 m.c1, .slice m.o2 m.n2 m.c2, .slice m.o3 m.n3 m.c3, .int .i64 r.frames, .int .i64 r.reads] 32)
      have hN := note_any b B vl' ve' gj m r (k + j) (by omega) hlim hsm (wr.alloc (.cells #[.slice m.o1 m.n1 m.c1, .slice m.o2 m.n2 m.c2, .slice m.o3 m.n3 m.c3, .int .i64 r.frames, .int .i64 r.reads] 32)) (Nat.le_trans hB (Nat.le_trans hkw.size hb1.size)) (hL.keep0 hb1) (hm.keep0 hb1) (hfar.mono hL.inS)
      have HSN := Lib.hid hsn
      clear hsn hL hm hlr hlim hsm
      go_wp2_with (go_at_call 12; refine hN.mono ?_; rintro e w3 ⟨rfl, hx⟩; have HX := Lib.hid (AlRel.step hb1 hkw hnw hx); clear hx)
      refine ⟨⟨j + 1, by omega, by go_num, by rw [HSN.out]; exact HX.out⟩, ?_⟩
      simp [intOf]; omega
    · obtain rfl : j = n := by omega
      rw [List.take_of_length_le (by rw [HLN.out]; exact Nat.le_refl _)] at hL
      go_wp2_with fail
      go_end0
      exact ⟨rfl, vl', ve', hL, hkw, hnw⟩
set_option maxRecDepth 100000 in
set_option maxHeartbeats 2000000 in
theorem all_nil (ao : Option Addr) (n c : Nat) (l : List Rp) (w : World) (hl : Rps w ao n l) : Calls Try.prog 8 #[.pointer none, .slice ao n c] w (fun e w' => e = .returned (.tuple #[]) ∧ Below w.heap.size w w') := by
  have HLN := Lib.hid hl.hlen
  have hlm := hl.lim
  unfold maxLen at hlm
  go_enter Try.func8, Try.ntmps8
  go_wp2_with fail
  go_loopw [8] (fun v8 wr => ∃ j : Nat, j ≤ n ∧ v8 = .int .i64 j ∧ Below w.heap.size w wr) (fun v8 _ => (n - (intOf v8).toNat))
  case atStart => exact ⟨0, by omega, rfl, Below.refl _ _⟩
  case round =>
    obtain ⟨j, hj, rfl, hb⟩ := hrel
    by_cases hlt : j < n
    · obtain ⟨a, m, rfl, hcell, hm⟩ := (hl.keep0 hb).cell j hlt
      generalize l.getD j r0 = r at *
      have q0 : wr.cell? (a.add (j * 5)) = some (.slice m.o1 m.n1 m.c1) := hcell 0 _ rfl
      have q1 : wr.cell? ⟨(a.add (j * 5)).block, (a.add (j * 5)).off + 1, none⟩ = some (.slice m.o2 m.n2 m.c2) := hcell 1 _ rfl
      have q2 : wr.cell? ⟨(a.add (j * 5)).block, (a.add (j * 5)).off + 2, none⟩ = some (.slice m.o3 m.n3 m.c3) := hcell 2 _ rfl
      have q3 : wr.cell? ⟨(a.add (j * 5)).block, (a.add (j * 5)).off + 3, none⟩ = some (.int .i64 r.frames) := hcell 3 _ rfl
      have q4 : wr.cell? ⟨(a.add (j * 5)).block, (a.add (j * 5)).off + 4, none⟩ = some (.int .i64 r.reads) := hcell 4 _ rfl
      clear hcell hm
      have hN := fun w => note_nil m r w
      go_wp2_with (go_at_call 12; refine (hN _).mono ?_; rintro e w3 ⟨rfl, hb3⟩)
      refine ⟨⟨j + 1, by omega, by go_num, bstep (balloc hb _) hb3⟩, ?_⟩
      simp [intOf]; omega
    · obtain rfl : j = n := by omega
      go_wp2_with fail
      go_end0
      exact ⟨rfl, hb⟩
end Go.Proofs.Ytidjcbmdmecajaa

/- The walk of disk's Read. -/
import Derived.Test.YtbboljmmpbchgaaDsk
import Derived.Laws.CopyOwn
import Derived.OpenShut
namespace Go.Proofs.Ytbboljmmpbchgaa
open Go Go.RowKit Go.Calli Go.Dskp Go.Maps
set_option linter.unusedVariables false
set_option linter.unusedSimpArgs false
attribute [local irreducible] wpStill wpAnyH wpAnyS wpList Code.wp
def RdPost2 (b mb : Nat) (ib : Option Addr) (kap m : Nat) (B : List Int) (E : Int) (S : Dk) (w : World) (e : Ending) (w' : World) : Prop := ∃ ro rc, e = .returned (.tuple #[.slice ro B.length rc, .int .i64 E]) ∧ B.length ≤ rc ∧ (∃ m', m' ≤ m + 1 ∧ Dsk w' b mb ib kap m' S) ∧ Ints .u8 w' ro B.length B ∧ (∀ a, ro = some a → w.heap.size ≤ a.block) ∧ Keeps (fun k => k = b ∨ k = mb) w w'
def RdPost (b mb : Nat) (ib : Option Addr) (kap m : Nat) (s : Dk) (page : Int) (w : World) (e : Ending) (w' : World) : Prop := RdPost2 b mb ib kap m (rdB s page) (rdE s page) (rdS s page) w e w'
theorem Dsk.reads {w : World} {b mb : Nat} {ib : Option Addr} {kap m : Nat} {s : Dk} (h : Dsk w b mb ib kap m s) (r : Int) : Dsk (w.setCell ⟨b, 2, none⟩ (.int .i64 r)) b mb ib kap m { s with r := r } := by
  obtain ⟨a1, a2, a3, a4, a5, a6⟩ := h
  have hk : Keeps (fun k => k = b) w (w.setCell ⟨b, 2, none⟩ (.int .i64 r)) := (Keeps.refl (fun k => k = b) w).setCell (p := ⟨b, 2, none⟩) (.inr rfl) _
  exact ⟨heap_setCell_same _ _ _ _ _ _ a1, a2.kept hk (fun a ha => (a6 a ha).1), a3, a4.kept hk (fun e => a5 e.symm), a5, a6⟩
theorem Dsk.faileds {w : World} {b mb : Nat} {ib : Option Addr} {kap m : Nat} {s : Dk} (h : Dsk w b mb ib kap m s) (g : Int) : Dsk (w.setCell ⟨b, 3, none⟩ (.int .i64 g)) b mb ib kap m { s with g := g } := by
  obtain ⟨a1, a2, a3, a4, a5, a6⟩ := h
  have hk : Keeps (fun k => k = b) w (w.setCell ⟨b, 3, none⟩ (.int .i64 g)) := (Keeps.refl (fun k => k = b) w).setCell (p := ⟨b, 3, none⟩) (.inr rfl) _
  exact ⟨heap_setCell_same _ _ _ _ _ _ a1, a2.kept hk (fun a ha => (a6 a ha).1), a3, a4.kept hk (fun e => a5 e.symm), a5, a6⟩
theorem Dsk.later {w W : World} {b mb : Nat} {ib : Option Addr} {kap m : Nat} {s : Dk} (h : Dsk w b mb ib kap m s) (hk : Keeps (fun k => k = b) w W) {r g : Int} (hb : W.heap[b]? = some (.cells #[.slice ib s.img.length kap, .map (some mb), .int .i64 r, .int .i64 g] 65 (0, 0))) : Dsk W b mb ib kap m { s with r := r, g := g } := by
  obtain ⟨a1, a2, a3, a4, a5, a6⟩ := h
  exact ⟨hb, a2.kept hk (fun a ha => (a6 a ha).1), a3, a4.kept hk (fun e => a5 e.symm), a5, a6⟩
theorem three_cells {w : World} {b : Nat} {v0 v1 v2 : Value} {T : Nat} (h : w.heap[b]? = some (.cells #[v0, v1, v2] T (0, 0))) :
    w.cell? ⟨b, 0, none⟩ = some v0 ∧ w.cell? ⟨b, 1, none⟩ = some v1 ∧ w.cell? ⟨b, 2, none⟩ = some v2 ∧ w.frozen? ⟨b, 0, none⟩ = false ∧ w.frozen? ⟨b, 1, none⟩ = false ∧ w.frozen? ⟨b, 2, none⟩ = false :=
  ⟨(cell_of_row _ _ _ _ _ _ h).trans rfl, (cell_of_row _ _ _ _ _ _ h).trans rfl, (cell_of_row _ _ _ _ _ _ h).trans rfl, frozen_of_row _ _ _ _ _ h, frozen_of_row _ _ _ _ _ h, frozen_of_row _ _ _ _ _ h⟩
theorem Dsk.row {w : World} {b mb : Nat} {ib : Option Addr} {kap m : Nat} {s : Dk} (h : Dsk w b mb ib kap m s) : w.heap[b]? = some (.cells #[.slice ib s.img.length kap, .map (some mb), .int .i64 s.r, .int .i64 s.g] 65 (0, 0)) := h.1
theorem Dsk.lt {w : World} {b mb : Nat} {ib : Option Addr} {kap m : Nat} {s : Dk} (h : Dsk w b mb ib kap m s) : b < w.heap.size := (Array.getElem?_eq_some_iff.1 h.1).1
/-- Behind 'd.reads++; f := ..': the two blocks, and what was kept. -/
theorem fault_read {b mb : Nat} {ib : Option Addr} {kap m : Nat} {s : Dk} (w : World) (h : Dsk w b mb ib kap m s) (r : Int) (v0 v1 v2 : Value) :
    ∀ W, W = (w.setCell ⟨b, 2, none⟩ (.int .i64 r)).alloc (.cells #[v0, v1, v2] 62) → W.heap[b]? = some (.cells #[.slice ib s.img.length kap, .map (some mb), .int .i64 r, .int .i64 s.g] 65 (0, 0)) ∧ W.heap[w.heap.size]? = some (.cells #[v0, v1, v2] 62 (0, 0)) ∧ Keeps (fun k => k = b) w W ∧ w.heap.size ≠ b := by
  rintro W rfl
  have hk : Keeps (fun k => k = b) w (w.setCell ⟨b, 2, none⟩ (.int .i64 r)) := (Keeps.refl (fun k => k = b) w).setCell (p := ⟨b, 2, none⟩) (.inr rfl) _
  have h1 := h.reads r
  have hsz : (w.setCell ⟨b, 2, none⟩ (.int .i64 r)).heap.size = w.heap.size := by simp
  have ha := MapKept.heap_alloc (w.setCell ⟨b, 2, none⟩ (.int .i64 r)) (.cells #[v0, v1, v2] 62)
  have hb := (h1.keep0 ((Below.refl _ _).alloc (Nat.le_refl _) (.cells #[v0, v1, v2] 62))).1
  refine ⟨hb, ?_, hk.alloc _, by have := h.lt; omega⟩
  have := ha.1
  rw [hsz] at this
  exact this
theorem read_out (b mb : Nat) (ib : Option Addr) (kap m : Nat) (s : Dk) (hs : s.Ok) (page : Int) (ho : s.out page) (w : World) (h : Dsk w b mb ib kap m s) : Calls Try.prog 38 #[.pointer (some ⟨b, 0, none⟩), .int .i64 page] w (RdPost b mb ib kap m s page w) := by
  have hW := why_any b mb ib kap m s hs page w h
  have hB : rdB s page = [] := if_pos ho
  have hS : rdS s page = s := if_pos ho
  have hE : rdE s page = 5 := if_pos ho
  show Calls _ _ _ _ (RdPost2 b mb ib kap m (rdB s page) (rdE s page) (rdS s page) w)
  rw [hB, hS, hE]
  rw [show flE s page = 5 from if_pos ho] at hW
  go_enter Try.func38, Try.ntmps38
  go_wp2_with (go_at_call 21; refine hW.mono ?_; rintro e w' ⟨rfl, rfl⟩)
  go_ret2
  exact ⟨none, 0, rfl, Nat.le_refl _, ⟨m, by omega, h⟩, Ints.nil _ _ _, (fun a e => by cases e), Keeps.refl _ _⟩
theorem read_bad (b mb : Nat) (ib : Option Addr) (kap m : Nat) (s : Dk) (hs : s.Ok) (hm : m < 1000000000) (hr : s.r < 1000000000) (page : Int) (hwp : (Lit.int .i64 page).wf = true) (ho : ¬ s.out page) (t : Flt) (hF : s.F page = some t) (ht : t.f ≠ 0) (w : World) (h : Dsk w b mb ib kap m s) : Calls Try.prog 38 #[.pointer (some ⟨b, 0, none⟩), .int .i64 page] w (RdPost b mb ib kap m s page w) := by
  have hW := why_any b mb ib kap m s hs page w h
  have hst : s.t page = t := by unfold Dk.t; rw [hF]; rfl
  have hB : rdB s page = [] := by unfold rdB; rw [if_neg ho, hst, if_pos ht]
  have hS : rdS s page = { s with r := s.r + 1, g := s.g + 1, F := put s.F page (some { t with f := max (t.f - 1) (-1) }) } := by unfold rdS; rw [if_neg ho, hst, if_pos ht]
  have hE : rdE s page = 8 := by unfold rdE; rw [if_neg ho, hst, if_pos ht]
  show Calls _ _ _ _ (RdPost2 b mb ib kap m (rdB s page) (rdE s page) (rdS s page) w)
  rw [hB, hS, hE]
  clear hB hS hE
  rw [show flE s page = 0 from if_neg ho] at hW
  obtain ⟨c0, c1, c2, c3, f2, f3⟩ := four_cells h.1
  obtain ⟨_, hr0, hg0, hgr, hok⟩ := hs
  have htk := hok page t hF
  unfold FOk at htk
  obtain ⟨_, _, tf1, tf2, _, _⟩ := htk
  have hH1 := Lib.hid (h.reads (s.r + 1))
  have hlk := hH1.out.2.2.2.1.look_ok law3 Try.underlying3 Try.underlying63 zero62 hwp
  simp only [hF, Option.getD_some, Option.isSome_some] at hlk
  unfold fval at hlk
  have e1 : IntKind.i64.wrap (s.r + 1) = s.r + 1 := IntWalk.i64_in _ (by omega)
  have e2 : IntKind.i64.wrap (s.g + 1) = s.g + 1 := IntWalk.i64_in _ (by omega)
  have e3 : IntKind.i64.wrap (t.f - 1) = t.f - 1 := IntWalk.i64_in _ (by omega)
  clear hok
  have hbeq : (t.f != 0) = true := by simpa using ht
  go_enter Try.func38, Try.ntmps38
  go_upto_region 7 with (go_at_call 21; refine hW.mono ?_; rintro e w' ⟨rfl, rfl⟩)
  obtain ⟨x1, x2, x3, x4⟩ := fault_read w h (s.r + 1) _ _ _ _ rfl
  obtain ⟨y0, y1, y2, y3, y4, y5⟩ := four_cells x1
  obtain ⟨z0, z1, z2, z3, z4, z5⟩ := three_cells x2
  generalize (w.setCell _ _).alloc _ = w2 at *
  clear hlk c0 c1 c2 c3 f2 f3
  go_upto_region 9 with fail
  obtain ⟨f', hf'⟩ : ∃ f', f' = max (t.f - 1) (-1) := ⟨_, rfl⟩
  have hif : (if t.f - 1 < -1 then -1 else t.f - 1) = f' := by rw [hf']; split <;> omega
  rw [hif]
  have HF' := Lib.hid hf'
  clear hif hf' y0 y1 y2 y3 y4 y5 z0 z1 z2 z3 z4 z5
  have X1 := (heap_setCell_other (w2.setCell ⟨b, 3, none⟩ (.int .i64 (s.g + 1))) ⟨w.heap.size, 0, none⟩ b (.int .i64 f') (Ne.symm x4)).trans (heap_setCell_same _ _ _ _ _ (.int .i64 (s.g + 1)) x1)
  have X2 := heap_setCell_same (w2.setCell ⟨b, 3, none⟩ (.int .i64 (s.g + 1))) _ 0 _ _ (.int .i64 f') ((heap_setCell_other w2 ⟨b, 3, none⟩ w.heap.size (.int .i64 (s.g + 1)) x4).trans x2)
  have X3 := (x3.setCell (p := ⟨b, 3, none⟩) (.inr rfl) (.int .i64 (s.g + 1))).setCell (p := ⟨w.heap.size, 0, none⟩) (.inl (Nat.le_refl _)) (.int .i64 f')
  generalize (w2.setCell ⟨b, 3, none⟩ (.int .i64 (s.g + 1))).setCell ⟨w.heap.size, 0, none⟩ (.int .i64 f') = W at *
  have hD := (h.later X3 X1).drew
  obtain ⟨y0, y1, y2, y3, y4, y5⟩ := four_cells X1
  obtain ⟨z0, z1, z2, z3, z4, z5⟩ := three_cells X2
  go_still_tail 6, (by kernel_rfl)
  repeat still_step
  try refine wpStill_nil ?_
  change wpList _ _ _ _ _ W.drew
  refine wpList_mapUpdate_fmap (T := 63) (K := 3) (e := 62) rfl _ _ _ rfl law3 Try.underlying3 Try.underlying63 rfl hD.2.2.2.1 (by unfold maxLen; omega) page ⟨f', t.a, t.x⟩ rfl rfl hwp ?_; intro w4 hF2 hk2
  go_wp2_with fail
  go_ret2
  exact ⟨none, 0, rfl, Nat.le_refl _, ⟨m + 1, by omega, by rw [← HF'.out]; exact hD.stored hF2 hk2⟩, Ints.nil _ _ _, (fun a e => by cases e), (X3.drew.mono fun _ _ => Or.inl).andThen hk2 fun _ _ => Or.inr⟩
theorem Ints.of_heap {k : IntKind} {w : World} {g : Nat} {zs : List Int} {e : Nat} {fr : Nat × Nat} (h : w.heap[g]? = some (.cells (zs.map (Value.int k)).toArray e fr)) (hm : zs.length ≤ maxLen) (hw : ∀ z ∈ zs, (Lit.int k z).wf = true) : Ints k w (some ⟨g, 0, none⟩) zs.length zs := by
  refine ⟨rfl, hm, fun i hi => ⟨_, rfl, ?_⟩, hw⟩
  rw [add0, cell_of_row _ _ _ _ _ _ h]
  simp [hi]
theorem row_set {k : IntKind} {w : World} {g : Nat} {zs : List Int} {e : Nat} (h : w.heap[g]? = some (.cells (zs.map (Value.int k)).toArray e (0, 0))) (i : Nat) (v : Int) : (w.setCell ⟨g, i, none⟩ (.int k v)).heap[g]? = some (.cells ((zs.set i v).map (Value.int k)).toArray e (0, 0)) := by
  rw [heap_setCell_same _ _ _ _ _ _ h]
  simp [List.map_set]
theorem pgB_len (img : List Int) (p : Nat) : (pgB img p).length = 64 := by simp [pgB]
theorem pgB_wf {img : List Int} (h : ∀ z ∈ img, (Lit.int .u8 z).wf = true) (p : Nat) : ∀ z ∈ pgB img p, (Lit.int .u8 z).wf = true := by
  intro z hz
  simp only [pgB, List.mem_map] at hz
  obtain ⟨i, _, rfl⟩ := hz
  exact getD_wf h (by decide) _
theorem pg_splice (img : List Int) (p : Nat) : splice (List.replicate 64 (Value.int .u8 0)) 0 (((img.drop (64 * p)).take 64).map (Value.int .u8)) = (pgB img p).map (Value.int .u8) := by
  have e : splice (List.replicate 64 (Value.int .u8 0)) 0 (((img.drop (64 * p)).take 64).map (Value.int .u8)) = (((img.drop (64 * p)).take 64) ++ List.replicate (64 - ((img.drop (64 * p)).take 64).length) 0).map (Value.int .u8) := by
    simp only [splice, List.take_zero, List.nil_append, List.drop_replicate, List.length_map, Nat.zero_add, List.map_append, List.map_replicate]
  rw [e]
  congr 1
  apply List.ext_getElem
  · simp [pgB]; omega
  · intro i h1 h2
    rw [pgB_len] at h2
    simp only [pgB, List.getElem_map, List.getElem_range, List.getElem_append]
    split
    · rename_i h3
      simp only [List.getElem_take, List.getElem_drop]
      simp at h3
      rw [List.getD_eq_getElem?_getD, List.getElem?_eq_getElem (by omega)]; rfl
    · rename_i h3
      simp at h3
      rw [List.getD_eq_getElem?_getD, List.getElem?_eq_none (by omega)]; simp
theorem bx_wf (a x : Int) : (Lit.int .u8 (bx a x)).wf = true :=
  wf_bits _ _ _ _
theorem made_list (k : IntKind) (z : Int) (n : Nat) : (madeCells (Value.int k z).cells n).toList = List.replicate n (.int k z) := by
  apply List.ext_getElem
  · simp [madeCells]
  · intro i h1 h2
    simp [madeCells, Value.cells, Nat.mod_one]
theorem own_row {w : World} {base g n : Nat} {xs : List Value} (h : w.ownsRow base 5 1 (.slice (some ⟨g, 0, none⟩) n n) n xs) (hx : xs.length = n) : w.heap[g]? = some (.cells xs.toArray 5 (0, 0)) := by
  rcases h.2 with ⟨h1, _⟩ | ⟨g', cap, cur, h1, hbg, hg, hnc, hcm, hcs, htake⟩
  · cases h1
  · cases h1
    rw [hg]
    congr 2
    apply Array.toList_inj.1
    have : cur.toList.take (n * 1) = xs := htake
    rw [← this, List.take_of_length_le (by simpa using Nat.le_of_eq hcs)]
set_option maxRecDepth 100000 in
set_option maxHeartbeats 1000000 in
theorem read_good (b mb : Nat) (ib : Option Addr) (kap m : Nat) (s : Dk) (hs : s.Ok) (hr : s.r < 1000000000) (p : Nat) (hwp : (Lit.int .i64 (p : Int)).wf = true) (ho : ¬ s.out p) (t : Flt) (hst : s.t p = t) (ht : t.f = 0) (w : World) (h : Dsk w b mb ib kap m s) : Calls Try.prog 38 #[.pointer (some ⟨b, 0, none⟩), .int .i64 p] w (RdPost b mb ib kap m s p w) := by
  have hW := why_any b mb ib kap m s hs p w h
  have hne : ¬ (s.t p).f ≠ 0 := by rw [hst]; simpa using ht
  have hB : rdB s p = (pgB s.img p).set t.a.toNat (bx ((pgB s.img p).getD t.a.toNat 0) t.x) := by unfold rdB; rw [if_neg ho, if_neg hne, hst]; rfl
  have hS : rdS s p = { s with r := s.r + 1 } := by unfold rdS; rw [if_neg ho, if_neg hne]
  have hE : rdE s p = 0 := by unfold rdE; rw [if_neg ho, if_neg hne]
  show Calls _ _ _ _ (RdPost2 b mb ib kap m (rdB s p) (rdE s p) (rdS s p) w)
  rw [hB, hS, hE]
  clear hB hS hE
  rw [show flE s p = 0 from if_neg ho] at hW
  obtain ⟨c0, c1, c2, c3, f2, f3⟩ := four_cells h.1
  have htk : FOk t := by rw [← hst]; exact hs.t p
  obtain ⟨hil, hr0, hg0, hgr, hok⟩ := hs
  unfold FOk at htk
  obtain ⟨ta0, ta1, tf1, tf2, tx0, tx1⟩ := htk
  have hplt : 64 * p < s.img.length := by unfold Dk.out Dk.pages at ho; omega
  have hH1 := Lib.hid (h.reads (s.r + 1))
  have hlk := hH1.out.2.2.2.1.look_ok law3 Try.underlying3 Try.underlying63 zero62 hwp
  simp only [show (s.F p).getD Flt.zero = t from hst] at hlk
  unfold fval at hlk
  rw [ht] at hlk
  obtain ⟨hi5, hu5⟩ : ∃ i5 : TypeInfo, Try.prog.info? 5 = some i5 ∧ i5.zero = some (.int .u8 0) ∧ i5.size = 1 ∧ i5.bytes = 1 := ⟨_, rfl, rfl, rfl, rfl⟩
  have e1 : IntKind.i64.wrap (s.r + 1) = s.r + 1 := IntWalk.i64_in _ (by omega)
  have e2 : IntKind.i64.wrap ((p : Int) * 64) = (p : Int) * 64 := IntWalk.i64_in _ (by omega)
  clear hok
  obtain ⟨th, hth⟩ : ∃ th, th = (s.F p).isSome := ⟨_, rfl⟩
  rw [← hth] at hlk
  clear hth
  cases th
  all_goals
    go_enter Try.func38, Try.ntmps38
    go_upto_region 11 with (go_at_call 21; refine hW.mono ?_; rintro e w' ⟨rfl, rfl⟩)
    obtain ⟨x1, x2, x3, x4⟩ := fault_read w h (s.r + 1) _ _ _ _ rfl
    generalize (w.setCell _ _).alloc _ = w2 at *
    clear hlk c0 c1 c2 c3 f2 f3
    have hD := h.later x3 x1
    go_upto_region 12 with (at_make; refine wpList_make_full _ rfl _ _ 22 rfl w2.heap.size 5 _ _ _ Try.underlying22 hu5.1 hu5.2.1 hu5.2.2.1 _ _ _ _ 64 rfl rfl rfl rfl (by rw [hu5.2.2.2]; decide) (by unfold maxLen; decide) (Nat.le_refl _) ?_; intro w3 hown hgrow)
    have hk3 := x3.grown hgrow (fun k hk => by cases hk)
    have G3 := own_row hown (by rw [made_list]; exact List.length_replicate)
    rw [show (madeCells (Value.int .u8 0).cells (64 * 1)).toList = List.replicate 64 (Value.int .u8 0) from made_list _ _ _] at G3
    have X1 := (hgrow.block b (Array.getElem?_eq_some_iff.1 x1).1 (by simp)).trans x1
    have X2 := (hgrow.block w.heap.size (Array.getElem?_eq_some_iff.1 x2).1 (by simp)).trans x2
    have HD3 := Lib.hid (h.later hk3 X1)
    have hls : w.heap.size < w2.heap.size := (Array.getElem?_eq_some_iff.1 x2).1
    have hlb : b < w2.heap.size := (Array.getElem?_eq_some_iff.1 x1).1
    clear hown hgrow hD x1 x2 x3
    obtain ⟨y0, y1, y2, y3, y4, y5⟩ := four_cells X1
    obtain ⟨z0, z1, z2, z3, z4, z5⟩ := three_cells X2
    obtain ⟨ia, rfl, hia⟩ := HD3.out.2.1.some (by show 0 < s.img.length; omega)
    simp only [] at hia
    obtain ⟨CS, hCS⟩ : ∃ CS, CS = ((s.img.drop (64 * p)).take 64).map (Value.int .u8) := ⟨_, rfl⟩
    have hCL : CS.length = min 64 (s.img.length - 64 * p) := by rw [hCS]; simp
    have hC1 : ∀ v ∈ CS, v.oneCell' = true := by rw [hCS]; exact one_ints _ _
    have HPO : Hid (∀ j v, CS[j]? = some v → w3.cell? ((ia.add (p * 64)).add j) = some v) := by
      intro j v hj
      have hd := (HD3.out.2.1.drop (j := p * 64) (by show p * 64 ≤ s.img.length; omega)).row
      rw [hCS] at hj
      have hj2 : ((s.img.drop (p * 64)).map (Value.int .u8))[j]? = some v := by
        rw [← hj, List.map_take, List.getElem?_take_of_lt (by
          have := (List.getElem?_eq_some_iff.1 hj).1
          simp at this; omega), Nat.mul_comm]
      obtain ⟨a', ha', hc⟩ := hd.cell j v hj2
      cases ha'; exact hc
    have HSP := Lib.hid (show splice (List.replicate 64 (Value.int .u8 0)) 0 CS = (pgB s.img p).map (Value.int .u8) from by rw [hCS]; exact pg_splice _ _)
    have hkp : p * 64 < kap := by have := h.2.2.1; omega
    clear hCS
    go_upto_region 13 with (with_reducible show wpList _ _ _ (Oper.mk (some 65) _ _ _ _ _ :: _) _ _; refine wpList_copy_splice rfl _ _ 22 22 rfl 5 Try.underlying22 (by kernel_rfl) _ _ _ _ _ _ rfl rfl w2.heap.size 0 (List.replicate 64 (Value.int .u8 0)) 5 G3 CS (by rw [hCL]; show _ = min _ _; omega) (fun _ => ⟨rfl, _, rfl, HPO.out⟩) (by rw [List.length_replicate]; omega) hC1 w2.heap.size w3 (Below.refl _ _) (Nat.le_refl _) ?_; intro w4 HG4 hb4)
    have G4 := HG4.out
    rw [HSP.out] at G4
    have Y1 := (hb4.block b hlb).trans X1
    have Y2 := (hb4.block w.heap.size hls).trans X2
    have hk4 : Keeps (fun k => k = b) w w4 := hk3.below hb4 (by omega)
    clear y0 y1 y2 y3 y4 y5 z0 z1 z2 z3 z4 z5
    obtain ⟨y0, y1, y2, y3, y4, y5⟩ := four_cells Y1
    obtain ⟨z0, z1, z2, z3, z4, z5⟩ := three_cells Y2
    obtain ⟨ta, hta⟩ : ∃ ta : Nat, t.a = (ta : Int) := ⟨t.a.toNat, by omega⟩
    rw [hta] at z1 ta0 ta1
    have hta2 : ta < 64 := by omega
    have hcell : w4.cell? ⟨w2.heap.size, ta, none⟩ = some (.int .u8 ((pgB s.img p).getD ta 0)) := by
      rw [cell_of_row _ _ _ _ _ _ G4]
      have : ta < (pgB s.img p).length := by rw [pgB_len]; exact hta2
      simp [this]
    have hfro : w4.frozen? ⟨w2.heap.size, ta, none⟩ = false := frozen_of_row _ _ _ _ _ G4
    have hadd : (⟨w2.heap.size, 0, none⟩ : Addr).add ta = ⟨w2.heap.size, ta, none⟩ := by rw [add0]; simp
    generalize hX : (pgB s.img p).getD ta 0 = X at hcell
    have hcell2 := hcell
    have hfro2 := hfro
    rw [← hadd] at hcell2 hfro2
    have HX := Lib.hid hX
    have HTA := Lib.hid hta
    clear hX hta
    try simp only [Act.put, List.setIfInBounds_toArray, List.set_cons_zero, List.set_cons_succ]
    go_still_tail 9, (by kernel_rfl)
    repeat still_step
    try refine wpStill_nil ?_
    change wpList _ _ _ _ _ w4.drew
    go_wp2_with fail
    go_ret2
    have G5 := row_set G4 ta (bits BinOp.xor IntKind.u8 X t.x)
    have hk5 := hk4.setCell (p := ⟨w2.heap.size, ta, none⟩) (.inl (by show w.heap.size ≤ w2.heap.size; omega)) (.int .u8 (bits BinOp.xor IntKind.u8 X t.x))
    have hk6 := hk5.drew
    have hDf := h.later hk6 ((heap_setCell_other w4 ⟨w2.heap.size, ta, none⟩ b (.int .u8 (bits BinOp.xor IntKind.u8 X t.x)) (Nat.ne_of_lt hlb)).trans Y1)
    have hBe : (pgB s.img p).set t.a.toNat (bx ((pgB s.img p).getD t.a.toNat 0) t.x) = (pgB s.img p).set ta (bits BinOp.xor IntKind.u8 X t.x) := by
      rw [HTA.out, Int.toNat_natCast, HX.out]; rfl
    have hI := Ints.of_heap (w := (w4.setCell ⟨w2.heap.size, ta, none⟩ (.int .u8 (bits BinOp.xor IntKind.u8 X t.x))).drew) G5 (by rw [List.length_set, pgB_len]; unfold maxLen; omega) (by
      intro z hz
      rcases List.mem_or_eq_of_mem_set hz with hz | rfl
      · exact pgB_wf h.2.1.wf p z hz
      · exact bx_wf X t.x)
    have hlen : ((pgB s.img p).set ta (bits BinOp.xor IntKind.u8 X t.x)).length = 64 := by rw [List.length_set, pgB_len]
    rw [hBe]
    rw [hlen] at hI
    exact ⟨some ⟨w2.heap.size, 0, none⟩, 64, by rw [hlen] <;> rfl, by rw [hlen]; exact Nat.le_refl _, ⟨m, by omega, hDf⟩, by rw [hlen]; exact hI, (fun a e => by cases e; show w.heap.size ≤ w2.heap.size; omega), hk6.mono fun _ _ => Or.inl⟩
theorem read_any (b mb : Nat) (ib : Option Addr) (kap m : Nat) (s : Dk) (hs : s.Ok) (hm : m < 1000000000) (hr : s.r < 1000000000) (page : Int) (hwp : (Lit.int .i64 page).wf = true) (w : World) (h : Dsk w b mb ib kap m s) : Calls Try.prog 38 #[.pointer (some ⟨b, 0, none⟩), .int .i64 page] w (RdPost b mb ib kap m s page w) := by
  by_cases ho : s.out page
  · exact read_out b mb ib kap m s hs page ho w h
  · by_cases ht : (s.t page).f = 0
    · obtain ⟨p, rfl⟩ : ∃ p : Nat, page = (p : Int) := ⟨page.toNat, by unfold Dk.out at ho; omega⟩
      exact read_good b mb ib kap m s hs hr p hwp ho _ rfl ht w h
    · cases hF : s.F page with
      | none => exact absurd (by unfold Dk.t; rw [hF]; rfl) ht
      | some t =>
        refine read_bad b mb ib kap m s hs hm hr page hwp ho t hF ?_ w h
        unfold Dk.t at ht
        rw [hF] at ht
        exact ht
end Go.Proofs.Ytbboljmmpbchgaa

/- The walk of adpcm.Pack. -/
import Derived.Test.YtbhopghfglgibaaNear
import Derived.Test.YtbhopghfglgibaaUnp
import Derived.BigRegion
import Derived.BigQuiet
namespace Go.Proofs.Ytbhopghfglgibaa
open Go.RowKit Go.Calli
set_option linter.unusedVariables false
/-- A block of integers. -/
def Blk (k : IntKind) (w : World) (b : Nat) (t : TypeId) (zs : List Int) : Prop := w.heap[b]? = some (.cells (zs.map (Value.int k)).toArray t (0, 0))
theorem Blk.lt {k : IntKind} {w : World} {b : Nat} {t : TypeId} {zs : List Int} (h : Blk k w b t zs) : b < w.heap.size := (Array.getElem?_eq_some_iff.1 h).1
theorem Blk.cell {k : IntKind} {w : World} {b : Nat} {t : TypeId} {zs : List Int} (h : Blk k w b t zs) {i : Nat} (hi : i < zs.length) : w.cell? ⟨b, i, none⟩ = some (.int k (zs.getD i 0)) := by
  rw [cell_of_row _ _ _ _ _ _ h]; simp [hi]
theorem Blk.frozen {k : IntKind} {w : World} {b : Nat} {t : TypeId} {zs : List Int} (h : Blk k w b t zs) (i : Nat) : w.frozen? ⟨b, i, none⟩ = false := frozen_of_row _ _ _ _ _ h
theorem Blk.set {k : IntKind} {w : World} {b : Nat} {t : TypeId} {zs : List Int} (h : Blk k w b t zs) (i : Nat) (x : Int) : Blk k (w.setCell ⟨b, i, none⟩ (.int k x)) b t (zs.set i x) := by
  unfold Blk
  rw [heap_setCell_same _ _ _ _ _ _ h]
  simp
theorem Blk.kept {k : IntKind} {w w' : World} {b : Nat} {t : TypeId} {zs : List Int} {S : Nat → Prop} (h : Blk k w b t zs) (hk : Keeps S w w') (hS : ¬ S b) : Blk k w' b t zs := hk.heap h hS
theorem Blk.keep0 {k : IntKind} {w w' : World} {b : Nat} {t : TypeId} {zs : List Int} (h : Blk k w b t zs) (hb : Below w.heap.size w w') : Blk k w' b t zs := (hb.block b h.lt).trans h
theorem Blk.other {k : IntKind} {w : World} {b : Nat} {t : TypeId} {zs : List Int} (h : Blk k w b t zs) (c o : Nat) (v : Value) (hc : b ≠ c) : Blk k (w.setCell ⟨c, o, none⟩ v) b t zs := (heap_setCell_other _ _ _ _ hc).trans h
theorem Blk.ints {k : IntKind} {w : World} {b : Nat} {t : TypeId} {zs : List Int} (h : Blk k w b t zs) (n : Nat) (hn : zs.length = n) (hm : n ≤ maxLen) (hw : ∀ z ∈ zs, (Lit.int k z).wf = true) : Ints k w (some ⟨b, 0, none⟩) n zs :=
  ⟨hn, hm, fun i hi => ⟨_, rfl, by rw [add0, Nat.zero_add]; exact h.cell (by omega)⟩, hw⟩

/-- The states that a coder goes through. -/
def eS (l i : Int) (zs : List Int) : Nat → Int × Int
  | 0 => (l, i)
  | k + 1 => (nextL (eS l i zs k).1 (eS l i zs k).2 (bestOf (eS l i zs k).1 (eS l i zs k).2 (zs.getD k 0) 15), nextI (eS l i zs k).2 (bestOf (eS l i zs k).1 (eS l i zs k).2 (zs.getD k 0) 15))
def eC (l i : Int) (zs : List Int) (k : Nat) : Nat := bestOf (eS l i zs k).1 (eS l i zs k).2 (zs.getD k 0) 15
theorem eC_lt (l i : Int) (zs : List Int) (k : Nat) : eC l i zs k < 16 := by
  have := bestOf_le (eS l i zs k).1 (eS l i zs k).2 (zs.getD k 0) 15
  unfold eC; omega
theorem eS_right {l i : Int} (zs : List Int) (h : RightS l i) (k : Nat) : RightS (eS l i zs k).1 (eS l i zs k).2 := by
  cases k with
  | zero => exact h
  | succ k => exact next_right _ _ _
def nib (l i : Int) (zs : List Int) (k q : Nat) : Nat := if q < k then eC l i zs q else 0
theorem nib_lt (l i : Int) (zs : List Int) (k q : Nat) : nib l i zs k q < 16 := by
  have := eC_lt l i zs q
  unfold nib; split <;> omega
/-- A byte of a block after k codes. -/
def pb (l i : Int) (zs : List Int) (n k p : Nat) : Nat := if p = 0 then ((l + 32768) / 256).toNat else if p = 1 then ((l + 32768) % 256).toNat else if p = 2 then i.toNat else if p = 3 then n else 16 * nib l i zs k (2 * (p - 4)) + nib l i zs k (2 * (p - 4) + 1)
def pbs (l i : Int) (zs : List Int) (n k : Nat) : List Int := (List.range 20).map fun p => (pb l i zs n k p : Int)
theorem pbs_len (l i : Int) (zs : List Int) (n k : Nat) : (pbs l i zs n k).length = 20 := by simp [pbs]
theorem pbs_get (l i : Int) (zs : List Int) (n k p : Nat) (hp : p < 20) : (pbs l i zs n k).getD p 0 = (pb l i zs n k p : Int) := by
  simp [pbs, hp]
theorem pb_lt {l i : Int} (zs : List Int) {n : Nat} (h : RightS l i) (hn : n ≤ 32) (k p : Nat) : pb l i zs n k p < 256 := by
  obtain ⟨h1, h2, h3, h4⟩ := h
  have a := nib_lt l i zs k (2 * (p - 4))
  have b := nib_lt l i zs k (2 * (p - 4) + 1)
  unfold pb
  repeat' split
  all_goals omega
theorem pbs_wf {l i : Int} (zs : List Int) {n : Nat} (h : RightS l i) (hn : n ≤ 32) (k : Nat) : ∀ z ∈ pbs l i zs n k, (Lit.int .u8 z).wf = true := by
  intro z hz
  simp only [pbs, List.mem_map] at hz
  obtain ⟨p, _, rfl⟩ := hz
  have := pb_lt zs h hn k p
  exact WalkArith.wf_u8 (by omega)
theorem pb4 (l i : Int) (zs : List Int) (n k p : Nat) (hp : 4 ≤ p) : pb l i zs n k p = 16 * nib l i zs k (2 * (p - 4)) + nib l i zs k (2 * (p - 4) + 1) := by
  unfold pb; rw [if_neg (by omega), if_neg (by omega), if_neg (by omega), if_neg (by omega)]
theorem pbs_succ (l i : Int) (zs : List Int) (n k : Nat) (hk : k < 32) : (pbs l i zs n k).set (4 + k / 2) (pb l i zs n (k + 1) (4 + k / 2) : Nat) = pbs l i zs n (k + 1) := by
  apply List.ext_getElem?
  intro j
  rw [List.getElem?_set]
  by_cases hj : 4 + k / 2 = j
  · subst hj
    simp [pbs, show 4 + k / 2 < 20 by omega]
  · rw [if_neg hj]
    by_cases hj2 : j < 20
    · simp [pbs, hj2]
      unfold pb nib
      repeat' split
      all_goals first | rfl | omega
    · simp [pbs, hj2]
theorem or_add : ∀ x, x < 16 → ∀ c, c < 16 → bits BinOp.or IntKind.u8 (16 * (x : Nat) : Int) ((c : Nat) : Int) = (16 * (x : Nat) : Int) + ((c : Nat) : Int) := by decide +kernel
theorem or_zero : ∀ c, c < 16 → bits BinOp.or IntKind.u8 0 (((c : Nat) : Int) * 16) = 16 * ((c : Nat) : Int) := by decide +kernel
theorem pb_even (l i : Int) (zs : List Int) (n k : Nat) (h : k % 2 = 0) : pb l i zs n k (4 + k / 2) = 0 ∧ pb l i zs n (k + 1) (4 + k / 2) = 16 * eC l i zs k := by
  have e : 2 * (4 + k / 2 - 4) = k := by omega
  rw [pb4 _ _ _ _ _ _ (by omega), pb4 _ _ _ _ _ _ (by omega), e]
  constructor
  · unfold nib; rw [if_neg (by omega), if_neg (by omega)]
  · unfold nib; rw [if_pos (by omega), if_neg (by omega)]; rfl
theorem pb_odd (l i : Int) (zs : List Int) (n k : Nat) (h : k % 2 = 1) : pb l i zs n k (4 + k / 2) = 16 * eC l i zs (k - 1) ∧ pb l i zs n (k + 1) (4 + k / 2) = 16 * eC l i zs (k - 1) + eC l i zs k := by
  have e : 2 * (4 + k / 2 - 4) = k - 1 := by omega
  rw [pb4 _ _ _ _ _ _ (by omega), pb4 _ _ _ _ _ _ (by omega), e, show k - 1 + 1 = k by omega]
  constructor
  · unfold nib; rw [if_pos (by omega), if_neg (by omega)]; rfl
  · unfold nib; rw [if_pos (by omega), if_pos (by omega)]

theorem pbs_zero {l i : Int} (zs : List Int) (h : RightS l i) (n : Nat) : (((((List.replicate 20 (0 : Int)).set 0 ((l + 32768) / 256)).set 1 ((l + 32768) % 256)).set 2 i).set 3 (n : Nat)) = pbs l i zs n 0 := by
  obtain ⟨h1, h2, h3, h4⟩ := h
  have a : ((((l + 32768) / 256).toNat : Nat) : Int) = (l + 32768) / 256 := by omega
  have b : ((((l + 32768) % 256).toNat : Nat) : Int) = (l + 32768) % 256 := by omega
  have c : ((i.toNat : Nat) : Int) = i := by omega
  simp [pbs, List.range_succ, pb, nib, List.replicate]
  omega
/-- What Pack answers where it refuses. -/
def PckNo (l i E : Int) (w : World) (e : Ending) (w' : World) : Prop := e = .returned (.tuple #[.slice none 0 0, .agg #[.int .i64 l, .int .i64 i], .int .i64 E]) ∧ Below w.heap.size w w'
/-- What Pack answers. -/
def PckYes (l i : Int) (n : Nat) (zs : List Int) (w : World) (e : Ending) (w' : World) : Prop := ∃ b, e = .returned (.tuple #[.slice (some ⟨b, 0, none⟩) 20 20, .agg #[.int .i64 (eS l i zs n).1, .int .i64 (eS l i zs n).2], .int .i64 0]) ∧ Blk .u8 w' b 5 (pbs l i zs n n) ∧ Below w.heap.size w w' ∧ w.heap.size ≤ b
set_option maxRecDepth 100000 in
set_option maxHeartbeats 1000000 in
theorem pack_no1 (ao : Option Addr) (n cap : Nat) (l i : Int) (hm : n ≤ maxLen) (h : 32 < n ∨ ¬ RightS l i) (w : World) : Calls Try.prog 19 #[.slice ao n cap, .agg #[.int .i64 l, .int .i64 i]] w (PckNo l i 1 w) := by
  unfold maxLen at hm
  have hS := heap_alloc2_old w (.cells #[.int .i64 l, .int .i64 i] 23) (.cells #[.int .i64 0, .int .i64 0] 23)
  have hP := heap_alloc2_new w (.cells #[.int .i64 l, .int .i64 i] 23) (.cells #[.int .i64 0, .int .i64 0] 23)
  have hb : Below w.heap.size w ((w.alloc (.cells #[.int .i64 l, .int .i64 i] 23)).alloc (.cells #[.int .i64 0, .int .i64 0] 23)) := (below_alloc w _).alloc (by simp) _
  by_cases h1 : 32 < n
  · clear h
    go_enter Try.func19, Try.ntmps19
    go_upto_region 1 with fail
    generalize (w.alloc (.cells #[.int .i64 l, .int .i64 i] 23)).alloc (.cells #[.int .i64 0, .int .i64 0] 23) = W at *
    obtain ⟨x0, x1, -⟩ := two_cells hS
    obtain ⟨y0, y1, f0, f1⟩ := two_cells hP
    obtain ⟨s0, s1, -⟩ := two_cells (two_same hP (.int .i64 l) (.int .i64 i))
    have hlt := lt_of_block hP
    clear hS hP
    go_wp2_with fail
    go_region
    go_wp2_with fail
    refine bodyPost_ret (v := .tuple #[.slice none 0 0, .agg #[.int .i64 l, .int .i64 i], .int .i64 1]) (by simp [results, Try.results19, go_sem, s0, s1]) rfl ⟨rfl, ?_⟩
    exact ((hb.setCell (p := ⟨w.heap.size + 1, 0, none⟩) (by simp) _).setCell (p := ⟨w.heap.size + 1, 1, none⟩) (by simp) _).drew
  · have hr : ¬ RightS l i := by rcases h with h | h <;> first | omega | exact h
    clear h
    go_enter Try.func19, Try.ntmps19
    go_upto_region 1 with fail
    generalize (w.alloc (.cells #[.int .i64 l, .int .i64 i] 23)).alloc (.cells #[.int .i64 0, .int .i64 0] 23) = W at *
    obtain ⟨x0, x1, -⟩ := two_cells hS
    have HS := Lib.hid hS
    have HP := Lib.hid hP
    clear hS hP
    go_upto_region 2 with (go_at_call 10; refine (right_no _ _ hr _).mono ?_; rintro e w1 ⟨rfl, hb1⟩; obtain ⟨x0, x1, -⟩ := two_cells ((hb1.block _ (lt_of_block HS.out)).trans HS.out); obtain ⟨y0, y1, f0, f1⟩ := two_cells ((hb1.block _ (lt_of_block HP.out)).trans HP.out))
    have hP := (hb1.block _ (lt_of_block HP.out)).trans HP.out
    obtain ⟨s0, s1, -⟩ := two_cells (two_same hP (.int .i64 l) (.int .i64 i))
    have hlt := lt_of_block hP
    clear hP
    go_region
    go_wp2_with fail
    refine bodyPost_ret (v := .tuple #[.slice none 0 0, .agg #[.int .i64 l, .int .i64 i], .int .i64 1]) (by simp [results, Try.results19, go_sem, s0, s1]) rfl ⟨rfl, ?_⟩
    exact (((bstep hb hb1).setCell (p := ⟨w.heap.size + 1, 0, none⟩) (by simp) _).setCell (p := ⟨w.heap.size + 1, 1, none⟩) (by simp) _).drew
def InR (zs : List Int) (n : Nat) : Prop := ∀ q, q < n → -32768 ≤ zs.getD q 0 ∧ zs.getD q 0 ≤ 32767
def PckPost (l i : Int) (n : Nat) (zs : List Int) (w : World) (e : Ending) (w' : World) : Prop := (InR zs n ∧ PckYes l i n zs w e w') ∨ (¬ InR zs n ∧ PckNo l i 5 w e w')
set_option maxRecDepth 100000 in
set_option maxHeartbeats 2000000 in
theorem pack_any (ao : Option Addr) (n cap : Nat) (l i : Int) (zs : List Int) (hn : n ≤ 32) (hr : RightS l i) (w : World) (h : Ints .i64 w ao n zs) : Calls Try.prog 19 #[.slice ao n cap, .agg #[.int .i64 l, .int .i64 i]] w (PckPost l i n zs w) := by
  have hS := heap_alloc2_old w (.cells #[.int .i64 l, .int .i64 i] 23) (.cells #[.int .i64 0, .int .i64 0] 23)
  have hP := heap_alloc2_new w (.cells #[.int .i64 l, .int .i64 i] 23) (.cells #[.int .i64 0, .int .i64 0] 23)
  have hb : Below w.heap.size w ((w.alloc (.cells #[.int .i64 l, .int .i64 i] 23)).alloc (.cells #[.int .i64 0, .int .i64 0] 23)) := (below_alloc w _).alloc (by simp) _
  go_enter Try.func19, Try.ntmps19
  go_upto_region 1 with fail
  generalize (w.alloc (.cells #[.int .i64 l, .int .i64 i] 23)).alloc (.cells #[.int .i64 0, .int .i64 0] 23) = W at *
  obtain ⟨x0, x1, -⟩ := two_cells hS
  have HS := Lib.hid hS
  have HP := Lib.hid hP
  clear hS hP
  have hmk : ∀ w : World, (Instr.makeSlice 33 (.int .i64 20) (.int .i64 20)).run Try.prog w = .ok (.slice (some ⟨w.heap.size, 0, none⟩) 20 20) (w.alloc (.cells #[.int .u8 0, .int .u8 0, .int .u8 0, .int .u8 0, .int .u8 0, .int .u8 0, .int .u8 0, .int .u8 0, .int .u8 0, .int .u8 0, .int .u8 0, .int .u8 0, .int .u8 0, .int .u8 0, .int .u8 0, .int .u8 0, .int .u8 0, .int .u8 0, .int .u8 0, .int .u8 0] 5)) := fun _ => by kernel_rfl
  go_upto_region 3 with (go_at_call 10; refine (right_yes _ _ hr _).mono ?_; rintro e w1 ⟨rfl, hb1⟩; obtain ⟨x0, x1, -⟩ := two_cells ((hb1.block _ (lt_of_block HS.out)).trans HS.out))
  have hP := (hb1.block _ (lt_of_block HP.out)).trans HP.out
  have hS := (hb1.block _ (lt_of_block HS.out)).trans HS.out
  have hT : Blk .u8 (w1.alloc (.cells #[.int .u8 0, .int .u8 0, .int .u8 0, .int .u8 0, .int .u8 0, .int .u8 0, .int .u8 0, .int .u8 0, .int .u8 0, .int .u8 0, .int .u8 0, .int .u8 0, .int .u8 0, .int .u8 0, .int .u8 0, .int .u8 0, .int .u8 0, .int .u8 0, .int .u8 0, .int .u8 0] 5)) w1.heap.size 5 (List.replicate 20 0) := heap_alloc_new _ _
  have hba := below_alloc w1 (.cells #[.int .u8 0, .int .u8 0, .int .u8 0, .int .u8 0, .int .u8 0, .int .u8 0, .int .u8 0, .int .u8 0, .int .u8 0, .int .u8 0, .int .u8 0, .int .u8 0, .int .u8 0, .int .u8 0, .int .u8 0, .int .u8 0, .int .u8 0, .int .u8 0, .int .u8 0, .int .u8 0] 5)
  have hP2 := (hba.block _ (lt_of_block hP)).trans hP
  have hS2 := (hba.block _ (lt_of_block hS)).trans hS
  have hb2 := bstep (bstep hb hb1) hba
  have hPT := lt_of_block hP
  go_upto_region 4 with fail
  clear hba hb hb1 HS HP x0 x1 hS hP
  generalize w1.heap.size = T at *
  generalize w1.alloc (.cells #[.int .u8 0, .int .u8 0, .int .u8 0, .int .u8 0, .int .u8 0, .int .u8 0, .int .u8 0, .int .u8 0, .int .u8 0, .int .u8 0, .int .u8 0, .int .u8 0, .int .u8 0, .int .u8 0, .int .u8 0, .int .u8 0, .int .u8 0, .int .u8 0, .int .u8 0, .int .u8 0] 5) = X at *
  have HT : Hid (Blk .u8 X T 5 (List.replicate 20 0)) := hT
  have HS := Lib.hid hS2
  have HP := Lib.hid hP2
  obtain ⟨x0, x1, -⟩ := two_cells hS2
  have f0 := hT.frozen 0
  have f1 := hT.frozen 1
  have f2 := hT.frozen 2
  have f3 := hT.frozen 3
  have c0 := hT.cell (i := 0) (by decide)
  have c1 := hT.cell (i := 1) (by decide)
  have c2 := hT.cell (i := 2) (by decide)
  have c3 := hT.cell (i := 3) (by decide)
  have hTX := hT.lt
  clear hT hS2 hP2
  have hr' := hr
  obtain ⟨r1, r2, r3, r4⟩ := hr'
  go_wp2_with fail
  go_region
  go_upto_region 6 with fail
  have hT4 : Blk .u8 ((((X.setCell ⟨T, 0, none⟩ (.int .u8 ((l + 32768) / 256))).setCell ⟨T, 1, none⟩ (.int .u8 ((l + 32768) % 256))).setCell ⟨T, 2, none⟩ (.int .u8 i)).setCell ⟨T, 3, none⟩ (.int .u8 (n : Nat))).drew T 5 (pbs l i zs n 0) := by
    rw [← pbs_zero zs hr n]
    exact (((HT.out.set 0 _).set 1 _).set 2 _).set 3 _
  have hkp : Keeps (fun b => b = T) X ((((X.setCell ⟨T, 0, none⟩ (.int .u8 ((l + 32768) / 256))).setCell ⟨T, 1, none⟩ (.int .u8 ((l + 32768) % 256))).setCell ⟨T, 2, none⟩ (.int .u8 i)).setCell ⟨T, 3, none⟩ (.int .u8 (n : Nat))).drew := (((((Keeps.refl (fun b => b = T) X).setCell (p := ⟨T, 0, none⟩) (.inr rfl) _).setCell (p := ⟨T, 1, none⟩) (.inr rfl) _).setCell (p := ⟨T, 2, none⟩) (.inr rfl) _).setCell (p := ⟨T, 3, none⟩) (.inr rfl) _).drew
  have hS4 := hkp.heap HS.out (by omega)
  have hP4 := hkp.heap HP.out (by omega)
  have hb4 : Below w.heap.size w ((((X.setCell ⟨T, 0, none⟩ (.int .u8 ((l + 32768) / 256))).setCell ⟨T, 1, none⟩ (.int .u8 ((l + 32768) % 256))).setCell ⟨T, 2, none⟩ (.int .u8 i)).setCell ⟨T, 3, none⟩ (.int .u8 (n : Nat))).drew := ((((hb2.setCell (p := ⟨T, 0, none⟩) (by simp; omega) _).setCell (p := ⟨T, 1, none⟩) (by simp; omega) _).setCell (p := ⟨T, 2, none⟩) (by simp; omega) _).setCell (p := ⟨T, 3, none⟩) (by simp; omega) _).drew
  clear HT HS HP hkp x0 x1 f0 f1 f2 f3 c0 c1 c2 c3 hTX hb2 hmk r1 r2 r3 r4
  generalize ((((X.setCell ⟨T, 0, none⟩ (.int .u8 ((l + 32768) / 256))).setCell ⟨T, 1, none⟩ (.int .u8 ((l + 32768) % 256))).setCell ⟨T, 2, none⟩ (.int .u8 i)).setCell ⟨T, 3, none⟩ (.int .u8 (n : Nat))).drew = Y at *
  have HT : Hid (Blk .u8 Y T 5 (pbs l i zs n 0)) := hT4
  have HS := Lib.hid hS4
  have HP := Lib.hid hP4
  obtain ⟨x0, x1, -⟩ := two_cells hS4
  obtain ⟨y0, y1, f0, f1⟩ := two_cells hP4
  have hPY := lt_of_block hP4
  have hTY := hT4.lt
  have hi := h.keep0 hb4
  clear hT4 hS4 hP4
  go_wp2_with fail
  go_loopw [49] (fun iv wr => ∃ k : Nat, k ≤ n ∧ iv = .int .i64 k ∧ InR zs k ∧ wr = Y) (fun iv _ => (n - intOf iv).toNat)
  case atStart => exact ⟨0, by omega, rfl, fun q hq => by omega, rfl⟩
  case round =>
    obtain ⟨k, hk, rfl, hin, rfl⟩ := hrel
    by_cases hlt : k < n
    · obtain ⟨a, v, rfl, hv, hc, hv1, hv2⟩ := hi.int hlt
      by_cases hbad : v < -32768 ∨ 32767 < v
      · have hno : ¬ InR zs n := fun hh => by have := hh k hlt; rw [hv.out] at this; omega
        have HN := Lib.hid hno
        obtain ⟨s0, s1, -⟩ := two_cells (two_same HP.out (.int .i64 l) (.int .i64 i))
        clear hno hin
        by_cases hb1 : v < -32768
        · go_wp2_with fail
          go_region
          go_wp2_with fail
          refine bodyPost_ret (v := .tuple #[.slice none 0 0, .agg #[.int .i64 l, .int .i64 i], .int .i64 5]) (by simp [results, Try.results19, go_sem, s0, s1]) rfl (.inr ⟨HN.out, rfl, ?_⟩)
          exact ((hb4.setCell (p := ⟨w.heap.size + 1, 0, none⟩) (by simp) _).setCell (p := ⟨w.heap.size + 1, 1, none⟩) (by simp) _).drew
        · have hb2 : 32767 < v := by omega
          clear hbad
          go_wp2_with fail
          go_region
          go_wp2_with fail
          refine bodyPost_ret (v := .tuple #[.slice none 0 0, .agg #[.int .i64 l, .int .i64 i], .int .i64 5]) (by simp [results, Try.results19, go_sem, s0, s1]) rfl (.inr ⟨HN.out, rfl, ?_⟩)
          exact ((hb4.setCell (p := ⟨w.heap.size + 1, 0, none⟩) (by simp) _).setCell (p := ⟨w.heap.size + 1, 1, none⟩) (by simp) _).drew
      · have hv3 : -32768 ≤ v := by omega
        have hv4 : v ≤ 32767 := by omega
        clear hbad
        go_wp2_with fail
        go_roundw
        case rel => exact ⟨k + 1, by omega, by go_num, fun q hq => by
          by_cases hqk : q = k
          · subst hqk; rw [hv.out]; omega
          · exact hin q (by omega), by first | rfl | trivial⟩
        case measure => simp [intOf]; omega
    · obtain rfl : k = n := by omega
      go_wp2_with fail
      have hD : (wr.alloc (.cells #[.int .i64 l, .int .i64 i] 23)).heap[wr.heap.size]? = some (.cells #[.int .i64 l, .int .i64 i] 23 (0, 0)) := heap_alloc_new _ _
      have hbd := below_alloc wr (.cells #[.int .i64 l, .int .i64 i] 23)
      have hP5 := (hbd.block _ (lt_of_block HP.out)).trans HP.out
      have hT5 : Blk .u8 (wr.alloc (.cells #[.int .i64 l, .int .i64 i] 23)) T 5 (pbs l i zs k 0) := Blk.keep0 HT.out hbd
      have hb5 := bstep hb4 hbd
      have hTD : T < wr.heap.size := hTY
      have hPD : w.heap.size + 1 < T := hPT
      clear HS HP HT x0 x1 y0 y1 f0 f1 hb4 hbd hPY hTY hPT hi hlt
      generalize wr.heap.size = D at *
      generalize wr.alloc (.cells #[.int .i64 l, .int .i64 i] 23) = Z at *
      have HIN := Lib.hid hin
      clear hin
      go_loopw [64] (fun iv wr => ∃ j : Nat, j ≤ k ∧ iv = .int .i64 j ∧ wr.heap[D]? = some (.cells #[.int .i64 (eS l i zs j).1, .int .i64 (eS l i zs j).2] 23 (0, 0)) ∧ wr.heap[w.heap.size + 1]? = some (.cells #[.int .i64 0, .int .i64 0] 23 (0, 0)) ∧ Blk .u8 wr T 5 (pbs l i zs k j) ∧ Below w.heap.size w wr) (fun iv _ => (k - intOf iv).toNat)
      case atStart => exact ⟨0, by omega, rfl, hD, hP5, hT5, hb5⟩
      case round =>
        clear hD hP5 hT5 hb5
        obtain ⟨j, hj, rfl, hD, hP, hT, hb⟩ := hrel
        have HD := Lib.hid hD
        have HP := Lib.hid hP
        have HT : Hid (Blk .u8 wr T 5 (pbs l i zs k j)) := hT
        clear hP hT
        by_cases hlt : j < k
        · obtain ⟨x0, x1, f0, f1⟩ := two_cells hD
          obtain ⟨a, v, rfl, hv, hc, hv1, hv2⟩ := (h.keep0 hb).int hlt
          have hvr := HIN.out j hlt
          rw [hv.out] at hvr
          have hrj := eS_right zs hr j
          have hcl := eC_lt l i zs j
          have hcc : Hid (eC l i zs j = bestOf (eS l i zs j).1 (eS l i zs j).2 v 15) := by rw [← hv.out]; rfl
          have he := fun w => encode_any (eS l i zs j).1 (eS l i zs j).2 v hrj (by omega) w
          rw [← hcc.out] at he
          have hes : Hid (eS l i zs (j + 1) = (nextL (eS l i zs j).1 (eS l i zs j).2 (eC l i zs j), nextI (eS l i zs j).2 (eC l i zs j))) := rfl
          clear hv hcc hvr hD
          go_upto_region 18 with (go_at_call 15; refine (he _).mono ?_; rintro e w2 ⟨rfl, hb2⟩; obtain ⟨x0, x1, f0, f1⟩ := two_cells ((hb2.block _ (lt_of_block HD.out)).trans HD.out); have hDw := lt_of_block ((hb2.block _ (lt_of_block HD.out)).trans HD.out))
          have hHD2 := (hb2.block _ (lt_of_block HD.out)).trans HD.out
          have hHP2 := (hb2.block _ (lt_of_block HP.out)).trans HP.out
          have hHT2 : Blk .u8 w2 T 5 (pbs l i zs k j) := Blk.keep0 HT.out hb2
          have hD6 := two_same hHD2 (.int .i64 (nextL (eS l i zs j).1 (eS l i zs j).2 (eC l i zs j))) (.int .i64 (nextI (eS l i zs j).2 (eC l i zs j)))
          have hkp : Keeps (fun b => b = D) w2 ((w2.setCell ⟨D, 0, none⟩ (.int .i64 (nextL (eS l i zs j).1 (eS l i zs j).2 (eC l i zs j)))).setCell ⟨D, 1, none⟩ (.int .i64 (nextI (eS l i zs j).2 (eC l i zs j)))) := ((Keeps.refl (fun b => b = D) w2).setCell (p := ⟨D, 0, none⟩) (.inr rfl) _).setCell (p := ⟨D, 1, none⟩) (.inr rfl) _
          have hb6 : Below w.heap.size w ((w2.setCell ⟨D, 0, none⟩ (.int .i64 (nextL (eS l i zs j).1 (eS l i zs j).2 (eC l i zs j)))).setCell ⟨D, 1, none⟩ (.int .i64 (nextI (eS l i zs j).2 (eC l i zs j)))) := ((bstep hb hb2).setCell (p := ⟨D, 0, none⟩) (by simp; omega) _).setCell (p := ⟨D, 1, none⟩) (by simp; omega) _
          have hP6 := hkp.heap hHP2 (by omega)
          have hT6 := hHT2.kept hkp (by omega)
          clear hHD2 hHP2 hHT2 hkp HD HP HT hb hb2 x0 x1 f0 f1 hDw hc he
          generalize (w2.setCell ⟨D, 0, none⟩ (.int .i64 (nextL (eS l i zs j).1 (eS l i zs j).2 (eC l i zs j)))).setCell ⟨D, 1, none⟩ (.int .i64 (nextI (eS l i zs j).2 (eC l i zs j))) = V at *
          have HD := Lib.hid hD6
          have HP := Lib.hid hP6
          have HT : Hid (Blk .u8 V T 5 (pbs l i zs k j)) := hT6
          have c0 := hT6.cell (i := 4 + j / 2) (by rw [pbs_len]; omega)
          have f0 := hT6.frozen (4 + j / 2)
          have hTV := hT6.lt
          rw [pbs_get _ _ _ _ _ _ (by omega)] at c0
          clear hD6 hP6 hT6
          by_cases hp : (j : Int) % 2 = 0
          · obtain ⟨e1, e2⟩ := pb_even l i zs k j (by omega)
            have E2 := Lib.hid e2
            rw [e1] at c0
            have ho := or_zero (eC l i zs j) hcl
            clear e1 e2
            go_region
            have hTn : Blk .u8 (V.setCell ⟨T, 4 + j / 2, none⟩ (.int .u8 ((16 * eC l i zs j : Nat) : Int))).drew T 5 (pbs l i zs k (j + 1)) := by
              rw [← pbs_succ l i zs k j (by omega), E2.out]
              exact HT.out.set (4 + j / 2) _
            have hkp : Keeps (fun b => b = T) V (V.setCell ⟨T, 4 + j / 2, none⟩ (.int .u8 ((16 * eC l i zs j : Nat) : Int))).drew := ((Keeps.refl (fun b => b = T) V).setCell (p := ⟨T, 4 + j / 2, none⟩) (.inr rfl) _).drew
            have hD7 := Lib.hid (hkp.heap HD.out (by omega))
            have hP7 := Lib.hid (hkp.heap HP.out (by omega))
            have hb7 : Below w.heap.size w (V.setCell ⟨T, 4 + j / 2, none⟩ (.int .u8 ((16 * eC l i zs j : Nat) : Int))).drew := (hb6.setCell (p := ⟨T, 4 + j / 2, none⟩) (by simp; omega) _).drew
            have HTN : Hid (Blk .u8 (V.setCell ⟨T, 4 + j / 2, none⟩ (.int .u8 ((16 * eC l i zs j : Nat) : Int))).drew T 5 (pbs l i zs k (j + 1))) := hTn
            clear hTn hkp HD HP HT hb6 c0 f0 hTV
            rw [show 16 * (eC l i zs j : Int) = ((16 * eC l i zs j : Nat) : Int) by omega]
            generalize (V.setCell ⟨T, 4 + j / 2, none⟩ (.int .u8 ((16 * eC l i zs j : Nat) : Int))).drew = U at *
            go_wp2_with fail
            go_roundw
            case rel => exact ⟨j + 1, by omega, by go_num, by rw [hes.out]; exact hD7.out, hP7.out, HTN.out, hb7⟩
            case measure => simp [intOf]; omega
          · have hp1 : (j : Int) % 2 = 1 := by omega
            obtain ⟨e1, e2⟩ := pb_odd l i zs k j (by omega)
            have E2 := Lib.hid e2
            rw [e1] at c0
            have hcl' := eC_lt l i zs (j - 1)
            have ho := or_add (eC l i zs (j - 1)) hcl' (eC l i zs j) hcl
            clear e1 e2 hp
            go_region
            have hTn : Blk .u8 (V.setCell ⟨T, 4 + j / 2, none⟩ (.int .u8 ((16 * eC l i zs (j - 1) + eC l i zs j : Nat) : Int))).drew T 5 (pbs l i zs k (j + 1)) := by
              rw [← pbs_succ l i zs k j (by omega), E2.out]
              exact HT.out.set (4 + j / 2) _
            have hkp : Keeps (fun b => b = T) V (V.setCell ⟨T, 4 + j / 2, none⟩ (.int .u8 ((16 * eC l i zs (j - 1) + eC l i zs j : Nat) : Int))).drew := ((Keeps.refl (fun b => b = T) V).setCell (p := ⟨T, 4 + j / 2, none⟩) (.inr rfl) _).drew
            have hD7 := Lib.hid (hkp.heap HD.out (by omega))
            have hP7 := Lib.hid (hkp.heap HP.out (by omega))
            have hb7 : Below w.heap.size w (V.setCell ⟨T, 4 + j / 2, none⟩ (.int .u8 ((16 * eC l i zs (j - 1) + eC l i zs j : Nat) : Int))).drew := (hb6.setCell (p := ⟨T, 4 + j / 2, none⟩) (by simp; omega) _).drew
            have HTN : Hid (Blk .u8 (V.setCell ⟨T, 4 + j / 2, none⟩ (.int .u8 ((16 * eC l i zs (j - 1) + eC l i zs j : Nat) : Int))).drew T 5 (pbs l i zs k (j + 1))) := hTn
            clear hTn hkp HD HP HT hb6 c0 f0 hTV
            rw [show 16 * (eC l i zs (j - 1) : Int) + (eC l i zs j : Int) = ((16 * eC l i zs (j - 1) + eC l i zs j : Nat) : Int) by omega]
            generalize (V.setCell ⟨T, 4 + j / 2, none⟩ (.int .u8 ((16 * eC l i zs (j - 1) + eC l i zs j : Nat) : Int))).drew = U at *
            go_wp2_with fail
            go_roundw
            case rel => exact ⟨j + 1, by omega, by go_num, by rw [hes.out]; exact hD7.out, hP7.out, HTN.out, hb7⟩
            case measure => simp [intOf]; omega
        · obtain rfl : j = k := by omega
          go_wp2_with fail
          obtain ⟨x0, x1, -⟩ := two_cells HD.out
          obtain ⟨y0, y1, f0, f1⟩ := two_cells HP.out
          obtain ⟨s0, s1, -⟩ := two_cells (two_same HP.out (.int .i64 (eS l i zs j).1) (.int .i64 (eS l i zs j).2))
          have hlp := lt_of_block HP.out
          go_region
          go_wp2_with fail
          refine bodyPost_ret (v := .tuple #[.slice (some ⟨T, 0, none⟩) 20 20, .agg #[.int .i64 (eS l i zs j).1, .int .i64 (eS l i zs j).2], .int .i64 0]) (by simp [results, Try.results19, go_sem, s0, s1]) rfl (.inl ⟨HIN.out, T, rfl, ?_, ?_, by omega⟩)
          · exact (HT.out.other (w.heap.size + 1) 0 _ (by omega)).other (w.heap.size + 1) 1 _ (by omega)
          · exact ((hb.setCell (p := ⟨w.heap.size + 1, 0, none⟩) (by simp) _).setCell (p := ⟨w.heap.size + 1, 1, none⟩) (by simp) _).drew
end Go.Proofs.Ytbhopghfglgibaa

/- The walk of the statement's block. -/
import Derived.Test.YtbhopghfglgibaaPck
import Derived.Test.YtbhopghfglgibaaUnl
namespace Go.Proofs.Ytbhopghfglgibaa
open Go.RowKit Go.Calli
set_option linter.unusedVariables false
def eouts (l i : Int) (zs : List Int) : Nat → List Int
  | 0 => []
  | k + 1 => eouts l i zs k ++ [(eS l i zs (k + 1)).1]
theorem eouts_len (l i : Int) (zs : List Int) (k : Nat) : (eouts l i zs k).length = k := by induction k with
  | zero => rfl
  | succ k ih => simp [eouts, ih]
theorem eouts_wf (l i : Int) (zs : List Int) (k : Nat) : ∀ z ∈ eouts l i zs k, (Lit.int .i64 z).wf = true := by
  induction k with
  | zero => intro z hz; simp [eouts] at hz
  | succ k ih =>
    intro z hz
    rcases List.mem_append.1 hz with hz | hz
    · exact ih z hz
    · simp at hz; subst hz
      have := next_right (eS l i zs k).1 (eS l i zs k).2 (bestOf (eS l i zs k).1 (eS l i zs k).2 (zs.getD k 0) 15)
      exact WalkArith.wf_i64 (by unfold RightS at this; show _ ≤ nextL _ _ _ ∧ nextL _ _ _ ≤ _; omega)
/-- What block answers. -/
def BloPost (l i : Int) (n : Nat) (zs : List Int) (w : World) (e : Ending) (w' : World) : Prop := ∃ b ao c, e = .returned (.tuple #[.slice (some ⟨b, 0, none⟩) 20 20, .slice ao n c, .agg #[.int .i64 (eS l i zs n).1, .int .i64 (eS l i zs n).2]]) ∧ Blk .u8 w' b 5 (pbs l i zs n n) ∧ Ints .i64 w' ao n (eouts l i zs n) ∧ (∀ a, ao = some a → w.heap.size ≤ a.block) ∧ Below w.heap.size w w'
def InM (zs : List Int) (n : Nat) : Prop := ∀ q, q < n → -1048576 ≤ zs.getD q 0 ∧ zs.getD q 0 ≤ 1048576
set_option maxRecDepth 100000 in
set_option maxHeartbeats 2000000 in
theorem block_any (ao : Option Addr) (n cap : Nat) (l i : Int) (zs : List Int) (hn : n ≤ 32) (hr : RightS l i) (hin : InM zs n) (w : World) (h : Ints .i64 w ao n zs) : Calls Try.prog 21 #[.slice ao n cap, .agg #[.int .i64 l, .int .i64 i]] w (BloPost l i n zs w) := by
  have hS := heap_alloc2_old w (.cells #[.int .i64 l, .int .i64 i] 23) (.cells #[.int .i64 0, .int .i64 0] 23)
  have hP := heap_alloc2_new w (.cells #[.int .i64 l, .int .i64 i] 23) (.cells #[.int .i64 0, .int .i64 0] 23)
  have hb : Below w.heap.size w ((w.alloc (.cells #[.int .i64 l, .int .i64 i] 23)).alloc (.cells #[.int .i64 0, .int .i64 0] 23)) := (below_alloc w _).alloc (by simp) _
  go_enter Try.func21, Try.ntmps21
  have hmk : ∀ w : World, (Instr.makeSlice 33 (.int .i64 20) (.int .i64 20)).run Try.prog w = .ok (.slice (some ⟨w.heap.size, 0, none⟩) 20 20) (w.alloc (.cells #[.int .u8 0, .int .u8 0, .int .u8 0, .int .u8 0, .int .u8 0, .int .u8 0, .int .u8 0, .int .u8 0, .int .u8 0, .int .u8 0, .int .u8 0, .int .u8 0, .int .u8 0, .int .u8 0, .int .u8 0, .int .u8 0, .int .u8 0, .int .u8 0, .int .u8 0, .int .u8 0] 5)) := fun _ => by kernel_rfl
  go_upto_region 1 with fail
  generalize (w.alloc (.cells #[.int .i64 l, .int .i64 i] 23)).alloc (.cells #[.int .i64 0, .int .i64 0] 23) = w1 at *
  have hT : Blk .u8 (w1.alloc (.cells #[.int .u8 0, .int .u8 0, .int .u8 0, .int .u8 0, .int .u8 0, .int .u8 0, .int .u8 0, .int .u8 0, .int .u8 0, .int .u8 0, .int .u8 0, .int .u8 0, .int .u8 0, .int .u8 0, .int .u8 0, .int .u8 0, .int .u8 0, .int .u8 0, .int .u8 0, .int .u8 0] 5)) w1.heap.size 5 (List.replicate 20 0) := heap_alloc_new _ _
  have hba := below_alloc w1 (.cells #[.int .u8 0, .int .u8 0, .int .u8 0, .int .u8 0, .int .u8 0, .int .u8 0, .int .u8 0, .int .u8 0, .int .u8 0, .int .u8 0, .int .u8 0, .int .u8 0, .int .u8 0, .int .u8 0, .int .u8 0, .int .u8 0, .int .u8 0, .int .u8 0, .int .u8 0, .int .u8 0] 5)
  have hP2 := (hba.block _ (lt_of_block hP)).trans hP
  have hS2 := (hba.block _ (lt_of_block hS)).trans hS
  have hb2 := bstep hb hba
  have hPT := lt_of_block hP
  go_upto_region 2 with fail
  clear hba hb hS hP
  generalize w1.heap.size = T at *
  generalize w1.alloc (.cells #[.int .u8 0, .int .u8 0, .int .u8 0, .int .u8 0, .int .u8 0, .int .u8 0, .int .u8 0, .int .u8 0, .int .u8 0, .int .u8 0, .int .u8 0, .int .u8 0, .int .u8 0, .int .u8 0, .int .u8 0, .int .u8 0, .int .u8 0, .int .u8 0, .int .u8 0, .int .u8 0] 5) = X at *
  have HT : Hid (Blk .u8 X T 5 (List.replicate 20 0)) := hT
  have HS := Lib.hid hS2
  have HP := Lib.hid hP2
  obtain ⟨x0, x1, -⟩ := two_cells hS2
  have f0 := hT.frozen 0
  have f1 := hT.frozen 1
  have f2 := hT.frozen 2
  have f3 := hT.frozen 3
  have c0 := hT.cell (i := 0) (by decide)
  have c1 := hT.cell (i := 1) (by decide)
  have c2 := hT.cell (i := 2) (by decide)
  have c3 := hT.cell (i := 3) (by decide)
  have hTX := hT.lt
  clear hT hS2 hP2
  have hr' := hr
  obtain ⟨r1, r2, r3, r4⟩ := hr'
  go_upto_region 7 with fail
  have hT4 : Blk .u8 ((((X.setCell ⟨T, 0, none⟩ (.int .u8 ((l + 32768) / 256))).setCell ⟨T, 1, none⟩ (.int .u8 ((l + 32768) % 256))).setCell ⟨T, 2, none⟩ (.int .u8 i)).setCell ⟨T, 3, none⟩ (.int .u8 (n : Nat))) T 5 (pbs l i zs n 0) := by
    rw [← pbs_zero zs hr n]
    exact (((HT.out.set 0 _).set 1 _).set 2 _).set 3 _
  have hkp : Keeps (fun b => b = T) X ((((X.setCell ⟨T, 0, none⟩ (.int .u8 ((l + 32768) / 256))).setCell ⟨T, 1, none⟩ (.int .u8 ((l + 32768) % 256))).setCell ⟨T, 2, none⟩ (.int .u8 i)).setCell ⟨T, 3, none⟩ (.int .u8 (n : Nat))) := ((((Keeps.refl (fun b => b = T) X).setCell (p := ⟨T, 0, none⟩) (.inr rfl) _).setCell (p := ⟨T, 1, none⟩) (.inr rfl) _).setCell (p := ⟨T, 2, none⟩) (.inr rfl) _).setCell (p := ⟨T, 3, none⟩) (.inr rfl) _
  have hS4 := hkp.heap HS.out (by omega)
  have hP4 := hkp.heap HP.out (by omega)
  have hb4 : Below w.heap.size w ((((X.setCell ⟨T, 0, none⟩ (.int .u8 ((l + 32768) / 256))).setCell ⟨T, 1, none⟩ (.int .u8 ((l + 32768) % 256))).setCell ⟨T, 2, none⟩ (.int .u8 i)).setCell ⟨T, 3, none⟩ (.int .u8 (n : Nat))) := (((hb2.setCell (p := ⟨T, 0, none⟩) (by simp; omega) _).setCell (p := ⟨T, 1, none⟩) (by simp; omega) _).setCell (p := ⟨T, 2, none⟩) (by simp; omega) _).setCell (p := ⟨T, 3, none⟩) (by simp; omega) _
  clear HT HS HP hkp x0 x1 f0 f1 f2 f3 c0 c1 c2 c3 hTX hb2 hmk r1 r2 r3 r4
  generalize (((X.setCell ⟨T, 0, none⟩ (.int .u8 ((l + 32768) / 256))).setCell ⟨T, 1, none⟩ (.int .u8 ((l + 32768) % 256))).setCell ⟨T, 2, none⟩ (.int .u8 i)).setCell ⟨T, 3, none⟩ (.int .u8 (n : Nat)) = Y at *
  have hTY := hT4.lt
  go_wp2_with fail
  go_loopw [8, 9] (fun v iv wr => ∃ j : Nat, j ≤ n ∧ iv = .int .i64 j ∧ wr.ownsRow w.heap.size 3 1 v j ((eouts l i zs j).map (Value.int .i64)) ∧ wr.heap[w.heap.size]? = some (.cells #[.int .i64 (eS l i zs j).1, .int .i64 (eS l i zs j).2] 23 (0, 0)) ∧ wr.heap[w.heap.size + 1]? = some (.cells #[.int .i64 0, .int .i64 0] 23 (0, 0)) ∧ Blk .u8 wr T 5 (pbs l i zs n j) ∧ Below w.heap.size w wr) (fun _ iv _ => (n - intOf iv).toNat)
  case atStart => exact ⟨0, by omega, rfl, World.ownsRow_nil _ _ _ _, hS4, hP4, hT4, hb4⟩
  case round =>
    clear hS4 hP4 hT4 hb4
    obtain ⟨j, hj, rfl, hown, hD, hP, hT, hb⟩ := hrel
    have HD := Lib.hid hD
    have HP := Lib.hid hP
    have HT : Hid (Blk .u8 wr T 5 (pbs l i zs n j)) := hT
    clear hP hT
    by_cases hlt : j < n
    · obtain ⟨x0, x1, f0, f1⟩ := two_cells hD
      obtain ⟨a, v, rfl, hv, hc, hv1, hv2⟩ := (h.keep0 hb).int hlt
      have hvr := hin j hlt
      rw [hv.out] at hvr
      have hrj := eS_right zs hr j
      have hcl := eC_lt l i zs j
      have hcc : Hid (eC l i zs j = bestOf (eS l i zs j).1 (eS l i zs j).2 v 15) := by rw [← hv.out]; rfl
      have he := fun w => lencode_any (eS l i zs j).1 (eS l i zs j).2 v hrj hvr w
      rw [← hcc.out] at he
      have hes : Hid (eS l i zs (j + 1) = (nextL (eS l i zs j).1 (eS l i zs j).2 (eC l i zs j), nextI (eS l i zs j).2 (eC l i zs j))) := rfl
      have hos : Hid (eouts l i zs (j + 1) = eouts l i zs j ++ [nextL (eS l i zs j).1 (eS l i zs j).2 (eC l i zs j)]) := rfl
      clear hv hcc hvr hD
      have hn' := fun w => lnext_any (eS l i zs j).1 (eS l i zs j).2 (eC l i zs j) hrj hcl w
      go_wp2_with fail
      go_region_held3 (fun w' => w'.cell? ⟨w.heap.size, 0, none⟩ = some (.int .i64 (eS l i zs j).1) ∧ w'.cell? ⟨w.heap.size, 1, none⟩ = some (.int .i64 (eS l i zs j).2) ∧ w'.cell? (a.add j) = some (.int .i64 v)) (go_keep) (first | (go_at_call 16; refine (he _).mono ?_; rintro e w2 ⟨rfl, hb2⟩; have y0 : w2.cell? ⟨w.heap.size, 0, none⟩ = some (.int .i64 (eS l i zs j).1) := cell_later hb2 (by assumption); have y1 : w2.cell? ⟨w.heap.size, 1, none⟩ = some (.int .i64 (eS l i zs j).2) := cell_later hb2 (by assumption); have y2 : w2.cell? (a.add j) = some (.int .i64 v) := cell_later hb2 (by assumption)))
      have hb2' : Below wr.heap.size wr w2 := (Below.refl wr.heap.size wr).drew.trans hb2
      have hD2 := (hb2'.block _ (lt_of_block HD.out)).trans HD.out
      have hP2 := (hb2'.block _ (lt_of_block HP.out)).trans HP.out
      have hT2 : Blk .u8 w2 T 5 (pbs l i zs n j) := Blk.keep0 HT.out hb2'
      have hown2 := owns_kept (S := fun _ => False) hown (Keeps.ofBelow hb2' (Nat.le_refl _)) (fun _ _ h => h)
      have hb3 := bstep hb hb2'
      clear hb hb2' hb2 HD HP HT hown x0 x1 f0 f1 y2 he hc
      have HD := Lib.hid hD2
      have HP := Lib.hid hP2
      have HT : Hid (Blk .u8 w2 T 5 (pbs l i zs n j)) := hT2
      clear hD2 hP2 hT2
      go_upto_region 12 with (go_at_call 14; refine (hn' _).mono ?_; rintro e w3 ⟨rfl, hb4⟩; obtain ⟨x0, x1, f0, f1⟩ := two_cells ((hb4.block _ (lt_of_block HD.out)).trans HD.out); have hDw := lt_of_block ((hb4.block _ (lt_of_block HD.out)).trans HD.out))
      have hD3 := (hb4.block _ (lt_of_block HD.out)).trans HD.out
      have hP3 := (hb4.block _ (lt_of_block HP.out)).trans HP.out
      have hT3 : Blk .u8 w3 T 5 (pbs l i zs n j) := Blk.keep0 HT.out hb4
      have hown3 := owns_kept (S := fun _ => False) hown2 (Keeps.ofBelow hb4 (Nat.le_refl _)) (fun _ _ h => h)
      have hD6 := two_same hD3 (.int .i64 (nextL (eS l i zs j).1 (eS l i zs j).2 (eC l i zs j))) (.int .i64 (nextI (eS l i zs j).2 (eC l i zs j)))
      have hkp : Keeps (fun b => b = w.heap.size) w3 ((w3.setCell ⟨w.heap.size, 0, none⟩ (.int .i64 (nextL (eS l i zs j).1 (eS l i zs j).2 (eC l i zs j)))).setCell ⟨w.heap.size, 1, none⟩ (.int .i64 (nextI (eS l i zs j).2 (eC l i zs j)))) := ((Keeps.refl (fun b => b = w.heap.size) w3).setCell (p := ⟨w.heap.size, 0, none⟩) (.inr rfl) _).setCell (p := ⟨w.heap.size, 1, none⟩) (.inr rfl) _
      have hb6 : Below w.heap.size w ((w3.setCell ⟨w.heap.size, 0, none⟩ (.int .i64 (nextL (eS l i zs j).1 (eS l i zs j).2 (eC l i zs j)))).setCell ⟨w.heap.size, 1, none⟩ (.int .i64 (nextI (eS l i zs j).2 (eC l i zs j)))) := ((bstep hb3 hb4).setCell (p := ⟨w.heap.size, 0, none⟩) (by simp) _).setCell (p := ⟨w.heap.size, 1, none⟩) (by simp) _
      have hP6 := hkp.heap hP3 (by omega)
      have hT6 := hT3.kept hkp (by omega)
      have hown6 := owns_kept hown3 hkp (fun b hb hS => by
        obtain ⟨cs, hcs⟩ := own_block_type hown3 hb
        have hS' : b = w.heap.size := hS
        rw [hS', hD3] at hcs
        cases hcs)
      clear hD3 hP3 hT3 hown3 hkp HD HP HT hb3 hb4 x0 x1 f0 f1 hDw hn' hown2 y0 y1
      generalize ((w3.setCell ⟨w.heap.size, 0, none⟩ (.int .i64 (nextL (eS l i zs j).1 (eS l i zs j).2 (eC l i zs j)))).setCell ⟨w.heap.size, 1, none⟩ (.int .i64 (nextI (eS l i zs j).2 (eC l i zs j)))) = V at *
      have HD := Lib.hid hD6
      have HP := Lib.hid hP6
      have HT : Hid (Blk .u8 V T 5 (pbs l i zs n j)) := hT6
      obtain ⟨x0, x1, -⟩ := two_cells hD6
      clear hD6 hP6 hT6
      go_upto_region 13 with (at_builtin; refine wpList_append_one rfl (.tmp 55) (.tmp 58) 34 3 rfl Try.underlying34 infoInt rfl w.heap.size _ _ _ rfl hown6 (.int .i64 _) rfl rfl ?_ ?_ ?_ ?_)
      case refine_1 => omega
      case refine_2 => unfold maxLen; omega
      case refine_3 => exact hb6.size
      intro v' U hown' hkp
      have hb' := hb6.trans (owns_below hown6 hkp hb6.size)
      have HD' := Lib.hid (hkp.heap HD.out (fun hS => by
        obtain ⟨cs, hcs⟩ := own_block_type hown6 hS
        rw [HD.out] at hcs; cases hcs))
      have HP' := Lib.hid (hkp.heap HP.out (fun hS => by
        obtain ⟨cs, hcs⟩ := own_block_type hown6 hS
        rw [HP.out] at hcs; cases hcs))
      have hT' := Blk.kept HT.out hkp (fun hS => by
        obtain ⟨cs, hcs⟩ := own_block_type hown6 hS
        rw [HT.out] at hcs; cases hcs)
      clear hown6 hkp hb6 HD HP HT x0 x1
      have HT' : Hid (Blk .u8 U T 5 (pbs l i zs n j)) := hT'
      have c0 := hT'.cell (i := 4 + j / 2) (by rw [pbs_len]; omega)
      have f0 := hT'.frozen (4 + j / 2)
      have hTV := hT'.lt
      rw [pbs_get _ _ _ _ _ _ (by omega)] at c0
      clear hT'
      by_cases hp : (j : Int) % 2 = 0
      · obtain ⟨e1, e2⟩ := pb_even l i zs n j (by omega)
        have HE2 := Lib.hid e2
        rw [e1] at c0
        clear e1 e2
        go_wp2_with fail
        have hTn : Blk .u8 (U.setCell ⟨T, 4 + j / 2, none⟩ (.int .u8 ((16 * eC l i zs j : Nat) : Int))) T 5 (pbs l i zs n (j + 1)) := by
          rw [← pbs_succ l i zs n j (by omega), HE2.out]
          exact HT'.out.set (4 + j / 2) _
        have hkp : Keeps (fun b => b = T) U (U.setCell ⟨T, 4 + j / 2, none⟩ (.int .u8 ((16 * eC l i zs j : Nat) : Int))) := (Keeps.refl (fun b => b = T) U).setCell (p := ⟨T, 4 + j / 2, none⟩) (.inr rfl) _
        have hD7 := Lib.hid (hkp.heap HD'.out (by omega))
        have hP7 := Lib.hid (hkp.heap HP'.out (by omega))
        have hb7 : Below w.heap.size w (U.setCell ⟨T, 4 + j / 2, none⟩ (.int .u8 ((16 * eC l i zs j : Nat) : Int))) := hb'.setCell (p := ⟨T, 4 + j / 2, none⟩) (by simp; omega) _
        have hown7 := owns_kept hown' hkp (fun b hb hS => by
          obtain ⟨cs, hcs⟩ := own_block_type hown' hb
          have hS' : b = T := hS
          rw [hS', HT'.out] at hcs
          cases hcs)
        have HTN : Hid (Blk .u8 (U.setCell ⟨T, 4 + j / 2, none⟩ (.int .u8 ((16 * eC l i zs j : Nat) : Int))) T 5 (pbs l i zs n (j + 1))) := hTn
        go_roundw
        case rel => exact ⟨j + 1, by omega, by go_num, by rw [hos.out]; simpa using hown7, by rw [hes.out]; exact hD7.out, hP7.out, HTN.out, hb7⟩
        case measure => simp [intOf]; omega
      · have hp1 : (j : Int) % 2 = 1 := by omega
        have hcl' := eC_lt l i zs (j - 1)
        obtain ⟨e1, e2⟩ := pb_odd l i zs n j (by omega)
        clear hp
        have HE2 := Lib.hid e2
        rw [e1] at c0
        clear e1 e2
        go_wp2_with fail
        have hTn : Blk .u8 (U.setCell ⟨T, 4 + j / 2, none⟩ (.int .u8 ((16 * eC l i zs (j - 1) + eC l i zs j : Nat) : Int))) T 5 (pbs l i zs n (j + 1)) := by
          rw [← pbs_succ l i zs n j (by omega), HE2.out]
          exact HT'.out.set (4 + j / 2) _
        have hkp : Keeps (fun b => b = T) U (U.setCell ⟨T, 4 + j / 2, none⟩ (.int .u8 ((16 * eC l i zs (j - 1) + eC l i zs j : Nat) : Int))) := (Keeps.refl (fun b => b = T) U).setCell (p := ⟨T, 4 + j / 2, none⟩) (.inr rfl) _
        have hD7 := Lib.hid (hkp.heap HD'.out (by omega))
        have hP7 := Lib.hid (hkp.heap HP'.out (by omega))
        have hb7 : Below w.heap.size w (U.setCell ⟨T, 4 + j / 2, none⟩ (.int .u8 ((16 * eC l i zs (j - 1) + eC l i zs j : Nat) : Int))) := hb'.setCell (p := ⟨T, 4 + j / 2, none⟩) (by simp; omega) _
        have hown7 := owns_kept hown' hkp (fun b hb hS => by
          obtain ⟨cs, hcs⟩ := own_block_type hown' hb
          have hS' : b = T := hS
          rw [hS', HT'.out] at hcs
          cases hcs)
        have HTN : Hid (Blk .u8 (U.setCell ⟨T, 4 + j / 2, none⟩ (.int .u8 ((16 * eC l i zs (j - 1) + eC l i zs j : Nat) : Int))) T 5 (pbs l i zs n (j + 1))) := hTn
        go_roundw
        case rel => exact ⟨j + 1, by omega, by go_num, by rw [hos.out]; simpa using hown7, by rw [hes.out]; exact hD7.out, hP7.out, HTN.out, hb7⟩
        case measure => simp [intOf]; omega
    · obtain rfl : j = n := by omega
      obtain ⟨a', c', rfl, hc', hrow, hl, _, hbt⟩ := own_slice hown
      have hints := hrow.ints hl (eouts_wf _ _ _ _)
      obtain ⟨x0, x1, -⟩ := two_cells HD.out
      obtain ⟨y0, y1, f0, f1⟩ := two_cells HP.out
      obtain ⟨s0, s1, -⟩ := two_cells (two_same HP.out (.int .i64 (eS l i zs j).1) (.int .i64 (eS l i zs j).2))
      have hlp := lt_of_block HP.out
      have hkp : Keeps (fun b => b = w.heap.size + 1) wr ((wr.setCell ⟨w.heap.size + 1, 0, none⟩ (.int .i64 (eS l i zs j).1)).setCell ⟨w.heap.size + 1, 1, none⟩ (.int .i64 (eS l i zs j).2)).drew := (((Keeps.refl (fun b => b = w.heap.size + 1) wr).setCell (p := ⟨w.heap.size + 1, 0, none⟩) (.inr rfl) _).setCell (p := ⟨w.heap.size + 1, 1, none⟩) (.inr rfl) _).drew
      have HI := Lib.hid (hints.kept hkp (fun a0 ha hS => by
        obtain ⟨_, cs, hcs⟩ := hbt a0 ha
        have hS' : a0.block = w.heap.size + 1 := hS
        rw [hS', HP.out] at hcs
        cases hcs))
      have hba : ∀ a, a' = some a → w.heap.size ≤ a.block := fun a ha => (hbt a ha).1
      clear hkp hbt hown hrow hints hD
      go_wp2_with fail
      go_region
      go_wp2_with fail
      refine bodyPost_ret (v := .tuple #[.slice (some ⟨T, 0, none⟩) 20 20, .slice a' j c', .agg #[.int .i64 (eS l i zs j).1, .int .i64 (eS l i zs j).2]]) (by simp [results, Try.results21, go_sem, s0, s1]) rfl ⟨T, a', c', rfl, ?_, HI.out, hba, ?_⟩
      · exact (HT.out.other (w.heap.size + 1) 0 _ (by omega)).other (w.heap.size + 1) 1 _ (by omega)
      · exact ((hb.setCell (p := ⟨w.heap.size + 1, 0, none⟩) (by simp) _).setCell (p := ⟨w.heap.size + 1, 1, none⟩) (by simp) _).drew
end Go.Proofs.Ytbhopghfglgibaa

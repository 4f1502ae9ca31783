/- The walk of say.Word. -/
import Derived.Test.YtflpblggpbgeiaaDoorRdw
namespace Go.Proofs.YtflpblggpbgeiaaDoor
open Go Go.RowKit Go.Calli
set_option linter.unusedVariables false
set_option linter.unusedSimpArgs false
attribute [local irreducible] wpStill wpAnyH wpAnyS wpList Code.wp
def hexS : ByteArray := ByteArray.mk #[48, 49, 50, 51, 52, 53, 54, 55, 56, 57, 97, 98, 99, 100, 101, 102]
theorem and15_all : ((List.range 256).all fun c => bits .and .u8 (c : Int) 15 == (c : Int) % 16) = true := by kernel_rfl
theorem and15 (c : Int) (h : 0 ≤ c ∧ c < 256) : bits .and .u8 c 15 = c % 16 := by
  obtain ⟨n, rfl⟩ : ∃ n : Nat, c = n := ⟨c.toNat, by omega⟩
  have := List.all_eq_true.1 and15_all n (List.mem_range.2 (by omega))
  simpa using this
theorem hex_idx (d : Int) (h : 0 ≤ d ∧ d < 16) (w : World) : (Instr.index 9 (.string hexS) (.int .u8 d)).run Tryd.prog w = .ok (.int .u8 (hx d)) w := by
  rcases (show d = 0 ∨ d = 1 ∨ d = 2 ∨ d = 3 ∨ d = 4 ∨ d = 5 ∨ d = 6 ∨ d = 7 ∨ d = 8 ∨ d = 9 ∨ d = 10 ∨ d = 11 ∨ d = 12 ∨ d = 13 ∨ d = 14 ∨ d = 15 by omega) with rfl | rfl | rfl | rfl | rfl | rfl | rfl | rfl | rfl | rfl | rfl | rfl | rfl | rfl | rfl | rfl <;> rfl
theorem blk_own {w : World} {b B n : Nat} {zs : List Int} (h : w.heap[b]? = some (.cells (zs.map (Value.int .u8)).toArray 5 (0, 0))) (hn : zs.length = n) (hB : B ≤ b) (hm : n ≤ maxLen) : w.ownsRow B 5 1 (.slice (some ⟨b, 0, none⟩) n n) n (zs.map (Value.int .u8)) :=
  ⟨by simp [hn], .inr ⟨b, n, _, rfl, hB, h, Nat.le_refl _, hm, by simp [hn], by simp [hn, List.take_of_length_le]⟩⟩
theorem wf_byt {l : List Int} (h : Byt l) : ∀ z ∈ l, (Lit.int .u8 z).wf = true := fun z hz => WalkArith.wf_u8 ⟨(h z hz).1, by have := (h z hz).2; omega⟩
def WrRel (l : List Int) (w : World) (v3 v9 : Value) (wr : World) : Prop := ∃ (i N : Nat), i ≤ l.length ∧ v9 = .int .i64 (i : Int) ∧ N ≤ 1 + 3 * i ∧ wr.ownsRow w.heap.size 5 1 v3 N ((wordL (l.take i)).map (Value.int .u8)) ∧ Below w.heap.size w wr
theorem wordL_snoc (l : List Int) (i : Nat) (h : i < l.length) : wordL (l.take (i + 1)) = wordL (l.take i) ++ encB (l.getD i 0) := by
  rw [take_succ_getD l i h]
  unfold wordL
  rw [encW_snoc]; rfl
set_option maxRecDepth 100000 in
set_option maxHeartbeats 4000000 in
theorem word_any (l : List Int) (hb : Byt l) (hl : l.length ≤ 1000000) (w : World) : Calls Tryd.prog 15 #[.string (strOfNums l)] w (StrP (wordL l) w) := by
  have hsz := strOfNums_size l
  have ho0 : (w.alloc (.cells #[.int .u8 61] 5)).ownsRow w.heap.size 5 1 (.slice (some ⟨w.heap.size, 0, none⟩) 1 1) 1 ((wordL (l.take 0)).map (Value.int .u8)) := blk_own (zs := [61]) (heap_alloc_new w _) rfl (Nat.le_refl _) (by unfold maxLen; omega)
  have hb0 := below_alloc w (.cells #[.int .u8 61] 5)
  go_enter Tryd.func15, Tryd.ntmps15
  go_upto_region 3 with fail
  go_loopw [3, 9] (fun v3 v9 wr => WrRel l w v3 v9 wr) (fun _ v9 _ => l.length - natV v9)
  case atStart => exact ⟨0, 1, by omega, rfl, by omega, ho0, hb0⟩
  case round =>
    clear ho0 hb0
    obtain ⟨i, N, hi, rfl, hN, hown, hB⟩ := hrel
    by_cases hlt : i < l.length
    · have hsn := wordL_snoc l i hlt
      have hix := index_nums l hb i hlt
      have hc := hb _ (getD_mem0 (l := l) (k := i) hlt)
      generalize l.getD i 0 = c at *
      have HPL : Hid (∀ w, Calls Tryd.prog 28 #[.int .u8 c] w fun e w' => e = .returned (.bool (plainB c)) ∧ w = w') := fun w => plain_any c w
      cases hp : plainB c with
      | true =>
        have HM : Hid ((wordL (l.take i)).map (Value.int .u8) ++ [Value.int .u8 c] = (wordL (l.take (i + 1))).map (Value.int .u8)) := by unfold Hid; rw [hsn, List.map_append]; unfold encB; rw [if_pos hp]; rfl
        rw [hp] at HPL
        clear hsn hp
        go_wp2_with (first | (go_at_call 28; refine (HPL.out _).mono ?_; rintro e w2 ⟨rfl, rfl⟩) | (at_builtin; refine wpList_append_one rfl (.tmp 17) (.tmp 19) 39 5 rfl Tryd.underlying39 infoByte rfl w.heap.size _ _ _ rfl hown (.int .u8 c) rfl rfl ?_ ?_ ?_ ?_))
        case refine_1 => omega
        case refine_2 => unfold maxLen; omega
        case refine_3 => exact hB.size
        intro v' w' hown' hk'
        have hB' := hB.trans (owns_below hown hk' hB.size)
        rw [HM.out] at hown'
        clear hown hk'
        go_wp2_with fail
        refine ⟨⟨i + 1, N + 1, by omega, by go_num, by omega, hown', hB'⟩, ?_⟩
        simp [natV]; omega
      | false =>
        have HM : Hid ((wordL (l.take i)).map (Value.int .u8) ++ [37, hx (c / 16), hx (c % 16)].map (Value.int .u8) = (wordL (l.take (i + 1))).map (Value.int .u8)) := by unfold Hid; rw [hsn, List.map_append]; unfold encB; rw [if_neg (by rw [hp]; decide)]
        rw [hp] at HPL
        have ha := and15 c hc
        have i1 := hex_idx (c / 16) ⟨by omega, by omega⟩
        have i2 := hex_idx (c % 16) ⟨by omega, by omega⟩
        unfold hexS at i1 i2
        have hq1 := hx_byt (d := c / 16) (by omega) (by omega)
        have hq2 := hx_byt (d := c % 16) (by omega) (by omega)
        generalize hx (c / 16) = qa at *
        generalize hx (c % 16) = qb at *
        have hBX : Below wr.heap.size wr (wr.alloc (.cells #[.int .u8 37, .int .u8 qa, .int .u8 qb] 5)).drew := (below_alloc wr _).drew
        have hrow : Row (wr.alloc (.cells #[.int .u8 37, .int .u8 qa, .int .u8 qb] 5)).drew (some ⟨wr.heap.size, 0, none⟩) 3 ([37, qa, qb].map (Value.int .u8)) := ((Ints.new .u8 wr [37, qa, qb] 5 (0, 0) _ rfl 3 rfl (by unfold maxLen; omega) (wf_byt (fun z hz => by simp only [List.mem_cons, List.not_mem_nil, or_false] at hz; rcases hz with rfl | rfl | rfl; omega; exact hq1; exact hq2))).keep0 (Below.refl _ _).drew).row
        obtain ⟨v1, w1, hr1, hown1, hk1⟩ := run_append_row (P := Tryd.prog) (wr.alloc (.cells #[.int .u8 37, .int .u8 qa, .int .u8 qb] 5)).drew 39 39 5 Tryd.underlying39 infoByte rfl w.heap.size _ N _ (own_below0 hown hBX) (some ⟨wr.heap.size, 0, none⟩) 3 3 _ hrow (one_ints _ _) (fun h => by cases h) (by omega) (by unfold maxLen; omega) (Nat.le_trans hB.size hBX.size)
        have hB1 := (hB.trans (hBX.mono hB.size)).trans (owns_below (own_below0 hown hBX) hk1 (Nat.le_trans hB.size hBX.size))
        rw [HM.out] at hown1
        clear hsn hp hrow hk1
        go_upto_region 8 with (go_at_call 28; refine (HPL.out _).mono ?_; rintro e w2 ⟨rfl, rfl⟩)
        go_region_held_law (fun w' => True) (trivial) (first | (refine step_append_eq rfl (.tmp 21) (.tmp 28) 39 39 rfl rfl rfl hr1 ?_))
        all_goals
          simp only [Act.put, List.getElem_toArray, List.getElem_cons_succ, List.getElem_cons_zero, List.setIfInBounds_toArray, List.set_cons_zero, List.set_cons_succ]
          clear hr1 hown hBX i1 i2
          go_wp2_with fail
          refine ⟨⟨i + 1, N + 3, by omega, by go_num, by omega, hown1, hB1⟩, ?_⟩
          simp [natV]; omega
    · obtain rfl : i = l.length := by omega
      rw [List.take_length] at hown
      obtain ⟨o3, cp3, rfl, hcp3, hrow3, hl3, hu3, ht3⟩ := own_slice hown
      have hI := hrow3.ints hl3 (wf_byt (wordL_byt hb))
      have hcv := conv_ints (P := Tryd.prog) hI 39 5 9 cp3 rfl rfl rfl
      clear hI hrow3 hu3 ht3 hown
      go_wp2_with fail
      go_ret
      exact ⟨rfl, hB⟩
end Go.Proofs.YtflpblggpbgeiaaDoor

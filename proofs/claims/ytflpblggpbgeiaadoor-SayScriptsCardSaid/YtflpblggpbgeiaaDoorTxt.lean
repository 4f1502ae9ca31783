/- The walk of say.Text. -/
import Derived.Test.YtflpblggpbgeiaaDoorBld
namespace Go.Proofs.YtflpblggpbgeiaaDoor
open Go Go.RowKit Go.Calli Go.Shelf
set_option linter.unusedVariables false
set_option linter.unusedSimpArgs false
attribute [local irreducible] wpStill wpAnyH wpAnyS wpList Code.wp
theorem rec7 {w : World} {A : Option Addr} {n : Nat} {ms : List Ac} (h : Recs vals7 7 ac0 w A n ms) {k : Nat} (hk : k < n) : ∃ a, A = some a ∧ w.cell? (a.add (k * 7)) = some (.int .i64 (ms.getD k ac0).k) ∧ w.cell? ⟨(a.add (k * 7)).block, (a.add (k * 7)).off + 1, none⟩ = some (.int .i64 (ms.getD k ac0).v) ∧ w.cell? ⟨(a.add (k * 7)).block, (a.add (k * 7)).off + 2, none⟩ = some (.string (strOfNums (ms.getD k ac0).nm)) ∧ w.cell? ⟨(a.add (k * 7)).block, (a.add (k * 7)).off + 3, none⟩ = some (.int .i64 (ms.getD k ac0).n) ∧ w.cell? ⟨(a.add (k * 7)).block, (a.add (k * 7)).off + 4, none⟩ = some (.int .i64 (ms.getD k ac0).m) ∧ w.cell? ⟨(a.add (k * 7)).block, (a.add (k * 7)).off + 5, none⟩ = some (.int .i64 (ms.getD k ac0).p) ∧ w.cell? ⟨(a.add (k * 7)).block, (a.add (k * 7)).off + 6, none⟩ = some (.int .i64 (ms.getD k ac0).x) := by
  obtain ⟨a, ha, hcell⟩ := h.cell k hk
  exact ⟨a, ha, hcell 0 _ rfl, hcell 1 _ rfl, hcell 2 _ rfl, hcell 3 _ rfl, hcell 4 _ rfl, hcell 5 _ rfl, hcell 6 _ rfl⟩
def lnT (a : Ac) : List Int := if lineL a = [] then [] else lineL a ++ [10]
def textL (os : List Ac) : List Int := os.flatMap lnT
theorem textL_take (os : List Ac) (j : Nat) (h : j < os.length) : textL (os.take (j + 1)) = textL (os.take j) ++ lnT (os.getD j ac0) := by
  unfold textL
  rw [List.take_succ_eq_append_getElem h, List.flatMap_append]
  simp [List.getD, h]
theorem textL_le (os : List Ac) (j : Nat) : (textL (os.take j)).length ≤ (textL os).length := by
  have : textL os = textL (os.take j) ++ textL (os.drop j) := by
    unfold textL
    rw [← List.flatMap_append, List.take_append_drop]
  rw [this, List.length_append]; omega
def bcL (l : List Int) : List Value := Lib.byteCells (Lib.bytesOf l)
theorem bcL_len (l : List Int) : (bcL l).length = l.length := by unfold bcL; rw [Lib.byteCells_length]; simp [Lib.bytesOf]
theorem bcL_app (l m : List Int) : bcL l ++ Lib.strCells (strOfNums m) = bcL (l ++ m) := by
  unfold bcL Lib.byteCells Lib.bytesOf Lib.strCells
  rw [strOfNums_data]; simp
set_option maxRecDepth 100000 in
set_option maxHeartbeats 8000000 in
theorem text_any (ao : Option Addr) (n cap : Nat) (os : List Ac) (w : World) (hok : ∀ a ∈ os, OkA a) (hl : (textL os).length ≤ 1000000) (hn : n ≤ 4096) (hR : Recs vals7 7 ac0 w ao n os) : Calls Tryd.prog 23 #[.slice ao n cap] w (StrP (textL os) w) := by
  have hos := hR.hlen
  have hB := Lib.fresh_isBuilder 65 5 w
  have hba := below_alloc w (.cells #[.pointer none, .slice none 0 0] 65)
  have HR := Lib.hid hR
  have HBA := Lib.hid hba
  have HBu : Hid (Lib.IsBuilder 65 5 w.heap.size w.heap.size (bcL (textL (os.take 0))) (w.alloc (.cells #[.pointer none, .slice none 0 0] 65))) := hB
  have HOS := Lib.hid hos
  have HOK := Lib.hid hok
  have HL := Lib.hid (fun j => Nat.le_trans (textL_le os j) hl)
  have HT := Lib.hid (textL_take os)
  unfold StrP
  clear hR hB hba hos hok hl
  go_enter Tryd.func23, Tryd.ntmps23
  go_upto_region 3 with fail
  generalize w.alloc (.cells #[.pointer none, .slice none 0 0] 65) = W at *
  go_loopw [9] (fun v9 wr => ∃ j : Nat, j ≤ n ∧ v9 = .int .i64 (j : Int) ∧ Lib.IsBuilder 65 5 w.heap.size w.heap.size (bcL (textL (os.take j))) wr ∧ Below w.heap.size w wr) (fun v9 _ => n - natV v9)
  case atStart => exact ⟨0, by omega, rfl, HBu.out, HBA.out⟩
  case round =>
    clear HBu HBA
    obtain ⟨j, hj, rfl, hB, hbr⟩ := hrel
    have hR := HR.out.keep0 hbr
    by_cases hjl : j < n
    · obtain ⟨fa, rfl, c0, c1, c2, c3, c4, c5, c6⟩ := rec7 hR hjl
      have hmem : os.getD j ac0 ∈ os := by
        rw [show os.getD j ac0 = os[j]'(by rw [HOS.out]; exact hjl) by simp [List.getD, show j < os.length by rw [HOS.out]; exact hjl]]
        exact List.getElem_mem _
      have hoa := HOK.out _ hmem
      have hT := HT.out j (by rw [HOS.out]; exact hjl)
      have hL := HL.out (j + 1)
      generalize os.getD j ac0 = aj at *
      obtain ⟨ak, av, anm, an, am, ap, ax⟩ := aj
      simp only at c0 c1 c2 c3 c4 c5 c6
      have SL := sline_any ak av anm an am ap ax hoa
      have hem := nums_empty (lineL ⟨ak, av, anm, an, am, ap, ax⟩)
      rw [hT] at hL
      have HT2 := Lib.hid hT
      clear hT hmem
      unfold lnT at HT2 hL
      unfold StrP at SL
      generalize lineL ⟨ak, av, anm, an, am, ap, ax⟩ = LN at *
      have SLH := Lib.hid SL
      clear SL hoa
      go_upto_region 5 with fail
      have hy := heap_alloc_new wr (.cells #[.int .i64 ak, .int .i64 av, .string (strOfNums anm), .int .i64 an, .int .i64 am, .int .i64 ap, .int .i64 ax] 23)
      have hba := below_alloc wr (.cells #[.int .i64 ak, .int .i64 av, .string (strOfNums anm), .int .i64 an, .int .i64 am, .int .i64 ap, .int .i64 ax] 23)
      have hB1 := isB_keep0 hB hba
      have hR1 := hR.keep0 hba
      have hb1 := bstep hbr hba
      clear hB hR hbr hba c0 c1 c2 c3 c4 c5 c6
      generalize wr.alloc (.cells #[.int .i64 ak, .int .i64 av, .string (strOfNums anm), .int .i64 an, .int .i64 am, .int .i64 ap, .int .i64 ax] 23) = W1 at *
      generalize wr.heap.size = xb at *
      obtain ⟨⟨d0, d1, d2, d3, d4, d5, d6⟩, -⟩ := seven_cells hy
      clear hy
      go_upto_region 6 with (go_at_call 21; refine (SLH.out _).mono ?_; rintro e w2 ⟨rfl, hb2⟩)
      have hB2 := isB_keep0 hB1 hb2
      have hR2 := hR1.keep0 hb2
      have hb3 := bstep hb1 hb2
      clear hB1 hR1 hb1 hb2 d0 d1 d2 d3 d4 d5 d6
      by_cases hLN : LN = []
      · subst hLN
        have hem2 : (strOfNums []).toList.isEmpty = true := hem
        rw [if_pos rfl, List.append_nil] at HT2
        clear hem hL
        go_wp2_with fail
        refine ⟨⟨j + 1, by omega, by go_num, by rw [HT2.out]; exact hB2, hb3⟩, ?_⟩
        simp [natV]; omega
      · have hS0 : LN.length ≠ 0 := fun e => hLN (List.eq_nil_of_length_eq_zero e)
        have hem2 : (strOfNums LN).toList.isEmpty = false := by rw [hem]; simpa using hS0
        have g1 : ((strOfNums LN).toList == []) = false := by rw [← hem2]; cases (strOfNums LN).toList <;> rfl
        have g2 : ((strOfNums LN).toList != []) = true := by rw [bne, g1]; rfl
        rw [if_neg hLN] at HT2 hL
        rw [List.length_append, List.length_append] at hL
        have hz := strOfNums_size LN
        have hbig : ¬ 9223372036854775807 < (strOfNums LN).size + 1 := by simp only [List.length_cons, List.length_nil] at hL; omega
        have e1 : strOfNums LN ++ ByteArray.mk #[10] = strOfNums (LN ++ [10]) := strOfNums_append LN [10]
        have HW : Hid (∀ w', w' = w2 → Calls Tryd.prog 32 #[.pointer (some ⟨w.heap.size, 0, none⟩), .string (strOfNums LN ++ ByteArray.mk #[10])] w' (fun e w' => ∃ v, e = .returned v ∧ Lib.IsBuilder 65 5 w.heap.size w.heap.size (bcL (textL (os.take (j + 1)))) w' ∧ Below w.heap.size w2 w')) := by
          rintro w' rfl
          rw [e1, HT2.out, ← bcL_app]
          refine (writeString_any w.heap.size w.heap.size _ (strOfNums (LN ++ [10])) w' hB2 ?_ hb3.size).mono ?_
          · rw [bcL_len, strOfNums_size, List.length_append]; omega
          · rintro e w3 ⟨rfl, h1, h2⟩
            exact ⟨_, rfl, .inr h1, h2⟩
        clear hem hL hem2 hz e1 hS0 hLN hB2
        generalize strOfNums LN = s1 at *
        go_wp2_with (go_at_call 32; refine (HW.out _ rfl).mono ?_; rintro e w3 ⟨v, rfl, hB3, hb4⟩; dsimp only)
        refine ⟨⟨j + 1, by omega, by go_num, hB3, hb3.trans hb4⟩, ?_⟩
        simp [natV]; omega
    · obtain rfl : j = n := by omega
      rw [List.take_of_length_le (by rw [HOS.out]; exact Nat.le_refl _)] at hB
      have HS : Hid (∀ w', w' = wr → Calls Tryd.prog 33 #[.pointer (some ⟨w.heap.size, 0, none⟩)] w' (fun e w' => e = .returned (.string (strOfNums (textL os))) ∧ Below w.heap.size wr w')) := by
        rintro w' rfl
        exact Tryd.Builder_String_any w.heap.size w.heap.size (Lib.bytesOf (textL os)) w' hB hbr.size
      clear hB hR
      go_wp2_with (go_at_call 33; refine (HS.out _ rfl).mono ?_; rintro e w3 ⟨rfl, hb4⟩; dsimp only)
      go_ret
      exact ⟨rfl, hbr.trans hb4⟩
end Go.Proofs.YtflpblggpbgeiaaDoor

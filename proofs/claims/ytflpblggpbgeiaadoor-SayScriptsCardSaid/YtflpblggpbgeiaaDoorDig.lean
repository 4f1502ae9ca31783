/- The walks of the law's cut and number, and of say's digits and Number. -/
import Derived.Test.YtflpblggpbgeiaaDoorNpl
import Derived.Test.YtflpblggpbgeiaaDoorApp
import Derived.Test.YtflpblggpbgeiaaDoorBlk
import Derived.Test.YtflpblggpbgeiaaDoorShelf
namespace Go.Proofs.YtflpblggpbgeiaaDoor
open Go Go.RowKit Go.Calli
set_option linter.unusedVariables false
set_option linter.unusedSimpArgs false
attribute [local irreducible] wpStill wpAnyH wpAnyS wpList Code.wp
theorem infoByte : (Tryd.prog.info? 5).map (fun i => (i.zero, i.size, i.bytes)) = some (some (.int .u8 0), 1, 1) := by kernel_rfl
theorem cut_any (l : List Int) (hl : l.length ≤ maxLen) (w : World) : Calls Tryd.prog 9 #[.string (strOfNums l)] w fun e w' => e = .returned (.string (strOfNums (l.take 200))) ∧ w = w' := by
  have hsz := strOfNums_size l
  unfold maxLen at hl
  have hex : (strOfNums l).extract 0 200 = strOfNums (l.take 200) := by rw [strOfNums_extract, List.drop_zero]
  by_cases h : 200 < l.length
  · go_enter Tryd.func9, Tryd.ntmps9
    go_wp2_with fail
    go_ret
    exact ⟨rfl, rfl⟩
  · have ht : l.take 200 = l := List.take_of_length_le (by omega)
    rw [ht]
    go_enter Tryd.func9, Tryd.ntmps9
    go_wp2_with fail
    go_ret
    exact ⟨rfl, rfl⟩
def rv (l : List Int) (i : Nat) : List Int := (List.range l.length).map (fun j => if j < i ∨ l.length ≤ j + i then l.getD (l.length - 1 - j) 0 else l.getD j 0)
theorem rv_len (l : List Int) (i : Nat) : (rv l i).length = l.length := by simp [rv]
theorem rv_zero (l : List Int) : rv l 0 = l := by
  apply List.ext_getElem (rv_len l 0)
  intro j h1 h2
  simp only [rv, List.getElem_map, List.getElem_range]
  rw [if_neg (by omega)]
  simp [List.getD, h2]
theorem rv_end (l : List Int) : rv l (l.length / 2) = l.reverse := by
  apply List.ext_getElem (by rw [rv_len, List.length_reverse])
  intro j h1 h2
  rw [rv_len] at h1
  simp only [rv, List.getElem_map, List.getElem_range, List.getElem_reverse]
  by_cases h : j < l.length / 2 ∨ l.length ≤ j + l.length / 2
  · rw [if_pos h]
    simp [List.getD, show l.length - 1 - j < l.length by omega]
  · rw [if_neg h]
    have : l.length - 1 - j = j := by omega
    simp only [this]
    simp [List.getD, h1]
theorem rv_low (l : List Int) (i : Nat) (h : i < l.length / 2) : (rv l i).getD i 0 = l.getD i 0 ∧ (rv l i).getD (l.length - 1 - i) 0 = l.getD (l.length - 1 - i) 0 := by
  have h1 : i < (rv l i).length := by rw [rv_len]; omega
  have h2 : l.length - 1 - i < (rv l i).length := by rw [rv_len]; omega
  constructor
  · rw [show (rv l i).getD i 0 = (rv l i)[i] by simp [List.getD, h1]]
    simp only [rv, List.getElem_map, List.getElem_range]
    rw [if_neg (by omega)]
  · rw [show (rv l i).getD (l.length - 1 - i) 0 = (rv l i)[l.length - 1 - i] by simp [List.getD, h2]]
    simp only [rv, List.getElem_map, List.getElem_range]
    rw [if_neg (by omega)]
theorem rv_step (l : List Int) (i : Nat) (h : i < l.length / 2) : ((rv l i).set i (l.getD (l.length - 1 - i) 0)).set (l.length - 1 - i) (l.getD i 0) = rv l (i + 1) := by
  apply List.ext_getElem (by rw [List.length_set, List.length_set, rv_len, rv_len])
  intro j h1 h2
  rw [rv_len] at h2
  rw [List.getElem_set]
  by_cases hj : l.length - 1 - i = j
  · rw [if_pos hj]
    simp only [rv, List.getElem_map, List.getElem_range]
    rw [if_pos (by omega)]
    congr 1; omega
  · rw [if_neg hj, List.getElem_set]
    by_cases hi : i = j
    · subst hi
      rw [if_pos rfl]
      simp only [rv, List.getElem_map, List.getElem_range]
      rw [if_pos (by omega)]
    · rw [if_neg hi]
      simp only [rv, List.getElem_map, List.getElem_range]
      by_cases hh : j < i ∨ l.length ≤ j + i
      · rw [if_pos hh, if_pos (by omega)]
      · rw [if_neg hh, if_neg (by omega)]
/-- The bytes at the head of a block of one's own. -/
def Hd (w : World) (g n : Nat) (zs : List Int) : Prop := ∃ cur : Array Value, w.heap[g]? = some (.cells cur 5 (0, 0)) ∧ cur.toList.take n = zs.map (Value.int .u8) ∧ zs.length = n
theorem Hd.cell {w : World} {g n : Nat} {zs : List Int} (h : Hd w g n zs) {i : Nat} (hi : i < n) : w.cell? ⟨g, i, none⟩ = some (.int .u8 (zs.getD i 0)) := by
  obtain ⟨cur, hg, ht, hl⟩ := h
  rw [cell_of_row _ _ _ _ _ _ hg]
  have : (cur.toList.take n)[i]? = some (.int .u8 (zs.getD i 0)) := by rw [ht, List.getElem?_map]; simp [List.getD, show i < zs.length by omega]
  rw [List.getElem?_take] at this
  simpa [hi] using this
theorem Hd.frozen {w : World} {g n : Nat} {zs : List Int} (h : Hd w g n zs) (i : Nat) : w.frozen? ⟨g, i, none⟩ = false := by
  obtain ⟨cur, hg, _⟩ := h
  exact frozen_of_row _ _ _ _ _ hg
theorem Hd.set {w : World} {g n : Nat} {zs : List Int} (h : Hd w g n zs) (i : Nat) (x : Int) : Hd (w.setCell ⟨g, i, none⟩ (.int .u8 x)) g n (zs.set i x) := by
  obtain ⟨cur, hg, ht, hl⟩ := h
  refine ⟨cur.setIfInBounds i (.int .u8 x), heap_setCell_same _ _ _ _ _ _ hg, ?_, by rw [List.length_set]; exact hl⟩
  rw [Array.toList_setIfInBounds, List.take_set, ht, List.map_set]
theorem Hd.ints {w : World} {g n : Nat} {zs : List Int} (h : Hd w g n zs) (hm : n ≤ maxLen) (hb : Byt zs) : Ints .u8 w (some ⟨g, 0, none⟩) n zs := by
  refine ⟨h.choose_spec.2.2, hm, fun i hi => ⟨_, rfl, ?_⟩, fun z hz => WalkArith.wf_u8 ⟨(hb z hz).1, by have := (hb z hz).2; omega⟩⟩
  rw [add0, Nat.zero_add]
  exact h.cell hi
theorem own_hd {w : World} {B M : Nat} {v : Value} {zs : List Int} (h : w.ownsRow B 5 1 v M (zs.map (Value.int .u8))) (h0 : 0 < M) : ∃ g cap, v = .slice (some ⟨g, 0, none⟩) M cap ∧ B ≤ g ∧ M ≤ cap ∧ M ≤ maxLen ∧ Hd w g M zs := by
  have hx := h.1
  rcases h.2 with ⟨_, h1⟩ | ⟨g, cap, cur, rfl, hb, hg, hn, hc, hs, ht⟩
  · omega
  · exact ⟨g, cap, rfl, hb, hn, by omega, cur, hg, by simpa using ht, by simpa using hx⟩
def DigRel (n : Nat) (w : World) (v0 v3 : Value) (wr : World) : Prop := ∃ (x N : Nat) (bs : List Int), v0 = .int .u64 (x : Int) ∧ x ≤ n ∧ Hid (digR n = bs ++ digR x) ∧ Hid (bs.length = N) ∧ N < 20 ∧ wr.ownsRow w.heap.size 5 1 v3 N (bs.map (Value.int .u8)) ∧ Below w.heap.size w wr
def natV (v : Value) : Nat := match v with
  | .int _ n => n.toNat
  | _ => 0
set_option maxRecDepth 100000 in
set_option maxHeartbeats 4000000 in
theorem digits_any (n : Nat) (hn : n < 18446744073709551616) (w : World) : Calls Tryd.prog 30 #[.int .u64 (n : Int)] w fun e w' => e = .returned (.string (strOfNums (digL n))) ∧ Below w.heap.size w w' := by
  have hlen : (digR n).length ≤ 20 := digR_len 19 n (by omega)
  have HLEN := Lib.hid hlen
  clear hlen
  go_enter Tryd.func30, Tryd.ntmps30
  go_wp2_with fail
  go_loopw [0, 3] (fun v0 v3 wr => DigRel n w v0 v3 wr) (fun v0 _ _ => natV v0)
  case atStart => exact ⟨n, 0, [], rfl, Nat.le_refl _, rfl, rfl, by omega, World.ownsRow_nil _ _ _ _, Below.refl _ _⟩
  case round =>
    obtain ⟨x, N, bs, rfl, hx, hD, hL, hN, hown, hb⟩ := hrel
    have hst := digR_step x
    by_cases h0 : x / 10 = 0
    · rw [if_pos h0] at hst
      have HM : Hid (bs.map (Value.int .u8) ++ [Value.int .u8 (48 + (x : Int) % 10)] = (digR n).map (Value.int .u8)) := by unfold Hid; rw [hD.out, hst, List.map_append]; simp
      clear hst
      go_wp2_with (at_builtin; refine wpList_append_one rfl (.tmp 5) (.tmp 10) 39 5 rfl Tryd.underlying39 infoByte rfl w.heap.size _ _ _ rfl hown (.int .u8 (48 + (x : Int) % 10)) rfl rfl ?_ ?_ ?_ ?_)
      case refine_1 => omega
      case refine_2 => unfold maxLen; omega
      case refine_3 => exact hb.size
      intro v' w' hown' hk'
      have hb' := hb.trans (owns_below hown hk' hb.size)
      rw [HM.out] at hown'
      obtain ⟨g, cap, rfl, hBg, hcap, hM, hH⟩ := own_hd hown' (by omega)
      have hzl : (digR n).length = N + 1 := hH.choose_spec.2.2
      clear hown' hk' hown hb HM hD hL
      generalize N + 1 = M at *
      have hM20 : M ≤ 20 := by rw [← hzl]; exact HLEN.out
      have hbyt : Byt (digR n) := fun z hz => by have := digR_dig n z hz; omega
      have HB := Lib.hid hbyt
      have HE : Hid ((digR n).reverse = digL n) := rfl
      generalize digR n = zs at *
      clear hbyt
      go_upto_region 5 with fail
      go_wp2_with fail
      have hH0 : Hd w' g M (rv zs 0) := by rw [rv_zero]; exact hH
      have HZ := Lib.hid hzl
      clear hzl hH
      go_loopw [19] (fun v19 wi => ∃ i : Nat, i ≤ M / 2 ∧ v19 = .int .i64 (i : Int) ∧ Hd wi g M (rv zs i) ∧ Below w.heap.size w wi) (fun v19 _ => M / 2 - natV v19)
      case atStart => exact ⟨0, by omega, rfl, hH0, hb'⟩
      case round =>
        clear hH0 hb'
        obtain ⟨i, hi, rfl, hH, hb⟩ := hrel
        by_cases hlt : i < M / 2
        · obtain ⟨j, hj⟩ : ∃ j : Nat, j = M - 1 - i := ⟨_, rfl⟩
          have hjI : (M : Int) - 1 - (i : Int) = (j : Int) := by omega
          have hjM : j < M := by omega
          have hiM : i < M := by omega
          have hij : i ≠ j := by omega
          have hlow := rv_low zs i (by rw [HZ.out]; exact hlt)
          have hstp := rv_step zs i (by rw [HZ.out]; exact hlt)
          rw [HZ.out, ← hj] at hlow hstp
          have q1 := hH.cell hiM
          have q2 := hH.cell hjM
          rw [hlow.1] at q1
          rw [hlow.2] at q2
          have hS1 := hH.set i (zs.getD j 0)
          have hS2 := hS1.set j (zs.getD i 0)
          rw [hstp] at hS2
          have q3 := hS1.cell hjM
          have f1 := hH.frozen i
          have f2 := hH.frozen j
          have f3 := hS1.frozen j
          generalize zs.getD i 0 = ya at *
          generalize zs.getD j 0 = yb at *
          have hb2 := (hb.setCell (p := ⟨g, i, none⟩) hBg (.int .u8 yb)).setCell (p := ⟨g, j, none⟩) hBg (.int .u8 ya)
          have HS2 := Lib.hid hS2
          have HB2 := Lib.hid hb2
          clear hlow hstp hS2 hS1 hb2 hH hj
          go_upto_region 8 with fail
          go_region
          go_wp2_with fail
          refine ⟨⟨i + 1, by omega, by go_num, HS2.out, HB2.out.drew⟩, ?_⟩
          simp [natV]; omega
        · obtain rfl : i = M / 2 := by omega
          have hR : rv zs (M / 2) = zs.reverse := by have := rv_end zs; rwa [HZ.out] at this
          rw [hR, HE.out] at hH
          have hI := hH.ints hM (by rw [← HE.out]; exact fun z hz => HB.out z (by simpa using hz))
          have hcv := conv_ints (P := Tryd.prog) hI 39 5 9 cap rfl rfl rfl
          clear hH hI hR
          go_wp2_with fail
          go_ret
          exact ⟨rfl, hb⟩
    · rw [if_neg h0] at hst
      have HM : Hid (bs.map (Value.int .u8) ++ [Value.int .u8 (48 + (x : Int) % 10)] = (bs ++ [48 + (x : Int) % 10]).map (Value.int .u8)) := by unfold Hid; rw [List.map_append]; simp
      have hN1 : N + 1 < 20 := by
        have h1 := HLEN.out
        have h2 := digR_ne (x / 10)
        have h3 := List.length_pos_iff.2 h2
        rw [hD.out, hst, List.length_append, List.length_cons, hL.out] at h1
        omega
      have HD2 : Hid (digR n = (bs ++ [48 + (x : Int) % 10]) ++ digR (x / 10)) := by unfold Hid; rw [hD.out, hst]; simp
      have HL2 : Hid ((bs ++ [48 + (x : Int) % 10]).length = N + 1) := by unfold Hid; rw [List.length_append, hL.out]; rfl
      have h0' : ¬ ((x : Int) / 10 = 0) := by omega
      have g1 : ((x : Int) / 10 == 0) = false := by simpa using h0'
      go_wp2_with (at_builtin; refine wpList_append_one rfl (.tmp 5) (.tmp 10) 39 5 rfl Tryd.underlying39 infoByte rfl w.heap.size _ _ _ rfl hown (.int .u8 (48 + (x : Int) % 10)) rfl rfl ?_ ?_ ?_ ?_)
      case refine_1 => omega
      case refine_2 => unfold maxLen; omega
      case refine_3 => exact hb.size
      intro v' w' hown' hk'
      have hb' := hb.trans (owns_below hown hk' hb.size)
      rw [HM.out] at hown'
      clear hown hk' hst hD hL
      go_wp2_with fail
      refine ⟨⟨x / 10, N + 1, _, by go_num, by omega, HD2.out, HL2.out, hN1, hown', hb'⟩, ?_⟩
      simp [natV]; omega
end Go.Proofs.YtflpblggpbgeiaaDoor

/- The walk of few: at most 20 reports, each cut. -/
import Derived.Test.YtidjcbmdmecajaaAwk
namespace Go.Proofs.Ytidjcbmdmecajaa
open Go Go.RowKit Go.Calli
set_option linter.unusedVariables false
set_option linter.unusedSimpArgs false
attribute [local irreducible] wpStill wpAnyH wpAnyS wpList Code.wp
def mask (n : Int) : Int := bits .and .i64 n 1073741823
theorem mask_eq (n : Int) : bits .and .i64 n 1073741823 = n % 1073741824 := by
  have h127 : (BitVec.ofInt 64 1073741823).toNat = 2 ^ 30 - 1 := by decide
  have key : (BitVec.ofInt 64 n &&& BitVec.ofInt 64 1073741823).toNat = (n % ((2 ^ 64 : Nat) : Int)).toNat % 2 ^ 30 := by
    rw [BitVec.toNat_and, BitVec.toNat_ofInt, h127, Nat.and_two_pow_sub_one_eq_mod]
  show IntKind.i64.wrap ((BitVec.ofInt 64 n &&& BitVec.ofInt 64 1073741823).toNat : Nat) = n % 1073741824
  rw [key, IntKind.wrap_i64]
  omega
theorem mask_bd (n : Int) : 0 ≤ mask n ∧ mask n ≤ 1073741823 := by unfold mask; rw [mask_eq]; omega
/-- A report, cut. -/
def fewR (r : Rp) : Rp := ⟨min r.out 20, r.lost.take 20, r.ended.take 20, mask r.frames, mask r.reads⟩
def fewL (l : List Rp) : List Rp := (l.take 20).map fewR
def fewM (m : RpM) : RpM := ⟨m.o1, min m.n1 20, m.c1, m.o2, min m.n2 20, m.c2, m.o3, min m.n3 20, m.c3⟩
theorem fewR_sm (r : Rp) : Sm (fewR r) := by
  constructor <;> simp only [fewR]
  · exact Nat.min_le_right _ _
  · rw [List.length_take]; exact Nat.min_le_left _ _
  · rw [List.length_take]; exact Nat.min_le_left _ _
  · exact (mask_bd _).1
  · exact (mask_bd _).2
  · exact (mask_bd _).1
  · exact (mask_bd _).2
theorem fewL_sm (l : List Rp) : ∀ r ∈ fewL l, Sm r := by
  intro r hr
  obtain ⟨x, _, rfl⟩ := List.mem_map.1 hr
  exact fewR_sm x
theorem fewL_len (l : List Rp) : (fewL l).length ≤ 20 := by rw [fewL, List.length_map, List.length_take]; exact Nat.min_le_left _ _
theorem take_min {α : Type} (l : List α) (n : Nat) : l.take (min l.length n) = l.take n := by
  rcases Nat.le_total l.length n with h | h
  · rw [Nat.min_eq_left h, List.take_length, List.take_of_length_le h]
  · rw [Nat.min_eq_right h]
theorem few_is {w : World} {m : RpM} {r : Rp} (h : m.Is w r) : (fewM m).Is w (fewR r) := by
  have h1 := h.lost.take (k := min m.n2 20) (Nat.min_le_left _ _)
  have h2 := h.ended.take (n := min m.n3 20) (Nat.min_le_left _ _)
  have e2 := h.lost.hlen
  have e3 := h.ended.hlen
  refine ⟨?_, h.lim, Nat.le_trans (Nat.min_le_left _ _) h.le1, Nat.le_trans (Nat.min_le_left _ _) h.le2, Nat.le_trans (Nat.min_le_left _ _) h.le3, fun h0 => h.some1 ?_, ?_, ?_⟩
  · show min m.n1 20 = min r.out 20
    rw [h.out]
  · intro e
    apply h0
    show min m.n1 20 = 0
    rw [e]; rfl
  · show Recs valsL 3 l0 w m.o2 (min m.n2 20) (r.lost.take 20)
    rw [← e2, take_min, e2] at h1
    exact h1
  · show Ints .i64 w m.o3 (min m.n3 20) (r.ended.take 20)
    rw [← e3, take_min, e3] at h2
    exact h2
theorem few_snoc (l : List Rp) (k : Nat) (hk : k < l.length) : (l.take (k + 1)).map fewR = (l.take k).map fewR ++ [fewR (l.getD k r0)] := by
  rw [List.take_succ_eq_append_getElem hk, List.map_append]
  simp [List.getD, hk]
/-- What few has collected. -/
structure FwRel (l : List Rp) (w wr : World) (k : Nat) (v : Value) (ms : List (RpM × Rp)) : Prop where
  own : wr.ownsRow w.heap.size 32 5 v k (ms.flatMap valsRR)
  eq : ms.map Prod.snd = (l.take k).map fewR
  is : ∀ x ∈ ms, x.1.Is w x.2
  bel : Below w.heap.size w wr
theorem FwRel.len {l : List Rp} {w wr : World} {k : Nat} {v : Value} {ms : List (RpM × Rp)} (h : FwRel l w wr k v ms) : ms.length = k := by
  have := h.own.1
  rw [flat_length valsRR 5 valsRR_len] at this; omega
theorem FwRel.rps {l : List Rp} {w wr : World} {k : Nat} {v : Value} {ms : List (RpM × Rp)} (h : FwRel l w wr k v ms) : ∃ ao cap, v = .slice ao k cap ∧ k ≤ cap ∧ Rps wr ao k ((l.take k).map fewR) := by
  obtain ⟨ao, cap, rfl, hc, hr, _⟩ := own_recs (m0, r0) valsRR_len (by decide) h.own
  refine ⟨ao, cap, rfl, hc, by rw [← h.eq, List.length_map, h.len], hr.lim, fun i hi => ?_⟩
  obtain ⟨a, ha, hcell⟩ := hr.cell i hi
  have hi2 : i < ms.length := by rw [h.len]; exact hi
  have e : ((l.take k).map fewR).getD i r0 = (ms.getD i (m0, r0)).2 := by rw [← h.eq]; simp [List.getD, hi2]
  rw [e]
  have hx := h.is (ms.getD i (m0, r0)) (by rw [show ms.getD i (m0, r0) = ms[i] by simp [List.getD, hi2]]; exact List.getElem_mem _)
  exact ⟨a, _, ha, hcell, hx.keep0 h.bel⟩
theorem FwRel.step {l : List Rp} {w wr w3 : World} {k : Nat} {v v' : Value} {ms : List (RpM × Rp)} (h : FwRel l w wr k v ms) (hk : k < l.length) {m : RpM} (hm : m.Is w (l.getD k r0)) {wa : World} (hba : Below wr.heap.size wr wa)
    (hown : w3.ownsRow w.heap.size 32 5 v' (k + 1) (ms.flatMap valsRR ++ valsR (fewM m) (fewR (l.getD k r0)))) (hkp : Keeps (fun b => v.ownBlock = some b) wa w3) : FwRel l w w3 (k + 1) v' (ms ++ [(fewM m, fewR (l.getD k r0))]) := by
  refine ⟨by rw [List.flatMap_append]; simpa [valsRR] using hown, by rw [few_snoc l k hk, List.map_append, h.eq]; rfl, fun x hx => ?_, (bstep h.bel hba).trans (owns_below (own_below0 h.own hba) hkp (Nat.le_trans h.bel.size hba.size))⟩
  rcases List.mem_append.1 hx with hx | hx
  · exact h.is x hx
  · rw [List.mem_singleton] at hx
    subst hx
    exact few_is hm
def FewPost (l : List Rp) (w : World) (e : Ending) (w' : World) : Prop := ∃ ro rn rc, e = .returned (.slice ro rn rc) ∧ rn ≤ rc ∧ rn ≤ 20 ∧ Rps w' ro rn (fewL l) ∧ Below w.heap.size w w'
set_option maxRecDepth 100000 in
set_option maxHeartbeats 4000000 in
theorem few_any (ao : Option Addr) (n cap : Nat) (l : List Rp) (w : World) (h : Rps w ao n l) : Calls Try.prog 6 #[.slice ao n cap] w (FewPost l w) := by
  have HLN := Lib.hid h.hlen
  have hl := h.lim
  unfold maxLen at hl
  go_enter Try.func6, Try.ntmps6
  go_wp2_with fail
  go_loopw [3, 4] (fun v2 v3 wr => ∃ (k : Nat) (ms : List (RpM × Rp)), k ≤ n ∧ k ≤ 20 ∧ v3 = .int .i64 k ∧ FwRel l w wr k v2 ms) (fun _ v3 _ => (20 - (intOf v3).toNat))
  case atStart => exact ⟨0, [], by omega, by omega, rfl, World.ownsRow_nil _ _ _ _, rfl, fun x hx => by simp at hx, Below.refl _ _⟩
  case round =>
    obtain ⟨k, ms, hkn, hk20, rfl, hF⟩ := hrel
    by_cases hlt : k < n ∧ k < 20
    · obtain ⟨hlt1, hlt2⟩ := hlt
      obtain ⟨a, m, rfl, hcell, hm⟩ := h.cell k hlt1
      have HLT := Lib.hid (show k < l.length by rw [HLN.out]; exact hlt1)
      have HM := Lib.hid hm
      obtain ⟨r, hr⟩ : ∃ r, l.getD k r0 = r := ⟨_, rfl⟩
      rw [hr] at hcell hm
      have HR := Lib.hid hr
      clear hr
      obtain ⟨A1, hA1⟩ : ∃ A, A = m.o1 := ⟨_, rfl⟩
      obtain ⟨A2, hA2⟩ : ∃ A, A = m.o2 := ⟨_, rfl⟩
      obtain ⟨A3, hA3⟩ : ∃ A, A = m.o3 := ⟨_, rfl⟩
      have q0 := hcell 0 _ rfl
      have q1 := hcell 1 _ rfl
      have q2 := hcell 2 _ rfl
      have q3 := hcell 3 _ rfl
      have q4 := hcell 4 _ rfl
      rw [← hF.bel.cell (World.block_lt_of_cell? w _ q0), ← hA1] at q0
      rw [← hF.bel.cell (World.block_lt_of_cell? w _ q1), ← hA2] at q1
      rw [← hF.bel.cell (World.block_lt_of_cell? w _ q2), ← hA3] at q2
      rw [← hF.bel.cell (World.block_lt_of_cell? w _ q3)] at q3
      rw [← hF.bel.cell (World.block_lt_of_cell? w _ q4)] at q4
      have q0 : wr.cell? (a.add (k * 5)) = some (.slice A1 m.n1 m.c1) := q0
      have q1 : wr.cell? ⟨(a.add (k * 5)).block, (a.add (k * 5)).off + 1, none⟩ = some (.slice A2 m.n2 m.c2) := q1
      have q2 : wr.cell? ⟨(a.add (k * 5)).block, (a.add (k * 5)).off + 2, none⟩ = some (.slice A3 m.n3 m.c3) := q2
      have q3 : wr.cell? ⟨(a.add (k * 5)).block, (a.add (k * 5)).off + 3, none⟩ = some (.int .i64 r.frames) := q3
      have q4 : wr.cell? ⟨(a.add (k * 5)).block, (a.add (k * 5)).off + 4, none⟩ = some (.int .i64 r.reads) := q4
      have HS1 := Lib.hid (fun (h0 : 20 < m.n1) => hm.some1 (by omega))
      have HS2 := Lib.hid (fun (h0 : 20 < m.n2) => by
        obtain ⟨a', ha', _⟩ := hm.lost.cell 0 (by omega)
        exact (⟨a', ha'⟩ : ∃ a, m.o2 = some a))
      have HS3 := Lib.hid (fun (h0 : 20 < m.n3) => by
        obtain ⟨a', ha', _⟩ := hm.ended.cell 0 (by omega)
        exact (⟨a', ha'⟩ : ∃ a, m.o3 = some a))
      obtain ⟨l1, l2, l3⟩ := hm.lim
      have le1 := hm.le1
      have le2 := hm.le2
      have le3 := hm.le3
      unfold maxLen at l1 l2 l3
      have HA1 := Lib.hid hA1
      have HA2 := Lib.hid hA2
      have HA3 := Lib.hid hA3
      clear hA1 hA2 hA3 hm hcell
      by_cases h1 : 20 < m.n1 <;> by_cases h2 : 20 < m.n2 <;> by_cases h3 : 20 < m.n3
      · obtain ⟨d1, hd1⟩ := HS1.out (by omega)
        obtain rfl : A1 = some d1 := HA1.out.trans hd1
        clear hd1
        obtain ⟨d2, hd2⟩ := HS2.out (by omega)
        obtain rfl : A2 = some d2 := HA2.out.trans hd2
        clear hd2
        obtain ⟨d3, hd3⟩ := HS3.out (by omega)
        obtain rfl : A3 = some d3 := HA3.out.trans hd3
        clear hd3
        have HU : Hid ([.slice (some d1) 20 m.c1, .slice (some d2) 20 m.c2, .slice (some d3) 20 m.c3, .int .i64 (bits .and .i64 r.frames 1073741823), .int .i64 (bits .and .i64 r.reads 1073741823)] = valsR (fewM m) (fewR r)) := by
          unfold Hid
          simp only [valsR, fewM, fewR, mask, Nat.min_eq_right (Nat.le_of_lt h1), Nat.min_eq_right (Nat.le_of_lt h2), Nat.min_eq_right (Nat.le_of_lt h3), ← HA1.out, ← HA2.out, ← HA3.out]
        have hO1 := own_below0 hF.own (below_alloc wr (.cells #[.slice (some d1) 20 m.c1, .slice (some d2) 20 m.c2, .slice (some d3) 20 m.c3, .int .i64 (bits .and .i64 r.frames 1073741823), .int .i64 (bits .and .i64 r.reads 1073741823)] 32))
        have HF := Lib.hid hF
        have hsz := hF.bel.size
        have H1 : ∀ u ∈ ([.slice (some d1) 20 m.c1, .slice (some d2) 20 m.c2, .slice (some d3) 20 m.c3, .int .i64 (bits .and .i64 r.frames 1073741823), .int .i64 (bits .and .i64 r.reads 1073741823)] : List Value), u.oneCell' = true := by rw [HU.out]; exact valsR_one _ _
        clear hF
        go_wp2_with (at_builtin; refine wpList_append_rec rfl (.tmp 52) (.tmp 54) 22 32 5 rfl Try.underlying22 infoR rfl (by decide) w.heap.size _ _ _ rfl hO1 [.slice (some d1) 20 m.c1, .slice (some d2) 20 m.c2, .slice (some d3) 20 m.c3, .int .i64 (bits .and .i64 r.frames 1073741823), .int .i64 (bits .and .i64 r.reads 1073741823)] rfl (by rw [World.size_alloc] <;> rfl) H1 ?_ ?_ ?_ ?_)
        case refine_1 => omega
        case refine_2 => unfold maxLen; omega
        case refine_3 => simp; omega
        intro v' w3 hown hk3
        rw [HU.out, ← HR.out] at hown
        have HRR := Lib.hid (HF.out.step HLT.out HM.out (below_alloc wr _) hown hk3)
        clear hown hk3 hO1
        go_wp2_with fail
        refine ⟨⟨k + 1, _, by omega, by omega, by go_num, HRR.out⟩, ?_⟩
        simp [intOf]; omega
      · obtain ⟨d1, hd1⟩ := HS1.out (by omega)
        obtain rfl : A1 = some d1 := HA1.out.trans hd1
        clear hd1
        obtain ⟨d2, hd2⟩ := HS2.out (by omega)
        obtain rfl : A2 = some d2 := HA2.out.trans hd2
        clear hd2
        have HU : Hid ([.slice (some d1) 20 m.c1, .slice (some d2) 20 m.c2, .slice A3 m.n3 m.c3, .int .i64 (bits .and .i64 r.frames 1073741823), .int .i64 (bits .and .i64 r.reads 1073741823)] = valsR (fewM m) (fewR r)) := by
          unfold Hid
          simp only [valsR, fewM, fewR, mask, Nat.min_eq_right (Nat.le_of_lt h1), Nat.min_eq_right (Nat.le_of_lt h2), Nat.min_eq_left (Nat.le_of_not_lt h3), ← HA1.out, ← HA2.out, ← HA3.out]
        have hO1 := own_below0 hF.own (below_alloc wr (.cells #[.slice (some d1) 20 m.c1, .slice (some d2) 20 m.c2, .slice A3 m.n3 m.c3, .int .i64 (bits .and .i64 r.frames 1073741823), .int .i64 (bits .and .i64 r.reads 1073741823)] 32))
        have HF := Lib.hid hF
        have hsz := hF.bel.size
        have H1 : ∀ u ∈ ([.slice (some d1) 20 m.c1, .slice (some d2) 20 m.c2, .slice A3 m.n3 m.c3, .int .i64 (bits .and .i64 r.frames 1073741823), .int .i64 (bits .and .i64 r.reads 1073741823)] : List Value), u.oneCell' = true := by rw [HU.out]; exact valsR_one _ _
        clear hF
        go_wp2_with (at_builtin; refine wpList_append_rec rfl (.tmp 52) (.tmp 54) 22 32 5 rfl Try.underlying22 infoR rfl (by decide) w.heap.size _ _ _ rfl hO1 [.slice (some d1) 20 m.c1, .slice (some d2) 20 m.c2, .slice A3 m.n3 m.c3, .int .i64 (bits .and .i64 r.frames 1073741823), .int .i64 (bits .and .i64 r.reads 1073741823)] rfl (by rw [World.size_alloc] <;> rfl) H1 ?_ ?_ ?_ ?_)
        case refine_1 => omega
        case refine_2 => unfold maxLen; omega
        case refine_3 => simp; omega
        intro v' w3 hown hk3
        rw [HU.out, ← HR.out] at hown
        have HRR := Lib.hid (HF.out.step HLT.out HM.out (below_alloc wr _) hown hk3)
        clear hown hk3 hO1
        go_wp2_with fail
        refine ⟨⟨k + 1, _, by omega, by omega, by go_num, HRR.out⟩, ?_⟩
        simp [intOf]; omega
      · obtain ⟨d1, hd1⟩ := HS1.out (by omega)
        obtain rfl : A1 = some d1 := HA1.out.trans hd1
        clear hd1
        obtain ⟨d3, hd3⟩ := HS3.out (by omega)
        obtain rfl : A3 = some d3 := HA3.out.trans hd3
        clear hd3
        have HU : Hid ([.slice (some d1) 20 m.c1, .slice A2 m.n2 m.c2, .slice (some d3) 20 m.c3, .int .i64 (bits .and .i64 r.frames 1073741823), .int .i64 (bits .and .i64 r.reads 1073741823)] = valsR (fewM m) (fewR r)) := by
          unfold Hid
          simp only [valsR, fewM, fewR, mask, Nat.min_eq_right (Nat.le_of_lt h1), Nat.min_eq_left (Nat.le_of_not_lt h2), Nat.min_eq_right (Nat.le_of_lt h3), ← HA1.out, ← HA2.out, ← HA3.out]
        have hO1 := own_below0 hF.own (below_alloc wr (.cells #[.slice (some d1) 20 m.c1, .slice A2 m.n2 m.c2, .slice (some d3) 20 m.c3, .int .i64 (bits .and .i64 r.frames 1073741823), .int .i64 (bits .and .i64 r.reads 1073741823)] 32))
        have HF := Lib.hid hF
        have hsz := hF.bel.size
        have H1 : ∀ u ∈ ([.slice (some d1) 20 m.c1, .slice A2 m.n2 m.c2, .slice (some d3) 20 m.c3, .int .i64 (bits .and .i64 r.frames 1073741823), .int .i64 (bits .and .i64 r.reads 1073741823)] : List Value), u.oneCell' = true := by rw [HU.out]; exact valsR_one _ _
        clear hF
        go_wp2_with (at_builtin; refine wpList_append_rec rfl (.tmp 52) (.tmp 54) 22 32 5 rfl Try.underlying22 infoR rfl (by decide) w.heap.size _ _ _ rfl hO1 [.slice (some d1) 20 m.c1, .slice A2 m.n2 m.c2, .slice (some d3) 20 m.c3, .int .i64 (bits .and .i64 r.frames 1073741823), .int .i64 (bits .and .i64 r.reads 1073741823)] rfl (by rw [World.size_alloc] <;> rfl) H1 ?_ ?_ ?_ ?_)
        case refine_1 => omega
        case refine_2 => unfold maxLen; omega
        case refine_3 => simp; omega
        intro v' w3 hown hk3
        rw [HU.out, ← HR.out] at hown
        have HRR := Lib.hid (HF.out.step HLT.out HM.out (below_alloc wr _) hown hk3)
        clear hown hk3 hO1
        go_wp2_with fail
        refine ⟨⟨k + 1, _, by omega, by omega, by go_num, HRR.out⟩, ?_⟩
        simp [intOf]; omega
      · obtain ⟨d1, hd1⟩ := HS1.out (by omega)
        obtain rfl : A1 = some d1 := HA1.out.trans hd1
        clear hd1
        have HU : Hid ([.slice (some d1) 20 m.c1, .slice A2 m.n2 m.c2, .slice A3 m.n3 m.c3, .int .i64 (bits .and .i64 r.frames 1073741823), .int .i64 (bits .and .i64 r.reads 1073741823)] = valsR (fewM m) (fewR r)) := by
          unfold Hid
          simp only [valsR, fewM, fewR, mask, Nat.min_eq_right (Nat.le_of_lt h1), Nat.min_eq_left (Nat.le_of_not_lt h2), Nat.min_eq_left (Nat.le_of_not_lt h3), ← HA1.out, ← HA2.out, ← HA3.out]
        have hO1 := own_below0 hF.own (below_alloc wr (.cells #[.slice (some d1) 20 m.c1, .slice A2 m.n2 m.c2, .slice A3 m.n3 m.c3, .int .i64 (bits .and .i64 r.frames 1073741823), .int .i64 (bits .and .i64 r.reads 1073741823)] 32))
        have HF := Lib.hid hF
        have hsz := hF.bel.size
        have H1 : ∀ u ∈ ([.slice (some d1) 20 m.c1, .slice A2 m.n2 m.c2, .slice A3 m.n3 m.c3, .int .i64 (bits .and .i64 r.frames 1073741823), .int .i64 (bits .and .i64 r.reads 1073741823)] : List Value), u.oneCell' = true := by rw [HU.out]; exact valsR_one _ _
        clear hF
        go_wp2_with (at_builtin; refine wpList_append_rec rfl (.tmp 52) (.tmp 54) 22 32 5 rfl Try.underlying22 infoR rfl (by decide) w.heap.size _ _ _ rfl hO1 [.slice (some d1) 20 m.c1, .slice A2 m.n2 m.c2, .slice A3 m.n3 m.c3, .int .i64 (bits .and .i64 r.frames 1073741823), .int .i64 (bits .and .i64 r.reads 1073741823)] rfl (by rw [World.size_alloc] <;> rfl) H1 ?_ ?_ ?_ ?_)
        case refine_1 => omega
        case refine_2 => unfold maxLen; omega
        case refine_3 => simp; omega
        intro v' w3 hown hk3
        rw [HU.out, ← HR.out] at hown
        have HRR := Lib.hid (HF.out.step HLT.out HM.out (below_alloc wr _) hown hk3)
        clear hown hk3 hO1
        go_wp2_with fail
        refine ⟨⟨k + 1, _, by omega, by omega, by go_num, HRR.out⟩, ?_⟩
        simp [intOf]; omega
      · obtain ⟨d2, hd2⟩ := HS2.out (by omega)
        obtain rfl : A2 = some d2 := HA2.out.trans hd2
        clear hd2
        obtain ⟨d3, hd3⟩ := HS3.out (by omega)
        obtain rfl : A3 = some d3 := HA3.out.trans hd3
        clear hd3
        have HU : Hid ([.slice A1 m.n1 m.c1, .slice (some d2) 20 m.c2, .slice (some d3) 20 m.c3, .int .i64 (bits .and .i64 r.frames 1073741823), .int .i64 (bits .and .i64 r.reads 1073741823)] = valsR (fewM m) (fewR r)) := by
          unfold Hid
          simp only [valsR, fewM, fewR, mask, Nat.min_eq_left (Nat.le_of_not_lt h1), Nat.min_eq_right (Nat.le_of_lt h2), Nat.min_eq_right (Nat.le_of_lt h3), ← HA1.out, ← HA2.out, ← HA3.out]
        have hO1 := own_below0 hF.own (below_alloc wr (.cells #[.slice A1 m.n1 m.c1, .slice (some d2) 20 m.c2, .slice (some d3) 20 m.c3, .int .i64 (bits .and .i64 r.frames 1073741823), .int .i64 (bits .and .i64 r.reads 1073741823)] 32))
        have HF := Lib.hid hF
        have hsz := hF.bel.size
        have H1 : ∀ u ∈ ([.slice A1 m.n1 m.c1, .slice (some d2) 20 m.c2, .slice (some d3) 20 m.c3, .int .i64 (bits .and .i64 r.frames 1073741823), .int .i64 (bits .and .i64 r.reads 1073741823)] : List Value), u.oneCell' = true := by rw [HU.out]; exact valsR_one _ _
        clear hF
        go_wp2_with (at_builtin; refine wpList_append_rec rfl (.tmp 52) (.tmp 54) 22 32 5 rfl Try.underlying22 infoR rfl (by decide) w.heap.size _ _ _ rfl hO1 [.slice A1 m.n1 m.c1, .slice (some d2) 20 m.c2, .slice (some d3) 20 m.c3, .int .i64 (bits .and .i64 r.frames 1073741823), .int .i64 (bits .and .i64 r.reads 1073741823)] rfl (by rw [World.size_alloc] <;> rfl) H1 ?_ ?_ ?_ ?_)
        case refine_1 => omega
        case refine_2 => unfold maxLen; omega
        case refine_3 => simp; omega
        intro v' w3 hown hk3
        rw [HU.out, ← HR.out] at hown
        have HRR := Lib.hid (HF.out.step HLT.out HM.out (below_alloc wr _) hown hk3)
        clear hown hk3 hO1
        go_wp2_with fail
        refine ⟨⟨k + 1, _, by omega, by omega, by go_num, HRR.out⟩, ?_⟩
        simp [intOf]; omega
      · obtain ⟨d2, hd2⟩ := HS2.out (by omega)
        obtain rfl : A2 = some d2 := HA2.out.trans hd2
        clear hd2
        have HU : Hid ([.slice A1 m.n1 m.c1, .slice (some d2) 20 m.c2, .slice A3 m.n3 m.c3, .int .i64 (bits .and .i64 r.frames 1073741823), .int .i64 (bits .and .i64 r.reads 1073741823)] = valsR (fewM m) (fewR r)) := by
          unfold Hid
          simp only [valsR, fewM, fewR, mask, Nat.min_eq_left (Nat.le_of_not_lt h1), Nat.min_eq_right (Nat.le_of_lt h2), Nat.min_eq_left (Nat.le_of_not_lt h3), ← HA1.out, ← HA2.out, ← HA3.out]
        have hO1 := own_below0 hF.own (below_alloc wr (.cells #[.slice A1 m.n1 m.c1, .slice (some d2) 20 m.c2, .slice A3 m.n3 m.c3, .int .i64 (bits .and .i64 r.frames 1073741823), .int .i64 (bits .and .i64 r.reads 1073741823)] 32))
        have HF := Lib.hid hF
        have hsz := hF.bel.size
        have H1 : ∀ u ∈ ([.slice A1 m.n1 m.c1, .slice (some d2) 20 m.c2, .slice A3 m.n3 m.c3, .int .i64 (bits .and .i64 r.frames 1073741823), .int .i64 (bits .and .i64 r.reads 1073741823)] : List Value), u.oneCell' = true := by rw [HU.out]; exact valsR_one _ _
        clear hF
        go_wp2_with (at_builtin; refine wpList_append_rec rfl (.tmp 52) (.tmp 54) 22 32 5 rfl Try.underlying22 infoR rfl (by decide) w.heap.size _ _ _ rfl hO1 [.slice A1 m.n1 m.c1, .slice (some d2) 20 m.c2, .slice A3 m.n3 m.c3, .int .i64 (bits .and .i64 r.frames 1073741823), .int .i64 (bits .and .i64 r.reads 1073741823)] rfl (by rw [World.size_alloc] <;> rfl) H1 ?_ ?_ ?_ ?_)
        case refine_1 => omega
        case refine_2 => unfold maxLen; omega
        case refine_3 => simp; omega
        intro v' w3 hown hk3
        rw [HU.out, ← HR.out] at hown
        have HRR := Lib.hid (HF.out.step HLT.out HM.out (below_alloc wr _) hown hk3)
        clear hown hk3 hO1
        go_wp2_with fail
        refine ⟨⟨k + 1, _, by omega, by omega, by go_num, HRR.out⟩, ?_⟩
        simp [intOf]; omega
      · obtain ⟨d3, hd3⟩ := HS3.out (by omega)
        obtain rfl : A3 = some d3 := HA3.out.trans hd3
        clear hd3
        have HU : Hid ([.slice A1 m.n1 m.c1, .slice A2 m.n2 m.c2, .slice (some d3) 20 m.c3, .int .i64 (bits .and .i64 r.frames 1073741823), .int .i64 (bits .and .i64 r.reads 1073741823)] = valsR (fewM m) (fewR r)) := by
          unfold Hid
          simp only [valsR, fewM, fewR, mask, Nat.min_eq_left (Nat.le_of_not_lt h1), Nat.min_eq_left (Nat.le_of_not_lt h2), Nat.min_eq_right (Nat.le_of_lt h3), ← HA1.out, ← HA2.out, ← HA3.out]
        have hO1 := own_below0 hF.own (below_alloc wr (.cells #[.slice A1 m.n1 m.c1, .slice A2 m.n2 m.c2, .slice (some d3) 20 m.c3, .int .i64 (bits .and .i64 r.frames 1073741823), .int .i64 (bits .and .i64 r.reads 1073741823)] 32))
        have HF := Lib.hid hF
        have hsz := hF.bel.size
        have H1 : ∀ u ∈ ([.slice A1 m.n1 m.c1, .slice A2 m.n2 m.c2, .slice (some d3) 20 m.c3, .int .i64 (bits .and .i64 r.frames 1073741823), .int .i64 (bits .and .i64 r.reads 1073741823)] : List Value), u.oneCell' = true := by rw [HU.out]; exact valsR_one _ _
        clear hF
        go_wp2_with (at_builtin; refine wpList_append_rec rfl (.tmp 52) (.tmp 54) 22 32 5 rfl Try.underlying22 infoR rfl (by decide) w.heap.size _ _ _ rfl hO1 [.slice A1 m.n1 m.c1, .slice A2 m.n2 m.c2, .slice (some d3) 20 m.c3, .int .i64 (bits .and .i64 r.frames 1073741823), .int .i64 (bits .and .i64 r.reads 1073741823)] rfl (by rw [World.size_alloc] <;> rfl) H1 ?_ ?_ ?_ ?_)
        case refine_1 => omega
        case refine_2 => unfold maxLen; omega
        case refine_3 => simp; omega
        intro v' w3 hown hk3
        rw [HU.out, ← HR.out] at hown
        have HRR := Lib.hid (HF.out.step HLT.out HM.out (below_alloc wr _) hown hk3)
        clear hown hk3 hO1
        go_wp2_with fail
        refine ⟨⟨k + 1, _, by omega, by omega, by go_num, HRR.out⟩, ?_⟩
        simp [intOf]; omega
      · have HU : Hid ([.slice A1 m.n1 m.c1, .slice A2 m.n2 m.c2, .slice A3 m.n3 m.c3, .int .i64 (bits .and .i64 r.frames 1073741823), .int .i64 (bits .and .i64 r.reads 1073741823)] = valsR (fewM m) (fewR r)) := by
          unfold Hid
          simp only [valsR, fewM, fewR, mask, Nat.min_eq_left (Nat.le_of_not_lt h1), Nat.min_eq_left (Nat.le_of_not_lt h2), Nat.min_eq_left (Nat.le_of_not_lt h3), ← HA1.out, ← HA2.out, ← HA3.out]
        have hO1 := own_below0 hF.own (below_alloc wr (.cells #[.slice A1 m.n1 m.c1, .slice A2 m.n2 m.c2, .slice A3 m.n3 m.c3, .int .i64 (bits .and .i64 r.frames 1073741823), .int .i64 (bits .and .i64 r.reads 1073741823)] 32))
        have HF := Lib.hid hF
        have hsz := hF.bel.size
        have H1 : ∀ u ∈ ([.slice A1 m.n1 m.c1, .slice A2 m.n2 m.c2, .slice A3 m.n3 m.c3, .int .i64 (bits .and .i64 r.frames 1073741823), .int .i64 (bits .and .i64 r.reads 1073741823)] : List Value), u.oneCell' = true := by rw [HU.out]; exact valsR_one _ _
        clear hF
        go_wp2_with (at_builtin; refine wpList_append_rec rfl (.tmp 52) (.tmp 54) 22 32 5 rfl Try.underlying22 infoR rfl (by decide) w.heap.size _ _ _ rfl hO1 [.slice A1 m.n1 m.c1, .slice A2 m.n2 m.c2, .slice A3 m.n3 m.c3, .int .i64 (bits .and .i64 r.frames 1073741823), .int .i64 (bits .and .i64 r.reads 1073741823)] rfl (by rw [World.size_alloc] <;> rfl) H1 ?_ ?_ ?_ ?_)
        case refine_1 => omega
        case refine_2 => unfold maxLen; omega
        case refine_3 => simp; omega
        intro v' w3 hown hk3
        rw [HU.out, ← HR.out] at hown
        have HRR := Lib.hid (HF.out.step HLT.out HM.out (below_alloc wr _) hown hk3)
        clear hown hk3 hO1
        go_wp2_with fail
        refine ⟨⟨k + 1, _, by omega, by omega, by go_num, HRR.out⟩, ?_⟩
        simp [intOf]; omega
    · obtain ⟨ro, rc, rfl, hrc, hC⟩ := hF.rps
      have hE : (l.take k).map fewR = fewL l := by
        unfold fewL
        congr 1
        by_cases hk : k = 20
        · rw [hk]
        · rw [List.take_of_length_le (by rw [h.hlen]; omega), List.take_of_length_le (by rw [h.hlen]; omega)]
      rw [hE] at hC
      have HC := Lib.hid hC
      have hb := hF.bel
      clear hF hC hE
      rcases (show (k = n) ∨ (k < n ∧ k = 20) by omega) with rfl | ⟨hkn, rfl⟩
      · go_wp2_with fail
        go_ret
        exact ⟨ro, k, rc, rfl, hrc, by omega, HC.out, hb⟩
      · go_wp2_with fail
        go_ret
        exact ⟨ro, 20, rc, rfl, hrc, by omega, HC.out, hb⟩
end Go.Proofs.Ytidjcbmdmecajaa

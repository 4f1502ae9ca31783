/- The walk of say.Line. -/
import Derived.Test.YtflpblggpbgeiaaDoorPut
namespace Go.Proofs.YtflpblggpbgeiaaDoor
open Go Go.RowKit Go.Calli
set_option linter.unusedVariables false
set_option linter.unusedSimpArgs false
attribute [local irreducible] wpStill wpAnyH wpAnyS wpList Code.wp
theorem putL_len (a : Ac) (f : Int) (h : OkA a) : (putL a f).length ≤ 3000001 := by
  have hw := wordL_len a.nm
  have h0 := h.nl
  unfold putL
  split
  · omega
  · repeat' split
    · have := numD_le20 a.v h.v.1 h.v.2; omega
    · have := numD_le20 a.n h.n.1 h.n.2; omega
    · have := numD_le20 a.m h.m.1 h.m.2; omega
    · have := numD_le20 a.x h.x.1 h.x.2; omega
    · have := numD_le20 a.p h.p.1 h.p.2; omega
theorem vW_len (k : Int) : (vW k).length ≤ 6 := by
  by_cases h : 1 ≤ k ∧ k ≤ 12
  · rcases (show k = 1 ∨ k = 2 ∨ k = 3 ∨ k = 4 ∨ k = 5 ∨ k = 6 ∨ k = 7 ∨ k = 8 ∨ k = 9 ∨ k = 10 ∨ k = 11 ∨ k = 12 by omega) with rfl | rfl | rfl | rfl | rfl | rfl | rfl | rfl | rfl | rfl | rfl | rfl <;> decide
  · rw [(out_vW k h).1]; decide
set_option maxRecDepth 100000 in
set_option maxHeartbeats 4000000 in
theorem sline_any (ak av : Int) (anm : List Int) (an am ap ax : Int) (h : OkA ⟨ak, av, anm, an, am, ap, ax⟩) (w : World) : Calls Tryd.prog 21 #[.agg #[.int .i64 ak, .int .i64 av, .string (strOfNums anm), .int .i64 an, .int .i64 am, .int .i64 ap, .int .i64 ax]] w (StrP (lineL ⟨ak, av, anm, an, am, ap, ax⟩) w) := by
  have hz0 := heap_alloc_new w (.cells #[.int .i64 ak, .int .i64 av, .string (strOfNums anm), .int .i64 an, .int .i64 am, .int .i64 ap, .int .i64 ax] 23)
  have hk0 := below_alloc w (.cells #[.int .i64 ak, .int .i64 av, .string (strOfNums anm), .int .i64 an, .int .i64 am, .int .i64 ap, .int .i64 ax] 23)
  have HP := Lib.hid (put_any ak av anm an am ap ax h)
  have HPL := Lib.hid (fun f => putL_len ⟨ak, av, anm, an, am, ap, ax⟩ f h)
  have HL : Hid (lineL ⟨ak, av, anm, an, am, ap, ax⟩ = vW ak ++ (vF ak).flatMap (fun f => 32 :: putL ⟨ak, av, anm, an, am, ap, ax⟩ f)) := rfl
  obtain ⟨hVF, hVl⟩ := vF_rng ak
  have hWl := vW_len ak
  generalize putL ⟨ak, av, anm, an, am, ap, ax⟩ = g at *
  generalize lineL ⟨ak, av, anm, an, am, ap, ax⟩ = LL at *
  clear h
  go_enter Tryd.func21, Tryd.ntmps21
  go_upto_region 1 with fail
  generalize w.alloc (.cells #[.int .i64 ak, .int .i64 av, .string (strOfNums anm), .int .i64 an, .int .i64 am, .int .i64 ap, .int .i64 ax] 23) = W at *
  have HZ0 := Lib.hid hz0
  obtain ⟨⟨c0, c1, c2, c3, c4, c5, c6⟩, -⟩ := seven_cells hz0
  clear hz0
  have HV := Lib.hid (fun w => verbs_any ak w)
  go_upto_region 3 with (go_at_call 25; refine (HV.out _).mono ?_; rintro e w2 ⟨fo, fn, rfl, hF, hb2⟩)
  have hvx := heap_alloc_new w2 (.cells #[.string (strOfNums (vW ak)), .slice fo fn fn] 51)
  have hbx := below_alloc w2 (.cells #[.string (strOfNums (vW ak)), .slice fo fn fn] 51)
  have hb3 := hb2.trans (hbx.mono hb2.size)
  have hF3 := hF.keep0 hbx
  have hfl := hF.hlen
  clear hF hb2 hbx HV
  generalize w2.alloc (.cells #[.string (strOfNums (vW ak)), .slice fo fn fn] 51) = W3 at *
  generalize w2.heap.size = vb at *
  obtain ⟨r0, r1⟩ : W3.cell? ⟨vb, 0, none⟩ = some (.string (strOfNums (vW ak))) ∧ W3.cell? ⟨vb, 1, none⟩ = some (.slice fo fn fn) := ⟨(cell_of_row _ _ _ _ _ _ hvx).trans rfl, (cell_of_row _ _ _ _ _ _ hvx).trans rfl⟩
  have hB3 := hk0.trans (hb3.mono hk0.size)
  clear hvx hk0
  have HF := Lib.hid hF3
  have HB3 := Lib.hid hB3
  have hz3 := (hb3.block _ (lt_of_block HZ0.out)).trans HZ0.out
  have HZ3 := Lib.hid hz3
  clear hb3 hF3 hB3 hz3 HZ0 c0 c1 c2 c3 c4 c5 c6
  go_upto_region 4 with fail
  clear r0 r1
  generalize hVFe : vF ak = vf at *
  generalize hVWe : vW ak = vw at *
  clear hVFe hVWe
  go_loopw [4, 15] (fun v4 v15 wr => ∃ (j : Nat) (o : List Int), j ≤ fn ∧ v15 = .int .i64 (j : Int) ∧ v4 = .string (strOfNums o) ∧ Hid (LL = o ++ (vf.drop j).flatMap (fun f => 32 :: g f)) ∧ Hid (o.length ≤ 6 + 3000002 * j) ∧ Below W3.heap.size W3 wr) (fun _ v15 _ => fn - natV v15)
  case atStart => exact ⟨0, vw, by omega, rfl, rfl, HL.out, by unfold Hid; omega, Below.refl _ _⟩
  case round =>
    clear HL
    obtain ⟨j, o, hj, rfl, rfl, hQ, hO, hbr⟩ := hrel
    have hzr := (hbr.block _ (lt_of_block HZ3.out)).trans HZ3.out
    by_cases hjl : j < fn
    · obtain ⟨fa, fv, rfl, hfx, hfc, hf0, hf5⟩ := (HF.out.keep0 hbr).int hjl
      have hfr := hVF _ (getD_mem0 (l := vf) (k := j) (by rw [hfl]; exact hjl))
      rw [hfx.out] at hfr
      have hdf : vf.drop j = fv :: vf.drop (j + 1) := by
        rw [List.drop_eq_getElem_cons (by rw [hfl]; exact hjl)]
        congr 1
        rw [← hfx.out]; simp [List.getD, show j < vf.length by rw [hfl]; exact hjl]
      have hQ2 := hQ.out
      rw [hdf, List.flatMap_cons, ← List.append_assoc] at hQ2
      have HQ2 := Lib.hid hQ2
      have hgl := HPL.out fv
      have HC := Lib.hid (HP.out fv hfr)
      unfold StrP at HC
      have hO1 := hO.out
      have z1 : (strOfNums (g fv)).size ≤ 3000001 := by rw [strOfNums_size]; exact hgl
      have z3 : (strOfNums o).size ≤ 9000012 := by rw [strOfNums_size]; omega
      have HM : Hid (strOfNums o ++ (ByteArray.mk #[32] ++ strOfNums (g fv)) = strOfNums (o ++ 32 :: g fv)) := by
        unfold Hid
        rw [show ByteArray.mk #[32] = strOfNums [32] from rfl, strOfNums_append, strOfNums_append]; rfl
      obtain ⟨⟨c0, c1, c2, c3, c4, c5, c6⟩, -⟩ := seven_cells hzr
      have HO2 : Hid ((o ++ 32 :: g fv).length ≤ 6 + 3000002 * (j + 1)) := by unfold Hid; rw [List.length_append, List.length_cons]; omega
      clear hQ hQ2 hO hO1 hdf hfx hgl hzr
      generalize o ++ 32 :: g fv = o2 at *
      generalize hS0 : strOfNums o = s0 at *
      generalize hS1 : strOfNums (g fv) = s1 at *
      have hb1 : ¬ 9223372036854775807 < 1 + s1.size := by omega
      have hb2 : ¬ 9223372036854775807 < s0.size + (1 + s1.size) := by omega
      clear hS0 hS1
      go_wp2_with (go_at_call 31; refine (HC.out _).mono ?_; rintro e w4 ⟨rfl, hb4⟩; dsimp only)
      have hb5 := hbr.trans (hb4.mono hbr.size)
      refine ⟨⟨j + 1, o2, by omega, by go_num, by rw [HM.out], HQ2.out, HO2.out, hb5⟩, ?_⟩
      simp [natV]; omega
    · obtain rfl : j = fn := by omega
      have hQ2 := hQ.out
      rw [List.drop_of_length_le (by omega), List.flatMap_nil, List.append_nil] at hQ2
      subst hQ2
      go_wp2_with fail
      go_ret
      exact ⟨rfl, HB3.out.trans (hbr.mono HB3.out.size)⟩
end Go.Proofs.YtflpblggpbgeiaaDoor

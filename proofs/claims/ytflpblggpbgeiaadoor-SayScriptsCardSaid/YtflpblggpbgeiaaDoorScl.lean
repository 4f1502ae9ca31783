/- The walk of say.Clean. -/
import Derived.Test.YtflpblggpbgeiaaDoorSln
import Derived.Test.YtflpblggpbgeiaaDoorCln
import Derived.Test.YtflpblggpbgeiaaDoorVrc
namespace Go.Proofs.YtflpblggpbgeiaaDoor
open Go Go.RowKit Go.Calli
set_option linter.unusedVariables false
set_option linter.unusedSimpArgs false
attribute [local irreducible] wpStill wpAnyH wpAnyS wpList Code.wp
theorem three_new (w : World) (o1 o2 o3 : Obj) : (((w.alloc o1).alloc o2).alloc o3).heap[w.heap.size]? = some o1 ∧ (((w.alloc o1).alloc o2).alloc o3).heap[w.heap.size + 1]? = some o2 ∧ (((w.alloc o1).alloc o2).alloc o3).heap[w.heap.size + 1 + 1]? = some o3 ∧ Below w.heap.size w (((w.alloc o1).alloc o2).alloc o3) ∧ (((w.alloc o1).alloc o2).alloc o3).heap.size = w.heap.size + 3 := by
  have h1 := heap_alloc_new w o1
  have h2 := heap_alloc_new (w.alloc o1) o2
  have h3 := heap_alloc_new ((w.alloc o1).alloc o2) o3
  have hb2 := below_alloc (w.alloc o1) o2
  have hb := below_alloc ((w.alloc o1).alloc o2) o3
  simp only [World.size_alloc] at h2 h3
  refine ⟨?_, (hb.block _ (by simp only [World.size_alloc]; omega)).trans h2, h3, balloc (balloc (below_alloc w o1) o2) o3, by simp⟩
  exact (hb.block _ (by simp only [World.size_alloc]; omega)).trans ((hb2.block _ (by simp only [World.size_alloc]; omega)).trans h1)
theorem field51 (s : ByteArray) (ao : Option Addr) (n : Nat) (w : World) : (Instr.field 51 (.agg #[.string s, .slice ao n n]) 1).run Tryd.prog w = .ok (.slice ao n n) w := by kernel_rfl
set_option maxRecDepth 100000 in
set_option maxHeartbeats 8000000 in
theorem sclean_any (ak av : Int) (anm : List Int) (an am ap ax : Int) (w : World) : Calls Tryd.prog 22 #[.agg #[.int .i64 ak, .int .i64 av, .string (strOfNums anm), .int .i64 an, .int .i64 am, .int .i64 ap, .int .i64 ax]] w (ClnP ⟨ak, av, anm, an, am, ap, ax⟩ w) := by
  obtain ⟨hz0, hz1, hz2, hk0, hsz⟩ := three_new w (.cells #[.int .i64 ak, .int .i64 av, .string (strOfNums anm), .int .i64 an, .int .i64 am, .int .i64 ap, .int .i64 ax] 23) (.cells #[.int .i64 0, .int .i64 0, .string (ByteArray.mk #[]), .int .i64 0, .int .i64 0, .int .i64 0, .int .i64 0] 23) (.cells #[.int .i64 ak, .int .i64 0, .string (ByteArray.mk #[]), .int .i64 0, .int .i64 0, .int .i64 0, .int .i64 0] 23)
  have HL : Hid (cleanL ⟨ak, av, anm, an, am, ap, ax⟩ = (vF ak).foldl (fun b f => setF b ⟨ak, av, anm, an, am, ap, ax⟩ f) ⟨ak, 0, [], 0, 0, 0, 0⟩) := rfl
  obtain ⟨hVF, hVl⟩ := vF_rng ak
  have hf51 := field51
  have HV := Lib.hid (fun w => vercs_any ak w)
  unfold ClnP
  generalize cleanL ⟨ak, av, anm, an, am, ap, ax⟩ = LL at *
  go_enter Tryd.func22, Tryd.ntmps22
  go_upto_region 2 with fail
  generalize ((w.alloc (.cells #[.int .i64 ak, .int .i64 av, .string (strOfNums anm), .int .i64 an, .int .i64 am, .int .i64 ap, .int .i64 ax] 23)).alloc (.cells #[.int .i64 0, .int .i64 0, .string (ByteArray.mk #[]), .int .i64 0, .int .i64 0, .int .i64 0, .int .i64 0] 23)).alloc (.cells #[.int .i64 ak, .int .i64 0, .string (ByteArray.mk #[]), .int .i64 0, .int .i64 0, .int .i64 0, .int .i64 0] 23) = W at *
  have HZ0 := Lib.hid hz0
  have HZ1 := Lib.hid hz1
  have HZ2 : Hid (W.heap[w.heap.size + 1 + 1]? = some (.cells (cellsA ⟨ak, 0, [], 0, 0, 0, 0⟩) 23 (0, 0))) := hz2
  obtain ⟨⟨c0, c1, c2, c3, c4, c5, c6⟩, -⟩ := seven_cells hz0
  clear hz0 hz1 hz2
  go_upto_region 3 with (go_at_call 25; refine (HV.out _).mono ?_; rintro e w2 ⟨fo, fn, rfl, hF, hb2, hfo⟩; dsimp only)
  clear c0 c1 c2 c3 c4 c5 c6
  have hfl := hF.hlen
  have HF := Lib.hid hF
  have HB2 := Lib.hid (hk0.trans (hb2.mono hk0.size))
  have HY0 := Lib.hid ((hb2.block _ (lt_of_block HZ0.out)).trans HZ0.out)
  have HY1 := Lib.hid ((hb2.block _ (lt_of_block HZ1.out)).trans HZ1.out)
  have HY2 := Lib.hid ((hb2.block _ (lt_of_block HZ2.out)).trans HZ2.out)
  have hfo2 : ∀ a, fo = some a → ¬ (a.block = w.heap.size + 1 + 1) := fun a ha e => by have := hfo a ha; omega
  have HFO := Lib.hid hfo2
  clear HZ0 HZ1 HZ2 hF hb2 hfo hfo2 hk0 HV hsz
  generalize hA0 : w.heap.size = A0 at *
  generalize hVFe : vF ak = vf at *
  clear hVFe
  go_loopw [14] (fun v14 wr => ∃ (j : Nat) (o : Ac), j ≤ fn ∧ v14 = .int .i64 (j : Int) ∧ Hid (LL = (vf.drop j).foldl (fun b f => setF b ⟨ak, av, anm, an, am, ap, ax⟩ f) o) ∧ wr.heap[A0 + 1 + 1]? = some (.cells (cellsA o) 23 (0, 0)) ∧ Keeps (fun k => k = A0 + 1 + 1) w2 wr) (fun v14 _ => fn - natV v14)
  case atStart => exact ⟨0, ⟨ak, 0, [], 0, 0, 0, 0⟩, by omega, rfl, HL.out, HY2.out, Keeps.refl _ _⟩
  case round =>
    clear HL HY2
    obtain ⟨j, o, hj, rfl, hQ, hA, hk⟩ := hrel
    have hz0 := hk.heap HY0.out (by omega)
    have hz1 := hk.heap HY1.out (by omega)
    by_cases hjl : j < fn
    · obtain ⟨fa, fv, rfl, hfx, hfc, hf0, hf5⟩ := (HF.out.kept hk HFO.out).int hjl
      have hfr := hVF _ (getD_mem0 (l := vf) (k := j) (by rw [hfl]; exact hjl))
      rw [hfx.out] at hfr
      have hdf : vf.drop j = fv :: vf.drop (j + 1) := by
        rw [List.drop_eq_getElem_cons (by rw [hfl]; exact hjl)]
        congr 1
        rw [← hfx.out]; simp [List.getD, show j < vf.length by rw [hfl]; exact hjl]
      have hQ2 := hQ.out
      rw [hdf, List.foldl_cons] at hQ2
      have HQ2 := Lib.hid hQ2
      clear hQ hQ2 hdf hfx hf0 hf5
      obtain ⟨⟨c0, c1, c2, c3, c4, c5, c6⟩, -⟩ := seven_cells hz0
      clear hz0 hz1
      obtain ⟨ok, ov, onm, on, om, op, ox⟩ := o
      unfold cellsA at hA
      simp only at hA
      have HA := Lib.hid hA
      obtain ⟨⟨d0, d1, d2, d3, d4, d5, d6⟩, f0, f1, f2, f3, f4, f5, f6⟩ := seven_cells hA
      clear hA
      rcases six hfr with rfl | rfl | rfl | rfl | rfl | rfl
      all_goals
        go_wp2_with fail
        refine ⟨⟨j + 1, _, by omega, by go_num, HQ2.out, heap_setCell_same _ _ _ _ _ _ HA.out, hk.setCell (.inr rfl) _⟩, ?_⟩
        simp [natV]; omega
    · obtain rfl : j = fn := by omega
      have hQ2 := hQ.out
      rw [List.drop_of_length_le (by omega), List.foldl_nil] at hQ2
      subst hQ2
      obtain ⟨ok, ov, onm, on, om, op, ox⟩ := LL
      have HE : Hid (cellsA ⟨ok, ov, onm, on, om, op, ox⟩ = #[.int .i64 ok, .int .i64 ov, .string (strOfNums onm), .int .i64 on, .int .i64 om, .int .i64 op, .int .i64 ox]) := rfl
      unfold cellsA at hA
      simp only at hA
      obtain ⟨⟨d0, d1, d2, d3, d4, d5, d6⟩, -⟩ := seven_cells hA
      obtain ⟨⟨c0, c1, c2, c3, c4, c5, c6⟩, f0, f1, f2, f3, f4, f5, f6⟩ := seven_cells hz1
      have hBr : Below w.heap.size w wr := by
        rw [hA0]
        exact HB2.out.trans (hk.toBelow (by rw [← hA0]; exact HB2.out.size) (fun k hk e => by omega))
      have HS := Lib.hid (seven_set hz1 (.int .i64 ok) (.int .i64 ov) (.string (strOfNums onm)) (.int .i64 on) (.int .i64 om) (.int .i64 op) (.int .i64 ox))
      have HBB := Lib.hid (seven_below hBr (b := A0 + 1) (by omega) (.int .i64 ok) (.int .i64 ov) (.string (strOfNums onm)) (.int .i64 on) (.int .i64 om) (.int .i64 op) (.int .i64 ox))
      clear hA hz0 hz1 hQ
      go_wp2_with fail
      exact bodyPost_ret (results_cell_row (fn := Tryd.f22) rfl _ _ _ _ _ _ _ rfl HS.out Tryd.underlying23 rfl info23) rfl ⟨by rw [HE.out], HBB.out⟩
end Go.Proofs.YtflpblggpbgeiaaDoor

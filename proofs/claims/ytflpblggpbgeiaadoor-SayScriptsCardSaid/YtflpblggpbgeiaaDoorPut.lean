/- The walk of say.put. -/
import Derived.Test.YtflpblggpbgeiaaDoorLin
import Derived.Test.YtflpblggpbgeiaaDoorNum
import Derived.Test.YtflpblggpbgeiaaDoorWrd
namespace Go.Proofs.YtflpblggpbgeiaaDoor
open Go Go.RowKit Go.Calli
set_option linter.unusedVariables false
set_option linter.unusedSimpArgs false
attribute [local irreducible] wpStill wpAnyH wpAnyS wpList Code.wp
set_option maxRecDepth 100000 in
set_option maxHeartbeats 4000000 in
theorem put_0 (ak av : Int) (anm : List Int) (an am ap ax : Int) (h : OkA ⟨ak, av, anm, an, am, ap, ax⟩) (w : World) : Calls Tryd.prog 31 #[.agg #[.int .i64 ak, .int .i64 av, .string (strOfNums anm), .int .i64 an, .int .i64 am, .int .i64 ap, .int .i64 ax], .int .i64 0] w (StrP (putL ⟨ak, av, anm, an, am, ap, ax⟩ 0) w) := by
  have hz0 := heap_alloc_new w (.cells #[.int .i64 ak, .int .i64 av, .string (strOfNums anm), .int .i64 an, .int .i64 am, .int .i64 ap, .int .i64 ax] 23)
  have hk0 := below_alloc w (.cells #[.int .i64 ak, .int .i64 av, .string (strOfNums anm), .int .i64 an, .int .i64 am, .int .i64 ap, .int .i64 ax] 23)
  rw [show putL ⟨ak, av, anm, an, am, ap, ax⟩ 0 = numD av from rfl]
  have LV : Hid (∀ w, Calls Tryd.prog 18 #[.int .i64 av] w (StrP (numD av) w)) := fun w => number_any av h.v.1 h.v.2 w
  unfold StrP at *
  clear h
  go_enter Tryd.func31, Tryd.ntmps31
  have HZ0 := Lib.hid hz0
  obtain ⟨⟨c0, c1, c2, c3, c4, c5, c6⟩, -⟩ := seven_cells hz0
  clear hz0
  go_wp2_with (go_at_call 18; refine (LV.out _).mono ?_; rintro e w1 ⟨rfl, hb1⟩; dsimp only)
  go_ret
  exact ⟨rfl, hk0.trans (hb1.mono hk0.size)⟩
set_option maxRecDepth 100000 in
set_option maxHeartbeats 4000000 in
theorem put_1 (ak av : Int) (anm : List Int) (an am ap ax : Int) (h : OkA ⟨ak, av, anm, an, am, ap, ax⟩) (w : World) : Calls Tryd.prog 31 #[.agg #[.int .i64 ak, .int .i64 av, .string (strOfNums anm), .int .i64 an, .int .i64 am, .int .i64 ap, .int .i64 ax], .int .i64 1] w (StrP (putL ⟨ak, av, anm, an, am, ap, ax⟩ 1) w) := by
  have hz0 := heap_alloc_new w (.cells #[.int .i64 ak, .int .i64 av, .string (strOfNums anm), .int .i64 an, .int .i64 am, .int .i64 ap, .int .i64 ax] 23)
  have hk0 := below_alloc w (.cells #[.int .i64 ak, .int .i64 av, .string (strOfNums anm), .int .i64 an, .int .i64 am, .int .i64 ap, .int .i64 ax] 23)
  rw [show putL ⟨ak, av, anm, an, am, ap, ax⟩ 1 = wordL anm from rfl]
  have LV : Hid (∀ w, Calls Tryd.prog 15 #[.string (strOfNums anm)] w (StrP (wordL anm) w)) := fun w => word_any anm h.nm h.nl w
  unfold StrP at *
  clear h
  go_enter Tryd.func31, Tryd.ntmps31
  have HZ0 := Lib.hid hz0
  obtain ⟨⟨c0, c1, c2, c3, c4, c5, c6⟩, -⟩ := seven_cells hz0
  clear hz0
  go_wp2_with (go_at_call 15; refine (LV.out _).mono ?_; rintro e w1 ⟨rfl, hb1⟩; dsimp only)
  go_ret
  exact ⟨rfl, hk0.trans (hb1.mono hk0.size)⟩
set_option maxRecDepth 100000 in
set_option maxHeartbeats 4000000 in
theorem put_2 (ak av : Int) (anm : List Int) (an am ap ax : Int) (h : OkA ⟨ak, av, anm, an, am, ap, ax⟩) (w : World) : Calls Tryd.prog 31 #[.agg #[.int .i64 ak, .int .i64 av, .string (strOfNums anm), .int .i64 an, .int .i64 am, .int .i64 ap, .int .i64 ax], .int .i64 2] w (StrP (putL ⟨ak, av, anm, an, am, ap, ax⟩ 2) w) := by
  have hz0 := heap_alloc_new w (.cells #[.int .i64 ak, .int .i64 av, .string (strOfNums anm), .int .i64 an, .int .i64 am, .int .i64 ap, .int .i64 ax] 23)
  have hk0 := below_alloc w (.cells #[.int .i64 ak, .int .i64 av, .string (strOfNums anm), .int .i64 an, .int .i64 am, .int .i64 ap, .int .i64 ax] 23)
  rw [show putL ⟨ak, av, anm, an, am, ap, ax⟩ 2 = numD an from rfl]
  have LV : Hid (∀ w, Calls Tryd.prog 18 #[.int .i64 an] w (StrP (numD an) w)) := fun w => number_any an h.n.1 h.n.2 w
  unfold StrP at *
  clear h
  go_enter Tryd.func31, Tryd.ntmps31
  have HZ0 := Lib.hid hz0
  obtain ⟨⟨c0, c1, c2, c3, c4, c5, c6⟩, -⟩ := seven_cells hz0
  clear hz0
  go_wp2_with (go_at_call 18; refine (LV.out _).mono ?_; rintro e w1 ⟨rfl, hb1⟩; dsimp only)
  go_ret
  exact ⟨rfl, hk0.trans (hb1.mono hk0.size)⟩
set_option maxRecDepth 100000 in
set_option maxHeartbeats 4000000 in
theorem put_3 (ak av : Int) (anm : List Int) (an am ap ax : Int) (h : OkA ⟨ak, av, anm, an, am, ap, ax⟩) (w : World) : Calls Tryd.prog 31 #[.agg #[.int .i64 ak, .int .i64 av, .string (strOfNums anm), .int .i64 an, .int .i64 am, .int .i64 ap, .int .i64 ax], .int .i64 3] w (StrP (putL ⟨ak, av, anm, an, am, ap, ax⟩ 3) w) := by
  have hz0 := heap_alloc_new w (.cells #[.int .i64 ak, .int .i64 av, .string (strOfNums anm), .int .i64 an, .int .i64 am, .int .i64 ap, .int .i64 ax] 23)
  have hk0 := below_alloc w (.cells #[.int .i64 ak, .int .i64 av, .string (strOfNums anm), .int .i64 an, .int .i64 am, .int .i64 ap, .int .i64 ax] 23)
  rw [show putL ⟨ak, av, anm, an, am, ap, ax⟩ 3 = numD am from rfl]
  have LV : Hid (∀ w, Calls Tryd.prog 18 #[.int .i64 am] w (StrP (numD am) w)) := fun w => number_any am h.m.1 h.m.2 w
  unfold StrP at *
  clear h
  go_enter Tryd.func31, Tryd.ntmps31
  have HZ0 := Lib.hid hz0
  obtain ⟨⟨c0, c1, c2, c3, c4, c5, c6⟩, -⟩ := seven_cells hz0
  clear hz0
  go_wp2_with (go_at_call 18; refine (LV.out _).mono ?_; rintro e w1 ⟨rfl, hb1⟩; dsimp only)
  go_ret
  exact ⟨rfl, hk0.trans (hb1.mono hk0.size)⟩
set_option maxRecDepth 100000 in
set_option maxHeartbeats 4000000 in
theorem put_4 (ak av : Int) (anm : List Int) (an am ap ax : Int) (h : OkA ⟨ak, av, anm, an, am, ap, ax⟩) (w : World) : Calls Tryd.prog 31 #[.agg #[.int .i64 ak, .int .i64 av, .string (strOfNums anm), .int .i64 an, .int .i64 am, .int .i64 ap, .int .i64 ax], .int .i64 4] w (StrP (putL ⟨ak, av, anm, an, am, ap, ax⟩ 4) w) := by
  have hz0 := heap_alloc_new w (.cells #[.int .i64 ak, .int .i64 av, .string (strOfNums anm), .int .i64 an, .int .i64 am, .int .i64 ap, .int .i64 ax] 23)
  have hk0 := below_alloc w (.cells #[.int .i64 ak, .int .i64 av, .string (strOfNums anm), .int .i64 an, .int .i64 am, .int .i64 ap, .int .i64 ax] 23)
  rw [show putL ⟨ak, av, anm, an, am, ap, ax⟩ 4 = numD ax from rfl]
  have LV : Hid (∀ w, Calls Tryd.prog 18 #[.int .i64 ax] w (StrP (numD ax) w)) := fun w => number_any ax h.x.1 h.x.2 w
  unfold StrP at *
  clear h
  go_enter Tryd.func31, Tryd.ntmps31
  have HZ0 := Lib.hid hz0
  obtain ⟨⟨c0, c1, c2, c3, c4, c5, c6⟩, -⟩ := seven_cells hz0
  clear hz0
  go_wp2_with (go_at_call 18; refine (LV.out _).mono ?_; rintro e w1 ⟨rfl, hb1⟩; dsimp only)
  go_ret
  exact ⟨rfl, hk0.trans (hb1.mono hk0.size)⟩
set_option maxRecDepth 100000 in
set_option maxHeartbeats 4000000 in
theorem put_5 (ak av : Int) (anm : List Int) (an am ap ax : Int) (h : OkA ⟨ak, av, anm, an, am, ap, ax⟩) (w : World) : Calls Tryd.prog 31 #[.agg #[.int .i64 ak, .int .i64 av, .string (strOfNums anm), .int .i64 an, .int .i64 am, .int .i64 ap, .int .i64 ax], .int .i64 5] w (StrP (putL ⟨ak, av, anm, an, am, ap, ax⟩ 5) w) := by
  have hz0 := heap_alloc_new w (.cells #[.int .i64 ak, .int .i64 av, .string (strOfNums anm), .int .i64 an, .int .i64 am, .int .i64 ap, .int .i64 ax] 23)
  have hk0 := below_alloc w (.cells #[.int .i64 ak, .int .i64 av, .string (strOfNums anm), .int .i64 an, .int .i64 am, .int .i64 ap, .int .i64 ax] 23)
  rw [show putL ⟨ak, av, anm, an, am, ap, ax⟩ 5 = numD ap from rfl]
  have LV : Hid (∀ w, Calls Tryd.prog 18 #[.int .i64 ap] w (StrP (numD ap) w)) := fun w => number_any ap h.p.1 h.p.2 w
  unfold StrP at *
  clear h
  go_enter Tryd.func31, Tryd.ntmps31
  have HZ0 := Lib.hid hz0
  obtain ⟨⟨c0, c1, c2, c3, c4, c5, c6⟩, -⟩ := seven_cells hz0
  clear hz0
  go_wp2_with (go_at_call 18; refine (LV.out _).mono ?_; rintro e w1 ⟨rfl, hb1⟩; dsimp only)
  go_ret
  exact ⟨rfl, hk0.trans (hb1.mono hk0.size)⟩
theorem put_any (ak av : Int) (anm : List Int) (an am ap ax : Int) (h : OkA ⟨ak, av, anm, an, am, ap, ax⟩) (f : Int) (hf : 0 ≤ f ∧ f ≤ 5) (w : World) : Calls Tryd.prog 31 #[.agg #[.int .i64 ak, .int .i64 av, .string (strOfNums anm), .int .i64 an, .int .i64 am, .int .i64 ap, .int .i64 ax], .int .i64 f] w (StrP (putL ⟨ak, av, anm, an, am, ap, ax⟩ f) w) := by
  rcases six hf with rfl | rfl | rfl | rfl | rfl | rfl
  · have := put_0 ak av anm an am ap ax h w; exact this
  · have := put_1 ak av anm an am ap ax h w; exact this
  · have := put_2 ak av anm an am ap ax h w; exact this
  · have := put_3 ak av anm an am ap ax h w; exact this
  · have := put_4 ak av anm an am ap ax h w; exact this
  · have := put_5 ak av anm an am ap ax h w; exact this
end Go.Proofs.YtflpblggpbgeiaaDoor

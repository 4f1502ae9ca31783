/- The walk of the law's own reading. -/
import Derived.Test.YtagaljjiiinjmaaPlw
import Derived.Deep.RegionLaw
namespace Go.Proofs.Ytagaljjiiinjmaa
open Go Go.RowKit Go.Calli Go.Dskp Go.Maps
set_option linter.unusedVariables false
set_option linter.unusedSimpArgs false
attribute [local irreducible] wpStill wpAnyH wpAnyS wpList Code.wp
/-- The law's disk behind some of its own stores. -/
structure Sr (w W : World) (pb fb ab xb : Nat) (io : Option Addr) (ik n : Nat) (q : Pl) : Prop where
  P : Pln W pb fb ab xb io ik n q
  K : Keeps (fun k => k = pb ∨ k = fb) w W
section
variable {w W : World} {pb fb ab xb : Nat} {io : Option Addr} {ik n : Nat} {q : Pl}
theorem Sr.kept0 (h : Sr w W pb fb ab xb io ik n q) {W' : World} (hb : Below W.heap.size W W') : Sr w W' pb fb ab xb io ik n q := ⟨h.P.keep0 hb, h.K.below hb h.K.size⟩
theorem Sr.drew (h : Sr w W pb fb ab xb io ik n q) : Sr w W.drew pb fb ab xb io ik n q := h.kept0 (Below.refl _ _).drew
theorem Sr.drewN (h : Sr w W pb fb ab xb io ik n q) (k : Nat) : Sr w (W.drewN k) pb fb ab xb io ik n q := h.kept0 (below_drewN (Below.refl _ _) k)
theorem Sr.setf (h : Sr w W pb fb ab xb io ik n q) (i : Nat) (v : Int) : Sr w (W.setCell ⟨fb, i, none⟩ (.int .i64 v)) pb fb ab xb io ik n { q with fl := q.fl.set i v } := ⟨h.P.setf i v, h.K.setCell (p := ⟨fb, i, none⟩) (.inr (.inr rfl)) _⟩
theorem Sr.setr (h : Sr w W pb fb ab xb io ik n q) (v : Int) : Sr w (W.setCell ⟨pb, 4, none⟩ (.int .i64 v)) pb fb ab xb io ik n { q with r := v } := ⟨h.P.setr v, h.K.setCell (p := ⟨pb, 4, none⟩) (.inr (.inl rfl)) _⟩
theorem Sr.setg (h : Sr w W pb fb ab xb io ik n q) (v : Int) : Sr w (W.setCell ⟨pb, 5, none⟩ (.int .i64 v)) pb fb ab xb io ik n { q with g := v } := ⟨h.P.setg v, h.K.setCell (p := ⟨pb, 5, none⟩) (.inr (.inl rfl)) _⟩
end
def PrPost (pb fb ab xb : Nat) (io : Option Addr) (ik n : Nat) (B : List Int) (E : Int) (S : Pl) (w : World) (e : Ending) (w' : World) : Prop := ∃ ro rc, e = .returned (.tuple #[.slice ro B.length rc, .int .i64 E]) ∧ B.length ≤ rc ∧ Pln w' pb fb ab xb io ik n S ∧ Ints .u8 w' ro B.length B ∧ (∀ a, ro = some a → w.heap.size ≤ a.block) ∧ Keeps (fun k => k = pb ∨ k = fb) w w'
set_option maxRecDepth 100000 in
theorem pread_out (pb fb ab xb : Nat) (io : Option Addr) (ik n : Nat) (q : Pl) (p : Int) (ho : q.out p) (w : World) (h : Pln w pb fb ab xb io ik n q) : Calls Try.prog 14 #[.pointer (some ⟨pb, 0, none⟩), .int .i64 p] w (PrPost pb fb ab xb io ik n (prB q p) (prE q p) (prS q p) w) := by
  rw [show prB q p = [] from if_pos ho, show prE q p = 5 from if_pos ho, show prS q p = q from if_pos ho]
  unfold Pl.out at ho
  rw [h.lf] at ho
  have ho2 : p < 0 ∨ (0 ≤ p ∧ (n : Int) ≤ p) := by omega
  obtain ⟨c0, c1, c2, c3, c4, c5, f4, f5⟩ := six_cells h.row
  clear ho
  rcases ho2 with ho | ⟨ho, ho3⟩
  all_goals
    go_enter Try.func14, Try.ntmps14
    go_wp2_with fail
    go_ret2
    exact ⟨none, 0, rfl, Nat.le_refl _, h, Ints.nil _ _ _, (fun a e => by cases e), Keeps.refl _ _⟩
set_option maxRecDepth 100000 in
set_option maxHeartbeats 1000000 in
theorem pread_bad (pb fb ab xb : Nat) (io : Option Addr) (ik n : Nat) (q : Pl) (p : Nat) (hn : n ≤ 100) (hp : p < n) (hf : q.f p ≠ 0) (hq1 : -1 ≤ q.f p) (hq2 : q.f p ≤ 9223372036854775807) (hr : 0 ≤ q.r ∧ q.r < 1000000) (hg : 0 ≤ q.g ∧ q.g < 1000000) (w : World) (h : Pln w pb fb ab xb io ik n q) : Calls Try.prog 14 #[.pointer (some ⟨pb, 0, none⟩), .int .i64 p] w (PrPost pb fb ab xb io ik n (prB q p) (prE q p) (prS q p) w) := by
  have ho : ¬ q.out p := by unfold Pl.out; rw [h.lf]; omega
  rw [show prB q p = [] from (if_neg ho).trans (if_pos hf), show prE q p = 8 from (if_neg ho).trans (if_pos hf)]
  have hS : prS q p = { q with r := q.r + 1, g := q.g + 1, fl := if 0 < q.f p then q.fl.set p (q.f p - 1) else q.fl } := (if_neg ho).trans (if_pos hf)
  rw [hS]
  clear hS
  have e1 : IntKind.i64.wrap (q.r + 1) = q.r + 1 := IntWalk.i64_in _ (by omega)
  have e2 : IntKind.i64.wrap (q.g + 1) = q.g + 1 := IntWalk.i64_in _ (by omega)
  have hbf : (q.f p != 0) = true := by simpa using hf
  obtain ⟨c0, c1, c2, c3, c4, c5, f4, f5⟩ := six_cells h.row
  obtain ⟨d0, d1, d2, g0, g1, g2⟩ := h.at_ p hp
  change w.cell? ⟨fb, p, none⟩ = some (.int .i64 (q.f p)) at d0
  have hn4 := h.n4
  by_cases hpos : 0 < q.f p
  · rw [if_pos hpos]
    have e3 : IntKind.i64.wrap (q.f p - 1) = q.f p - 1 := IntWalk.i64_in _ (by omega)
    go_enter Try.func14, Try.ntmps14
    go_wp2_with fail
    have hS := ((Sr.mk h (Keeps.refl _ w)).setr (q.r + 1)).setg (q.g + 1)
    generalize (w.setCell _ _).setCell _ _ = w2 at *
    clear c0 c1 c2 c3 c4 c5 f4 f5 d0 d1 d2 g0 g1 g2
    obtain ⟨c0, c1, c2, c3, c4, c5, f4, f5⟩ := six_cells hS.P.row
    obtain ⟨d0, d1, d2, g0, g1, g2⟩ := hS.P.at_ p hp
    change w2.cell? ⟨fb, p, none⟩ = some (.int .i64 (q.f p)) at d0
    go_still_tail 14, (by kernel_rfl)
    repeat still_step
    try refine wpStill_nil ?_
    change wpList _ _ _ _ _ w2.drew
    go_wp2_with fail
    go_ret2
    have hS2 := (hS.setf p (q.f p - 1)).drew
    exact ⟨none, 0, rfl, Nat.le_refl _, hS2.P, Ints.nil _ _ _, (fun a e => by cases e), hS2.K⟩
  · rw [if_neg hpos]
    go_enter Try.func14, Try.ntmps14
    go_wp2_with fail
    have hS := ((Sr.mk h (Keeps.refl _ w)).setr (q.r + 1)).setg (q.g + 1)
    go_ret2
    exact ⟨none, 0, rfl, Nat.le_refl _, hS.P, Ints.nil _ _ _, (fun a e => by cases e), hS.K⟩
theorem own_cur {w : World} {base n : Nat} {v : Value} {xs : List Value} (h : w.ownsRow base 5 1 v n xs) (hn : 0 < n) :
    ∃ g cap cur, v = .slice (some ⟨g, 0, none⟩) n cap ∧ base ≤ g ∧ w.heap[g]? = some (.cells cur 5 (0, 0)) ∧ n ≤ cap ∧ cap ≤ maxLen ∧ n ≤ cur.size ∧ cur.toList.take n = xs := by
  rcases h.2 with ⟨_, h2⟩ | ⟨g, cap, cur, h1, h2, h3, h4, h5, h6, h7⟩
  · omega
  · exact ⟨g, cap, cur, h1, h2, h3, h4, h5, by omega, by simpa using h7⟩
theorem cur_ints {w : World} {g n : Nat} {cur : Array Value} {zs : List Int} (h : w.heap[g]? = some (.cells cur 5 (0, 0))) (hl : zs.length = n) (hm : n ≤ maxLen) (ht : cur.toList.take n = zs.map (Value.int .u8)) (hw : ∀ z ∈ zs, (Lit.int .u8 z).wf = true) : Ints .u8 w (some ⟨g, 0, none⟩) n zs := by
  refine ⟨hl, hm, fun i hi => ⟨_, rfl, ?_⟩, hw⟩
  rw [add0, cell_of_row _ _ _ _ _ _ h, Nat.zero_add, ← Array.getElem?_toList, ← List.getElem?_take_of_lt hi, ht]
  simp [hl, hi]
theorem take_set_cur {cur : Array Value} {n i : Nat} {zs : List Int} (ht : cur.toList.take n = zs.map (Value.int .u8)) (v : Int) : (cur.setIfInBounds i (.int .u8 v)).toList.take n = (zs.set i v).map (Value.int .u8) := by
  rw [Array.toList_setIfInBounds, List.take_set, ht, List.map_set]
set_option maxRecDepth 100000 in
set_option maxHeartbeats 1000000 in
theorem pread_good (pb fb ab xb : Nat) (io : Option Addr) (ik n : Nat) (q : Pl) (p : Nat) (hn : n ≤ 100) (hp : p < n) (hf : q.f p = 0) (ha0 : 0 ≤ q.a p) (ha1 : q.a p < 64) (hr : 0 ≤ q.r ∧ q.r < 1000000) (w : World) (h : Pln w pb fb ab xb io ik n q) : Calls Try.prog 14 #[.pointer (some ⟨pb, 0, none⟩), .int .i64 p] w (PrPost pb fb ab xb io ik n (prB q p) (prE q p) (prS q p) w) := by
  have ho : ¬ q.out p := by unfold Pl.out; rw [h.lf]; omega
  have hf2 : ¬ q.f p ≠ 0 := by simpa using hf
  rw [show prB q p = (ppg q p).set (q.a p).toNat (bx ((ppg q p).getD (q.a p).toNat 0) (q.x p)) from (if_neg ho).trans (if_neg hf2), show prE q p = 0 from (if_neg ho).trans (if_neg hf2), show prS q p = { q with r := q.r + 1 } from (if_neg ho).trans (if_neg hf2)]
  have e1 : IntKind.i64.wrap (q.r + 1) = q.r + 1 := IntWalk.i64_in _ (by omega)
  obtain ⟨c0, c1, c2, c3, c4, c5, f4, f5⟩ := six_cells h.row
  obtain ⟨d0, d1, d2, g0, g1, g2⟩ := h.at_ p hp
  change w.cell? ⟨fb, p, none⟩ = some (.int .i64 (q.f p)) at d0
  rw [hf] at d0
  have hn4 := h.n4
  obtain ⟨B, hB⟩ : ∃ B, B = (ppg q p).set (q.a p).toNat (bx ((ppg q p).getD (q.a p).toNat 0) (q.x p)) := ⟨_, rfl⟩
  rw [← hB]
  have HB := Lib.hid hB
  clear hB
  have hppl : (ppg q p).length = 64 := by unfold ppg; have := h.img.hlen; simp; omega
  have hpwf : ∀ z ∈ ppg q p, (Lit.int .u8 z).wf = true := fun z hz => h.img.wf z (List.mem_of_mem_drop (List.mem_of_mem_take hz))
  go_enter Try.func14, Try.ntmps14
  go_upto_region 9 with fail
  have hS := (Sr.mk h (Keeps.refl _ w)).setr (q.r + 1)
  generalize w.setCell _ _ = w2 at *
  clear c0 c1 c2 c3 c4 c5 f4 f5 d0 d1 d2 g0 g1 g2
  have HS := Lib.hid hS
  obtain ⟨c0, c1, c2, c3, c4, c5, f4, f5⟩ := six_cells hS.P.row
  have hpb : pb < w2.heap.size := (Array.getElem?_eq_some_iff.1 hS.P.row).1
  have hcap := hS.P.cap
  have hown0 : (w2.alloc (.cells #[] 5)).ownsRow w2.heap.size 5 1 (.slice (some ⟨w2.heap.size, 0, none⟩) 0 0) 0 [] :=
    ⟨rfl, Or.inr ⟨w2.heap.size, 0, #[], rfl, Nat.le_refl _, (MapKept.heap_alloc w2 _).1, Nat.le_refl _, by unfold maxLen; omega, rfl, rfl⟩⟩
  have hba : Below w2.heap.size w2 (w2.alloc (.cells #[] 5)) := (Below.refl _ _).alloc (Nat.le_refl _) _
  obtain ⟨ia, rfl, -⟩ := hS.P.img.some (by omega)
  have hRow : Row (w2.alloc (.cells #[] 5)) (some (ia.add (64 * p))) 64 ((ppg q p).map (Value.int .u8)) := by
    have hd := (((hS.P.img.keep0 hba).drop (j := 64 * p) (by omega)).take (n := 64) (by omega)).row
    exact hd
  clear hS
  have hkp : 64 * p < ik := by omega
  go_upto_region 10 with (at_builtin; refine wpList_append_row rfl (.tmp 64) (.tmp 74) 22 5 rfl Try.underlying22 infoByte rfl w2.heap.size (.slice (some ⟨w2.heap.size, 0, none⟩) 0 0) 0 [] rfl hown0 (some (ia.add (64 * p))) 64 (ik - 64 * p) ((ppg q p).map (Value.int .u8)) (by simp [Act.eval] <;> omega) hRow (one_ints _ _) (fun e => by cases e) (by omega) (by unfold maxLen; omega) hba.size ?_; intro v' w3 hown hkp)
  rw [Nat.zero_add, List.nil_append] at hown
  obtain ⟨g, cap, cur, rfl, hg0', hg, hcap3, hcapm, hcs, htk⟩ := own_cur hown (by omega)
  have hB3 : Below w2.heap.size w2 w3 := hba.trans (hkp.toBelow hba.size (fun k hk e => by cases e; exact absurd hk (by show ¬ w2.heap.size < w2.heap.size; omega)))
  have hS3 := HS.out.kept0 hB3
  have HS3 := Lib.hid hS3
  clear c0 c1 c2 c3 c4 c5 f4 f5 hown hRow hown0
  obtain ⟨c0, c1, c2, c3, c4, c5, f4, f5⟩ := six_cells hS3.P.row
  obtain ⟨d0, d1, d2, g0, g1, g2⟩ := hS3.P.at_ p hp
  clear hS3
  obtain ⟨ta, hta⟩ : ∃ ta : Nat, q.a p = (ta : Int) := ⟨(q.a p).toNat, by omega⟩
  change w3.cell? ⟨ab, p, none⟩ = some (.int .i64 (q.a p)) at d1
  change w3.cell? ⟨xb, p, none⟩ = some (.int .u8 (q.x p)) at d2
  rw [hta] at d1 ha0 ha1
  have hta2 : ta < 64 := by omega
  have hI3 := cur_ints hg hppl (by unfold maxLen; omega) htk hpwf
  obtain ⟨_, hga, hcell⟩ := hI3.cell ta hta2
  cases hga
  have hadd : (⟨g, 0, none⟩ : Addr).add ta = ⟨g, ta, none⟩ := by rw [add0]; simp
  have hcell2 := hcell
  rw [hadd] at hcell
  have hfro : w3.frozen? ⟨g, ta, none⟩ = false := frozen_of_row _ _ _ _ _ hg
  have hfro2 := hfro
  rw [← hadd] at hfro2
  have HTA := Lib.hid hta
  have HX := Lib.hid (show (ppg q p).getD ta 0 = (ppg q p).getD ta 0 from rfl)
  generalize hX : (ppg q p).getD ta 0 = X at hcell hcell2 HX
  have HX2 := Lib.hid hX
  clear hX HX hta hI3
  go_still_tail 27, (by kernel_rfl)
  repeat still_step
  try refine wpStill_nil ?_
  change wpList _ _ _ _ _ w3.drew
  go_wp2_with fail
  go_ret2
  have hBf : Below w2.heap.size w2 (w3.setCell ⟨g, ta, none⟩ (.int .u8 (bits BinOp.xor IntKind.u8 X (q.x p)))).drew := (hB3.setCell (p := ⟨g, ta, none⟩) hg0' _).drew
  have hSf := HS.out.kept0 hBf
  have hBe : B = (ppg q p).set ta (bits BinOp.xor IntKind.u8 X (q.x p)) := by
    rw [HB.out, HTA.out, Int.toNat_natCast, HX2.out]; rfl
  have hlen : B.length = 64 := by rw [hBe, List.length_set]; exact hppl
  have hIf : Ints .u8 (w3.setCell ⟨g, ta, none⟩ (.int .u8 (bits BinOp.xor IntKind.u8 X (q.x p)))).drew (some ⟨g, 0, none⟩) 64 B := by
    refine cur_ints (heap_setCell_same _ _ _ _ _ _ hg) hlen (by unfold maxLen; omega) (by rw [hBe]; exact take_set_cur htk _) ?_
    intro z hz
    rw [hBe] at hz
    rcases List.mem_or_eq_of_mem_set hz with hz | rfl
    · exact hpwf z hz
    · exact bx_wf X (q.x p)
  have hsz := HS.out.K.size
  exact ⟨some ⟨g, 0, none⟩, cap, by rw [hlen] <;> rfl, by rw [hlen]; exact hcap3, hSf.P, by rw [hlen]; exact hIf, (fun a e => by cases e; show w.heap.size ≤ g; omega), hSf.K⟩
theorem pread_any (pb fb ab xb : Nat) (io : Option Addr) (ik n : Nat) (q : Pl) (p : Int) (hn : n ≤ 100) (hok : ∀ j : Nat, j < n → -1 ≤ q.fl.getD j 0 ∧ q.fl.getD j 0 ≤ 9223372036854775807 ∧ 0 ≤ q.al.getD j 0 ∧ q.al.getD j 0 < 64) (hr : 0 ≤ q.r ∧ q.r < 1000000) (hg : 0 ≤ q.g ∧ q.g < 1000000) (w : World) (h : Pln w pb fb ab xb io ik n q) : Calls Try.prog 14 #[.pointer (some ⟨pb, 0, none⟩), .int .i64 p] w (PrPost pb fb ab xb io ik n (prB q p) (prE q p) (prS q p) w) := by
  by_cases ho : q.out p
  · exact pread_out pb fb ab xb io ik n q p ho w h
  · obtain ⟨p, rfl⟩ : ∃ k : Nat, p = (k : Int) := ⟨p.toNat, by unfold Pl.out at ho; omega⟩
    have hp : p < n := by unfold Pl.out at ho; rw [h.lf] at ho; omega
    obtain ⟨a1, a2, a3, a4⟩ := hok p hp
    by_cases hf : q.f p = 0
    · exact pread_good pb fb ab xb io ik n q p hn hp hf a3 a4 hr w h
    · exact pread_bad pb fb ab xb io ik n q p hn hp hf a1 a2 hr hg w h
end Go.Proofs.Ytagaljjiiinjmaa

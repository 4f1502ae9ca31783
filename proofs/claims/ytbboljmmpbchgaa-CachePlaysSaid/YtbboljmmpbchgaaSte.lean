/- The walk of the law's step: Empty, the faults. -/
import Derived.Test.YtbboljmmpbchgaaStp
namespace Go.Proofs.Ytbboljmmpbchgaa
open Go Go.RowKit Go.Calli Go.Dskp Go.Maps
set_option linter.unusedVariables false
set_option linter.unusedSimpArgs false
attribute [local irreducible] wpStill wpAnyH wpAnyS wpList Code.wp
def setAll {α : Type} (L : List α) (v : α) : Nat → List α
  | 0 => L
  | i + 1 => (setAll L v i).set i v
theorem setAll_len {α : Type} (L : List α) (v : α) : ∀ i, (setAll L v i).length = L.length := by
  intro i
  induction i with
  | zero => rfl
  | succ i ih => rw [setAll, List.length_set, ih]
theorem setAll_get {α : Type} (L : List α) (v : α) : ∀ i j, (setAll L v i)[j]? = if j < i then L[j]?.map (fun _ => v) else L[j]? := by
  intro i
  induction i with
  | zero => intro j; rfl
  | succ i ih =>
    intro j
    rw [setAll, List.getElem?_set, setAll_len, ih]
    by_cases e : i = j
    · subst e
      rw [if_pos rfl, if_pos (Nat.lt_succ_self i)]
      by_cases hl : i < L.length
      · simp [hl]
      · simp [hl]
    · rw [if_neg e]
      by_cases h : j < i
      · rw [if_pos h, if_pos (by omega)]
      · rw [if_neg h, if_neg (by omega)]
theorem setAll_all {α : Type} (L : List α) (v : α) (n : Nat) (h : L.length = n) : setAll L v n = List.replicate n v := by
  apply List.ext_getElem?
  intro j
  rw [setAll_get, List.getElem?_replicate]
  by_cases hj : j < n
  · simp [hj, h]
  · simp [hj, h]
set_option maxRecDepth 100000 in
set_option maxHeartbeats 1000000 in
theorem step_empty {A : Ad} {B : Bd} {n : Nat} (hn : n ≤ 1024) (hs : Sep A B) (c : Ca) (hC : COk c) (K : Nat) (hK : K + 5000 ≤ 100000) (hL : CLim K c) (hi : c.d.img.length ≤ 512) (o : Opr) (ho : o.wf) (hk : Hid (o.k = 4)) (ds : List Dv) (w : World) (h : CaIs A w n c) (H : PlSt B w n c ds) : Calls Try.prog 20 #[.pointer (some ⟨A.b, 0, none⟩), .pointer (some ⟨A.cb, 0, none⟩), .pointer (some ⟨B.pb, 0, none⟩), .agg #[.int .i64 o.k, .int .i64 o.p, .int .i64 o.n, .int .u8 o.x]] w (StPost A B n (emC c) w) := by
  obtain ⟨w1, w2, w3, w4⟩ := ho
  have hba := below_alloc w (.cells #[.int .i64 o.k, .int .i64 o.p, .int .i64 o.n, .int .u8 o.x] 41)
  have hbk : Keeps (fun k => A.S k ∨ B.S k) w (w.alloc (.cells #[.int .i64 o.k, .int .i64 o.p, .int .i64 o.n, .int .u8 o.x] 41)) := Keeps.ofBelow hba (Nat.le_refl _)
  have h1 := h.keep0 hba
  have H1 := H.keep0 hba
  have hO : OpIs (w.alloc (.cells #[.int .i64 o.k, .int .i64 o.p, .int .i64 o.n, .int .u8 o.x] 41)) w.heap.size o := by
    obtain ⟨e0, e1, e2, e3, -, -⟩ := four_cells (MapKept.heap_alloc w (.cells #[.int .i64 o.k, .int .i64 o.p, .int .i64 o.n, .int .u8 o.x] 41)).1
    exact ⟨e0, e1, e2, e3⟩
  have hin := h.inW
  have hinB := H.m.inW
  have hnA : ¬ A.S w.heap.size := fun e => Nat.lt_irrefl _ (hin _ e)
  have hnB : ¬ B.S w.heap.size := fun e => Nat.lt_irrefl _ (hinB _ e)
  clear h H hba
  go_enter Try.func20, Try.ntmps20
  go_upto_region 1 with fail
  generalize w.alloc (.cells #[.int .i64 o.k, .int .i64 o.p, .int .i64 o.n, .int .u8 o.x] 41) = W at *
  obtain ⟨e0, e1, e2, e3⟩ := hO
  have hO : OpIs W w.heap.size o := ⟨e0, e1, e2, e3⟩
  have hk0 := hk.out
  rw [hk0] at e0
  clear hk0
  go_upto_region 17 with (go_at_call 15; refine (empty_any A n hn c W h1).mono ?_; rintro e W2 ⟨rfl, hC2, hk2⟩)
  have H2 := H1.keptX (hk2.mono fun k _ e => hs.ba k e)
  have hkk := hbk.trans (hk2.mono fun k _ e => .inl e)
  clear h1 H1 hO e0 e1 e2 e3 hbk hk2
  go_wp2_with fail
  have hl := H2.len
  have hhd := H2.hand
  have HM0 := H2.m
  have hlp : (c.ss.map pgOf).length = n := by rw [List.length_map]; exact hl
  have hlm : (c.ss.map PS.u).length = n := by rw [List.length_map]; exact hl
  clear H2
  go_loopw [17] (fun v17 wx => ∃ i : Nat, i ≤ n ∧ v17 = .int .i64 i ∧ PlM B wx n (setAll (c.ss.map pgOf) (-1) i) (setAll (c.ss.map PS.u) false i) c.hand c.retry c.h c.m c.t c.l ds c.d c.mx ∧ Keeps B.S W2 wx) (fun v17 _ => n - (intOf v17).toNat)
  case atStart => exact ⟨0, Nat.zero_le _, rfl, HM0, Keeps.refl _ _⟩
  case round =>
    clear HM0
    obtain ⟨i, hi, rfl, HM, hkx⟩ := hrel
    obtain ⟨c0, c1, c2, c3, c4, c5, c6, c7, c8, c9⟩ := HM.cells
    by_cases hin2 : i < n
    · have g0 := HM.pgAt i hin2
      have gf := frozen_of_row _ _ i _ _ HM.pgc
      go_upto_region 21 with fail
      have HM2 := HM.setPg i (-1)
      have hk3 := hkx.trans ((keep_cell wr B.gb i (.int .i64 (-1))).mono fun k _ h => .inr (.inl h))
      clear c0 c1 c2 c3 c4 c5 c6 c7 c8 c9 g0 gf HM hkx
      generalize wr.setCell ⟨B.gb, i, none⟩ (.int .i64 (-1)) = W5 at *
      obtain ⟨c0, c1, c2, c3, c4, c5, c6, c7, c8, c9⟩ := HM2.cells
      have k0 := HM2.mkAt i hin2
      have kf := frozen_of_row _ _ i _ _ HM2.mkc
      have HM3 := HM2.setMk i false
      have hk4 := hk3.trans ((keep_cell W5 B.kb i (.bool false)).mono fun k _ h => .inr (.inr (.inl h)))
      have HM4 := Lib.hid HM3
      clear HM2 HM3 hk3
      go_wp2_with fail
      go_roundw
      case rel => exact ⟨i + 1, by omega, by go_num, HM4.out, hk4⟩
      case measure => simp [intOf]; omega
    · obtain rfl : i = n := by omega
      have HCC := Lib.hid (hC2.keptX (hkx.mono fun k _ e => hs.ab k e))
      have HKK := Lib.hid (hkk.trans (hkx.mono fun k _ e => .inr e))
      have HST : Hid (PlSt B wr i (emC c) ds) := by
        refine ⟨?_, fun j hj hf => ?_, (emC_ok c).2.trans hl, hhd⟩
        · show PlM B wr i ((List.replicate c.ss.length q0).map pgOf) ((List.replicate c.ss.length q0).map PS.u) c.hand c.retry c.h c.m c.t c.l ds c.d c.mx
          rw [setAll_all _ _ _ hlp, setAll_all _ _ _ hlm] at HM
          rw [List.map_replicate, List.map_replicate, hl]
          exact HM
        · simp only [emC] at hf
          rw [getD_rep] at hf
          cases hf
      clear HM hkx hkk hC2
      go_wp2_with fail
      go_ret
      exact ⟨rfl, ⟨ds, HCC.out, HST.out⟩, HKK.out⟩
set_option maxRecDepth 100000 in
set_option maxHeartbeats 1000000 in
theorem step_fault {A : Ad} {B : Bd} {n : Nat} (hn : n ≤ 1024) (hs : Sep A B) (c : Ca) (hC : COk c) (K : Nat) (hK : K + 5000 ≤ 100000) (hL : CLim K c) (hi : c.d.img.length ≤ 512) (o : Opr) (ho : o.wf) (hk : ¬ (o.k = 0 ∨ o.k = 1 ∨ o.k = 2 ∨ o.k = 3 ∨ o.k = 4)) (ds : List Dv) (w : World) (h : CaIs A w n c) (H : PlSt B w n c ds) : Calls Try.prog 20 #[.pointer (some ⟨A.b, 0, none⟩), .pointer (some ⟨A.cb, 0, none⟩), .pointer (some ⟨B.pb, 0, none⟩), .agg #[.int .i64 o.k, .int .i64 o.p, .int .i64 o.n, .int .u8 o.x]] w (StPost A B n (fC c (ftD c.d o)) w) := by
  obtain ⟨w1, w2, w3, w4⟩ := ho
  have hba := below_alloc w (.cells #[.int .i64 o.k, .int .i64 o.p, .int .i64 o.n, .int .u8 o.x] 41)
  have hbk : Keeps (fun k => A.S k ∨ B.S k) w (w.alloc (.cells #[.int .i64 o.k, .int .i64 o.p, .int .i64 o.n, .int .u8 o.x] 41)) := Keeps.ofBelow hba (Nat.le_refl _)
  have h1 := h.keep0 hba
  have H1 := H.keep0 hba
  have hO : OpIs (w.alloc (.cells #[.int .i64 o.k, .int .i64 o.p, .int .i64 o.n, .int .u8 o.x] 41)) w.heap.size o := by
    obtain ⟨e0, e1, e2, e3, -, -⟩ := four_cells (MapKept.heap_alloc w (.cells #[.int .i64 o.k, .int .i64 o.p, .int .i64 o.n, .int .u8 o.x] 41)).1
    exact ⟨e0, e1, e2, e3⟩
  have hin := h.inW
  have hinB := H.m.inW
  have hnA : ¬ A.S w.heap.size := fun e => Nat.lt_irrefl _ (hin _ e)
  have hnB : ¬ B.S w.heap.size := fun e => Nat.lt_irrefl _ (hinB _ e)
  clear h H hba
  go_enter Try.func20, Try.ntmps20
  go_upto_region 1 with fail
  generalize w.alloc (.cells #[.int .i64 o.k, .int .i64 o.p, .int .i64 o.n, .int .u8 o.x] 41) = W at *
  obtain ⟨e0, e1, e2, e3⟩ := hO
  have hO : OpIs W w.heap.size o := ⟨e0, e1, e2, e3⟩
  have q0 : (o.k == 0) = false := by simp; omega
  have q1 : (o.k == 1) = false := by simp; omega
  have q2 : (o.k == 2) = false := by simp; omega
  have q3 : (o.k == 3) = false := by simp; omega
  have q4 : (o.k == 4) = false := by simp; omega
  have hft := ftD_ok hL.ok (o := o) ⟨w1, w2, w3, w4⟩
  obtain ⟨m0, hm0, hD⟩ := h1.dsk
  have hF := fault_any A.b A.mb A.ib A.kap m0 c.d hL.ok (by have := hL.mx; omega) o ⟨w1, w2, w3, w4⟩ W hD
  go_upto_region 3 with (go_at_call 31; refine hF.mono ?_; rintro e W2 ⟨rfl, ⟨m2, hm2, hD2⟩, hk2⟩)
  have hC2 := h1.fault hm0 hm2 hD2 hk2
  have hk2A : Keeps A.S W W2 := hk2.mono fun k _ h => .inr (.inr h)
  have H2 := H1.keptX (hk2A.mono fun k _ e => hs.ba k e)
  have hkk := hbk.trans (hk2A.mono fun k _ e => .inl e)
  obtain ⟨f0, f1, f2, f3⟩ := hO.kept hk2A hnA
  obtain ⟨c0, c1, c2, c3, c4, c5, c6, c7, c8, c9⟩ := H2.m.cells
  clear h1 H1 hO e0 e1 e2 e3 hbk hk2 hk2A hF hD hD2
  obtain ⟨m5, hm5, hD5⟩ := H2.m.dsk
  have hF5 := fault_any B.qb B.qm B.qi B.qk m5 c.d hL.ok (by have := hL.mx; omega) o ⟨w1, w2, w3, w4⟩ W2.drew (hD5.keep0 (Below.refl _ _).drew)
  go_region_with (first | (go_at_call 31; refine hF5.mono ?_; rintro e W3 ⟨rfl, ⟨m3, hm3, hD3⟩, hk3⟩))
  all_goals
    have hk23 : Keeps B.S W2 W3 := (((Keeps.refl _ W2).drew).trans hk3).mono fun k _ h => h.elim (fun e => .inr (.inr (.inr (.inr (.inl e))))) (fun e => .inr (.inr (.inr (.inr (.inr e)))))
    have HCC := Lib.hid (hC2.keptX (hk23.mono fun k _ e => hs.ab k e))
    have HKK := Lib.hid (hkk.trans (hk23.mono fun k _ e => .inr e))
    have HST : Hid (PlSt B W3 n (fC c (ftD c.d o)) ds) := ⟨H2.m.setDk (m0 := m5) (mx' := c.mx + 1) hD3 (by omega) (((Keeps.refl _ W2).drew).trans hk3), H2.dat.kept hk23, H2.len, H2.hand⟩
    clear hC2 H2 hkk hk3 hk23 hD3 hD5
    go_wp2_with fail
    go_ret
    exact ⟨rfl, ⟨ds, HCC.out, HST.out⟩, HKK.out⟩
end Go.Proofs.Ytbboljmmpbchgaa

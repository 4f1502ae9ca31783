/- The walk of the law's step. -/
import Derived.Test.YtbboljmmpbchgaaFlt
import Derived.Test.YtbboljmmpbchgaaTrp
import Derived.StillTailTactics
import Derived.Test.YtbboljmmpbchgaaTrp
import Derived.StillTailTactics
import Derived.Test.YtbboljmmpbchgaaTrp
import Derived.StillTailTactics
namespace Go.Proofs.Ytbboljmmpbchgaa
open Go Go.RowKit Go.Calli Go.Dskp Go.Maps
set_option linter.unusedVariables false
set_option linter.unusedSimpArgs false
attribute [local irreducible] wpStill wpAnyH wpAnyS wpList Code.wp
def stC (c : Ca) (o : Opr) : Ca := if o.k = 0 ∨ o.k = 1 then (getC c o.p).c else if o.k = 2 then (spanC c o.p o.n).c else if o.k = 3 then evC c o.p else if o.k = 4 then emC c else fC c (ftD c.d o)
structure Sep (A : Ad) (B : Bd) : Prop where
  ab : ∀ k, B.S k → A.x k
  ba : ∀ k, A.S k → B.x k
def opv (o : Opr) : Value := .agg #[.int .i64 o.k, .int .i64 o.p, .int .i64 o.n, .int .u8 o.x]
def StPost (A : Ad) (B : Bd) (n : Nat) (c : Ca) (w : World) (e : Ending) (w' : World) : Prop := e = .returned (.bool true) ∧ (∃ ds, CaIs A w' n c ∧ PlSt B w' n c ds) ∧ Keeps (fun k => A.S k ∨ B.S k) w w'
/-- The op in its block. -/
structure OpIs (w : World) (b : Nat) (o : Opr) : Prop where
  c0 : w.cell? ⟨b, 0, none⟩ = some (.int .i64 o.k)
  c1 : w.cell? ⟨b, 1, none⟩ = some (.int .i64 o.p)
  c2 : w.cell? ⟨b, 2, none⟩ = some (.int .i64 o.n)
  c3 : w.cell? ⟨b, 3, none⟩ = some (.int .u8 o.x)
theorem OpIs.kept {w w' : World} {b : Nat} {o : Opr} (h : OpIs w b o) {S : Nat → Prop} (hk : Keeps S w w') (hb : ¬ S b) : OpIs w' b o := ⟨hk.cell h.c0 hb, hk.cell h.c1 hb, hk.cell h.c2 hb, hk.cell h.c3 hb⟩
set_option maxRecDepth 100000 in
set_option maxHeartbeats 1000000 in
theorem step_get {A : Ad} {B : Bd} {n : Nat} (hn : n ≤ 1024) (hs : Sep A B) (c : Ca) (hC : COk c) (K : Nat) (hK : K + 5000 ≤ 100000) (hL : CLim K c) (hi : c.d.img.length ≤ 512) (o : Opr) (ho : o.wf) (hk : o.k = 0 ∨ o.k = 1) (ds : List Dv) (w : World) (h : CaIs A w n c) (H : PlSt B w n c ds) : Calls Try.prog 20 #[.pointer (some ⟨A.b, 0, none⟩), .pointer (some ⟨A.cb, 0, none⟩), .pointer (some ⟨B.pb, 0, none⟩), .agg #[.int .i64 o.k, .int .i64 o.p, .int .i64 o.n, .int .u8 o.x]] w (StPost A B n (getC c o.p).c w) := by
  obtain ⟨w1, w2, w3, w4⟩ := ho
  have hba := below_alloc w (.cells #[.int .i64 o.k, .int .i64 o.p, .int .i64 o.n, .int .u8 o.x] 41)
  have hbk : Keeps (fun k => A.S k ∨ B.S k) w (w.alloc (.cells #[.int .i64 o.k, .int .i64 o.p, .int .i64 o.n, .int .u8 o.x] 41)) := Keeps.ofBelow hba (Nat.le_refl _)
  have h1 := h.keep0 hba
  have H1 := H.keep0 hba
  have hO : OpIs (w.alloc (.cells #[.int .i64 o.k, .int .i64 o.p, .int .i64 o.n, .int .u8 o.x] 41)) w.heap.size o := by
    obtain ⟨e0, e1, e2, e3, -, -⟩ := four_cells (MapKept.heap_alloc w (.cells #[.int .i64 o.k, .int .i64 o.p, .int .i64 o.n, .int .u8 o.x] 41)).1
    exact ⟨e0, e1, e2, e3⟩
  have hin := h.inW
  have hinB := H.m.inW
  have hnA : ¬ A.S w.heap.size := fun e => Nat.lt_irrefl _ (hin _ e)
  have hnB : ¬ B.S w.heap.size := fun e => Nat.lt_irrefl _ (hinB _ e)
  clear h H hba
  go_enter Try.func20, Try.ntmps20
  go_upto_region 1 with fail
  generalize w.alloc (.cells #[.int .i64 o.k, .int .i64 o.p, .int .i64 o.n, .int .u8 o.x] 41) = W at *
  obtain ⟨e0, e1, e2, e3⟩ := hO
  have hO : OpIs W w.heap.size o := ⟨e0, e1, e2, e3⟩
  rcases hk with hk | hk
  all_goals rw [hk] at e0
  all_goals
    go_upto_region 7 with (go_at_call 10; refine (get_any A n hn c K (by omega) hC hL o.p w2 W h1).mono ?_; rintro e W2 ⟨bo, bc, rfl, hbc, hC2, hI2, hnew, hk2⟩)
    have HO2 := hO.kept hk2 hnA
    obtain ⟨f0, f1, f2, f3⟩ := HO2
    have H2 := H1.keptX (hk2.mono fun k _ e => hs.ba k e)
    go_upto_region 8 with (go_at_call 28; refine (pget_any hn c hC K (by omega) hL o.p w2 H2).mono ?_; rintro e W3 ⟨xo, xc, ds3, rfl, H3, hI3, hk3⟩)
    have hC3 := hC2.keptX (hk3.mono fun k _ e => hs.ab k e)
    have hws := hbk.size
    have hI23 := hI2.kept hk3 (fun a ha e => by have := hnew a ha; have := hinB _ e; omega)
    have hcv1 := conv_ints (P := Try.prog) hI23 22 5 9 bc rfl rfl rfl
    have hcv2 := conv_ints (P := Try.prog) hI3 22 5 9 xc rfl rfl rfl
    have HC3 := Lib.hid hC3
    have HH3 := Lib.hid H3
    have hkk := (hbk.trans (hk2.mono fun k _ e => .inl e)).trans (hk3.mono fun k _ e => .inr e)
    have HKK := Lib.hid hkk
    clear hC2 H2 hI2 hI3 hI23 hC3 H3 hk2 hk3 hkk h1 H1 e0 e1 e2 e3 f0 f1 f2 f3 hO
    go_wp2_with fail
    go_ret
    exact ⟨rfl, ⟨ds3, HC3.out, HH3.out⟩, HKK.out⟩
set_option maxRecDepth 100000 in
set_option maxHeartbeats 1000000 in
theorem step_span {A : Ad} {B : Bd} {n : Nat} (hn : n ≤ 1024) (hs : Sep A B) (c : Ca) (hC : COk c) (K : Nat) (hK : K + 5000 ≤ 100000) (hL : CLim K c) (hi : c.d.img.length ≤ 512) (o : Opr) (ho : o.wf) (hk : Hid (o.k = 2)) (ds : List Dv) (w : World) (h : CaIs A w n c) (H : PlSt B w n c ds) : Calls Try.prog 20 #[.pointer (some ⟨A.b, 0, none⟩), .pointer (some ⟨A.cb, 0, none⟩), .pointer (some ⟨B.pb, 0, none⟩), .agg #[.int .i64 o.k, .int .i64 o.p, .int .i64 o.n, .int .u8 o.x]] w (StPost A B n (spanC c o.p o.n).c w) := by
  obtain ⟨w1, w2, w3, w4⟩ := ho
  have hba := below_alloc w (.cells #[.int .i64 o.k, .int .i64 o.p, .int .i64 o.n, .int .u8 o.x] 41)
  have hbk : Keeps (fun k => A.S k ∨ B.S k) w (w.alloc (.cells #[.int .i64 o.k, .int .i64 o.p, .int .i64 o.n, .int .u8 o.x] 41)) := Keeps.ofBelow hba (Nat.le_refl _)
  have h1 := h.keep0 hba
  have H1 := H.keep0 hba
  have hO : OpIs (w.alloc (.cells #[.int .i64 o.k, .int .i64 o.p, .int .i64 o.n, .int .u8 o.x] 41)) w.heap.size o := by
    obtain ⟨e0, e1, e2, e3, -, -⟩ := four_cells (MapKept.heap_alloc w (.cells #[.int .i64 o.k, .int .i64 o.p, .int .i64 o.n, .int .u8 o.x] 41)).1
    exact ⟨e0, e1, e2, e3⟩
  have hin := h.inW
  have hinB := H.m.inW
  have hnA : ¬ A.S w.heap.size := fun e => Nat.lt_irrefl _ (hin _ e)
  have hnB : ¬ B.S w.heap.size := fun e => Nat.lt_irrefl _ (hinB _ e)
  clear h H hba
  go_enter Try.func20, Try.ntmps20
  go_upto_region 1 with fail
  generalize w.alloc (.cells #[.int .i64 o.k, .int .i64 o.p, .int .i64 o.n, .int .u8 o.x] 41) = W at *
  obtain ⟨e0, e1, e2, e3⟩ := hO
  have hO : OpIs W w.heap.size o := ⟨e0, e1, e2, e3⟩
  have hk0 := hk.out
  rw [hk0] at e0
  clear hk0
  all_goals
    go_upto_region 11 with (go_at_call 16; refine (span_any A n hn c K hK hC hL hi o.p o.n W h1).mono ?_; rintro e W2 ⟨bo, bc, rfl, hbc, hC2, hI2, hnew, hk2⟩)
    have HO2 := hO.kept hk2 hnA
    obtain ⟨f0, f1, f2, f3⟩ := HO2
    have H2 := H1.keptX (hk2.mono fun k _ e => hs.ba k e)
    go_upto_region 12 with (go_at_call 29; refine (pspan_any hn c K hK hC hL hi o.p o.n H2).mono ?_; rintro e W3 ⟨xo, xc, ds3, rfl, H3, hI3, hk3⟩)
    have hC3 := hC2.keptX (hk3.mono fun k _ e => hs.ab k e)
    have hws := hbk.size
    have hI23 := hI2.kept hk3 (fun a ha e => by have := hnew a ha; have := hinB _ e; omega)
    have hcv1 := conv_ints (P := Try.prog) hI23 22 5 9 bc rfl rfl rfl
    have hcv2 := conv_ints (P := Try.prog) hI3 22 5 9 xc rfl rfl rfl
    have HC3 := Lib.hid hC3
    have HH3 := Lib.hid H3
    have hkk := (hbk.trans (hk2.mono fun k _ e => .inl e)).trans (hk3.mono fun k _ e => .inr e)
    have HKK := Lib.hid hkk
    clear hC2 H2 hI2 hI3 hI23 hC3 H3 hk2 hk3 hkk h1 H1 e0 e1 e2 e3 f0 f1 f2 f3 hO
    go_wp2_with fail
    go_ret
    exact ⟨rfl, ⟨ds3, HC3.out, HH3.out⟩, HKK.out⟩
set_option maxRecDepth 100000 in
set_option maxHeartbeats 1000000 in
theorem step_evict {A : Ad} {B : Bd} {n : Nat} (hn : n ≤ 1024) (hs : Sep A B) (c : Ca) (hC : COk c) (K : Nat) (hK : K + 5000 ≤ 100000) (hL : CLim K c) (hi : c.d.img.length ≤ 512) (o : Opr) (ho : o.wf) (hk : Hid (o.k = 3)) (ds : List Dv) (w : World) (h : CaIs A w n c) (H : PlSt B w n c ds) : Calls Try.prog 20 #[.pointer (some ⟨A.b, 0, none⟩), .pointer (some ⟨A.cb, 0, none⟩), .pointer (some ⟨B.pb, 0, none⟩), .agg #[.int .i64 o.k, .int .i64 o.p, .int .i64 o.n, .int .u8 o.x]] w (StPost A B n (evC c o.p) w) := by
  obtain ⟨w1, w2, w3, w4⟩ := ho
  have hba := below_alloc w (.cells #[.int .i64 o.k, .int .i64 o.p, .int .i64 o.n, .int .u8 o.x] 41)
  have hbk : Keeps (fun k => A.S k ∨ B.S k) w (w.alloc (.cells #[.int .i64 o.k, .int .i64 o.p, .int .i64 o.n, .int .u8 o.x] 41)) := Keeps.ofBelow hba (Nat.le_refl _)
  have h1 := h.keep0 hba
  have H1 := H.keep0 hba
  have hO : OpIs (w.alloc (.cells #[.int .i64 o.k, .int .i64 o.p, .int .i64 o.n, .int .u8 o.x] 41)) w.heap.size o := by
    obtain ⟨e0, e1, e2, e3, -, -⟩ := four_cells (MapKept.heap_alloc w (.cells #[.int .i64 o.k, .int .i64 o.p, .int .i64 o.n, .int .u8 o.x] 41)).1
    exact ⟨e0, e1, e2, e3⟩
  have hin := h.inW
  have hinB := H.m.inW
  have hnA : ¬ A.S w.heap.size := fun e => Nat.lt_irrefl _ (hin _ e)
  have hnB : ¬ B.S w.heap.size := fun e => Nat.lt_irrefl _ (hinB _ e)
  clear h H hba
  go_enter Try.func20, Try.ntmps20
  go_upto_region 1 with fail
  generalize w.alloc (.cells #[.int .i64 o.k, .int .i64 o.p, .int .i64 o.n, .int .u8 o.x] 41) = W at *
  obtain ⟨e0, e1, e2, e3⟩ := hO
  have hO : OpIs W w.heap.size o := ⟨e0, e1, e2, e3⟩
  have hk0 := hk.out
  rw [hk0] at e0
  clear hk0
  go_upto_region 14 with fail
  have hd1 := h1.keep0 (Below.refl _ _).drew
  have Hd1 := H1.keep0 (Below.refl _ _).drew
  have hOd := hO.kept ((Keeps.refl (fun _ => False) W).drew) id
  have hbd := hbk.drew
  clear h1 H1 hO
  go_region_with (first | (go_at_call 14; refine (evict_any A n hn c o.p W.drew hd1).mono ?_; rintro e W2 ⟨rfl, hC2, hk2⟩; have HO2 := hOd.kept hk2 hnA; obtain ⟨f0, f1, f2, f3⟩ := HO2; have H2 := Hd1.keptX (hk2.mono fun k _ e => hs.ba k e)) | (go_at_call 30; refine (pevict_any hn c hC o.p H2).mono ?_; rintro e W3 ⟨rfl, H3, hk3⟩))
  all_goals
    have hC3 := hC2.keptX (hk3.mono fun k _ e => hs.ab k e)
    have HKK := Lib.hid ((hbd.trans (hk2.mono fun k _ e => .inl e)).trans (hk3.mono fun k _ e => .inr e))
    have HC3 := Lib.hid hC3
    have HH3 := Lib.hid H3
    clear hC2 H2 hk2 hk3 hC3 H3 hd1 Hd1 hOd hbd hbk
    go_wp2_with fail
    go_ret
    exact ⟨rfl, ⟨ds, HC3.out, HH3.out⟩, HKK.out⟩
end Go.Proofs.Ytbboljmmpbchgaa

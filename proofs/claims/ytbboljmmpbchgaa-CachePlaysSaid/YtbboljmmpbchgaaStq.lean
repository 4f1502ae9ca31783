/- The law's step, all kinds; the start of CachePlays. -/
import Derived.Test.YtbboljmmpbchgaaSte
import Derived.Test.YtbboljmmpbchgaaNob
namespace Go.Proofs.Ytbboljmmpbchgaa
open Go Go.RowKit Go.Calli Go.Dskp Go.Maps
set_option linter.unusedVariables false
set_option linter.unusedSimpArgs false
attribute [local irreducible] wpStill wpAnyH wpAnyS wpList Code.wp
theorem stC_ok {c : Ca} (hC : COk c) {K : Nat} (hL : CLim K c) (hi : c.d.img.length ≤ 512) {o : Opr} (ho : o.wf) : COk (stC c o) ∧ CLim (K + 600) (stC c o) ∧ (stC c o).ss.length = c.ss.length ∧ (stC c o).d.img = c.d.img := by
  unfold stC
  split
  · have := getC_ok hC o.p ho.2.1
    exact ⟨this.1, (hL.get o.p).mono (by omega), this.2.1, this.2.2.1⟩
  · split
    · have := spanC_ok hC hL hi o.p o.n
      exact ⟨this.1, this.2.1.mono (by omega), this.2.2.1, this.2.2.2.1⟩
    · split
      · refine ⟨(evC_ok hC o.p).1, (hL.ev o.p).mono (by omega), (evC_ok hC o.p).2, ?_⟩
        unfold evC; split <;> rfl
      · split
        · exact ⟨(emC_ok c).1, (hL.ss _).mono (by omega), (emC_ok c).2, rfl⟩
        · have := ftD_ok hL.ok ho
          exact ⟨fC_ok hC _, (hL.fault this.1 this.2.2).mono (by omega), rfl, this.2.1⟩
theorem step_any {A : Ad} {B : Bd} {n : Nat} (hn : n ≤ 1024) (hs : Sep A B) (c : Ca) (hC : COk c) (K : Nat) (hK : K + 5000 ≤ 100000) (hL : CLim K c) (hi : c.d.img.length ≤ 512) (o : Opr) (ho : o.wf) (ds : List Dv) (w : World) (h : CaIs A w n c) (H : PlSt B w n c ds) : Calls Try.prog 20 #[.pointer (some ⟨A.b, 0, none⟩), .pointer (some ⟨A.cb, 0, none⟩), .pointer (some ⟨B.pb, 0, none⟩), .agg #[.int .i64 o.k, .int .i64 o.p, .int .i64 o.n, .int .u8 o.x]] w (StPost A B n (stC c o) w) := by
  unfold stC
  split
  · rename_i hk
    exact step_get hn hs c hC K hK hL hi o ho hk ds w h H
  · split
    · rename_i hk
      exact step_span hn hs c hC K hK hL hi o ho hk ds w h H
    · split
      · rename_i hk
        exact step_evict hn hs c hC K hK hL hi o ho hk ds w h H
      · split
        · rename_i hk
          exact step_empty hn hs c hC K hK hL hi o ho hk ds w h H
        · exact step_fault hn hs c hC K hK hL hi o ho (by omega) ds w h H
set_option maxRecDepth 100000 in
theorem plays_out (ao so : Option Addr) (m cap l scap : Nat) (sl r : Int) (hm : m ≤ maxLen) (hb : 500 < m ∨ (m ≤ 500 ∧ 20 < sl ∧ sl ≤ 1024)) (w : World) : Calls Try.prog 6 #[.slice ao m cap, .int .i64 sl, .int .i64 r, .slice so l scap] w (TruePost w) := by
  have hA := awake_any w
  unfold maxLen at hm
  rcases hb with h1 | ⟨h1, h2, h3⟩
  all_goals
    go_enter Try.func6, Try.ntmps6
    go_wp2_with (go_at_call 7; refine hA.mono ?_; rintro e w' ⟨rfl, hb2⟩)
    all_goals go_ret
    all_goals exact ⟨rfl, hb2⟩
set_option maxRecDepth 100000 in
theorem plays_bad (ao so : Option Addr) (m cap l scap : Nat) (zs : List Int) (sl r : Int) (hm : m ≤ 500) (hb : sl < 1 ∨ 1024 < sl ∨ (1 ≤ sl ∧ sl ≤ 20 ∧ r < 0) ∨ (1 ≤ sl ∧ sl ≤ 20 ∧ 0 ≤ r ∧ 8 < r)) (w : World) (h : Ints .u8 w ao m zs) : Calls Try.prog 6 #[.slice ao m cap, .int .i64 sl, .int .i64 r, .slice so l scap] w (TruePost w) := by
  have hM := made_bad ao m cap zs hm sl r (by omega) w h
  clear h
  rcases hb with h1 | h1 | ⟨h1, h2, h3⟩ | ⟨h1, h2, h3, h4⟩
  all_goals
    go_enter Try.func6, Try.ntmps6
    go_wp2_with (first | (go_at_call 8; refine hM.mono ?_; clear hM; rintro e w1 ⟨rfl, hB1⟩) | (go_at_call 7; refine (awake_any _).mono ?_; rintro e w2 ⟨rfl, hB2⟩))
    go_ret
    exact ⟨rfl, bstep hB1 hB2⟩
end Go.Proofs.Ytbboljmmpbchgaa

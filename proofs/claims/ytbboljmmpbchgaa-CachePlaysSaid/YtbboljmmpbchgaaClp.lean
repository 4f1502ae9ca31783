/- Without faults a cache gives the image: plain laws. -/
import Derived.Test.YtbboljmmpbchgaaSpm
import Derived.Test.YtbboljmmpbchgaaNob
namespace Go.Proofs.Ytbboljmmpbchgaa
open Go Go.RowKit Go.Calli Go.Dskp Go.Maps
set_option linter.unusedVariables false
set_option linter.unusedSimpArgs false
attribute [local irreducible] wpStill wpAnyH wpAnyS wpList Code.wp
theorem bx_zero {a : Int} (h : (Lit.int .u8 a).wf = true) : bx a 0 = a := by
  have := bounds_u8 h
  unfold bx
  show IntKind.u8.wrap ((BitVec.ofInt 8 a ^^^ BitVec.ofInt 8 0).toNat : Nat) = a
  rw [show BitVec.ofInt 8 0 = 0#8 from rfl, BitVec.xor_zero, BitVec.toNat_ofInt, IntKind.wrap_u8]
  omega
/-- Bytes of an image. -/
def seg (img : List Int) (a m : Nat) : List Int := (List.range m).map (fun i => img.getD (a + i) 0)
theorem seg_len (img : List Int) (a m : Nat) : (seg img a m).length = m := by simp [seg]
theorem seg_get (img : List Int) (a m i : Nat) (h : i < m) : (seg img a m)[i]? = some (img.getD (a + i) 0) := by
  simp [seg, h]
theorem seg_part (img : List Int) (p d q : Nat) (h : d + q ≤ 64) : ((pgB img p).drop d).take q = seg img (64 * p + d) q := by
  apply List.ext_getElem?
  intro i
  by_cases hi : i < q
  · rw [seg_get _ _ _ _ hi, List.getElem?_take, if_pos hi, List.getElem?_drop]
    have : (pgB img p)[d + i]? = some (img.getD (64 * p + (d + i)) 0) := by
      simp [pgB, show d + i < 64 by omega]
    rw [this, Nat.add_assoc]
  · rw [List.getElem?_eq_none (by simp; omega), List.getElem?_eq_none (by rw [seg_len]; omega)]
theorem seg_add (img : List Int) (a q m : Nat) (h : q ≤ m) : seg img a q ++ seg img (a + q) (m - q) = seg img a m := by
  apply List.ext_getElem?
  intro i
  by_cases hi : i < q
  · rw [List.getElem?_append_left (by rw [seg_len]; exact hi), seg_get _ _ _ _ hi, seg_get _ _ _ _ (by omega)]
  · by_cases hm : i < m
    · rw [List.getElem?_append_right (by rw [seg_len]; omega), seg_len, seg_get _ _ _ _ (by omega), seg_get _ _ _ _ hm, show a + q + (i - q) = a + i by omega]
    · rw [List.getElem?_eq_none (by rw [List.length_append, seg_len, seg_len]; omega), List.getElem?_eq_none (by rw [seg_len]; omega)]
/-- No faults, and what is in memory is the image's. -/
structure Clean (zs : List Int) (c : Ca) : Prop where
  img : c.d.img = zs
  f : c.d.F = fun _ => none
  ss : AllS (fun q => q.f = true → q.bs = pgB zs q.p.toNat) c.ss
theorem rd_clean {zs : List Int} (hz : ∀ z ∈ zs, (Lit.int .u8 z).wf = true) {d : Dk} (hi : d.img = zs) (hf : d.F = fun _ => none) (p : Int) (ho : ¬ d.out p) : rdE d p = 0 ∧ rdB d p = pgB zs p.toNat ∧ (rdS d p).img = zs ∧ (rdS d p).F = fun _ => none := by
  have ht : d.t p = Flt.zero := by unfold Dk.t; rw [hf]; rfl
  have h0 : (Flt.zero).f = 0 := rfl
  refine ⟨?_, ?_, ?_, ?_⟩
  · unfold rdE; rw [if_neg ho, ht, h0]; rfl
  · unfold rdB; rw [if_neg ho, ht, h0, hi]
    show (pgB zs p.toNat).set 0 (bx ((pgB zs p.toNat).getD 0 0) 0) = _
    rw [bx_zero (getD_wf (pgB_wf hz _) (by decide) _)]
    apply List.ext_getElem?
    intro i
    rw [List.getElem?_set]
    split
    · rename_i h
      subst h
      simp [pgB]
    · rfl
  · rw [(rdS_r d p).2, hi]
  · unfold rdS; rw [if_neg ho, ht, h0]; exact hf
theorem page_clean {zs : List Int} (hz : ∀ z ∈ zs, (Lit.int .u8 z).wf = true) {c : Ca} (h : Clean zs c) (p : Int) (ho : ¬ c.d.out p) : (pageC c p).e = 0 ∧ (pageC c p).b = pgB zs p.toNat ∧ Clean zs (pageC c p).c := by
  obtain ⟨r1, r2, r3, r4⟩ := rd_clean hz h.img h.f p ho
  have htry : tryD p (c.retry.toNat + 1) c.d 8 = ⟨0, rdB c.d p, rdS c.d p, 1⟩ := by simp only [tryD]; rw [if_pos r1]
  unfold pageC
  split
  · rename_i h0
    rcases findP_bd c.ss p c.ss.length 0 with e | ⟨e1, e2, e3, e4⟩
    · omega
    · have := h.ss (findP c.ss p c.ss.length 0).toNat (by omega)
      refine ⟨rfl, by rw [this e3, e4], h.img, h.f, AllS.set h.ss _ ?_⟩
      exact this
  · rw [htry, if_pos rfl]
    refine ⟨rfl, r2, r3, r4, AllS.set (AllS.vic (fun q hq => hq) _ _ _ _ h.ss) _ (fun _ => r2)⟩
theorem spanL_clean {zs : List Int} (hz : ∀ z ∈ zs, (Lit.int .u8 z).wf = true) : ∀ (k : Nat) (c : Ca) (a m : Nat) (out : List Int), m ≤ k → Clean zs c → a + m ≤ c.d.pages * 64 → (spanL k c a m out).e = 0 ∧ (spanL k c a m out).b = out ++ seg zs a m ∧ Clean zs (spanL k c a m out).c := by
  intro k
  induction k with
  | zero =>
    intro c a m out hm h hb
    obtain rfl : m = 0 := by omega
    exact ⟨rfl, by simp [spanL, seg], h⟩
  | succ k ih =>
    intro c a m out hm h hb
    simp only [spanL]
    by_cases h0 : m = 0
    · subst h0
      rw [if_pos rfl]
      exact ⟨rfl, by simp [seg], h⟩
    · rw [if_neg h0]
      obtain ⟨p1, p2, p3⟩ := page_clean hz h ((a / 64 : Nat) : Int) (by unfold Dk.out; omega)
      rw [if_neg (by rw [p1]; exact fun h => h rfl)]
      have hpg : (pageC c ((a / 64 : Nat) : Int)).c.d.pages = c.d.pages := by unfold Dk.pages; rw [p3.img, h.img]
      obtain ⟨i1, i2, i3⟩ := ih (pageC c ((a / 64 : Nat) : Int)).c (a + min (64 - a % 64) m) (m - min (64 - a % 64) m) (out ++ (((pageC c ((a / 64 : Nat) : Int)).b.drop (a % 64)).take m)) (by omega) p3 (by rw [hpg]; omega)
      refine ⟨i1, ?_, i3⟩
      rw [i2, p2, Int.toNat_natCast]
      have e1 : ((pgB zs (a / 64)).drop (a % 64)).take m = seg zs a (min (64 - a % 64) m) := by
        rw [show ((pgB zs (a / 64)).drop (a % 64)).take m = ((pgB zs (a / 64)).drop (a % 64)).take (min (64 - a % 64) m) by
          have hl : ((pgB zs (a / 64)).drop (a % 64)).length = 64 - a % 64 := by rw [List.length_drop, pgB_len]
          by_cases hmm : m ≤ 64 - a % 64
          · rw [show min (64 - a % 64) m = m by omega]
          · rw [List.take_of_length_le (by omega), List.take_of_length_le (by omega)]]
        rw [seg_part _ _ _ _ (by omega), show 64 * (a / 64) + a % 64 = a by omega]
      rw [e1, List.append_assoc, seg_add _ _ _ _ (by omega)]
theorem new_clean (zs : List Int) (n : Nat) (r : Int) : Clean zs (newC zs n r) := ⟨rfl, rfl, fun i hi => by
  show ((List.replicate n q0).getD i q0).f = true → _
  rw [getD_rep]
  intro h; cases h⟩
theorem ev_clean {zs : List Int} {c : Ca} (h : Clean zs c) (p : Int) : Clean zs (evC c p) := by
  unfold evC
  split
  · exact ⟨h.img, h.f, h.ss.set _ (fun h => by cases h)⟩
  · exact h
theorem em_clean {zs : List Int} {c : Ca} (h : Clean zs c) : Clean zs (emC c) := ⟨h.img, h.f, fun i hi => by
  simp only [emC]
  rw [getD_rep]
  intro h; cases h⟩
theorem span_clean {zs : List Int} (hz : ∀ z ∈ zs, (Lit.int .u8 z).wf = true) {c : Ca} (h : Clean zs c) (a m : Int) : Clean zs (spanC c a m).c := by
  unfold spanC
  split
  · exact h
  · exact (spanL_clean hz _ c _ _ [] (Nat.le_refl _) h (by omega)).2.2
theorem span_any (A : Ad) (n : Nat) (hn1 : n ≤ 1024) (c : Ca) (K : Nat) (hK : K + 5000 ≤ 100000) (hC : COk c) (hL : CLim K c) (hi : c.d.img.length ≤ 512) (a m : Int) (w : World) (h : CaIs A w n c) : Calls Try.prog 16 #[.pointer (some ⟨A.cb, 0, none⟩), .int .i64 a, .int .i64 m] w (GtPost A n (spanC c a m) w) := by
  unfold spanC
  split
  · exact span_bad A n c hL.ok a m (by omega) w h
  · obtain ⟨x, rfl⟩ : ∃ x : Nat, a = x := ⟨a.toNat, by omega⟩
    obtain ⟨y, rfl⟩ : ∃ y : Nat, m = y := ⟨m.toNat, by omega⟩
    rw [Int.toNat_natCast, Int.toNat_natCast]
    exact span_good A n hn1 c K hK hC hL hi x y (by omega) (by omega) w h
theorem spanC_ok {c : Ca} (hC : COk c) {K : Nat} (hL : CLim K c) (hi : c.d.img.length ≤ 512) (a m : Int) : COk (spanC c a m).c ∧ CLim (K + 512) (spanC c a m).c ∧ (spanC c a m).c.ss.length = c.ss.length ∧ (spanC c a m).c.d.img = c.d.img ∧ (spanC c a m).c.retry = c.retry := by
  unfold spanC
  split
  · exact ⟨hC, hL.mono (by omega), rfl, rfl, rfl⟩
  · have hp : (c.d.pages : Int) ≤ 8 := by unfold Dk.pages; omega
    have := spanL_ok m.toNat c a.toNat m.toNat [] K (by omega) hC hL
    exact ⟨this.1, this.2.1.mono (by omega), this.2.2⟩
end Go.Proofs.Ytbboljmmpbchgaa

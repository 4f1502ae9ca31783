/- The walk of cache's try. -/
import Derived.Test.YtbboljmmpbchgaaVic
namespace Go.Proofs.Ytbboljmmpbchgaa
open Go Go.RowKit Go.Calli Go.Dskp Go.Maps
set_option linter.unusedVariables false
set_option linter.unusedSimpArgs false
attribute [local irreducible] wpStill wpAnyH wpAnyS wpList Code.wp
/-- What tries come to: the error, the bytes, the disk behind, how many there were. -/
structure TR where
  e : Int
  b : List Int
  d : Dk
  n : Int
def tryD (p : Int) : Nat → Dk → Int → TR
  | 0, d, e => ⟨e, [], d, 0⟩
  | k + 1, d, _ => if rdE d p = 0 then ⟨0, rdB d p, rdS d p, 1⟩ else ⟨(tryD p k (rdS d p) (rdE d p)).e, (tryD p k (rdS d p) (rdE d p)).b, (tryD p k (rdS d p) (rdE d p)).d, (tryD p k (rdS d p) (rdE d p)).n + 1⟩
theorem rdS_r (d : Dk) (p : Int) : (rdS d p).r ≤ d.r + 1 ∧ (rdS d p).img = d.img := by
  unfold rdS
  split
  · exact ⟨by omega, rfl⟩
  · split <;> exact ⟨Int.le_refl _, rfl⟩
/-- The cache's row, all but the tries. -/
def TRow (w : World) (cb : Nat) (v0 v1 v3 v5 v6 : Value) (b : Nat) (retry t : Int) : Prop := w.heap[cb]? = some (.cells #[v0, v1, .int .i64 t, v3, .pointer (some ⟨b, 0, none⟩), v5, v6, .int .i64 retry] 47 (0, 0))
def TryPost (cb : Nat) (v0 v1 v3 v5 v6 : Value) (b mb : Nat) (ib : Option Addr) (kap m : Nat) (retry t : Int) (R : TR) (w : World) (e : Ending) (w' : World) : Prop := ∃ ro rc, e = .returned (.tuple #[.slice ro R.b.length rc, .int .i64 R.e]) ∧ R.b.length ≤ rc ∧ TRow w' cb v0 v1 v3 v5 v6 b retry (t + R.n) ∧ (∃ m', m' ≤ m + 9 ∧ Dsk w' b mb ib kap m' R.d) ∧ Ints .u8 w' ro R.b.length R.b ∧ (∀ a, ro = some a → w.heap.size ≤ a.block) ∧ Keeps (fun k => k = cb ∨ k = b ∨ k = mb) w w'
theorem TRow.put {w : World} {cb : Nat} {v0 v1 v3 v5 v6 : Value} {b : Nat} {retry t : Int} (h : TRow w cb v0 v1 v3 v5 v6 b retry t) (t' : Int) : TRow (w.setCell ⟨cb, 2, none⟩ (.int .i64 t')) cb v0 v1 v3 v5 v6 b retry t' := heap_setCell_same _ _ _ _ _ _ h
set_option maxHeartbeats 1000000 in
theorem try_any (cb : Nat) (v0 v1 v3 v5 v6 : Value) (b mb : Nat) (ib : Option Addr) (kap m : Nat) (retry t : Int) (d : Dk) (page : Int) (hre : 0 ≤ retry ∧ retry ≤ 8) (ht : 0 ≤ t ∧ t ≤ 1000000) (hd : d.Ok) (hm : m ≤ 1000000) (hr : d.r ≤ 1000000) (hwp : (Lit.int .i64 page).wf = true) (hcb : b ≠ cb ∧ mb ≠ cb ∧ ∀ a, ib = some a → a.block ≠ cb) (w : World) (h : TRow w cb v0 v1 v3 v5 v6 b retry t) (hD : Dsk w b mb ib kap m d) :
    Calls Try.prog 32 #[.pointer (some ⟨cb, 0, none⟩), .int .i64 page] w (TryPost cb v0 v1 v3 v5 v6 b mb ib kap m retry t (tryD page (retry.toNat + 1) d 8) w) := by
  obtain ⟨N, rfl⟩ : ∃ N : Nat, retry = N := ⟨retry.toNat, by omega⟩
  have hN8 : N ≤ 8 := by omega
  rw [Int.toNat_natCast]
  obtain ⟨c0, c1, c2, c3, c4, c5, c6, c7⟩ := eight_cells h
  go_enter Try.func32, Try.ntmps32
  go_wp2_with fail
  go_loopw [6, 13] (fun v6' v13 wr => ∃ (i : Nat) (d' : Dk) (m' : Nat) (e' : Int), i ≤ N + 1 ∧ v13 = .int .i64 i ∧ v6' = .int .i64 e' ∧ Hid ((tryD page (N + 1) d 8).e = (tryD page (N + 1 - i) d' e').e ∧ (tryD page (N + 1) d 8).b = (tryD page (N + 1 - i) d' e').b ∧ (tryD page (N + 1) d 8).d = (tryD page (N + 1 - i) d' e').d ∧ (tryD page (N + 1) d 8).n = i + (tryD page (N + 1 - i) d' e').n) ∧ TRow wr cb v0 v1 v3 v5 v6 b N (t + i) ∧ Dsk wr b mb ib kap m' d' ∧ d'.Ok ∧ d'.r ≤ d.r + i ∧ m' ≤ m + i ∧ Keeps (fun k => k = cb ∨ k = b ∨ k = mb) w wr) (fun _ v13 _ => (N + 1 - (intOf v13).toNat))
  case atStart => exact ⟨0, d, m, 8, by omega, rfl, rfl, ⟨rfl, rfl, rfl, by simp⟩, by simpa using h, hD, hd, by omega, by omega, Keeps.refl _ _⟩
  case round =>
    clear c0 c1 c2 c3 c4 c5 c6 c7
    obtain ⟨i, d', m', e', hi, rfl, rfl, hE, hR, hDD, hok, hrr, hmm, hK⟩ := hrel
    by_cases hlt : i < N + 1
    · obtain ⟨k, hk⟩ : ∃ k, N + 1 - i = k + 1 := ⟨N - i, by omega⟩
      have hk2 : N + 1 - (i + 1) = k := by omega
      rw [hk] at hE
      obtain ⟨c0, c1, c2, c3, c4, c5, c6, c7⟩ := eight_cells hR
      have cf := frozen_of_row _ _ 2 _ _ hR
      have hw1 : IntKind.i64.wrap (t + i + 1) = t + i + 1 := IntWalk.i64_in _ (by omega)
      go_upto_region 6 with fail
      have hR1 := hR.put (t + i + 1)
      have hk1 : Keeps (fun k => k = cb) wr (wr.setCell ⟨cb, 2, none⟩ (.int .i64 (t + i + 1))) := (Keeps.refl (fun k => k = cb) wr).setCell (p := ⟨cb, 2, none⟩) (.inr rfl) _
      have hD1 := hDD.kept hk1 hcb.1 hcb.2.1 hcb.2.2
      have hK1 : Keeps (fun k => k = cb ∨ k = b ∨ k = mb) w (wr.setCell ⟨cb, 2, none⟩ (.int .i64 (t + i + 1))) := hK.trans (hk1.mono fun k _ h => .inl h)
      clear c0 c1 c2 c3 c4 c5 c6 c7 cf hR hDD hk1 hK
      generalize wr.setCell ⟨cb, 2, none⟩ (.int .i64 (t + i + 1)) = W1 at *
      obtain ⟨c0, c1, c2, c3, c4, c5, c6, c7⟩ := eight_cells hR1
      have hRd := read_any b mb ib kap m' d' hok (by omega) (by omega) page hwp W1 hD1
      unfold RdPost at hRd
      have hstep : tryD page (k + 1) d' e' = if rdE d' page = 0 then ⟨0, rdB d' page, rdS d' page, 1⟩ else ⟨(tryD page k (rdS d' page) (rdE d' page)).e, (tryD page k (rdS d' page) (rdE d' page)).b, (tryD page k (rdS d' page) (rdE d' page)).d, (tryD page k (rdS d' page) (rdE d' page)).n + 1⟩ := rfl
      have hok2 := rdS_ok hok page
      have hr2 := (rdS_r d' page).1
      generalize rdE d' page = E at *
      generalize rdB d' page = BB at *
      generalize rdS d' page = DD at *
      have hs1 := hK1.size
      by_cases h0 : E = 0
      · subst h0
        rw [if_pos rfl] at hstep
        rw [hstep] at hE
        have HE := Lib.hid hE.out
        clear hE hstep
        go_wp2_with (go_at_call 38; refine hRd.mono ?_; clear hRd; rintro e w2 ⟨ro, rc, rfl, hrc, ⟨m2, hm2, hD2⟩, hI, hnew, hk2'⟩)
        go_ret2
        have hK2 : Keeps (fun k => k = cb ∨ k = b ∨ k = mb) w w2 := hK1.trans (hk2'.mono fun k _ h => .inr h)
        have hR2 : TRow w2 cb v0 v1 v3 v5 v6 b N (t + i + 1) := hk2'.heap hR1 (by have := hcb.1; have := hcb.2.1; omega)
        obtain ⟨e1, e2, e3, e4⟩ := HE.out
        exact ⟨ro, rc, by rw [e1, e2] <;> rfl, by rw [e2]; exact hrc, by rw [e4, show t + ((i : Int) + 1) = t + i + 1 by omega]; exact hR2, ⟨m2, by omega, by rw [e3]; exact hD2⟩, by rw [e2]; exact hI, fun a ha => Nat.le_trans hs1 (hnew a ha), hK2⟩
      · rw [if_neg h0] at hstep
        rw [hstep] at hE
        have HE := Lib.hid hE.out
        have hEb : (E == 0) = false := by simpa using h0
        clear hE hstep
        go_wp2_with (go_at_call 38; refine hRd.mono ?_; clear hRd; rintro e w2 ⟨ro, rc, rfl, hrc, ⟨m2, hm2, hD2⟩, hI, hnew, hk2'⟩)
        have hK2 : Keeps (fun k => k = cb ∨ k = b ∨ k = mb) w w2 := hK1.trans (hk2'.mono fun k _ h => .inr h)
        have hR2 : TRow w2 cb v0 v1 v3 v5 v6 b N (t + i + 1) := hk2'.heap hR1 (by have := hcb.1; have := hcb.2.1; omega)
        obtain ⟨e1, e2, e3, e4⟩ := HE.out
        go_roundw
        case rel => exact ⟨i + 1, DD, m2, E, by omega, by go_num, rfl, by rw [hk2]; exact ⟨e1, e2, e3, by omega⟩, by rw [show t + ((i + 1 : Nat) : Int) = t + i + 1 by omega]; exact hR2, hD2, hok2, by omega, by omega, hK2⟩
        case measure => simp [intOf]; omega
    · obtain rfl : i = N + 1 := by omega
      rw [Nat.sub_self, show tryD page 0 d' e' = ⟨e', [], d', 0⟩ from rfl] at hE
      obtain ⟨e1, e2, e3, e4⟩ := hE.out
      have HE := Lib.hid (show (tryD page (N + 1) d 8).e = e' ∧ (tryD page (N + 1) d 8).b = [] ∧ (tryD page (N + 1) d 8).d = d' ∧ (tryD page (N + 1) d 8).n = ((N + 1 : Nat) : Int) from ⟨e1, e2, e3, by rw [e4]; simp⟩)
      clear hE e1 e2 e3 e4
      go_wp2_with fail
      go_ret2
      obtain ⟨e1, e2, e3, e4⟩ := HE.out
      exact ⟨none, 0, by rw [e1, e2] <;> rfl, by rw [e2]; exact Nat.le_refl _, by rw [e4]; exact hR, ⟨m', by omega, by rw [e3]; exact hDD⟩, by rw [e2]; exact Ints.nil _ _ _, fun a ha => (by cases ha), hK⟩
end Go.Proofs.Ytbboljmmpbchgaa

/- The statement DiskClean. -/
import Derived.Test.YtagaljjiiinjmaaNob
namespace Go.Proofs.Ytagaljjiiinjmaa
open Go Go.RowKit Go.Calli Go.Dskp Go.Maps
set_option linter.unusedVariables false
set_option linter.unusedSimpArgs false
attribute [local irreducible] wpStill wpAnyH wpAnyS wpList Code.wp
theorem pgB_at (img : List Int) (p q : Nat) (h : q < 64) : (pgB img p).getD q 0 = img.getD (64 * p + q) 0 := by
  simp [pgB, h]
theorem put_other (F : Int → Option Flt) {p q : Int} (v : Option Flt) (h : q ≠ p) : put F p v q = F q := by unfold put; rw [if_neg h]
theorem flS_other {s : Dk} {p q n : Int} (h : q ≠ p) : (flS s p n).F q = s.F q := by unfold flS; split; rfl; exact put_other _ _ h
theorem spS_other {s : Dk} {p q n x : Int} (h : q ≠ p) : (spS s p n x).F q = s.F q := by unfold spS; split; rfl; split; rfl; exact put_other _ _ h
theorem flS_img (s : Dk) (p n : Int) : (flS s p n).img = s.img ∧ (flS s p n).r = s.r := by unfold flS; split <;> exact ⟨rfl, rfl⟩
theorem spS_img (s : Dk) (p n x : Int) : (spS s p n x).img = s.img ∧ (spS s p n x).r = s.r := by unfold spS; split; exact ⟨rfl, rfl⟩; split <;> exact ⟨rfl, rfl⟩
theorem bx_zero {a : Int} (h : (Lit.int .u8 a).wf = true) : bx a 0 = a := by
  have := bounds_u8 h
  unfold bx
  show IntKind.u8.wrap ((BitVec.ofInt 8 a ^^^ BitVec.ofInt 8 0).toNat : Nat) = a
  rw [show BitVec.ofInt 8 0 = 0#8 from rfl, BitVec.xor_zero, BitVec.toNat_ofInt, IntKind.wrap_u8]
  omega
/-- What is in memory behind 'Fail' and 'Spoil' of another page. -/
def CleanRel (b mb : Nat) (ib : Option Addr) (kap : Nat) (zs : List Int) (page : Int) (w wx : World) : Prop := ∃ m s, m ≤ 2 ∧ s.Ok ∧ s.r = 0 ∧ s.img = zs ∧ s.F page = none ∧ Dsk wx b mb ib kap m s ∧ Below w.heap.size w wx
set_option maxRecDepth 100000 in
set_option maxHeartbeats 1000000 in
theorem clean_any (ao : Option Addr) (n0 cap : Nat) (zs0 : List Int) (hc0 : n0 ≤ cap) (page other n : Int) (hwp : (Lit.int .i64 page).wf = true) (hwo : (Lit.int .i64 other).wf = true) (hwn : (Lit.int .i64 n).wf = true) (w : World) (h0 : Ints .u8 w ao n0 zs0) : Calls Try.prog 3 #[.slice ao n0 cap, .int .i64 page, .int .i64 other, .int .i64 n] w (TruePost w) := by
  have hlim := h0.lim
  unfold maxLen at hlim
  go_enter Try.func3, Try.ntmps3
  go_upto_if 17 with fail
  go_cut [0] (fun v wx => ∃ k, v = .slice ao k cap ∧ Hid (k = min n0 500) ∧ w = wx)
  case first =>
    by_cases hgt : 500 < n0
    · obtain ⟨a, rfl, -⟩ := h0.some (by omega)
      go_wp2_with fail
      all_goals go_meet
      all_goals exact ⟨500, rfl, by unfold Hid; omega, rfl⟩
    · go_wp2_with fail
      go_meet
      exact ⟨n0, rfl, by unfold Hid; omega, rfl⟩
  case rest =>
  obtain ⟨k, rfl, hn0, rfl⟩ := hcut
  have hk : k ≤ 500 := by have := hn0.out; omega
  have hI : Ints .u8 w ao k (zs0.take k) := h0.take (by have := hn0.out; omega)
  generalize zs0.take k = zs at hI
  clear h0 hn0 hc0 hlim
  have hl := hI.hlen
  subst hl
  have hN := new_any ao _ cap zs hk w hI
  go_upto_if 33 with (go_at_call 6; refine hN.mono ?_; rintro e w2 ⟨b, mb, ib, kap, rfl, hD, hb, hmb, hib, hB⟩)
  have hO : Dk.Ok ⟨zs, fun _ => none, 0, 0⟩ := ⟨by show zs.length ≤ _; omega, Int.le_refl 0, Int.le_refl 0, Int.le_refl 0, by rintro k t ⟨⟩⟩
  have hn1 : n ≤ 9223372036854775807 := by have := bounds_i64 hwn; omega
  go_cut [] (fun wx => CleanRel b mb ib kap zs page w wx)
  case first =>
    by_cases hop : other = page
    · subst hop
      go_wp2_with fail
      go_meet
      exact ⟨0, _, by omega, hO, rfl, rfl, rfl, hD, hB⟩
    · have hne : (other != page) = true := by simpa using hop
      rw [hne]
      go_upto_region 8 with (go_at_call 7; refine (fail_any b mb ib kap 0 _ hO (by omega) other n hwo w2 hD).mono ?_; rintro e w3 ⟨rfl, ⟨m3, hm3, hD3⟩, hk3⟩)
      go_wp2_with (go_at_call 8; refine (spoil_any b mb ib kap m3 _ (flS_ok hO _ _ hn1) (by omega) other n 255 hwo w3 hD3).mono ?_; rintro e w4 ⟨rfl, ⟨m4, hm4, hD4⟩, hk4⟩)
      go_meet
      have hBB : Below w.heap.size w2 w4 := (hk3.trans hk4).toBelow hB.size (fun k hk hk2 => by rcases hk2 with rfl | rfl <;> omega)
      have hpo : page ≠ other := fun e => hop e.symm
      exact ⟨m4, _, by omega, spS_ok (flS_ok hO _ _ hn1) _ _ _ (by decide) (by decide), by rw [(spS_img _ _ _ _).2, (flS_img _ _ _).2], by rw [(spS_img _ _ _ _).1, (flS_img _ _ _).1], by rw [spS_other hpo, flS_other hpo], hD4, hB.trans hBB⟩
  case rest =>
  obtain ⟨m, s, hm, hsO, hsr, rfl, hsF, hDs, hBx⟩ := hcut
  have hst : s.t page = Flt.zero := by unfold Dk.t; rw [hsF]; rfl
  have hRD := read_any b mb ib kap m s hsO (by omega) (by omega) page hwp wc hDs
  have hIx := hI.keep0 hBx
  clear hN hO hD hB
  by_cases ho : s.out page
  · have e1 : rdE s page = 5 := if_pos ho
    have e2 : rdB s page = [] := if_pos ho
    unfold RdPost at hRD
    rw [e1, e2] at hRD
    have hpc : page < 0 ∨ (((s.img.length : Int) + 63) / 64 ≤ page) := by
      unfold Dk.out Dk.pages at ho
      omega
    clear e1 e2 ho
    rcases hpc with hpc | hpc
    all_goals
      go_upto_region 10 with (go_at_call 9; refine hRD.mono ?_; rintro e w5 ⟨ro, rc, rfl, hrc, -, -, -, hk5⟩)
      have hA := awake_any w5
      have hBB : Below w.heap.size wc w5 := hk5.toBelow hBx.size (fun k hk hk2 => by rcases hk2 with rfl | rfl <;> omega)
      go_wp2_with (go_at_call 10; refine hA.mono ?_; rintro e w6 ⟨rfl, hb6⟩)
      go_ret
      exact ⟨rfl, bstep (hBx.trans hBB) hb6⟩
  · obtain ⟨p, rfl⟩ : ∃ p : Nat, page = (p : Int) := ⟨page.toNat, by unfold Dk.out at ho; omega⟩
    have e1 : rdE s p = 0 := by unfold rdE; rw [if_neg ho, hst]; rfl
    have e2 : rdB s p = pgB s.img p := by
      unfold rdB
      rw [if_neg ho, hst, if_neg (by decide)]
      show (pgB s.img p).set 0 (bx ((pgB s.img p).getD 0 0) 0) = _
      rw [bx_zero (getD_wf (pgB_wf hI.wf p) (by decide) 0)]
      apply List.ext_getElem
      · simp
      · intro i h1 h2
        rw [List.getElem_set]
        split
        · rename_i h3; subst h3; simp [List.getD_eq_getElem?_getD, h2]
        · rfl
    unfold RdPost at hRD
    rw [e1, e2] at hRD
    have hp1 : 64 * p < s.img.length := by unfold Dk.out Dk.pages at ho; omega
    clear e1 e2
    have hpp : ¬ (((s.img.length : Int) + 63) / 64 ≤ (p : Int)) := by omega
    go_upto_region 10 with (go_at_call 9; refine hRD.mono ?_; rintro e w5 ⟨ro, rc, rfl, hrc, -, hPg, -, hk5⟩)
    have hBB : Below w.heap.size wc w5 := hk5.toBelow hBx.size (fun k hk hk2 => by rcases hk2 with rfl | rfl <;> omega)
    have hI5 := hI.keep0 (hBx.trans hBB)
    rw [pgB_len] at hPg hrc
    rw [pgB_len]
    have hp8 : p < 8 := by omega
    obtain ⟨pa, rfl, -⟩ := hPg.some (by omega)
    obtain ⟨ia, rfl, -⟩ := hI5.some (by omega)
    go_wp2_with fail
    go_loopw [13, 14] (fun v13 v14 wr => ∃ q : Nat, q ≤ 64 ∧ v13 = .int .i64 q ∧ Below w5.heap.size w5 wr) (fun v13 _ _ => (64 - (intOf v13).toNat))
    case atStart => exact ⟨0, by omega, rfl, Below.refl _ _⟩
    case round =>
      obtain ⟨q, hq, rfl, hbq⟩ := hrel
      by_cases hq64 : q < 64
      · obtain ⟨pa', ha', hc⟩ := (hPg.keep0 hbq).cell q hq64
        cases ha'
        rw [pgB_at _ _ _ hq64] at hc
        by_cases hin : 64 * p + q < s.img.length
        · obtain ⟨ia', ha', hci⟩ := (hI5.keep0 hbq).cell (64 * p + q) hin
          cases ha'
          generalize s.img.getD (64 * p + q) 0 = X at hc hci
          go_wp2_with fail
          go_roundw
          case rel => exact ⟨q + 1, by omega, by go_num, hbq⟩
          case measure => simp [intOf]; omega
        · have hX : s.img.getD (64 * p + q) 0 = 0 := by rw [List.getD_eq_getElem?_getD, List.getElem?_eq_none (by omega)]; rfl
          rw [hX] at hc
          clear hX
          go_wp2_with fail
          go_roundw
          case rel => exact ⟨q + 1, by omega, by go_num, hbq⟩
          case measure => simp [intOf]; omega
      · obtain rfl : q = 64 := by omega
        have hA := awake_any wr
        go_wp2_with (go_at_call 10; refine hA.mono ?_; rintro e w6 ⟨rfl, hb6⟩)
        go_ret
        exact ⟨rfl, bstep (hBx.trans hBB) (bstep hbq hb6)⟩
end Go.Proofs.Ytagaljjiiinjmaa

/- The walk of the reader's number. -/
import Derived.Test.YtmhlmaimmbopfaaRdr
import Derived.Laws.BitsLemmas
namespace Go.Proofs.Ytmhlmaimmbopfaa
open Go Go.RowKit Go.Calli
set_option linter.unusedVariables false
theorem or7 (x y : Int) (h0 : 0 ≤ x) (h1 : x < 1099511627776) (h2 : x % 128 = 0) (h3 : 0 ≤ y) (h4 : y < 128) : bits .or .i64 x y = x + y :=
  bits_join .i64 40 (by decide) (fun n h h' => IntWalk.i64_in _ (by omega)) 7 x y h0 (by simpa using h2) (by simpa using h1) h3 (by simpa using h4) (by omega)
theorem pow128 {v i : Nat} (h : v < 128 ^ i) (hi : i ≤ 4) : v < 268435456 := Nat.lt_of_lt_of_le h (Nat.le_trans (Nat.pow_le_pow_right (by decide) hi) (by decide))
theorem pow128_step {v i c : Nat} (h : v < 128 ^ i) (hc : c < 128) : v * 128 + c < 128 ^ (i + 1) := by
  rw [Nat.pow_succ]; omega
def NumRel2 (b : Nat) (ao : Option Addr) (n cap : Nat) (bs : List Int) (p0 : Nat) (t s : Int) (w : World) (v3 v4 : Value) (wr : World) : Prop :=
  ∃ i v p : Nat, i ≤ 4 ∧ v4 = .int .i64 i ∧ v3 = .int .i64 v ∧ v < 128 ^ i ∧ p ≤ n ∧ Rd wr b (.slice ao n cap) p t s 0 ∧ Keeps (fun k => k = b) w wr ∧ rdN i v (bs.drop p) = rdN 0 0 (bs.drop p0)
set_option maxRecDepth 100000 in
set_option maxHeartbeats 2000000 in
theorem num_any (b : Nat) (ao : Option Addr) (n cap : Nat) (bs : List Int) (p0 : Nat) (hp0 : p0 ≤ n) (hn : n ≤ 1000000) (t s : Int) (hab : ∀ a, ao = some a → a.block ≠ b) (w : World) (hi : Ints .u8 w ao n bs) (h : Rd w b (.slice ao n cap) p0 t s 0) : Calls Try.prog 22 #[.pointer (some ⟨b, 0, none⟩)] w (StepPost b ao n cap (rdN 0 0 (bs.drop p0)).1 ((rdN 0 0 (bs.drop p0)).2.1 : Int) (rdN 0 0 (bs.drop p0)).2.2 t s w) := by
  have hbl := Lib.hid hi.hlen
  generalize hres : rdN 0 0 (bs.drop p0) = res
  have HRES := Lib.hid hres
  clear hres
  have HI := Lib.hid hi
  clear hi
  go_enter Try.func22, Try.ntmps22
  go_wp2_with fail
  go_loopw [3, 4, 5] (fun v3 v4 v5 wr => NumRel2 b ao n cap bs p0 t s w v3 v4 wr) (fun _ v4 _ _ => (5 - (intOf v4).toNat))
  case atStart => exact ⟨0, 0, p0, by omega, rfl, rfl, by decide, hp0, h, Keeps.refl _ _, rfl⟩
  case round =>
    clear h
    obtain ⟨i, v, p, hi4, rfl, rfl, hv, hp, hR, hk, hr⟩ := hrel
    rw [HRES.out] at hr
    have hv28 := pow128 hv hi4
    have HV := Lib.hid hv
    clear hv
    by_cases hlt : p < n
    · obtain ⟨a, rfl, -⟩ := HI.out.some (by omega)
      have hiw := HI.out.kept hk (fun a' ha' => hab a' ha')
      have hB := Lib.hid (byte_ok b a n cap bs p hlt hn t s (hab a rfl) wr hiw hR)
      have hz := bounds_u8 (getD_wf hiw.wf (by decide) p)
      have hdl : (bs.drop (p + 1)).length = n - (p + 1) := by rw [List.length_drop, hbl.out]
      have HDL := Lib.hid hdl
      rw [rd7_drop bs p (by rw [hbl.out]; omega)] at hr
      clear hdl hiw hR
      obtain ⟨c, hc, hc256⟩ : ∃ c : Nat, bs.getD p 0 = (c : Int) ∧ c < 256 := ⟨(bs.getD p 0).toNat, by omega, by omega⟩
      rw [hc] at hr hB
      have HR := Lib.hid hr
      clear hr hc hz
      by_cases hf : (i = 0 ∧ c = 128) ∨ 3 < i
      · have he : res = (4, 0, bs.drop (p + 1)) := by
          rw [← HR.out, rdN, if_pos (by omega)]
        have HE := Lib.hid he
        clear he
        by_cases hi0 : i = 0
        · have hc1 : c = 128 := by omega
          subst hi0
          subst hc1
          clear hf
          go_wp2_with (first | (go_at_call 24; refine hB.out.mono ?_; rintro e w1 ⟨rfl, h1, hk1⟩; obtain ⟨c0, c1, c2, c3, c4, -⟩ := rd_cells h1) | (go_at_call 23; refine (fail_0 b _ _ t s 4 _ h1).mono ?_; rintro e w2 ⟨rfl, h2, hk2⟩))
          go_ret
          refine .inr ?_
          rw [HE.out]
          exact ⟨by simp, rfl, p + 1, by omega, by exact h2, (hk.trans hk1).trans hk2⟩
        · have hb0 : ((i : Int) == 0) = false := by simpa using hi0
          have hi3 : 3 < i := by omega
          clear hf hi0
          go_wp2_with (first | (go_at_call 24; refine hB.out.mono ?_; rintro e w1 ⟨rfl, h1, hk1⟩; obtain ⟨c0, c1, c2, c3, c4, -⟩ := rd_cells h1) | (go_at_call 23; refine (fail_0 b _ _ t s 4 _ h1).mono ?_; rintro e w2 ⟨rfl, h2, hk2⟩))
          go_ret
          refine .inr ?_
          rw [HE.out]
          exact ⟨by simp, rfl, p + 1, by omega, by exact h2, (hk.trans hk1).trans hk2⟩
      · have hi3 : i ≤ 3 := by omega
        have ha : bits BinOp.and IntKind.i64 (c : Int) 127 = (c : Int) % 128 := i64_and127 _
        have ho : bits BinOp.or IntKind.i64 ((v : Int) * 128) ((c : Int) % 128) = (v : Int) * 128 + (c : Int) % 128 := or7 _ _ (by omega) (by omega) (by omega) (by omega) (by omega)
        have hcm : (((c : Int) % 128).toNat) = c % 128 := by omega
        have hst : res = if (c : Int) < 128 then (0, v * 128 + c % 128, bs.drop (p + 1)) else rdN (i + 1) (v * 128 + c % 128) (bs.drop (p + 1)) := by
          rw [← HR.out, rdN, if_neg (by omega), hcm]
        have HST := Lib.hid hst
        have HF := Lib.hid hf
        clear hst hcm hf
        by_cases hc128 : c < 128
        · have he : res = (0, v * 128 + c % 128, bs.drop (p + 1)) := by rw [HST.out, if_pos (by omega)]
          have HE := Lib.hid he
          clear he
          by_cases hi0 : i = 0
          · subst hi0
            have hg2 : ((c : Int) == 128) = false := by have := HF.out; simp; omega
            go_wp2_with (go_at_call 24; refine hB.out.mono ?_; rintro e w1 ⟨rfl, h1, hk1⟩; obtain ⟨c0, c1, c2, c3, c4, -⟩ := rd_cells h1)
            go_ret
            refine .inl ?_
            rw [HE.out]
            refine ⟨rfl, by simp only; rw [HDL.out]; omega, ret_int (by simp only; omega), ?_, hk.trans hk1⟩
            simp only
            rw [HDL.out, show n - (n - (p + 1)) = p + 1 by omega]
            exact h1
          · have hg1 : ((i : Int) == 0) = false := by simpa using hi0
            clear hi0
            go_wp2_with (go_at_call 24; refine hB.out.mono ?_; rintro e w1 ⟨rfl, h1, hk1⟩; obtain ⟨c0, c1, c2, c3, c4, -⟩ := rd_cells h1)
            go_ret
            refine .inl ?_
            rw [HE.out]
            refine ⟨rfl, by simp only; rw [HDL.out]; omega, ret_int (by simp only; omega), ?_, hk.trans hk1⟩
            simp only
            rw [HDL.out, show n - (n - (p + 1)) = p + 1 by omega]
            exact h1
        · have he : rdN (i + 1) (v * 128 + c % 128) (bs.drop (p + 1)) = res := by rw [HST.out, if_neg (by omega)]
          have HE := Lib.hid he
          clear he
          have hp1 := pow128_step (c := c % 128) HV.out (by omega)
          have HP1 := Lib.hid hp1
          clear hp1
          by_cases hi0 : i = 0
          · subst hi0
            have hg2 : ((c : Int) == 128) = false := by have := HF.out; simp; omega
            go_wp2_with (go_at_call 24; refine hB.out.mono ?_; rintro e w1 ⟨rfl, h1, hk1⟩; obtain ⟨c0, c1, c2, c3, c4, -⟩ := rd_cells h1)
            go_roundw
            case rel => exact ⟨0 + 1, v * 128 + c % 128, p + 1, by omega, by go_num, by go_num, HP1.out, by omega, by exact h1, hk.trans hk1, by rw [HRES.out]; exact HE.out⟩
            case measure => simp [intOf]
          · have hg1 : ((i : Int) == 0) = false := by simpa using hi0
            clear hi0
            go_wp2_with (go_at_call 24; refine hB.out.mono ?_; rintro e w1 ⟨rfl, h1, hk1⟩; obtain ⟨c0, c1, c2, c3, c4, -⟩ := rd_cells h1)
            go_roundw
            case rel => exact ⟨i + 1, v * 128 + c % 128, p + 1, by omega, by go_num, by go_num, HP1.out, by omega, by exact h1, hk.trans hk1, by rw [HRES.out]; exact HE.out⟩
            case measure => simp [intOf]; omega
    · obtain rfl : p = n := by omega
      have hd : bs.drop p = [] := by rw [List.drop_eq_nil_iff, hbl.out]; omega
      rw [hd] at hr
      have he : res = (2, 0, []) := by rw [← hr]; rfl
      have HE := Lib.hid he
      clear hd hr he
      go_wp2_with (go_at_call 24; refine (byte_end b ao p cap p (Nat.le_refl _) hn t s _ hR).mono ?_; rintro e w1 ⟨rfl, h1, hk1⟩; obtain ⟨c0, c1, c2, c3, c4, -⟩ := rd_cells h1)
      go_ret
      refine .inr ?_
      rw [HE.out]
      exact ⟨by simp, rfl, p, by omega, h1, hk.trans hk1⟩
end Go.Proofs.Ytmhlmaimmbopfaa

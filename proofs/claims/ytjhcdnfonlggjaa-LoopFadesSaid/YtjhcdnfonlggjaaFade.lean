/- The walks of num.Floor and loop.Fade; the statement LoopFades. -/
import Derived.Test.YtjhcdnfonlggjaaSeam
namespace Go.Proofs.Ytjhcdnfonlggjaa
open Go.RowKit Go.Calli
set_option linter.unusedVariables false
/-- A quotient, downwards. -/
def flo (a b : Int) : Int := if a.tmod b < 0 then a.tdiv b - 1 else a.tdiv b
theorem tdiv_bd (a b M : Int) (hb : 1 ≤ b) (h : -M ≤ a ∧ a ≤ M) : -M ≤ a.tdiv b ∧ a.tdiv b ≤ M := by
  rcases Int.le_total 0 a with h0 | h0
  · have h1 : a.tdiv b ≤ a := Int.tdiv_le_self b h0
    have h2 : 0 ≤ a.tdiv b := Int.tdiv_nonneg h0 (by omega)
    omega
  · have h1 : (-a).tdiv b ≤ -a := Int.tdiv_le_self b (by omega)
    have h2 : 0 ≤ (-a).tdiv b := Int.tdiv_nonneg (by omega) (by omega)
    rw [Int.neg_tdiv] at h1 h2
    omega
set_option maxHeartbeats 400000 in
theorem floor_any (a b : Int) (w : World) (ha : -1000000000000 ≤ a ∧ a ≤ 1000000000000) (hb : 1 ≤ b ∧ b ≤ 9223372036854775807) :
    Calls Try.prog 16 #[.int .i64 a, .int .i64 b] w fun e w' => e = .returned (.int .i64 (flo a b)) ∧ w = w' := by
  have hq := tdiv_bd a b 1000000000000 hb.1 ha
  by_cases h : a.tmod b < 0
  · have hf : flo a b = a.tdiv b - 1 := if_pos h
    have HF := Lib.hid hf
    clear hf
    go_enter Try.func16, Try.ntmps16
    go_wp2
    go_ret
    exact ⟨ret_int HF.out.symm, rfl⟩
  · have hf : flo a b = a.tdiv b := if_neg h
    have HF := Lib.hid hf
    clear hf
    go_enter Try.func16, Try.ntmps16
    go_wp2
    go_ret
    exact ⟨ret_int HF.out.symm, rfl⟩

theorem flo_bd (a b M : Int) (hb : 1 ≤ b) (h : -M ≤ a ∧ a ≤ M) : -M - 1 ≤ flo a b ∧ flo a b ≤ M := by
  have := tdiv_bd a b M hb h
  unfold flo; split <;> omega

/-- What a sample of the loop's end becomes. -/
def fadeVal (zs : List Int) (f t n : Int) (k : Nat) : Int := flo (zs.getD (t - n + (k : Int)).toNat 0 * (n - (k : Int)) + zs.getD (f - n + (k : Int)).toNat 0 * (k : Int)) n
def fadeTo (zs : List Int) (f t n : Int) : Nat → List Int
  | 0 => zs
  | k + 1 => (fadeTo zs f t n k).set (t - n + (k : Int)).toNat (fadeVal zs f t n k)
theorem fadeTo_len (zs : List Int) (f t n : Int) (k : Nat) : (fadeTo zs f t n k).length = zs.length := by
  induction k with
  | zero => rfl
  | succ k ih => simp [fadeTo, ih]
theorem getD_set_ne {l : List Int} {i j : Nat} (h : i ≠ j) (v : Int) : (l.set i v).getD j 0 = l.getD j 0 := by
  simp [List.getElem?_set_ne h]
theorem getD_set_eq {l : List Int} {i : Nat} (h : i < l.length) (v : Int) : (l.set i v).getD i 0 = v := by
  simp [h]
theorem fadeTo_get (zs : List Int) (f t n : Int) (h1 : 0 ≤ t - n) (k : Nat) (hk : t - n + (k : Int) ≤ zs.length) (i : Nat) :
    (fadeTo zs f t n k).getD i 0 = if t - n ≤ (i : Int) ∧ (i : Int) < t - n + (k : Int) then fadeVal zs f t n ((i : Int) - (t - n)).toNat else zs.getD i 0 := by
  induction k with
  | zero => rw [if_neg (by omega)]; rfl
  | succ k ih =>
    by_cases he : (t - n + (k : Int)).toNat = i
    · rw [if_pos (by omega)]
      subst he
      rw [fadeTo, getD_set_eq (by rw [fadeTo_len]; omega), show ((((t - n + (k : Int)).toNat : Nat) : Int) - (t - n)).toNat = k by omega]
    · rw [fadeTo, getD_set_ne he, ih (by omega)]
      by_cases hc : t - n ≤ (i : Int) ∧ (i : Int) < t - n + (k : Int)
      · rw [if_pos hc, if_pos (by omega)]
      · rw [if_neg hc, if_neg (by omega)]
theorem getD_bd {zs : List Int} (h : Small zs) (i : Nat) : -1048576 ≤ zs.getD i 0 ∧ zs.getD i 0 ≤ 1048576 := by
  by_cases hi : i < zs.length
  · rw [show zs.getD i 0 = zs[i] by simp [hi]]; exact h _ (List.getElem_mem _)
  · rw [show zs.getD i 0 = 0 by simp [Nat.le_of_not_lt hi]]; omega
theorem mul_bd (x c : Int) (hx : -1048576 ≤ x ∧ x ≤ 1048576) (hc : 0 ≤ c ∧ c ≤ 100) : -104857600 ≤ x * c ∧ x * c ≤ 104857600 := by
  have h1 : x * c ≤ 1048576 * c := Int.mul_le_mul_of_nonneg_right hx.2 hc.1
  have h2 : -1048576 * c ≤ x * c := Int.mul_le_mul_of_nonneg_right hx.1 hc.1
  omega

theorem fadeVal_bd {zs : List Int} (hs : Small zs) (f t n : Int) (j : Nat) (h1 : (j : Int) < n) (h2 : n ≤ 100) : -300000000 ≤ fadeVal zs f t n j ∧ fadeVal zs f t n j ≤ 300000000 := by
  have m1 := mul_bd _ (n - (j : Int)) (getD_bd hs (t - n + (j : Int)).toNat) (by omega)
  have m2 := mul_bd _ (j : Int) (getD_bd hs (f - n + (j : Int)).toNat) (by omega)
  have := flo_bd (zs.getD (t - n + (j : Int)).toNat 0 * (n - (j : Int)) + zs.getD (f - n + (j : Int)).toNat 0 * (j : Int)) n 299999999 (by omega) ⟨by omega, by omega⟩
  unfold fadeVal
  omega
set_option maxHeartbeats 400000 in
theorem fade_bad (ao : Option Addr) (len cap : Nat) (f t n : Int) (w : World) (hlm : len ≤ 100) (h : f < 0 ∨ (len : Int) < t ∨ t ≤ f ∨ n < 0 ∨ f < n ∨ t - f < n) :
    Calls Try.prog 12 #[.slice ao len cap, .int .i64 f, .int .i64 t, .int .i64 n] w fun e w' => e = .returned (.tuple #[.slice none 0 0, .int .i64 13]) ∧ w = w' := by
  by_cases h1 : f < 0
  · clear h
    go_enter Try.func12, Try.ntmps12
    go_wp2
    go_ret2
    exact ⟨rfl, rfl⟩
  · by_cases h2 : (len : Int) < t
    · clear h
      go_enter Try.func12, Try.ntmps12
      go_wp2
      go_ret2
      exact ⟨rfl, rfl⟩
    · by_cases h3 : t ≤ f
      · clear h
        go_enter Try.func12, Try.ntmps12
        go_wp2
        go_ret2
        exact ⟨rfl, rfl⟩
      · by_cases h4 : n < 0
        · clear h
          go_enter Try.func12, Try.ntmps12
          go_wp2
          go_ret2
          exact ⟨rfl, rfl⟩
        · by_cases h5 : f < n
          · clear h
            go_enter Try.func12, Try.ntmps12
            go_wp2
            go_ret2
            exact ⟨rfl, rfl⟩
          · have h6 : t - f < n := by omega
            clear h
            go_enter Try.func12, Try.ntmps12
            go_wp2
            go_ret2
            exact ⟨rfl, rfl⟩

set_option maxHeartbeats 1000000 in
theorem fade_any (ao : Option Addr) (len cap : Nat) (zs : List Int) (f t n : Int) (w : World) (h : Ints .i64 w ao len zs) (hs : Small zs) (hlm : len ≤ 100) (h1 : 0 ≤ f) (h2 : t ≤ len) (h3 : f < t) (h4 : 0 ≤ n) (h5 : n ≤ f) (h6 : n ≤ t - f) :
    Calls Try.prog 12 #[.slice ao len cap, .int .i64 f, .int .i64 t, .int .i64 n] w fun e w' => ∃ a' c', e = .returned (.tuple #[.slice (some a') len c', .int .i64 0]) ∧ Ints .i64 w' (some a') len (fadeTo zs f t n n.toNat) ∧ Below w.heap.size w w' := by
  have hz := Lib.hid h.hlen
  obtain ⟨a, rfl, hcells⟩ := h.some (by omega)
  obtain ⟨i3, hi3, hz3, hs3, hb3⟩ := info_parts infoInt
  have hnew : ∀ j u, (zs.map (Value.int .i64))[j]? = some u → w.cell? (a.add j) = some u := by
    intro j u hu
    have hj : j < zs.length := by have := (List.getElem?_eq_some_iff.1 hu).1; simpa using this
    rw [hcells j (by rw [← hz.out]; exact hj)]
    simp [hj] at hu
    rw [← hu]; simp [hj]
  have HC := Lib.hid hnew
  clear hnew hcells
  go_enter Try.func12, Try.ntmps12
  go_wp2_with (at_builtin; refine wpList_append_own _ rfl (.const (.slice none 0 0)) (.tmp 43) 22 rfl w.heap.size 3 i3 (.int .i64 0) 1 8 Try.underlying22 hi3 hz3 hs3 hb3 rfl (by decide) _ _ _ rfl (World.ownsRow_nil _ _ _ _) a len _ (zs.map (Value.int .i64)) rfl ?c1 HC.out (ints_oneCell _ _) ?c3 ?c4 ?c5 ?_)
  case c1 => simp [hz.out]
  case c3 => unfold maxLen; omega
  case c4 => omega
  case c5 => exact Nat.le_refl _
  intro v' w1 hown hg _
  have hb1 := (Below.refl w.heap.size w).grown hg (Nat.le_refl _) (fun k hk => by simp [Value.ownBlock] at hk)
  clear hg
  have hex : ∃ g c2, v' = .slice (some ⟨g, 0, none⟩) len c2 := by
    rcases hown.2 with ⟨_, h0⟩ | ⟨g, c2, _, hv, _⟩
    · omega
    · exact ⟨g, c2, hv⟩
  obtain ⟨g, c2, rfl⟩ := hex
  go_wp2
  go_loopw [46] (fun i wr => ∃ k : Nat, (k : Int) ≤ n ∧ i = .int .i64 k ∧ wr.ownsRow w.heap.size 3 1 (.slice (some ⟨g, 0, none⟩) len c2) len ((fadeTo zs f t n k).map (Value.int .i64)) ∧ Below w.heap.size w wr) (fun i _ => (n - intOf i).toNat)
  case atStart => exact ⟨0, by omega, rfl, hown, hb1⟩
  case round =>
    obtain ⟨k, hk, rfl, hown, hb⟩ := hrel
    by_cases hlt : (k : Int) < n
    · obtain ⟨a, x, e, hxv, hx, _, _⟩ := (h.keep0 hb).int (i := (t - n + (k : Int)).toNat) (by omega)
      cases e
      obtain ⟨a, y, e, hyv, hy, _, _⟩ := (h.keep0 hb).int (i := (f - n + (k : Int)).toNat) (by omega)
      cases e
      have hxb := getD_bd hs (t - n + (k : Int)).toNat
      have hyb := getD_bd hs (f - n + (k : Int)).toNat
      have hval : fadeVal zs f t n k = flo (x * (n - (k : Int)) + y * (k : Int)) n := by unfold fadeVal; rw [hxv.out, hyv.out]
      rw [hxv.out] at hxb
      rw [hyv.out] at hyb
      have HV := Lib.hid hval
      clear hval
      have m1 := mul_bd x (n - (k : Int)) hxb (by omega)
      have m2 := mul_bd y (k : Int) hyb (by omega)
      have e1 : IntKind.i64.wrap (t - n) = t - n := IntWalk.i64_in _ (by omega)
      have e2 : IntKind.i64.wrap (t - n + (k : Int)) = t - n + (k : Int) := IntWalk.i64_in _ (by omega)
      have e3 : IntKind.i64.wrap (f - n) = f - n := IntWalk.i64_in _ (by omega)
      have e4 : IntKind.i64.wrap (f - n + (k : Int)) = f - n + (k : Int) := IntWalk.i64_in _ (by omega)
      have r1 : 0 ≤ t - n + (k : Int) := by omega
      have r2 : t - n + (k : Int) < len := by omega
      have r3 : 0 ≤ f - n + (k : Int) := by omega
      have r4 : f - n + (k : Int) < len := by omega
      have hcg : ∃ v, wr.cell? ⟨g, (t - n + (k : Int)).toNat, none⟩ = some v := by
        have hj : (t - n + (k : Int)).toNat < ((fadeTo zs f t n k).map (Value.int .i64)).length := by rw [List.length_map, fadeTo_len, hz.out]; omega
        exact ⟨_, (hown.cellAt _ (by omega)).trans (List.getElem?_eq_getElem hj)⟩
      obtain ⟨v0, hcg⟩ := hcg
      have hfg := hown.frozenAt (t - n + (k : Int)).toNat
      go_wp2
      go_quiet (fail)
      clear e1 e2 e3 e4
      go_wp2_with (go_at_call 16; refine (floor_any _ n _ (by omega) (by omega)).mono ?_; rintro e w' ⟨rfl, rfl⟩)
      go_roundw
      case rel =>
        obtain ⟨hst, hgr⟩ := hown.stored (t - n + (k : Int)).toNat (.int .i64 (flo (x * (n - (k : Int)) + y * (k : Int)) n))
        refine ⟨k + 1, by omega, by go_num, ?_, ?_⟩
        · have e : fadeTo zs f t n (k + 1) = (fadeTo zs f t n k).set (t - n + (k : Int)).toNat (flo (x * (n - (k : Int)) + y * (k : Int)) n) := by rw [fadeTo, HV.out]
          rw [e, List.map_set]
          exact hst
        · exact (below_drewN hb _).setCell ((hown.lt g rfl).1) _
      case measure => simp [intOf]; omega
    · obtain ⟨N, rfl⟩ : ∃ N : Nat, n = N := ⟨n.toNat, by omega⟩
      obtain rfl : k = N := by omega
      obtain ⟨a', c', e, hc', hrow, hl, _, _⟩ := own_slice hown
      cases e
      have hints := hrow.ints hl (fun z hz' => by
        obtain ⟨i, hi, rfl⟩ := List.getElem_of_mem hz'
        have hg := fadeTo_get zs f t (k : Int) (by omega) k (by rw [hz.out]; omega) i
        rw [show (fadeTo zs f t (k : Int) k)[i] = (fadeTo zs f t (k : Int) k).getD i 0 by simp [hi], hg]
        split
        · refine wf_of_bd ?_
          have := fadeVal_bd hs f t (k : Int) (((i : Nat) : Int) - (t - (k : Int))).toNat (by omega) (by omega)
          omega
        · have := getD_bd hs i
          exact wf_of_bd (by omega))
      have HI := Lib.hid hints
      clear hints hown
      go_wp2
      go_ret2
      exact ⟨_, ⟨_, rfl⟩, HI.out, hb⟩

set_option maxRecDepth 100000 in
set_option maxHeartbeats 2000000 in
theorem loopFades_any (ao : Option Addr) (len cap : Nat) (zs : List Int) (f t n : Int) (w : World) (h : Ints .i64 w ao len zs)
    (hf : -9223372036854775808 ≤ f ∧ f ≤ 9223372036854775807) (ht : -9223372036854775808 ≤ t ∧ t ≤ 9223372036854775807) (hn : -9223372036854775808 ≤ n ∧ n ≤ 9223372036854775807) :
    Calls Try.prog 5 #[.slice ao len cap, .int .i64 f, .int .i64 t, .int .i64 n] w fun e w' => e = .returned (.bool true) ∧ Below w.heap.size w w' := by
  go_enter Try.func5, Try.ntmps5
  go_upto_region 2 with (go_at_call 7; refine (few_any ao len cap zs 100 (by decide) w h).mono ?_; rintro e w1 ⟨a1, l1, c1, rfl, hl1, hc1, h1, hb1⟩)
  have hl100 : l1 ≤ 100 := by have := hl1.out; omega
  have hs1 : Small (fewOf zs 100) := fun z hz => fewOf_bd z hz
  clear h
  generalize fewOf zs 100 = ys at *
  by_cases hbad : f < 0 ∨ (l1 : Int) < t ∨ t ≤ f ∨ n < 0 ∨ f < n ∨ t - f < n
  · have hB := Lib.hid hbad
    clear hbad
    by_cases g1 : f < 0
    · skip
      go_wp2_with (first | (go_at_call 12; refine (fade_bad _ _ _ _ _ _ _ hl100 hB.out).mono ?_; rintro e w2 ⟨rfl, rfl⟩) | (go_at_call 9; refine (awake_any _).mono ?_; rintro e w2 ⟨rfl, hb2⟩))
      go_ret
      exact ⟨rfl, hb1.trans (hb2.mono hb1.size)⟩
    · skip
      by_cases g2 : t ≤ f
      · skip
        go_wp2_with (first | (go_at_call 12; refine (fade_bad _ _ _ _ _ _ _ hl100 hB.out).mono ?_; rintro e w2 ⟨rfl, rfl⟩) | (go_at_call 9; refine (awake_any _).mono ?_; rintro e w2 ⟨rfl, hb2⟩))
        go_ret
        exact ⟨rfl, hb1.trans (hb2.mono hb1.size)⟩
      · skip
        by_cases g3 : (l1 : Int) < t
        · skip
          go_wp2_with (first | (go_at_call 12; refine (fade_bad _ _ _ _ _ _ _ hl100 hB.out).mono ?_; rintro e w2 ⟨rfl, rfl⟩) | (go_at_call 9; refine (awake_any _).mono ?_; rintro e w2 ⟨rfl, hb2⟩))
          go_ret
          exact ⟨rfl, hb1.trans (hb2.mono hb1.size)⟩
        · skip
          by_cases g4 : n < 0
          · skip
            go_wp2_with (first | (go_at_call 12; refine (fade_bad _ _ _ _ _ _ _ hl100 hB.out).mono ?_; rintro e w2 ⟨rfl, rfl⟩) | (go_at_call 9; refine (awake_any _).mono ?_; rintro e w2 ⟨rfl, hb2⟩))
            go_ret
            exact ⟨rfl, hb1.trans (hb2.mono hb1.size)⟩
          · skip
            by_cases g5 : f < n
            · skip
              go_wp2_with (first | (go_at_call 12; refine (fade_bad _ _ _ _ _ _ _ hl100 hB.out).mono ?_; rintro e w2 ⟨rfl, rfl⟩) | (go_at_call 9; refine (awake_any _).mono ?_; rintro e w2 ⟨rfl, hb2⟩))
              go_ret
              exact ⟨rfl, hb1.trans (hb2.mono hb1.size)⟩
            · skip
              have g6 : t - f < n := by have := hB.out; omega
              go_wp2_with (first | (go_at_call 12; refine (fade_bad _ _ _ _ _ _ _ hl100 hB.out).mono ?_; rintro e w2 ⟨rfl, rfl⟩) | (go_at_call 9; refine (awake_any _).mono ?_; rintro e w2 ⟨rfl, hb2⟩))
              go_ret
              exact ⟨rfl, hb1.trans (hb2.mono hb1.size)⟩
  · have g1 : 0 ≤ f := by omega
    have g2 : t ≤ l1 := by omega
    have g3 : f < t := by omega
    have g4 : 0 ≤ n := by omega
    have g5 : n ≤ f := by omega
    have g6 : n ≤ t - f := by omega
    clear hbad
    go_wp2_with (go_at_call 12; refine (fade_any _ _ _ _ _ _ _ _ h1 hs1 hl100 g1 g2 g3 g4 g5 g6).mono ?_; rintro e w2 ⟨a2, c2, rfl, h2, hb2⟩)
    go_loopw [11] (fun i wr => ∃ k : Nat, k ≤ l1 ∧ i = .int .i64 k ∧ Below w2.heap.size w2 wr) (fun i _ => (l1 - intOf i).toNat)
    case atStart => exact ⟨0, by omega, rfl, Below.refl _ _⟩
    case round =>
      obtain ⟨i, hi, rfl, hw⟩ := hrel
      by_cases hlt : i < l1
      · obtain ⟨a1, c, rfl, hcv, hc, hcb1, hcb2⟩ := ((h1.keep0 hb2).keep0 hw).int hlt
        obtain ⟨a2', X, e, hXv, hX, _, _⟩ := (h2.keep0 hw).int hlt
        cases e
        have hcb := getD_bd hs1 i
        rw [hcv.out] at hcb
        have hfx := fadeTo_get ys f t n (by omega) n.toNat (by rw [h1.hlen]; omega) i
        rw [hXv.out] at hfx
        by_cases hz : t - n ≤ (i : Int) ∧ (i : Int) < t
        · rw [if_pos (by omega)] at hfx
          obtain ⟨hz1, hz2⟩ := hz
          have HX := Lib.hid hfx
          clear hfx
          have m1 := mul_bd c (n - ((i : Int) - (t - n))) hcb (by omega)
          go_wp2_with fail
          refine (lget_any _ _ _ _ _ _ ((h1.keep0 hb2).keep0 hw) hs1).mono ?_
          rintro e w' ⟨z, rfl, hzv, hzb1, hzb2, rfl⟩
          have m2 := mul_bd z ((i : Int) - (t - n)) ⟨hzb1, hzb2⟩ (by omega)
          have hq := tdiv_bd (c * (n - ((i : Int) - (t - n))) + z * ((i : Int) - (t - n))) n 1000000000 (by omega) ⟨by omega, by omega⟩
          have hX2 : X = flo (c * (n - ((i : Int) - (t - n))) + z * ((i : Int) - (t - n))) n := by
            have e1 := HX.out
            unfold fadeVal at e1
            have e2 : ((((i : Int) - (t - n)).toNat : Nat) : Int) = (i : Int) - (t - n) := by omega
            rw [e2, show (t - n + ((i : Int) - (t - n))).toNat = i by omega, hcv.out] at e1
            rw [e1, hzv.out]
            unfold sampleAt
            rw [if_neg (by omega)]
          by_cases hm : (c * (n - ((i : Int) - (t - n))) + z * ((i : Int) - (t - n))).tmod n < 0
          · obtain rfl : X = (c * (n - ((i : Int) - (t - n))) + z * ((i : Int) - (t - n))).tdiv n - 1 := by rw [hX2]; exact if_pos hm
            clear hX2 HX hXv
            go_wp2
            go_roundw
            case rel => exact ⟨i + 1, by omega, by go_num, hw⟩
            case measure => simp [intOf]; omega
          · obtain rfl : X = (c * (n - ((i : Int) - (t - n))) + z * ((i : Int) - (t - n))).tdiv n := by rw [hX2]; exact if_neg hm
            clear hX2 HX hXv
            go_wp2
            go_roundw
            case rel => exact ⟨i + 1, by omega, by go_num, hw⟩
            case measure => simp [intOf]; omega
        · rw [if_neg (by omega)] at hfx
          obtain rfl : X = c := by rw [hfx]; exact hcv.out
          by_cases hz1 : t - n ≤ (i : Int)
          all_goals
            go_wp2
            go_roundw
            case rel => exact ⟨i + 1, by omega, by go_num, hw⟩
            case measure => simp [intOf]; omega
      · go_wp2_with (go_at_call 9; refine (awake_any _).mono ?_; rintro e w3 ⟨rfl, hb3⟩)
        go_ret
        exact ⟨rfl, ((hb1.trans (hb2.mono hb1.size)).trans (hw.mono (Nat.le_trans hb1.size hb2.size))).trans (hb3.mono (Nat.le_trans (Nat.le_trans hb1.size hb2.size) hw.size))⟩
end Go.Proofs.Ytjhcdnfonlggjaa

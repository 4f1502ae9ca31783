/- The walk of say.ReadNumber. -/
import Derived.Test.YtflpblggpbgeiaaDoorNul
namespace Go.Proofs.YtflpblggpbgeiaaDoor
open Go Go.RowKit Go.Calli
set_option linter.unusedVariables false
set_option linter.unusedSimpArgs false
attribute [local irreducible] wpStill wpAnyH wpAnyS wpList Code.wp
theorem str_data (l : List Int) : (strOfNums l).data.toList = Lib.bytesOf l := by simp [strOfNums, Lib.bytesOf]
theorem str_bytes (l : List Int) : (⟨(Lib.bytesOf l).toArray⟩ : ByteArray) = strOfNums l := rfl
theorem u8_ne {a b : Int} (ha : 0 ≤ a ∧ a < 256) (hb : 0 ≤ b ∧ b < 256) (h : a ≠ b) : (UInt8.ofNat a.toNat == UInt8.ofNat b.toNat) = false := by
  rw [beq_eq_false_iff_ne]
  intro e
  have := congrArg UInt8.toNat e
  simp at this
  omega
theorem pre_yes (c : Int) (r : List Int) (w : World) : Calls Tryd.prog 27 #[.string (strOfNums (c :: r)), .string (strOfNums [c])] w fun e w' => e = .returned (.tuple #[.string (strOfNums r), .bool true]) ∧ w = w' := by
  have h := Tryd.strings_CutPrefix (strOfNums (c :: r)) (strOfNums [c]) w
  rw [str_data, str_data] at h
  have hp : Lib.hasPrefix (Lib.bytesOf (c :: r)) (Lib.bytesOf [c]) = true := by simp [Lib.hasPrefix, Lib.bytesOf]
  have ht : Lib.trimPrefix (Lib.bytesOf (c :: r)) (Lib.bytesOf [c]) = Lib.bytesOf r := by unfold Lib.trimPrefix; rw [if_pos hp]; simp [Lib.bytesOf]
  rw [hp, ht, str_bytes] at h
  exact h.mono fun e w' ⟨h1, h2⟩ => ⟨h1, h2.symm⟩
theorem pre_no (c : Int) (l : List Int) (hc : 0 < c ∧ c < 256) (hb : Byt l) (h0 : l.getD 0 0 ≠ c) (w : World) : Calls Tryd.prog 27 #[.string (strOfNums l), .string (strOfNums [c])] w fun e w' => e = .returned (.tuple #[.string (strOfNums l), .bool false]) ∧ w = w' := by
  have h := Tryd.strings_CutPrefix (strOfNums l) (strOfNums [c]) w
  rw [str_data, str_data] at h
  have hp : Lib.hasPrefix (Lib.bytesOf l) (Lib.bytesOf [c]) = false := by
    rcases l with _ | ⟨z, r⟩
    · simp [Lib.hasPrefix, Lib.bytesOf]
    · have := u8_ne (a := c) (b := z) ⟨by omega, hc.2⟩ (hb z (by simp)) (fun e => h0 e.symm)
      simp only [Lib.hasPrefix, Lib.bytesOf, List.map_cons, List.map_nil, List.isPrefixOf, this, Bool.false_and]
  have ht : Lib.trimPrefix (Lib.bytesOf l) (Lib.bytesOf [c]) = Lib.bytesOf l := by unfold Lib.trimPrefix; rw [hp]; rfl
  rw [hp, ht, str_bytes] at h
  exact h.mono fun e w' ⟨h1, h2⟩ => ⟨h1, h2.symm⟩
theorem take_succ_getD (l : List Int) (k : Nat) (h : k < l.length) : l.take (k + 1) = l.take k ++ [l.getD k 0] := by
  rw [List.take_succ_eq_append_getElem h]; simp [List.getD, h]
theorem nums_at (l : List Int) (hb : Byt l) (k : Nat) (hk : k < l.length) (hs : k < (strOfNums l).size) : (((strOfNums l)[k]'hs).toNat : Int) = l.getD k 0 := by
  have h := hb (l.getD k 0) (by rw [show l.getD k 0 = l[k] by simp [List.getD, hk]]; exact List.getElem_mem _)
  rw [show l.getD k 0 = l[k] by simp [List.getD, hk]] at h ⊢
  have e : (strOfNums l)[k]'hs = (strOfNums l).data[k]'hs := rfl
  rw [e]
  simp only [strOfNums, List.getElem_toArray, List.getElem_map]
  simp
  omega
theorem index_nums (l : List Int) (hb : Byt l) (k : Nat) (hk : k < l.length) (w : World) : (Instr.index 9 (.string (strOfNums l)) (.int .i64 (k : Int))).run Tryd.prog w = .ok (.int .u8 (l.getD k 0)) w := by
  rw [run_index_string w 9 _ .i64 k Tryd.underlying9, dif_pos ⟨by omega, by rw [strOfNums_size]; omega⟩]
  congr 2
  exact nums_at l hb k hk (by rw [strOfNums_size]; exact hk)
theorem nums_empty (l : List Int) : (strOfNums l).toList.isEmpty = decide (l.length = 0) := by
  rw [Lib.strOfNums_toList]
  cases l <;> simp [Lib.bytesOf]
theorem getD_mem0 {l : List Int} {k : Nat} (h : k < l.length) : l.getD k 0 ∈ l := by
  rw [show l.getD k 0 = l[k] by simp [List.getD, h]]; exact List.getElem_mem _
def RdP (o : Option Int) (w : World) (e : Ending) (w' : World) : Prop := e = .returned (.tuple #[.int .i64 (o.getD 0), .bool o.isSome]) ∧ w = w'
set_option maxRecDepth 100000 in
set_option maxHeartbeats 4000000 in
theorem readNumber_any (l : List Int) (hb : Byt l) (hl : l.length ≤ maxLen) (w : World) : Calls Tryd.prog 17 #[.string (strOfNums l)] w (RdP (readN l) w) := by
  obtain ⟨R, neg, hR, hRb, hRl, hC⟩ : ∃ (R : List Int) (neg : Bool), readN l = readU R neg ∧ Byt R ∧ R.length ≤ maxLen ∧ Calls Tryd.prog 27 #[.string (strOfNums l), .string (ByteArray.mk #[45])] w (fun e w' => e = .returned (.tuple #[.string (strOfNums R), .bool neg]) ∧ w = w') := by
    by_cases h : l.getD 0 0 = 45
    · rcases l with _ | ⟨z, r⟩
      · simp at h
      · have hz : z = 45 := h
        subst hz
        refine ⟨r, true, by unfold readN; rw [if_pos h]; rfl, fun z hz => hb z (by simp [hz]), by simp at hl; omega, ?_⟩
        have := pre_yes 45 r w
        exact this
    · refine ⟨l, false, by unfold readN; rw [if_neg h], hb, hl, ?_⟩
      have := pre_no 45 l (by omega) hb h w
      exact this
  rw [hR]
  clear hR hb hl
  unfold maxLen at hRl
  have HC := Lib.hid hC
  clear hC
  have hsz := strOfNums_size R
  have hem := nums_empty R
  go_enter Tryd.func17, Tryd.ntmps17
  go_upto_region 1 with fail
  go_cut [4, 5] (fun v4 v5 wx => v4 = .string (strOfNums R) ∧ v5 = .bool neg ∧ w = wx)
  case first =>
    go_wp2_with (go_at_call 27; refine HC.out.mono ?_; rintro e w1 ⟨rfl, rfl⟩)
    go_meet
    exact ⟨rfl, rfl, rfl⟩
  case rest =>
    obtain ⟨rfl, rfl, rfl⟩ := hcut
    clear HC
    go_upto_region 2 with fail
    go_cut [33] (fun v33 wx => v33 = .bool (badN R neg) ∧ w = wx)
    case first =>
      by_cases h0 : R.length = 0
      · have hn := List.eq_nil_of_length_eq_zero h0
        subst hn
        have HBA : Hid (badN [] neg = true) := decide_eq_true (.inl rfl)
        have hem2 : (strOfNums []).toList.isEmpty = true := hem
        clear hem
        go_wp2_with fail
        go_meet
        exact ⟨by rw [HBA.out], rfl⟩
      · have hR0 : R ≠ [] := fun e => h0 (by rw [e]; rfl)
        have hem2 : (strOfNums R).toList.isEmpty = false := by rw [hem]; simpa using h0
        clear hem
        by_cases h19 : 19 < R.length
        · have HBA : Hid (badN R neg = true) := decide_eq_true (.inr (.inl h19))
          go_wp2_with fail
          go_meet
          exact ⟨by rw [HBA.out], rfl⟩
        · have hix0 : ∀ w, (Instr.index 9 (.string (strOfNums R)) (.int .i64 0)).run Tryd.prog w = .ok (.int .u8 (R.getD 0 0)) w := fun w => index_nums R hRb 0 (by omega) w
          have g19 : decide (19 < (R.length : Int)) = false := decide_eq_false (by omega)
          have hz := hRb _ (getD_mem0 (l := R) (k := 0) (by omega))
          have hbd : badN R neg = decide (R.getD 0 0 = 48 ∧ (1 < R.length ∨ neg = true)) := by
            unfold badN
            apply decide_eq_decide.2
            exact ⟨fun h => by rcases h with h | h | h; exact absurd h hR0; exact absurd h h19; exact h, fun h => .inr (.inr h)⟩
          generalize R.getD 0 0 = z at *
          by_cases h48 : z = 48
          · subst h48
            by_cases hl1 : 1 < R.length
            · have HBA : Hid (badN R neg = true) := by unfold Hid; rw [hbd]; exact decide_eq_true ⟨rfl, .inl hl1⟩
              have g1 : decide (1 < (R.length : Int)) = true := decide_eq_true (by omega)
              clear hbd
              go_wp2_with fail
              go_meet
              exact ⟨by rw [HBA.out], rfl⟩
            · have g1 : decide (1 < (R.length : Int)) = false := decide_eq_false (by omega)
              have HBA : Hid (badN R neg = neg) := by
                unfold Hid; rw [hbd]
                cases neg with
                | true => exact decide_eq_true ⟨rfl, .inr rfl⟩
                | false => exact decide_eq_false (fun h => by rcases h.2 with h | h; exact hl1 h; cases h)
              clear hbd
              go_wp2_with fail
              go_meet
              exact ⟨by rw [HBA.out], rfl⟩
          · have HBA : Hid (badN R neg = false) := by unfold Hid; rw [hbd]; exact decide_eq_false (fun h => h48 h.1)
            have g48 : (z == 48) = false := by simpa using h48
            clear hbd
            go_wp2_with fail
            go_meet
            exact ⟨by rw [HBA.out], rfl⟩
    case rest =>
      obtain ⟨rfl, rfl⟩ := hcut
      cases hbad : badN R neg with
      | true =>
        have HO : Hid (readU R neg = none) := by unfold Hid readU; rw [if_pos hbad]
        go_wp2_with fail
        go_ret2
        exact ⟨by rw [HO.out] <;> rfl, rfl⟩
      | false =>
        have hb2 : ¬ (R = [] ∨ 19 < R.length ∨ (R.getD 0 0 = 48 ∧ (1 < R.length ∨ neg = true))) := of_decide_eq_false hbad
        have hl19 : R.length ≤ 19 := by
          have : ¬ 19 < R.length := fun h => hb2 (.inr (.inl h))
          omega
        have HU : Hid (readU R neg = if R.all isDig = false then none else if neg then (if valD R ≤ 9223372036854775808 then some (-(valD R : Int)) else none) else (if valD R < 9223372036854775808 then some (valD R : Int) else none)) := by
          unfold Hid readU; rw [if_neg (by rw [hbad]; decide)]
        clear hbad hb2 hem
        go_upto_region 6 with fail
        go_loop [6, 36] (fun v6 v36 => ∃ i : Nat, i ≤ R.length ∧ v36 = .int .i64 (i : Int) ∧ v6 = .int .u64 (valD (R.take i) : Int) ∧ Hid (∀ z ∈ R.take i, 48 ≤ z ∧ z ≤ 57)) (fun _ v36 => R.length - natV v36)
        case atStart => exact ⟨0, by omega, rfl, rfl, fun z hz => by simp at hz⟩
        case round =>
          obtain ⟨i, hi, rfl, rfl, hA⟩ := hrel
          have hvl := valD_lt _ hA.out
          rw [List.length_take, Nat.min_eq_left hi] at hvl
          by_cases hlt : i < R.length
          · have hp : (10 : Nat) ^ i ≤ 10 ^ 18 := Nat.pow_le_pow_right (by omega) (by omega)
            have hv18 : valD (R.take i) < 1000000000000000000 := by omega
            have hts := take_succ_getD R i hlt
            have hix := index_nums R hRb i hlt
            have hz := hRb _ (getD_mem0 (l := R) (k := i) hlt)
            have hmem := getD_mem0 (l := R) (k := i) hlt
            have HV : Hid (valD (R.take (i + 1)) = 10 * valD (R.take i) + (R.getD i 0 - 48).toNat) := by unfold Hid; rw [hts, valD_snoc]
            generalize R.getD i 0 = z at *
            have HTS := Lib.hid hts
            generalize valD (R.take i) = V at *
            have HM := Lib.hid hmem
            clear hvl hp hts hmem
            by_cases h1 : z < 48
            · have HO : Hid (readU R neg = none) := by
                unfold Hid
                rw [HU.out, if_pos (by rw [← Bool.not_eq_true, all_dig]; intro h; have := h z HM.out; omega)]
              go_wp2_with fail
              go_ret2
              exact ⟨by rw [HO.out] <;> rfl, rfl⟩
            · by_cases h2 : 57 < z
              · have HO : Hid (readU R neg = none) := by
                  unfold Hid
                  rw [HU.out, if_pos (by rw [← Bool.not_eq_true, all_dig]; intro h; have := h z HM.out; omega)]
                go_wp2_with fail
                go_ret2
                exact ⟨by rw [HO.out] <;> rfl, rfl⟩
              · have HA2 : Hid (∀ y ∈ R.take (i + 1), 48 ≤ y ∧ y ≤ 57) := fun y hy => by
                  rw [HTS.out] at hy
                  rcases List.mem_append.1 hy with hy | hy
                  · exact hA.out y hy
                  · simp only [List.mem_singleton] at hy; subst hy; omega
                have HVI : Hid (10 * (V : Int) + (z - 48) = (valD (R.take (i + 1)) : Int)) := by unfold Hid; rw [HV.out]; omega
                go_wp2_with fail
                refine ⟨⟨i + 1, by omega, by go_num, by rw [HVI.out], HA2.out⟩, ?_⟩
                simp [natV]; omega
          · obtain rfl : i = R.length := by omega
            have hall : R.all isDig = true := all_dig.2 (by have := hA.out; rwa [List.take_length] at this)
            rw [List.take_length] at hvl ⊢
            have hp : (10 : Nat) ^ R.length ≤ 10 ^ 19 := Nat.pow_le_pow_right (by omega) hl19
            have hv19 : valD R < 10000000000000000000 := by omega
            have hU := HU.out
            rw [if_neg (by rw [hall]; decide)] at hU
            generalize valD R = V at *
            clear HU hall hA hvl hp
            cases neg with
            | true =>
              rw [if_pos rfl] at hU
              by_cases hv : V ≤ 9223372036854775808
              · rw [if_pos hv] at hU
                have HO := Lib.hid hU
                have hneg : IntKind.i64.wrap (IntKind.u64.wrap (-(V : Int))) = -(V : Int) := by rw [IntKind.wrap_u64, IntKind.wrap_i64]; omega
                have g1 : decide ((V : Int) ≤ 9223372036854775808) = true := decide_eq_true (by omega)
                clear hU
                go_wp2_with fail
                go_ret2
                exact ⟨by rw [HO.out] <;> rfl, rfl⟩
              · rw [if_neg hv] at hU
                have HO := Lib.hid hU
                have g1 : decide ((V : Int) ≤ 9223372036854775808) = false := decide_eq_false (by omega)
                clear hU
                go_wp2_with fail
                go_ret2
                exact ⟨by rw [HO.out] <;> rfl, rfl⟩
            | false =>
              rw [if_neg (by decide)] at hU
              by_cases hv : V < 9223372036854775808
              · rw [if_pos hv] at hU
                have HO := Lib.hid hU
                have g1 : decide ((V : Int) < 9223372036854775808) = true := decide_eq_true (by omega)
                clear hU
                go_wp2_with fail
                go_ret2
                exact ⟨by rw [HO.out] <;> rfl, rfl⟩
              · rw [if_neg hv] at hU
                have HO := Lib.hid hU
                have g1 : decide ((V : Int) < 9223372036854775808) = false := decide_eq_false (by omega)
                clear hU
                go_wp2_with fail
                go_ret2
                exact ⟨by rw [HO.out] <;> rfl, rfl⟩
end Go.Proofs.YtflpblggpbgeiaaDoor

/- The walk of say.ReadWord. -/
import Derived.Test.YtflpblggpbgeiaaDoorSgn
import Derived.Test.YtflpblggpbgeiaaDoorRec
import Derived.Laws.Bits128
import Derived.Laws.BitsLemmas
import Derived.StillTailTactics
import Derived.Deep.RegionHeld3
import Derived.Deep.RegionHeldLaw
import Derived.Deep.RegionWith
namespace Go.Proofs.YtflpblggpbgeiaaDoor
open Go Go.RowKit Go.Calli
set_option linter.unusedVariables false
set_option linter.unusedSimpArgs false
attribute [local irreducible] wpStill wpAnyH wpAnyS wpList Code.wp
theorem or4 (x y : Int) (h0 : 0 ≤ x) (h1 : x < 1099511627776) (h2 : x % 16 = 0) (h3 : 0 ≤ y) (h4 : y < 16) : bits .or .i64 x y = x + y :=
  bits_join .i64 40 (by decide) (fun n h h' => IntWalk.i64_in _ (by omega)) 4 x y h0 (by simpa using h2) (by simpa using h1) h3 (by simpa using h4) (by omega)
theorem own_at {w w' : World} {B e size n : Nat} {v : Value} {xs : List Value} (h : w.ownsRow B e size v n xs) (he : w = w') : w'.ownsRow B e size v n xs := he ▸ h
theorem step_index_eq {P : Program} {w w' : World} {ops : Array Oper} {o : Oper} {a : Act} {K : Act → World → Prop} {Q : Exit → Act → World → Prop} {E : Prop} (hgd : o.guard = none) (x y : Operand) (t : TypeId)
    (ho : o.op = .index t x y) {v u z : Value} (hs : a.eval x = v) (hx : a.eval y = u) (hr : (Instr.index t v u).run P w = .ok z w')
    (hK : K (a.put o.dst z) w') : if Region.wanted o (yielded ops a.tmps) = true then Oper.wp P o a w K Q else E := by
  have hw : Region.wanted o (yielded ops a.tmps) = true := by simp [Region.wanted, hgd]
  rw [if_pos hw]
  unfold Oper.wp
  simp [execOp, ho, hs, hx, hr, Result.andThen]
  exact hK
theorem drop_cons (S : List Int) (i : Nat) (h : i < S.length) : S.drop i = S.getD i 0 :: S.drop (i + 1) := by
  rw [List.drop_eq_getElem_cons h]; simp [List.getD, h]
theorem getD_drop (S : List Int) (i k : Nat) : (S.drop i).getD k 0 = S.getD (i + k) 0 := by simp [List.getD, List.getElem?_drop]
def RwP (o : Option (List Int)) (w : World) (e : Ending) (w' : World) : Prop := e = .returned (.tuple #[.string (strOfNums (o.getD [])), .bool o.isSome]) ∧ Below w.heap.size w w'
def RwRel (S : List Int) (w : World) (v6 v7 : Value) (wr : World) : Prop := ∃ (i N : Nat) (bs : List Int), i ≤ S.length ∧ v7 = .int .i64 (i : Int) ∧ N ≤ i ∧ Hid (dec S = (dec (S.drop i)).map (fun x => bs ++ x)) ∧ Byt bs ∧ wr.ownsRow w.heap.size 5 1 v6 N (bs.map (Value.int .u8)) ∧ Below w.heap.size w wr
theorem map_snoc (o : Option (List Int)) (bs : List Int) (c : Int) : (o.map (fun x => c :: x)).map (fun x => bs ++ x) = o.map (fun x => (bs ++ [c]) ++ x) := by cases o <;> simp
set_option maxRecDepth 100000 in
set_option maxHeartbeats 4000000 in
theorem readWord_any (l : List Int) (hb : Byt l) (hl : l.length ≤ 1000000) (w : World) : Calls Tryd.prog 14 #[.string (strOfNums l)] w (RwP (readW l) w) := by
  by_cases h61 : l.getD 0 0 = 61
  · rcases l with _ | ⟨z, S⟩
    · simp at h61
    have hz : z = 61 := h61
    subst hz
    have hSb : Byt S := fun z hz => hb z (by simp [hz])
    have hSl : S.length ≤ 1000000 := by simp at hl; omega
    have hR : readW (61 :: S) = dec S := by unfold readW; rw [if_pos h61]; rfl
    have HR := Lib.hid hR
    have HC : Hid (∀ w, Calls Tryd.prog 27 #[.string (strOfNums (61 :: S)), .string (ByteArray.mk #[61])] w fun e w' => e = .returned (.tuple #[.string (strOfNums S), .bool true]) ∧ w = w') := fun w => by
      have := pre_yes 61 S w
      exact this
    have hsz := strOfNums_size S
    clear hb hl h61 hR
    go_enter Tryd.func14, Tryd.ntmps14
    go_upto_region 6 with (go_at_call 27; refine (HC.out _).mono ?_; rintro e w1 ⟨rfl, rfl⟩)
    go_loopw [6, 7] (fun v6 v7 wr => RwRel S w v6 v7 wr) (fun _ v7 _ => S.length - natV v7)
    case atStart => exact ⟨0, 0, [], by omega, rfl, by omega, by unfold Hid; rw [List.drop_zero]; cases dec S <;> simp, fun z hz => by simp at hz, World.ownsRow_nil _ _ _ _, Below.refl _ _⟩
    case round =>
      obtain ⟨i, N, bs, hi, rfl, hN, hD, hbb, hown, hB⟩ := hrel
      by_cases hlt : i < S.length
      · have hdc := drop_cons S i hlt
        have hix := index_nums S hSb i hlt
        have hc := hSb _ (getD_mem0 (l := S) (k := i) hlt)
        generalize S.getD i 0 = c at *
        have HPL : Hid (∀ w, Calls Tryd.prog 28 #[.int .u8 c] w fun e w' => e = .returned (.bool (plainB c)) ∧ w = w') := fun w => plain_any c w
        cases hp : plainB c with
        | true =>
          have HD2 : Hid (dec S = (dec (S.drop (i + 1))).map (fun x => (bs ++ [c]) ++ x)) := by
            unfold Hid; rw [hD.out, hdc, dec_plain hp, map_snoc]
          have HM : Hid (bs.map (Value.int .u8) ++ [Value.int .u8 c] = (bs ++ [c]).map (Value.int .u8)) := by unfold Hid; simp
          have HB2 : Hid (Byt (bs ++ [c])) := hbb.app (fun z hz => by simp only [List.mem_singleton] at hz; subst hz; exact hc)
          rw [hp] at HPL
          clear hD hdc
          go_wp2_with (first | (go_at_call 28; refine (HPL.out _).mono ?_; rintro e w2 ⟨rfl, rfl⟩) | (at_builtin; refine wpList_append_one rfl (.tmp 29) (.tmp 31) 39 5 rfl Tryd.underlying39 infoByte rfl w.heap.size _ _ _ rfl hown (.int .u8 c) rfl rfl ?_ ?_ ?_ ?_))
          case refine_1 => omega
          case refine_2 => unfold maxLen; omega
          case refine_3 => exact hB.size
          intro v' w' hown' hk'
          have hB' := hB.trans (owns_below hown hk' hB.size)
          rw [HM.out] at hown'
          clear hown hk'
          go_wp2_with fail
          refine ⟨⟨i + 1, N + 1, _, by omega, by go_num, by omega, HD2.out, HB2.out, hown', hB'⟩, ?_⟩
          simp [natV]; omega
        | false =>
          rw [hp] at HPL
          have hde : dec (S.drop i) = if escB c (S.drop (i + 1)) = true then (dec ((S.drop (i + 1)).drop 2)).map (fun x => escV (S.drop (i + 1)) :: x) else none := by rw [hdc, dec_cons, if_neg (by rw [hp]; decide)]
          have hE : Hid (escB c (S.drop (i + 1)) = false → readW (61 :: S) = none) := fun h => by
            rw [HR.out, hD.out, hde, if_neg (by rw [h]; decide)]; rfl
          by_cases h37 : c = 37
          · by_cases hl2 : i + 2 < S.length
            · have hix1 : ∀ w, (Instr.index 9 (.string (strOfNums S)) (.int .i64 ((i : Int) + 1))).run Tryd.prog w = .ok (.int .u8 (S.getD (i + 1) 0)) w := fun w => index_nums S hSb (i + 1) (by omega) w
              have hix2 : ∀ w, (Instr.index 9 (.string (strOfNums S)) (.int .i64 ((i : Int) + 2))).run Tryd.prog w = .ok (.int .u8 (S.getD (i + 2) 0)) w := fun w => index_nums S hSb (i + 2) (by omega) w
              have ha := hSb _ (getD_mem0 (l := S) (k := i + 1) (by omega))
              have hb := hSb _ (getD_mem0 (l := S) (k := i + 2) hl2)
              have hg1 : (S.drop (i + 1)).getD 0 0 = S.getD (i + 1) 0 := getD_drop _ _ _
              have hg2 : (S.drop (i + 1)).getD 1 0 = S.getD (i + 2) 0 := getD_drop _ _ _
              have hdl : 2 ≤ (S.drop (i + 1)).length := by rw [List.length_drop]; omega
              have hdd : (S.drop (i + 1)).drop 2 = S.drop (i + 3) := by rw [List.drop_drop]
              rw [hdd] at hde
              have hev : escV (S.drop (i + 1)) = 16 * sgnB (S.getD (i + 1) 0) + sgnB (S.getD (i + 2) 0) := by unfold escV; rw [hg1, hg2]
              have heb : escB c (S.drop (i + 1)) = decide (0 ≤ sgnB (S.getD (i + 1) 0) ∧ 0 ≤ sgnB (S.getD (i + 2) 0) ∧ plainB (escV (S.drop (i + 1))) = false) := by
                unfold escB
                rw [hg1, hg2]
                apply decide_eq_decide.2
                exact ⟨fun h => h.2.2, fun h => ⟨h37, hdl, h⟩⟩
              rw [hev] at heb hde
              generalize escB c (S.drop (i + 1)) = eb at *
              generalize S.getD (i + 1) 0 = ca at *
              generalize S.getD (i + 2) 0 = cb at *
              have SA : Hid (∀ w, Calls Tryd.prog 29 #[.int .u8 ca] w fun e w' => e = .returned (.int .i64 (sgnB ca)) ∧ w = w') := fun w => sign_any ca ha w
              have SB : Hid (∀ w, Calls Tryd.prog 29 #[.int .u8 cb] w fun e w' => e = .returned (.int .i64 (sgnB cb)) ∧ w = w') := fun w => sign_any cb hb w
              have ha1 : sgnB ca < 16 := by unfold sgnB; split <;> (try split) <;> omega
              have hb1 : sgnB cb < 16 := by unfold sgnB; split <;> (try split) <;> omega
              clear hg1 hg2 hdl hdd hdc hev
              generalize sgnB ca = sa at *
              generalize sgnB cb = sb at *
              subst h37
              have g2 : decide ((i : Int) + 2 < (S.length : Int)) = true := decide_eq_true (by omega)
              by_cases ha0 : 0 ≤ sa
              · have ga : decide (0 ≤ sa) = true := decide_eq_true ha0
                by_cases hb0 : 0 ≤ sb
                · have gb : decide (0 ≤ sb) = true := decide_eq_true hb0
                  have hor := or4 (sa * 16) sb (by omega) (by omega) (by omega) (by omega) (by omega)
                  have hv2 : 16 * sa + sb = sa * 16 + sb := by omega
                  rw [hv2] at heb hde
                  have HPV : Hid (∀ w, Calls Tryd.prog 28 #[.int .u8 (sa * 16 + sb)] w fun e w' => e = .returned (.bool (plainB (sa * 16 + sb))) ∧ w = w') := fun w => plain_any _ w
                  have HEB := Lib.hid heb
                  have HDE := Lib.hid hde
                  clear heb hde hv2
                  cases hpv : plainB (sa * 16 + sb) with
                  | true =>
                    have HO : Hid (readW (61 :: S) = none) := hE.out (by rw [HEB.out]; exact decide_eq_false (fun h => by have := h.2.2; rw [hpv] at this; cases this))
                    rw [hpv] at HPV
                    clear hD hE HEB HDE hpv
                    go_upto_region 13 with (first | (go_at_call 28; refine (HPL.out _).mono ?_; rintro e w2 ⟨rfl, rfl⟩) | (go_at_call 29; (first | with_reducible refine (SA.out _).mono ?_ | with_reducible refine (SB.out _).mono ?_); rintro e w2 ⟨rfl, rfl⟩))
                    have hw1 : IntKind.i64.wrap ((i : Int) + 1) = (i : Int) + 1 := IntWalk.i64_in _ (by omega)
                    have hw2 : IntKind.i64.wrap ((i : Int) + 2) = (i : Int) + 2 := IntWalk.i64_in _ (by omega)
                    have hw3 : IntKind.i64.wrap (sa * 16) = sa * 16 := IntWalk.i64_in _ (by omega)
                    have hw4 : IntKind.u8.wrap (sa * 16 + sb) = sa * 16 + sb := IntWalk.u8_in _ (by omega)
                    go_cut [9] (fun v9 wx => v9 = .int .u8 (sa * 16 + sb) ∧ ∃ Wx, Wx = wx ∧ Hid (wr.drew = Wx))
                    case first =>
                      go_region_held3 (fun w' => True) (trivial) (first | (go_at_call 29; (first | with_reducible refine (SA.out _).mono ?_ | with_reducible refine (SB.out _).mono ?_); rintro e w2 ⟨rfl, rfl⟩))
                      all_goals
                        go_wp2_with fail
                        go_meet
                        exact ⟨rfl, _, rfl, rfl⟩
                    case rest =>
                    obtain ⟨rfl, Wx, rfl, hwx⟩ := hcut
                    have hBd : Below w.heap.size w Wx := by rw [← hwx.out]; exact hB.drew
                    go_wp2_with (go_at_call 28; refine (HPV.out _).mono ?_; rintro e w2 ⟨rfl, rfl⟩)
                    go_ret2
                    exact ⟨by rw [HO.out] <;> rfl, hBd⟩
                  | false =>
                    have hD2 : dec S = (dec (S.drop (i + 3))).map (fun x => (bs ++ [sa * 16 + sb]) ++ x) := by
                      rw [hD.out, HDE.out, if_pos (by rw [HEB.out]; exact decide_eq_true ⟨ha0, hb0, hpv⟩), map_snoc]
                    have HD2 := Lib.hid hD2
                    have HM : Hid (bs.map (Value.int .u8) ++ [Value.int .u8 (sa * 16 + sb)] = (bs ++ [sa * 16 + sb]).map (Value.int .u8)) := by unfold Hid; simp
                    have HB2 : Hid (Byt (bs ++ [sa * 16 + sb])) := hbb.app (fun z hz => by simp only [List.mem_singleton] at hz; subst hz; omega)
                    rw [hpv] at HPV
                    clear hD hE HEB HDE hpv hD2
                    go_upto_region 13 with (first | (go_at_call 28; refine (HPL.out _).mono ?_; rintro e w2 ⟨rfl, rfl⟩) | (go_at_call 29; (first | with_reducible refine (SA.out _).mono ?_ | with_reducible refine (SB.out _).mono ?_); rintro e w2 ⟨rfl, rfl⟩))
                    have hw1 : IntKind.i64.wrap ((i : Int) + 1) = (i : Int) + 1 := IntWalk.i64_in _ (by omega)
                    have hw2 : IntKind.i64.wrap ((i : Int) + 2) = (i : Int) + 2 := IntWalk.i64_in _ (by omega)
                    have hw3 : IntKind.i64.wrap (sa * 16) = sa * 16 := IntWalk.i64_in _ (by omega)
                    have hw4 : IntKind.u8.wrap (sa * 16 + sb) = sa * 16 + sb := IntWalk.u8_in _ (by omega)
                    go_cut [9] (fun v9 wx => v9 = .int .u8 (sa * 16 + sb) ∧ ∃ Wx, Wx = wx ∧ Hid (wr.drew = Wx))
                    case first =>
                      go_region_held3 (fun w' => True) (trivial) (first | (go_at_call 29; (first | with_reducible refine (SA.out _).mono ?_ | with_reducible refine (SB.out _).mono ?_); rintro e w2 ⟨rfl, rfl⟩))
                      all_goals
                        go_wp2_with fail
                        go_meet
                        exact ⟨rfl, _, rfl, rfl⟩
                    case rest =>
                    obtain ⟨rfl, Wx, rfl, hwx⟩ := hcut
                    have hBd : Below w.heap.size w Wx := by rw [← hwx.out]; exact hB.drew
                    have hownd := own_at (own_below0 hown (Below.refl _ wr).drew) hwx.out
                    go_wp2_with (first | (go_at_call 28; refine (HPV.out _).mono ?_; rintro e w2 ⟨rfl, rfl⟩) | (at_builtin; refine wpList_append_one rfl (.tmp 74) (.tmp 76) 39 5 rfl Tryd.underlying39 infoByte rfl w.heap.size _ _ _ rfl hownd (.int .u8 (sa * 16 + sb)) rfl rfl ?_ ?_ ?_ ?_))
                    case refine_1 => omega
                    case refine_2 => unfold maxLen; omega
                    case refine_3 => exact hBd.size
                    intro v' w' hown' hk'
                    have hB' := hBd.trans (owns_below hownd hk' hBd.size)
                    rw [HM.out] at hown'
                    clear hown hk' hownd
                    go_wp2_with fail
                    refine ⟨⟨i + 3, N + 1, _, by omega, by go_num, by omega, HD2.out, HB2.out, hown', hB'⟩, ?_⟩
                    simp [natV]; omega
                · have gb : decide (0 ≤ sb) = false := decide_eq_false hb0
                  have HO : Hid (readW (61 :: S) = none) := hE.out (by rw [heb]; exact decide_eq_false (fun h => hb0 h.2.1))
                  clear hD hde heb hE
                  go_wp2_with (first | (go_at_call 28; refine (HPL.out _).mono ?_; rintro e w2 ⟨rfl, rfl⟩) | (go_at_call 29; (first | with_reducible refine (SA.out _).mono ?_ | with_reducible refine (SB.out _).mono ?_); rintro e w2 ⟨rfl, rfl⟩))
                  go_ret2
                  exact ⟨by rw [HO.out] <;> rfl, hB⟩
              · have ga : decide (0 ≤ sa) = false := decide_eq_false ha0
                have HO : Hid (readW (61 :: S) = none) := hE.out (by rw [heb]; exact decide_eq_false (fun h => ha0 h.1))
                clear hD hde heb hE
                go_wp2_with (first | (go_at_call 28; refine (HPL.out _).mono ?_; rintro e w2 ⟨rfl, rfl⟩) | (go_at_call 29; (first | with_reducible refine (SA.out _).mono ?_ | with_reducible refine (SB.out _).mono ?_); rintro e w2 ⟨rfl, rfl⟩))
                go_ret2
                exact ⟨by rw [HO.out] <;> rfl, hB⟩
            · have HO : Hid (readW (61 :: S) = none) := hE.out (decide_eq_false (fun h => by have := h.2.1; rw [List.length_drop] at this; omega))
              have g2 : decide ((i : Int) + 2 < (S.length : Int)) = false := decide_eq_false (by omega)
              subst h37
              clear hD hde hdc hE
              go_wp2_with (go_at_call 28; refine (HPL.out _).mono ?_; rintro e w2 ⟨rfl, rfl⟩)
              go_ret2
              exact ⟨by rw [HO.out] <;> rfl, hB⟩
          · have HO : Hid (readW (61 :: S) = none) := hE.out (decide_eq_false (fun h => h37 h.1))
            have g1 : (c == 37) = false := by simpa using h37
            clear hD hde hdc hE
            go_wp2_with (go_at_call 28; refine (HPL.out _).mono ?_; rintro e w2 ⟨rfl, rfl⟩)
            go_ret2
            exact ⟨by rw [HO.out] <;> rfl, hB⟩
      · obtain rfl : i = S.length := by omega
        obtain ⟨o3, cp3, rfl, hcp3, hrow3, hl3, hu3, ht3⟩ := own_slice hown
        have hI := hrow3.ints hl3 (fun z hz => WalkArith.wf_u8 ⟨(hbb z hz).1, by have := (hbb z hz).2; omega⟩)
        have hcv := conv_ints (P := Tryd.prog) hI 39 5 9 cp3 rfl rfl rfl
        have hD2 := hD.out
        rw [List.drop_length, dec_nil] at hD2
        have HO : Hid (readW (61 :: S) = some bs) := by unfold Hid; rw [HR.out, hD2]; simp
        clear hD hD2 hI hrow3 hu3 ht3 hown
        go_wp2_with fail
        go_ret2
        exact ⟨by rw [HO.out] <;> rfl, hB⟩
  · have HC : Hid (∀ w, Calls Tryd.prog 27 #[.string (strOfNums l), .string (ByteArray.mk #[61])] w fun e w' => e = .returned (.tuple #[.string (strOfNums l), .bool false]) ∧ w = w') := fun w => by
      have := pre_no 61 l (by omega) hb h61 w
      exact this
    have HO : Hid (readW l = none) := by unfold Hid readW; rw [if_neg h61]
    clear h61
    go_enter Tryd.func14, Tryd.ntmps14
    go_wp2_with (go_at_call 27; refine (HC.out _).mono ?_; rintro e w1 ⟨rfl, rfl⟩)
    go_ret2
    exact ⟨by rw [HO.out] <;> rfl, Below.refl _ _⟩
end Go.Proofs.YtflpblggpbgeiaaDoor

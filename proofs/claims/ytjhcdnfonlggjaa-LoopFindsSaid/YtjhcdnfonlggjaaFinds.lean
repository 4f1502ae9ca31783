/- The walk of the statement LoopFinds. -/
import Derived.Test.YtjhcdnfonlggjaaFind
namespace Go.Proofs.Ytjhcdnfonlggjaa
open Go.RowKit Go.Calli
set_option linter.unusedVariables false

set_option maxRecDepth 100000 in
set_option maxHeartbeats 2000000 in
theorem loopFinds_any (ao : Option Addr) (len cap : Nat) (zs : List Int) (least : Int) (w : World) (h : Ints .i64 w ao len zs)
    (hn : -9223372036854775808 ≤ least ∧ least ≤ 9223372036854775807) :
    Calls Try.prog 6 #[.slice ao len cap, .int .i64 least] w fun e w' => e = .returned (.bool true) ∧ Below w.heap.size w w' := by
  go_enter Try.func6, Try.ntmps6
  go_upto_region 2 with (go_at_call 7; refine (few_any ao len cap zs 40 (by decide) w h).mono ?_; rintro e w1 ⟨a1, l1, c1, rfl, hl1, hc1, h1, hb1⟩)
  have hl100 : l1 ≤ 100 := by have := hl1.out; omega
  have hs1 : Small (fewOf zs 40) := fun z hz => fewOf_bd z hz
  clear h
  generalize fewOf zs 40 = ys at *
  by_cases hbad : least < 1 ∨ (l1 : Int) < least
  · have hB := Lib.hid hbad
    clear hbad
    by_cases g1 : least < 1
    · go_wp2_with (first | (go_at_call 14; refine (find_none _ _ _ _ _ hl100 hB.out).mono ?_; rintro e w2 ⟨rfl, hb2⟩) | (go_at_call 9; refine (awake_any _).mono ?_; rintro e w3 ⟨rfl, hb3⟩))
      go_ret
      exact ⟨rfl, ((hb1.trans (hb2.mono hb1.size)).alloc (Nat.le_trans hb1.size hb2.size) _).trans (hb3.mono (by have := hb1.size; have := hb2.size; simp; omega))⟩
    · have g2 : (l1 : Int) < least := by have := hB.out; omega
      go_wp2_with (first | (go_at_call 14; refine (find_none _ _ _ _ _ hl100 hB.out).mono ?_; rintro e w2 ⟨rfl, hb2⟩) | (go_at_call 9; refine (awake_any _).mono ?_; rintro e w3 ⟨rfl, hb3⟩))
      go_ret
      exact ⟨rfl, ((hb1.trans (hb2.mono hb1.size)).alloc (Nat.le_trans hb1.size hb2.size) _).trans (hb3.mono (by have := hb1.size; have := hb2.size; simp; omega))⟩
  · have g1 : 1 ≤ least := by omega
    have g2 : least ≤ l1 := by omega
    clear hbad
    go_wp2_with (go_at_call 14; refine (find_any _ _ _ _ _ _ h1 hs1 hl100 g1 g2).mono ?_; rintro e w2 ⟨bf, bt, bs, rfl, hv, hbs, hno, hb2⟩; subst hbs; obtain ⟨v1, v2, v3⟩ := hv; have HNO := Lib.hid hno; clear hno)
    have d1 : decide (bf < 0) = false := decide_eq_false (by omega)
    have d2 : decide ((l1 : Int) < bt) = false := decide_eq_false (by omega)
    have d3 : decide (bt - bf < least) = false := decide_eq_false (by omega)
    have d4 : IntKind.i64.wrap (bt - bf) = bt - bf := IntWalk.i64_in _ (by omega)
    have hi3 := (h1.keep0 hb2)
    go_quiet ((go_at_call 11; exact Calls.quiet_of_same ((lseam_any _ _ _ _ _ _ _ (hi3.keep0 (by exact below_drewN (below_alloc _ _) _)) hs1 (by omega) (by omega)).mono fun e w' h => ⟨h.1, h.2.symm⟩)))
    clear d1 d2 d3 d4
    go_wp2_with fail
    have hx0 : ((w2.alloc (.cells #[.int .i64 bf, .int .i64 bt, .int .i64 (seamTo ys bf bt 8)] 34)).drewN nq).heap[w2.heap.size]? = some (.cells #[.int .i64 bf, .int .i64 bt, .int .i64 (seamTo ys bf bt 8)] 34 (0, 0)) := heap_alloc_new _ _
    have hbx : Below w2.heap.size w2 ((w2.alloc (.cells #[.int .i64 bf, .int .i64 bt, .int .i64 (seamTo ys bf bt 8)] 34)).drewN nq) := below_drewN (below_alloc _ _) _
    have HX := Lib.hid hx0
    clear hx0
    generalize seamTo ys bf bt 8 = m0 at *
    go_loopw [7] (fun i wr => ∃ F : Nat, F ≤ l1 ∧ i = .int .i64 F ∧ wr.heap[w2.heap.size]? = some (.cells #[.int .i64 bf, .int .i64 bt, .int .i64 m0] 34 (0, 0)) ∧ Below w2.heap.size w2 wr) (fun i _ => (l1 - intOf i).toNat)
    case atStart => exact ⟨0, by omega, rfl, HX.out, hbx⟩
    case round =>
      clear hbx HX
      obtain ⟨F, hF, rfl, hx, hbel⟩ := hrel
      have HX := Lib.hid hx
      clear hx
      by_cases hlt : F < l1
      · go_wp2_with fail
        obtain ⟨wo, rfl⟩ : ∃ wo : World, wo = wr := ⟨_, rfl⟩
        go_loopw [8] (fun t wr => ∃ T : Int, (F : Int) + least ≤ T ∧ T ≤ l1 + 1 + least ∧ t = .int .i64 T ∧ wr.heap[w2.heap.size]? = some (.cells #[.int .i64 bf, .int .i64 bt, .int .i64 m0] 34 (0, 0)) ∧ Below w2.heap.size w2 wr) (fun t _ => (l1 + 1 + least - intOf t).toNat)
        case atStart => exact ⟨F + least, by omega, by omega, rfl, HX.out, hbel⟩
        case round =>
          clear HX hbel
          obtain ⟨T, hT1, hT2, rfl, hx, hbel⟩ := hrel
          have HX := Lib.hid hx
          by_cases hTl : T ≤ l1
          · obtain ⟨k0, k1, k2, -, -, -⟩ := three_cells hx
            clear hx
            have hnb := HNO.out F T (by unfold Valid; omega)
            obtain ⟨s, hs⟩ : ∃ s, s = seamTo ys F T 8 := ⟨_, rfl⟩
            rw [← hs] at hnb
            have HS := Lib.hid hs
            clear hs
            have d1 : IntKind.i64.wrap (T - (F : Int)) = T - (F : Int) := IntWalk.i64_in _ (by omega)
            have d2 : IntKind.i64.wrap (bt - bf) = bt - bf := IntWalk.i64_in _ (by omega)
            unfold Better at hnb
            go_wp2_with (go_at_call 11; refine (lseam_any _ _ _ _ _ _ _ (hi3.keep0 hbel) hs1 (by omega) (by omega)).mono ?_; rw [← HS.out]; rintro e w' ⟨rfl, rfl⟩)
            go_quiet (fail)
            clear d1 d2
            by_cases hsm : s = m0
            · subst hsm
              have q1 : ¬ (bt - bf < T - (F : Int)) := by omega
              by_cases hTF : T - (F : Int) = bt - bf
              · have q2 : ¬ (F : Int) < bf := by omega
                clear hnb
                go_wp2_with fail
                go_roundw
                case rel => exact ⟨T + 1, by omega, by omega, rfl, HX.out, below_drewN hbel _⟩
                case measure => simp [intOf]; omega
              · have q2 : T - (F : Int) < bt - bf := by omega
                have q3 : (T - (F : Int) == bt - bf) = false := by simp; omega
                clear hnb hTF
                go_wp2_with fail
                go_roundw
                case rel => exact ⟨T + 1, by omega, by omega, rfl, HX.out, below_drewN hbel _⟩
                case measure => simp [intOf]; omega
            · have q2 : ¬ s < m0 := by omega
              have q3 : (s == m0) = false := by simpa using hsm
              clear hnb hsm
              go_wp2_with fail
              go_roundw
              case rel => exact ⟨T + 1, by omega, by omega, rfl, HX.out, below_drewN hbel _⟩
              case measure => simp [intOf]; omega
          · clear hx
            go_wp2_with fail
            go_roundw
            case rel => exact ⟨F + 1, by omega, by go_num, HX.out, hbel⟩
            case measure => simp [intOf]; omega
      · go_wp2_with (go_at_call 9; refine (awake_any _).mono ?_; rintro e w3 ⟨rfl, hb3⟩)
        go_ret
        exact ⟨rfl, ((hb1.trans (hb2.mono hb1.size)).trans (hbel.mono (Nat.le_trans hb1.size hb2.size))).trans (hb3.mono (Nat.le_trans (Nat.le_trans hb1.size hb2.size) hbel.size))⟩
end Go.Proofs.Ytjhcdnfonlggjaa

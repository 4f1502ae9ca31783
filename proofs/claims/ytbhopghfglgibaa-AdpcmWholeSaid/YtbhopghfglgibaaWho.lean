/- The walk of adpcm.Whole. -/
import Derived.Test.YtbhopghfglgibaaPkl
import Derived.Test.YtbhopghfglgibaaApp
namespace Go.Proofs.Ytbhopghfglgibaa
open Go.RowKit Go.Calli
set_option linter.unusedVariables false
/-- A block of many. -/
def chB (bs : List Int) (m : Nat) : List Int := (bs.drop (20 * m)).take 20
def wholeO (bs : List Int) : Nat → List Int
  | 0 => []
  | m + 1 => wholeO bs m ++ outs (chB bs m) (byteAt (chB bs m) 3)
def AllOk (bs : List Int) (m : Nat) : Prop := ∀ q, q < m → OkB (chB bs q)
theorem wholeO_len {bs : List Int} : ∀ {m : Nat}, AllOk bs m → (wholeO bs m).length ≤ 32 * m
  | 0, _ => by simp [wholeO]
  | m + 1, h => by
    have := wholeO_len (m := m) fun q hq => h q (by omega)
    have h3 := (h m (by omega)).2.1
    simp only [wholeO, List.length_append, outs_len]
    omega
theorem wholeO_wf {bs : List Int} : ∀ {m : Nat}, ∀ z ∈ wholeO bs m, (Lit.int .i64 z).wf = true
  | 0 => by intro z hz; simp [wholeO] at hz
  | m + 1 => by
    intro z hz
    rcases List.mem_append.1 hz with hz | hz
    · exact wholeO_wf z hz
    · exact outs_wf _ z hz
def WhoPost (bs : List Int) (n : Nat) (w : World) (e : Ending) (w' : World) : Prop :=
  (n % 20 ≠ 0 ∧ e = .returned (.tuple #[.slice none 0 0, .int .i64 12]) ∧ Below w.heap.size w w') ∨
  (n % 20 = 0 ∧ ¬ AllOk bs (n / 20) ∧ e = .returned (.tuple #[.slice none 0 0, .int .i64 4]) ∧ Below w.heap.size w w') ∨
  (n % 20 = 0 ∧ AllOk bs (n / 20) ∧ ∃ ao k c, e = .returned (.tuple #[.slice ao k c, .int .i64 0]) ∧ Ints .i64 w' ao k (wholeO bs (n / 20)) ∧ Below w.heap.size w w')
def WhoRel (bs : List Int) (n cap : Nat) (w : World) (v0 v4 : Value) (wr : World) : Prop := ∃ (m : Nat) (ao' : Option Addr) (c' k : Nat), 20 * m ≤ n ∧ v0 = .slice ao' (n - 20 * m) c' ∧ n - 20 * m ≤ c' ∧ c' ≤ cap ∧ Ints .u8 w ao' (n - 20 * m) (bs.drop (20 * m)) ∧ wr.ownsRow w.heap.size 3 1 v4 k ((wholeO bs m).map (Value.int .i64)) ∧ AllOk bs m ∧ Below w.heap.size w wr
theorem AllOk.succ {bs : List Int} {m : Nat} (h : AllOk bs m) (h2 : OkB (chB bs m)) : AllOk bs (m + 1) := fun q hq => by
  by_cases e : q = m
  · exact e ▸ h2
  · exact h q (by omega)
def lenOf : Value → Nat
  | .slice _ l _ => l
  | _ => 0
set_option maxHeartbeats 1000000 in
theorem whole_any (ao : Option Addr) (n cap : Nat) (bs : List Int) (hn : n ≤ 200) (hc : n ≤ cap) (hcm : cap ≤ maxLen) (w : World) (h : Ints .u8 w ao n bs) : Calls Try.prog 23 #[.slice ao n cap] w (WhoPost bs n w) := by
  unfold maxLen at hcm
  by_cases hm : (n : Int) % 20 = 0
  · go_enter Try.func23, Try.ntmps23
    go_wp2_with fail
    go_loopw [0, 4] (fun v0 v4 wr => WhoRel bs n cap w v0 v4 wr) (fun v0 _ _ => lenOf v0)
    case atStart => exact ⟨0, ao, cap, 0, by omega, rfl, by omega, by omega, h, World.ownsRow_nil _ _ _ _, fun q hq => by omega, Below.refl _ _⟩
    case round =>
      obtain ⟨m, ao', c', k, hm1, rfl, hm2, hm3, hi, hown, hok, hb⟩ := hrel
      by_cases hlt : 20 * m < n
      · obtain ⟨a, rfl, -⟩ := hi.some (by omega)
        have hge : 20 ≤ n - 20 * m := by omega
        have hpos : 0 < n - 20 * m := by omega
        have hI : Ints .u8 wr (some a) 20 (chB bs m) := (hi.keep0 hb).take hge
        have hU := unpack_uni (some a) c' (chB bs m) wr hI
        generalize hll : n - 20 * m = l at hi hI hU hge hpos hm2 ⊢
        have HLL : Hid (n - 20 * m = l) := hll
        clear hll
        go_upto_region 7 with (go_at_call 17; refine hU.mono ?_; rintro e w1 ⟨ro, rn, rc, L, I, E, rfl, HR, hb1⟩)
        clear hU
        have hb2 := balloc hb1 (.cells #[.int .i64 L, .int .i64 I] 23)
        have HR2 := HR.keep0 (below_alloc w1 (.cells #[.int .i64 L, .int .i64 I] 23))
        have hown2 := owns_kept (S := fun _ => False) hown (Keeps.ofBelow hb2 (Nat.le_refl _)) (fun _ _ h => h)
        have hb3 := bstep hb hb2
        clear HR hb1 hown hb hb2 hI
        generalize w1.alloc (.cells #[.int .i64 L, .int .i64 I] 23) = W at *
        rcases HR2 with ⟨ho, rfl, rfl, rfl, rfl, hint⟩ | ⟨hno, rfl, rfl, rfl, rfl, rfl, rfl⟩
        · have hnil : ro = none → byteAt (chB bs m) 3 = 0 := hint.nil_len
          have hb33 := ho.2.1
          have hkl := hown2.1
          have hwl := wholeO_len hok
          simp at hkl
          have HO := Lib.hid ho
          have HK := Lib.hid hok
          clear ho hok
          go_wp2_with (at_builtin; refine wpList_append_row rfl (.tmp 27) (.tmp 28) 34 3 rfl Try.underlying34 infoInt rfl w.heap.size _ _ _ rfl hown2 ro (byteAt (chB bs m) 3) rc ((outs (chB bs m) (byteAt (chB bs m) 3)).map (Value.int .i64)) rfl hint.row (one_ints _ _) hnil ?_ ?_ ?_ ?_)
          case refine_1 => omega
          case refine_2 => unfold maxLen; omega
          case refine_3 => exact hb3.size
          intro v' w' hown' hkp
          have hb' := hb3.trans (owns_below hown2 hkp hb3.size)
          have hdr := hi.drop hge
          clear hown2 hkp hb3 hint hi
          rw [List.drop_drop, show 20 * m + 20 = 20 * (m + 1) by omega] at hdr
          have hll := HLL.out
          have hdr0 : ∀ ao, l = 20 → Ints .u8 w ao 0 (bs.drop (20 * (m + 1))) := fun ao hl20 => by
            have := hdr.hlen
            have e : bs.drop (20 * (m + 1)) = [] := List.eq_nil_of_length_eq_zero (by rw [this]; omega)
            rw [e]; exact Ints.nil _ _ _
          have HD0 := Lib.hid hdr0
          have HDR := Lib.hid hdr
          clear hdr0 hdr hll
          have hok := HK.out.succ HO.out
          have HR : Hid (∀ ao c2, l - 20 ≤ c2 → c2 ≤ cap → (Ints .u8 w ao (l - 20) (bs.drop (20 * (m + 1)))) → WhoRel bs n cap w (.slice ao (l - 20) c2) v' w') := fun ao c2 h1 h2 h3 => by
            have hll := HLL.out
            refine ⟨m + 1, ao, c2, k + byteAt (chB bs m) 3, by omega, by rw [show n - 20 * (m + 1) = l - 20 by omega], by omega, h2, by rw [show n - 20 * (m + 1) = l - 20 by omega]; exact h3, ?_, hok, hb'⟩
            simp only [wholeO, List.map_append]
            exact hown'
          clear hok hown'
          have hm4 : c' - 20 ≤ cap := by omega
          have hm5 : l - 20 ≤ c' - 20 := by omega
          have hm6 : c' - 20 = 0 → l - 20 = 0 := by omega
          go_wp2_with fail
          · go_roundw
            case rel =>
              have hl20 : l = 20 := by omega
              subst hl20
              exact ⟨_, _, _, _, HR.out _ _ (by omega) (by omega) (HD0.out _ rfl), rfl, rfl, rfl, rfl⟩
            case measure => simp [lenOf]; omega
          · go_roundw
            case rel => exact ⟨_, _, _, _, HR.out _ _ hm5 hm4 HDR.out, rfl, rfl, rfl, rfl⟩
            case measure => simp [lenOf]; omega
        · have HN := Lib.hid hno
          have hll := HLL.out
          have hall : ¬ AllOk bs (n / 20) := fun hh => HN.out (hh m (by omega))
          have HA := Lib.hid hall
          clear hno hall hll
          go_wp2_with fail
          exact bodyPost_ret (v := .tuple #[.slice none 0 0, .int .i64 4]) (by simp [results, Try.results23, go_sem]) rfl (.inr (.inl ⟨by omega, HA.out, rfl, hb3⟩))
      · obtain ⟨a', c2, rfl, hc', hrow, hl, _, _⟩ := own_slice hown
        have hints := hrow.ints hl wholeO_wf
        obtain rfl : m = n / 20 := by omega
        have HI := Lib.hid hints
        have HK := Lib.hid hok
        clear hints hrow hown hok
        have hz : n - 20 * (n / 20) = 0 := by omega
        rw [hz]
        clear hz
        go_wp2_with fail
        exact bodyPost_ret (v := .tuple #[.slice a' k c2, .int .i64 0]) (by simp [results, Try.results23, go_sem]) rfl (.inr (.inr ⟨by omega, HK.out, a', k, c2, rfl, HI.out, hb⟩))
  · have hm' : ((n : Int) % 20 == 0) = false := by simp; omega
    go_enter Try.func23, Try.ntmps23
    go_wp2_with fail
    exact bodyPost_ret (v := .tuple #[.slice none 0 0, .int .i64 12]) (by simp [results, Try.results23, go_sem]) rfl (.inl ⟨by omega, rfl, Below.refl _ _⟩)
end Go.Proofs.Ytbhopghfglgibaa

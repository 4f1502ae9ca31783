/- The walks of midi.Number, midi.Right and of the statements' number, right, awake; the statement MidiNumbers. -/
import Derived.Test.YtmhlmaimmbopfaaRows
import Derived.Test.YtmhlmaimmbopfaaApp
import Derived.Laws.Bits128
import Derived.Deep.RegionHeld3
import Derived.OwnWalk
namespace Go.Proofs.Ytmhlmaimmbopfaa
open Go.RowKit Go.Calli
set_option linter.unusedVariables false
theorem infoByte : (Try.prog.info? 5).map (fun i => (i.zero, i.size, i.bytes)) = some (some (.int .u8 0), 1, 1) := by kernel_rfl
/-- What stands ahead of a number's last byte. -/
def ext : Nat → Nat → List Int
  | 0, _ => []
  | f + 1, r => if r = 0 then [] else ext f (r / 128) ++ [((r % 128 + 128 : Nat) : Int)]
/-- A number's bytes. -/
def numL (v : Nat) : List Int := ext 4 (v / 128) ++ [((v % 128 : Nat) : Int)]
theorem ext_zero (f : Nat) : ext f 0 = [] := by cases f <;> simp [ext]
theorem ext_len (f r : Nat) : (ext f r).length ≤ f := by
  induction f generalizing r with
  | zero => simp [ext]
  | succ f ih => unfold ext; split <;> simp; exact ih _
theorem ext_wf (f r : Nat) : ∀ z ∈ ext f r, (Lit.int .u8 z).wf = true := by
  induction f generalizing r with
  | zero => intro z hz; simp [ext] at hz
  | succ f ih =>
    intro z hz
    unfold ext at hz
    split at hz
    · simp at hz
    · rcases List.mem_append.1 hz with hz | hz
      · exact ih _ z hz
      · simp only [List.mem_singleton] at hz; subst hz
        exact WalkArith.wf_u8 (by omega)
theorem numL_wf (v : Nat) : ∀ z ∈ numL v, (Lit.int .u8 z).wf = true := by
  intro z hz
  rcases List.mem_append.1 hz with hz | hz
  · exact ext_wf _ _ z hz
  · simp only [List.mem_singleton] at hz; subst hz
    exact WalkArith.wf_u8 (by omega)
theorem numL_len (v : Nat) : (numL v).length ≤ 5 ∧ 0 < (numL v).length := by
  have := ext_len 4 (v / 128)
  simp [numL]; omega
theorem ext_step (f r : Nat) (L : List Int) (h : 0 < r) : ext (f + 1) r ++ L = ext f (r / 128) ++ (((r % 128 + 128 : Nat) : Int) :: L) := by
  conv => lhs; unfold ext
  rw [if_neg (by omega), List.append_assoc]; rfl
/-- What the loop holds. -/
def NumRel (v : Nat) (w : World) (v0 v3 : Value) (wr : World) : Prop := ∃ (f r n : Nat) (L : List Int), f ≤ 4 ∧ r < 128 ^ f ∧ v0 = .int .i64 (r : Nat) ∧ n + f ≤ 5 ∧ wr.ownsRow w.heap.size 5 1 v3 n (L.map (Value.int .u8)) ∧ ext f r ++ L = numL v ∧ Below w.heap.size w wr
def NumPost (v : Nat) (w : World) (e : Ending) (w' : World) : Prop := ∃ ao n c, e = .returned (.slice ao n c) ∧ n ≤ c ∧ Ints .u8 w' ao n (numL v) ∧ Below w.heap.size w w'
set_option maxHeartbeats 1000000 in
theorem number_any (v : Nat) (hv : v ≤ 268435455) (w : World) : Calls Try.prog 7 #[.int .i64 (v : Nat)] w (NumPost v w) := by
  have h0 : bits BinOp.and IntKind.i64 (v : Int) 127 = (v : Int) % 128 := i64_and127 _
  go_enter Try.func7, Try.ntmps7
  go_wp2_with fail
  have hown0 := World.ownsRow_lit (base := w.heap.size) (e := 5) (size := 1) w #[.int .u8 ((v : Int) % 128)] 1 (Nat.le_refl _) (by decide) rfl
  go_loopw [0, 3] (fun v0 v3 wr => NumRel v w v0 v3 wr) (fun v0 _ _ => (intOf v0).toNat)
  case atStart => exact ⟨4, v / 128, 1, [((v % 128 : Nat) : Int)], by omega, by omega, rfl, by omega, hown0, rfl, below_alloc _ _⟩
  case round =>
    clear hown0 h0
    obtain ⟨f, r, n, L, hf, hr, rfl, hn, hown, hL, hb⟩ := hrel
    have HL := Lib.hid hL
    clear hL
    by_cases hlt : 0 < r
    · obtain ⟨f, rfl⟩ : ∃ g, f = g + 1 := by
        cases f with
        | zero => simp at hr; omega
        | succ g => exact ⟨g, rfl⟩
      have hr1 : r < 268435456 := Nat.lt_of_lt_of_le hr (Nat.le_trans (Nat.pow_le_pow_right (by decide) hf) (by decide))
      have hr2 : r / 128 < 128 ^ f := by rw [Nat.div_lt_iff_lt_mul (by decide), ← Nat.pow_succ]; exact hr
      have HR := Lib.hid hr2
      clear hr2 hr
      have h0 : bits BinOp.and IntKind.i64 (r : Int) 127 = (r : Int) % 128 := i64_and127 _
      have h1 : bits BinOp.or IntKind.u8 ((r : Int) % 128) 128 = (r : Int) % 128 + 128 := u8_or128_right _ (by omega) (by omega)
      obtain ⟨ao, c, rfl, hc, hrow, hl, hu, hbl⟩ := own_slice hown
      have hst := ext_step f r L hlt
      rw [HL.out] at hst
      have HS := Lib.hid hst
      clear hst
      have hown0 := World.ownsRow_lit (base := w.heap.size) (e := 5) (size := 1) wr #[.int .u8 ((r : Int) % 128 + 128)] 1 hb.size (by decide) rfl
      have hrow2 := hrow.keep0 (below_alloc wr (.cells #[.int .u8 ((r : Int) % 128 + 128)] 5))
      have hnil : ao = none → n = 0 := fun h => by
        subst h
        rcases Nat.eq_zero_or_pos n with h0 | h0
        · exact h0
        · obtain ⟨a', ha', _⟩ := hrow.cell 0 ((L.map (Value.int .u8)).getD 0 undef) (by rw [List.getD_eq_getElem?_getD, List.getElem?_eq_getElem (by rw [hrow.hlen]; exact h0)]; rfl)
          cases ha'
      go_wp2_with (at_builtin; refine wpList_append_row rfl (.tmp 24) (.tmp 25) 24 5 rfl Try.underlying24 infoByte rfl w.heap.size _ _ _ rfl hown0 ao n c (L.map (Value.int .u8)) rfl hrow2 (one_ints _ _) hnil ?_ ?_ ?_ ?_)
      case refine_1 => omega
      case refine_2 => unfold maxLen; omega
      case refine_3 => have := hb.size; simp; omega
      intro v' w' hown' hkp
      have hb' : Below w.heap.size w w' := (hb.alloc hb.size _).trans (owns_below hown0 hkp (by have := hb.size; simp; omega))
      clear hown hown0 hkp hrow hrow2 hnil hu hbl
      go_wp2_with fail
      go_roundw
      case rel =>
        have hr0 := hr1
        exact ⟨f, r / 128, 1 + n, ((r % 128 + 128 : Nat) : Int) :: L, by omega, HR.out, by go_num, by omega, by simpa using hown', HS.out.symm, hb'⟩
      case measure => simp [intOf]; omega
    · obtain rfl : r = 0 := by omega
      have hL := HL.out
      rw [ext_zero, List.nil_append] at hL
      obtain ⟨ao, c, rfl, hc, hrow, hl, hu, hbl⟩ := own_slice hown
      have hi := hrow.ints hl (fun z hz => numL_wf v z (by rw [← hL]; exact hz))
      rw [hL] at hi
      have HI := Lib.hid hi
      clear hrow hown hL HL hi hu hbl
      go_wp2_with fail
      go_ret
      exact ⟨_, _, _, rfl, hc, HI.out, hb⟩
set_option maxHeartbeats 1000000 in
theorem lnumber_any (v : Nat) (hv : v ≤ 268435455) (w : World) : Calls Try.prog 11 #[.int .i64 (v : Nat)] w (NumPost v w) := by
  go_enter Try.func11, Try.ntmps11
  go_wp2_with fail
  have hown0 := World.ownsRow_lit (base := w.heap.size) (e := 5) (size := 1) w #[.int .u8 ((v : Int) % 128)] 1 (Nat.le_refl _) (by decide) rfl
  go_loopw [0, 3] (fun v0 v3 wr => NumRel v w v0 v3 wr) (fun v0 _ _ => (intOf v0).toNat)
  case atStart => exact ⟨4, v / 128, 1, [((v % 128 : Nat) : Int)], by omega, by omega, rfl, by omega, hown0, rfl, below_alloc _ _⟩
  case round =>
    clear hown0
    obtain ⟨f, r, n, L, hf, hr, rfl, hn, hown, hL, hb⟩ := hrel
    have HL := Lib.hid hL
    clear hL
    by_cases hlt : 0 < r
    · obtain ⟨f, rfl⟩ : ∃ g, f = g + 1 := by
        cases f with
        | zero => simp at hr; omega
        | succ g => exact ⟨g, rfl⟩
      have hr1 : r < 268435456 := Nat.lt_of_lt_of_le hr (Nat.le_trans (Nat.pow_le_pow_right (by decide) hf) (by decide))
      have hr2 : r / 128 < 128 ^ f := by rw [Nat.div_lt_iff_lt_mul (by decide), ← Nat.pow_succ]; exact hr
      have HR := Lib.hid hr2
      clear hr2 hr
      obtain ⟨ao, c, rfl, hc, hrow, hl, hu, hbl⟩ := own_slice hown
      have hst := ext_step f r L hlt
      rw [HL.out] at hst
      have HS := Lib.hid hst
      clear hst
      have hown0 := World.ownsRow_lit (base := w.heap.size) (e := 5) (size := 1) wr #[.int .u8 ((r : Int) % 128 + 128)] 1 hb.size (by decide) rfl
      have hrow2 := hrow.keep0 (below_alloc wr (.cells #[.int .u8 ((r : Int) % 128 + 128)] 5))
      have hnil : ao = none → n = 0 := fun h => by
        subst h
        rcases Nat.eq_zero_or_pos n with h0 | h0
        · exact h0
        · obtain ⟨a', ha', _⟩ := hrow.cell 0 ((L.map (Value.int .u8)).getD 0 undef) (by rw [List.getD_eq_getElem?_getD, List.getElem?_eq_getElem (by rw [hrow.hlen]; exact h0)]; rfl)
          cases ha'
      go_wp2_with (at_builtin; refine wpList_append_row rfl (.tmp 16) (.tmp 17) 24 5 rfl Try.underlying24 infoByte rfl w.heap.size _ _ _ rfl hown0 ao n c (L.map (Value.int .u8)) rfl hrow2 (one_ints _ _) hnil ?_ ?_ ?_ ?_)
      case refine_1 => omega
      case refine_2 => unfold maxLen; omega
      case refine_3 => have := hb.size; simp; omega
      intro v' w' hown' hkp
      have hb' : Below w.heap.size w w' := (hb.alloc hb.size _).trans (owns_below hown0 hkp (by have := hb.size; simp; omega))
      clear hown hown0 hkp hrow hrow2 hnil hu hbl
      go_wp2_with fail
      go_roundw
      case rel =>
        have hr0 := hr1
        exact ⟨f, r / 128, 1 + n, ((r % 128 + 128 : Nat) : Int) :: L, by omega, HR.out, by go_num, by omega, by simpa using hown', HS.out.symm, hb'⟩
      case measure => simp [intOf]; omega
    · obtain rfl : r = 0 := by omega
      have hL := HL.out
      rw [ext_zero, List.nil_append] at hL
      obtain ⟨ao, c, rfl, hc, hrow, hl, hu, hbl⟩ := own_slice hown
      have hi := hrow.ints hl (fun z hz => numL_wf v z (by rw [← hL]; exact hz))
      rw [hL] at hi
      have HI := Lib.hid hi
      clear hrow hown hL HL hi hu hbl
      go_wp2_with fail
      go_ret
      exact ⟨_, _, _, rfl, hc, HI.out, hb⟩
theorem number_none (v : Int) (hv : v < 0 ∨ 268435455 < v) (w : World) : Calls Try.prog 7 #[.int .i64 v] w fun e w' => e = .returned (.slice none 0 0) ∧ w = w' := by
  by_cases h : v < 0
  · clear hv
    go_enter Try.func7, Try.ntmps7
    go_wp2_with fail
    go_ret
    exact ⟨rfl, rfl⟩
  · have h2 : 268435455 < v := by omega
    clear hv
    go_enter Try.func7, Try.ntmps7
    go_wp2_with fail
    go_ret
    exact ⟨rfl, rfl⟩
/-- Has a kind two numbers? -/
def twoB (k : Int) : Bool := decide (k = 128 ∨ k = 144 ∨ k = 176 ∨ k = 224)
def TwoPost (k : Int) (w : World) (e : Ending) (w' : World) : Prop := e = .returned (.bool (twoB k)) ∧ w = w'
theorem two_any (k : Int) (w : World) : Calls Try.prog 18 #[.int .i64 k] w (TwoPost k w) := by
  go_enter Try.func18, Try.ntmps18
  go_wp2_with fail
  all_goals
    go_ret
    exact ⟨ret_bool (by rw [Bool.eq_iff_iff]; simp [twoB] <;> omega), rfl⟩
theorem ltwo_any (k : Int) (w : World) : Calls Try.prog 19 #[.int .i64 k] w (TwoPost k w) := by
  go_enter Try.func19, Try.ntmps19
  go_wp2_with fail
  all_goals
    go_ret
    exact ⟨ret_bool (by rw [Bool.eq_iff_iff]; simp [twoB] <;> omega), rfl⟩
/-- May a message be? -/
def rightB (t k c a b : Int) : Bool := decide ((twoB k = true ∨ (k = 192 ∧ b = 0)) ∧ 0 ≤ t ∧ t ≤ 268435455 ∧ 0 ≤ c ∧ c ≤ 15 ∧ 0 ≤ a ∧ a ≤ 127 ∧ 0 ≤ b ∧ b ≤ 127)
def RightPost (t k c a b : Int) (w : World) (e : Ending) (w' : World) : Prop := e = .returned (.bool (rightB t k c a b)) ∧ Below w.heap.size w w'
set_option maxHeartbeats 2000000 in
theorem right_any (t k c a b : Int) (w : World) : Calls Try.prog 8 #[.agg #[.int .i64 t, .int .i64 k, .int .i64 c, .int .i64 a, .int .i64 b]] w (RightPost t k c a b w) := by
  cases h2 : twoB k with
  | true =>
    have H2 := Lib.hid h2
    clear h2
    go_enter Try.func8, Try.ntmps8
    go_wp2_with (go_at_call 18; refine (two_any _ _).mono ?_; rintro e w' ⟨rfl, rfl⟩; rw [H2.out])
    all_goals go_ret
    all_goals exact ⟨ret_bool (by rw [Bool.eq_iff_iff]; simp [rightB, H2.out] <;> omega), below_alloc _ _⟩
  | false =>
    have H2 := Lib.hid h2
    clear h2
    by_cases hk : k = 192
    · subst hk
      by_cases hb : b = 0
      · subst hb
        go_enter Try.func8, Try.ntmps8
        go_wp2_with (go_at_call 18; refine (two_any _ _).mono ?_; rintro e w' ⟨rfl, rfl⟩; rw [H2.out])
        all_goals go_ret
        all_goals exact ⟨ret_bool (by rw [Bool.eq_iff_iff]; simp [rightB, H2.out] <;> omega), below_alloc _ _⟩
      · have hb' : (b == 0) = false := by simpa using hb
        go_enter Try.func8, Try.ntmps8
        go_wp2_with (go_at_call 18; refine (two_any _ _).mono ?_; rintro e w' ⟨rfl, rfl⟩; rw [H2.out])
        all_goals go_ret
        all_goals exact ⟨ret_bool (by rw [Bool.eq_iff_iff]; simp [rightB, H2.out, hb] <;> omega), below_alloc _ _⟩
    · have hk' : (k == 192) = false := by simpa using hk
      go_enter Try.func8, Try.ntmps8
      go_wp2_with (go_at_call 18; refine (two_any _ _).mono ?_; rintro e w' ⟨rfl, rfl⟩; rw [H2.out])
      all_goals go_ret
      all_goals exact ⟨ret_bool (by rw [Bool.eq_iff_iff]; simp [rightB, H2.out, hk] <;> omega), below_alloc _ _⟩
set_option maxHeartbeats 2000000 in
theorem lright_any (t k c a b : Int) (w : World) : Calls Try.prog 9 #[.agg #[.int .i64 t, .int .i64 k, .int .i64 c, .int .i64 a, .int .i64 b]] w (RightPost t k c a b w) := by
  cases h2 : twoB k with
  | true =>
    have H2 := Lib.hid h2
    clear h2
    go_enter Try.func9, Try.ntmps9
    go_wp2_with (go_at_call 19; refine (ltwo_any _ _).mono ?_; rintro e w' ⟨rfl, rfl⟩; rw [H2.out])
    all_goals go_ret
    all_goals exact ⟨ret_bool (by rw [Bool.eq_iff_iff]; simp [rightB, H2.out] <;> omega), below_alloc _ _⟩
  | false =>
    have H2 := Lib.hid h2
    clear h2
    by_cases hk : k = 192
    · subst hk
      by_cases hb : b = 0
      · subst hb
        go_enter Try.func9, Try.ntmps9
        go_wp2_with (go_at_call 19; refine (ltwo_any _ _).mono ?_; rintro e w' ⟨rfl, rfl⟩; rw [H2.out])
        all_goals go_ret
        all_goals exact ⟨ret_bool (by rw [Bool.eq_iff_iff]; simp [rightB, H2.out] <;> omega), below_alloc _ _⟩
      · have hb' : (b == 0) = false := by simpa using hb
        go_enter Try.func9, Try.ntmps9
        go_wp2_with (go_at_call 19; refine (ltwo_any _ _).mono ?_; rintro e w' ⟨rfl, rfl⟩; rw [H2.out])
        all_goals go_ret
        all_goals exact ⟨ret_bool (by rw [Bool.eq_iff_iff]; simp [rightB, H2.out, hb] <;> omega), below_alloc _ _⟩
    · have hk' : (k == 192) = false := by simpa using hk
      go_enter Try.func9, Try.ntmps9
      go_wp2_with (go_at_call 19; refine (ltwo_any _ _).mono ?_; rintro e w' ⟨rfl, rfl⟩; rw [H2.out])
      all_goals go_ret
      all_goals exact ⟨ret_bool (by rw [Bool.eq_iff_iff]; simp [rightB, H2.out, hk] <;> omega), below_alloc _ _⟩
theorem five_cells {w : World} {b : Nat} {v0 v1 v2 v3 v4 : Value} {t : Nat} (h : w.heap[b]? = some (.cells #[v0, v1, v2, v3, v4] t (0, 0))) :
    w.cell? ⟨b, 0, none⟩ = some v0 ∧ w.cell? ⟨b, 1, none⟩ = some v1 ∧ w.cell? ⟨b, 2, none⟩ = some v2 ∧ w.cell? ⟨b, 3, none⟩ = some v3 ∧ w.cell? ⟨b, 4, none⟩ = some v4 :=
  ⟨(cell_of_row _ _ _ _ _ _ h).trans rfl, (cell_of_row _ _ _ _ _ _ h).trans rfl, (cell_of_row _ _ _ _ _ _ h).trans rfl, (cell_of_row _ _ _ _ _ _ h).trans rfl, (cell_of_row _ _ _ _ _ _ h).trans rfl⟩
def TruePost (w : World) (e : Ending) (w' : World) : Prop := e = .returned (.bool true) ∧ Below w.heap.size w w'
theorem str200 : ((strOfNums (numL 200)).toList == [129, 72]) = true := by decide +kernel
set_option maxHeartbeats 1000000 in
theorem awake_any (w : World) : Calls Try.prog 10 #[] w (TruePost w) := by
  go_enter Try.func10, Try.ntmps10
  go_wp2_with (go_at_call 7; refine (number_any 200 (by decide) _).mono ?_; rintro e w1 ⟨ao, n, c, rfl, hc, hi, hb⟩; have hcv := conv_ints (P := Try.prog) hi 24 5 9 c rfl rfl rfl)
  go_ret
  exact ⟨ret_bool str200, hb⟩
def Cells5 (w : World) (B : Nat) (t k c a b : Int) : Prop := w.heap[B]? = some (.cells #[.int .i64 t, .int .i64 k, .int .i64 c, .int .i64 a, .int .i64 b] 23 (0, 0))
set_option maxHeartbeats 2000000 in
theorem midiNumbers_out (v t k c a b : Int) (hv : v < 0 ∨ 268435455 < v) (w : World) : Calls Try.prog 3 #[.int .i64 v, .agg #[.int .i64 t, .int .i64 k, .int .i64 c, .int .i64 a, .int .i64 b]] w (TruePost w) := by
  have hN := number_none v hv
  have HV := Lib.hid hv
  clear hv
  have HN := Lib.hid hN
  clear hN
  have H8 := Lib.hid (right_any t k c a b)
  have H9 := Lib.hid (lright_any t k c a b)
  have hz := heap_alloc_new w (.cells #[.int .i64 t, .int .i64 k, .int .i64 c, .int .i64 a, .int .i64 b] 23)
  have hbz := below_alloc w (.cells #[.int .i64 t, .int .i64 k, .int .i64 c, .int .i64 a, .int .i64 b] 23)
  go_enter Try.func3, Try.ntmps3
  go_upto_region 2 with (go_at_call 7; refine (HN.out _).mono ?_; rintro e w1 ⟨rfl, rfl⟩)
  generalize w.alloc (.cells #[.int .i64 t, .int .i64 k, .int .i64 c, .int .i64 a, .int .i64 b] 23) = W at *
  obtain ⟨c0, c1, c2, c3, c4⟩ := five_cells hz
  clear hz
  go_cut [12] (fun v wx => v = .bool false ∧ Below w.heap.size w wx)
  case first =>
    go_region_held3 (fun w' => w'.cell? ⟨w.heap.size, 0, none⟩ = some (.int .i64 t) ∧ w'.cell? ⟨w.heap.size, 1, none⟩ = some (.int .i64 k) ∧ w'.cell? ⟨w.heap.size, 2, none⟩ = some (.int .i64 c) ∧ w'.cell? ⟨w.heap.size, 3, none⟩ = some (.int .i64 a) ∧ w'.cell? ⟨w.heap.size, 4, none⟩ = some (.int .i64 b)) (go_keep) (first | (go_at_call 8; refine (H8.out _).mono ?_; rintro e w1 ⟨rfl, hb1⟩; have k0 : w1.cell? ⟨w.heap.size, 0, none⟩ = some (.int .i64 t) := cell_later hb1 (by assumption); have k1 : w1.cell? ⟨w.heap.size, 1, none⟩ = some (.int .i64 k) := cell_later hb1 (by assumption); have k2 : w1.cell? ⟨w.heap.size, 2, none⟩ = some (.int .i64 c) := cell_later hb1 (by assumption); have k3 : w1.cell? ⟨w.heap.size, 3, none⟩ = some (.int .i64 a) := cell_later hb1 (by assumption); have k4 : w1.cell? ⟨w.heap.size, 4, none⟩ = some (.int .i64 b) := cell_later hb1 (by assumption)) | (go_at_call 9; refine (H9.out _).mono ?_; rintro e w2 ⟨rfl, hb2⟩; have m0 : w2.cell? ⟨w.heap.size, 0, none⟩ = some (.int .i64 t) := cell_later hb2 (by assumption); have m1 : w2.cell? ⟨w.heap.size, 1, none⟩ = some (.int .i64 k) := cell_later hb2 (by assumption); have m2 : w2.cell? ⟨w.heap.size, 2, none⟩ = some (.int .i64 c) := cell_later hb2 (by assumption); have m3 : w2.cell? ⟨w.heap.size, 3, none⟩ = some (.int .i64 a) := cell_later hb2 (by assumption); have m4 : w2.cell? ⟨w.heap.size, 4, none⟩ = some (.int .i64 b) := cell_later hb2 (by assumption)))
    go_wp2_with fail
    go_meet
    exact ⟨by simp, bstep hbz ((((Below.refl _ _).drew).trans (hb1.mono (by simp))).trans (hb2.mono (by have := hb1.size; simp at this; omega)))⟩
  case rest =>
    obtain ⟨rfl, hbx⟩ := hcut
    clear c0 c1 c2 c3 c4
    by_cases h : v < 0
    · go_wp2_with (go_at_call 10; refine (awake_any _).mono ?_; rintro e w6 ⟨rfl, hb6⟩)
      go_ret
      exact ⟨rfl, bstep hbx hb6⟩
    · have h2 : 268435455 < v := by have := HV.out; omega
      go_wp2_with (go_at_call 10; refine (awake_any _).mono ?_; rintro e w6 ⟨rfl, hb6⟩)
      go_ret
      exact ⟨rfl, bstep hbx hb6⟩
end Go.Proofs.Ytmhlmaimmbopfaa

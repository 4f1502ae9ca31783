/- The walks of the Go functions of crc and of the statements of layer 2: what each of them computes. -/
import Derived.Test.YtcomagpinnbkaaaRows
import Derived.Test.YtcomagpinnbkaaaCommon
namespace Go.Proofs.Ytcomagpinnbkaaa
open Go.RowKit Go.Calli
def cstep (x : Nat) : Nat := if x % 2 = 1 then (x / 2) ^^^ 3988292384 else x / 2
def csteps : Nat → Nat → Nat | 0, x => x | k+1, x => cstep (csteps k x)
theorem cstep_lt (x : Nat) (h : x < 4294967296) : cstep x < 4294967296 := by
  unfold cstep; split
  · exact Nat.xor_lt_two_pow (n := 32) (by omega) (by omega)
  · omega
theorem csteps_lt (k x : Nat) (h : x < 4294967296) : csteps k x < 4294967296 := by
  induction k with
  | zero => exact h
  | succ k ih => exact cstep_lt _ ih
theorem and1 (x : Nat) (h : x < 4294967296) : bits BinOp.and IntKind.u32 (x : Int) 1 = ((x % 2 : Nat) : Int) := by
  have := u32_and_nat x 1 h (by omega)
  rw [nat_mask1] at this; exact this
theorem step_odd (x : Nat) (h : x < 4294967296) (h1 : (bits BinOp.and IntKind.u32 (x : Int) 1 == 1) = true) :
   bits BinOp.xor IntKind.u32 ((x : Int) / 2) 3988292384 = (cstep x : Nat) := by
  rw [and1 x h] at h1
  have h1 : x % 2 = 1 := by have : ((x % 2 : Nat) : Int) = 1 := by simpa using h1
                            omega
  have := u32_xor_nat (x/2) 3988292384 (by omega) (by omega)
  unfold cstep; rw [if_pos h1]; rw [← this]; rfl
theorem step_even (x : Nat) (h : x < 4294967296) (h1 : (bits BinOp.and IntKind.u32 (x : Int) 1 == 1) = false) :
   ((x : Int) / 2) = (cstep x : Nat) := by
  rw [and1 x h] at h1
  have h1 : ¬ x % 2 = 1 := by
    intro h2; rw [h2] at h1; simp at h1
  unfold cstep; rw [if_neg h1]; rfl

/-! A byte pushed through. -/
theorem xor_half (a b : Nat) : (a ^^^ b) / 2 = a / 2 ^^^ b / 2 := by
  have := Nat.shiftRight_xor_distrib (a := a) (b := b) (i := 1)
  simpa [Nat.shiftRight_eq_div_pow] using this
theorem xor_mod2 (a b : Nat) : (a ^^^ b) % 2 = (a % 2 + b % 2) % 2 := by
  have := Nat.xor_mod_two_pow (a := a) (b := b) (n := 1)
  simp only [Nat.pow_one] at this
  rw [this]
  rcases Nat.mod_two_eq_zero_or_one a with ha | ha <;> rcases Nat.mod_two_eq_zero_or_one b with hb | hb <;> rw [ha, hb] <;> rfl
theorem cstep_xor (a b : Nat) : cstep (a ^^^ b) = cstep a ^^^ cstep b := by
  unfold cstep
  rw [xor_half, xor_mod2]
  rcases Nat.mod_two_eq_zero_or_one a with ha | ha <;> rcases Nat.mod_two_eq_zero_or_one b with hb | hb <;> rw [ha, hb] <;> simp
  · rw [Nat.xor_assoc]
  · rw [Nat.xor_assoc, Nat.xor_assoc, Nat.xor_comm (b / 2)]
  · rw [Nat.xor_assoc, Nat.xor_comm 3988292384, Nat.xor_assoc (b / 2), Nat.xor_self, Nat.xor_zero]
theorem csteps_xor (k a b : Nat) : csteps k (a ^^^ b) = csteps k a ^^^ csteps k b := by
  induction k with
  | zero => rfl
  | succ k ih => show cstep (csteps k (a ^^^ b)) = _; rw [ih, cstep_xor]; rfl
theorem csteps_high (k y : Nat) : csteps k (2 ^ k * y) = y := by
  induction k generalizing y with
  | zero => simp [csteps]
  | succ k ih =>
    show cstep (csteps k (2 ^ (k + 1) * y)) = y
    rw [Nat.pow_succ, Nat.mul_assoc, ih]
    unfold cstep; rw [if_neg (by omega)]; omega
theorem split_byte (x : Nat) : x = (x % 256) ^^^ (2 ^ 8 * (x / 256)) := by
  apply Nat.eq_of_testBit_eq
  intro i
  rw [Nat.testBit_xor, show 256 = 2 ^ 8 from rfl, Nat.testBit_mod_two_pow, Nat.testBit_two_pow_mul, Nat.testBit_div_two_pow]
  by_cases h : i < 8
  · simp [h, show ¬ 8 ≤ i by omega]
  · simp [h, show 8 ≤ i by omega, show i - 8 + 8 = i by omega]
theorem pushed (x c : Nat) : csteps 8 ((x % 256) ^^^ c) ^^^ (x / 256) = csteps 8 (x ^^^ c) := by
  have h : x ^^^ c = ((x % 256) ^^^ c) ^^^ (2 ^ 8 * (x / 256)) := by
    have e := split_byte x
    generalize x % 256 = lo at *
    generalize 2 ^ 8 * (x / 256) = hi at *
    rw [e, Nat.xor_assoc, Nat.xor_comm hi c, ← Nat.xor_assoc]
  rw [h, csteps_xor 8 _ (2 ^ 8 * (x / 256)), csteps_high]

set_option maxHeartbeats 400000 in
theorem entry_any (c : Nat) (hc : c < 256) (w : World) : Calls Try.prog 17 #[.int .u8 c] w fun e w' => e = .returned (.int .u32 (csteps 8 c : Nat)) ∧ w = w' := by
  go_enter Try.func17, Try.ntmps17
  go_wp2
  go_loop [3, 6] (fun x i => ∃ k : Nat, k ≤ 8 ∧ i = .int .i64 k ∧ csteps k c < 4294967296 ∧ x = .int .u32 (csteps k c : Nat)) (fun _ i => (8 - intOf i).toNat)
  case atStart => exact ⟨0, by omega, rfl, by simp [csteps]; omega, rfl⟩
  case round =>
    obtain ⟨k, hk, rfl, hb, rfl⟩ := hrel
    have hb' := cstep_lt _ hb
    go_wp2
    · go_round
      case rel => exact ⟨k+1, by omega, by go_num, hb', by rw [step_odd _ hb ‹_›]; rfl⟩
      case measure => simp [intOf]; omega
    · go_round
      case rel => exact ⟨k+1, by omega, by go_num, hb', by rw [step_even _ hb ‹_›]; rfl⟩
      case measure => simp [intOf]; omega
    · go_ret
      obtain rfl : k = 8 := by omega
      exact ⟨rfl, rfl⟩

theorem cast2 (x : Nat) : (x : Int) % 2 = ((x % 2 : Nat) : Int) := by omega
theorem pstep_odd (x : Nat) (h : x < 4294967296) (h1 : ((x : Int) % 2 == 1) = true) :
   bits BinOp.xor IntKind.u32 ((x : Int) / 2) 3988292384 = (cstep x : Nat) := by
  rw [cast2, ← and1 x h] at h1; exact step_odd x h h1
theorem pstep_even (x : Nat) (h : x < 4294967296) (h1 : ((x : Int) % 2 == 1) = false) :
   ((x : Int) / 2) = (cstep x : Nat) := by
  rw [cast2, ← and1 x h] at h1; exact step_even x h h1
set_option maxHeartbeats 400000 in
theorem push_any (c : Nat) (hc : c < 4294967296) (w : World) : Calls Try.prog 11 #[.int .u32 c] w fun e w' => e = .returned (.int .u32 (csteps 8 c : Nat)) ∧ w = w' := by
  go_enter Try.func11, Try.ntmps11
  go_wp2
  go_loop [0, 3] (fun x i => ∃ k : Nat, k ≤ 8 ∧ i = .int .i64 k ∧ csteps k c < 4294967296 ∧ x = .int .u32 (csteps k c : Nat)) (fun _ i => (8 - intOf i).toNat)
  case atStart => exact ⟨0, by omega, rfl, by simp [csteps]; omega, rfl⟩
  case round =>
    obtain ⟨k, hk, rfl, hb, rfl⟩ := hrel
    have hb' := cstep_lt _ hb
    go_wp2
    · go_round
      case rel => exact ⟨k+1, by omega, by go_num, hb', by rw [pstep_odd _ hb ‹_›]; rfl⟩
      case measure => simp [intOf]; omega
    · go_round
      case rel => exact ⟨k+1, by omega, by go_num, hb', by rw [pstep_even _ hb ‹_›]; rfl⟩
      case measure => simp [intOf]; omega
    · go_ret
      obtain rfl : k = 8 := by omega
      exact ⟨rfl, rfl⟩

/-- The register behind bytes. -/
def reg (l : List Int) : Nat := l.foldl (fun x c => csteps 8 (x ^^^ c.toNat)) 4294967295
theorem reg_snoc (zs : List Int) (k : Nat) (h : k < zs.length) : reg (zs.take (k+1)) = csteps 8 (reg (zs.take k) ^^^ (zs.getD k 0).toNat) := by
  rw [take_succ_getD zs k h]; unfold reg; rw [List.foldl_append]; rfl
theorem xor_lt32 {x c : Nat} (hx : x < 4294967296) (hc : c < 4294967296) : x ^^^ c < 4294967296 := Nat.xor_lt_two_pow (n := 32) hx hc
theorem reg_lt_aux (l : List Int) (h : ∀ c ∈ l, (Lit.int .u8 c).wf = true) (x : Nat) (hx : x < 4294967296) : l.foldl (fun x c => csteps 8 (x ^^^ c.toNat)) x < 4294967296 := by
  induction l generalizing x with
  | nil => exact hx
  | cons c l ih =>
    have := bounds_u8 (h c (by simp))
    exact ih (fun c hc => h c (by simp [hc])) _ (csteps_lt _ _ (xor_lt32 hx (by omega)))
theorem reg_lt (l : List Int) (h : ∀ c ∈ l, (Lit.int .u8 c).wf = true) : reg l < 4294967296 := reg_lt_aux l h _ (by omega)
/-- The sum of bytes. -/
def crcOf (l : List Int) : Int := 4294967295 - reg l

set_option maxHeartbeats 400000 in
theorem sumlaw_any (ao : Option Addr) (len cap : Nat) (zs : List Int) (w : World) (h : Ints .u8 w ao len zs) : Calls Try.prog 8 #[.slice ao len cap] w fun e w' => e = .returned (.int .u32 (crcOf zs)) ∧ w = w' := by
  have hm := h.lim
  unfold maxLen at hm
  have hz := Lib.hid h.hlen
  go_enter Try.func8, Try.ntmps8
  go_wp2
  go_loop [3, 4] (fun x i => ∃ k : Nat, k ≤ len ∧ i = .int .i64 k ∧ x = .int .u32 (reg (zs.take k) : Nat)) (fun _ i => (len - intOf i).toNat)
  case atStart => exact ⟨0, by omega, rfl, by simp [reg]⟩
  case round =>
    obtain ⟨k, hk, rfl, rfl⟩ := hrel
    have hb : reg (zs.take k) < 4294967296 := reg_lt _ (fun c hc => h.wf c (List.mem_of_mem_take hc))
    by_cases hlt : k < len
    · obtain ⟨a, c, rfl, hcv, hc0, hc1⟩ := h.byte hlt
      have hx := Lib.hid (u32_xor_nat (reg (zs.take k)) c hb (by omega))
      have hs := Lib.hid (reg_snoc zs k (by rw [hz.out]; exact hlt))
      go_wp2_with (go_at_call 11; rw [hx.out]; refine (push_any _ (xor_lt32 hb (by omega)) _).mono ?_; rintro e w' ⟨rfl, rfl⟩)
      go_round
      case rel => exact ⟨k+1, by omega, by go_num, by rw [hs.out, hcv.out]; rfl⟩
      case measure => simp [intOf]; omega
    · go_wp2
      go_ret
      obtain rfl : k = len := by omega
      exact ⟨ret_int (by unfold crcOf; rw [List.take_of_length_le (by rw [hz.out]; omega)]), rfl⟩

theorem not32 (x : Nat) (h : x < 4294967296) : bits BinOp.xor IntKind.u32 IntKind.u32.max (x : Int) = 4294967295 - (x : Int) := by
  have h1 := u32_xor_nat 4294967295 x (by omega) h
  have h2 : 4294967295 ^^^ x = 2 ^ 32 - (x + 1) := by
    apply Nat.eq_of_testBit_eq
    intro i
    rw [Nat.testBit_two_pow_sub_succ (by omega), Nat.testBit_xor, show 4294967295 = 2 ^ 32 - (0 + 1) from rfl, Nat.testBit_two_pow_sub_succ (by omega)]
    by_cases hi : i < 32
    · simp [hi]
    · have : x.testBit i = false := Nat.testBit_lt_two_pow (Nat.lt_of_lt_of_le (show x < 2 ^ 32 from h) (Nat.pow_le_pow_right (by decide) (Nat.le_of_not_lt hi)))
      simp [hi, this]
  show bits BinOp.xor IntKind.u32 ((4294967295 : Nat) : Int) x = _
  rw [h1, h2]; omega
theorem div256 (x : Nat) : (x : Int) / 256 = ((x / 256 : Nat) : Int) := rfl
theorem mod256 (x : Nat) : (x : Int) % 256 = ((x % 256 : Nat) : Int) := rfl
theorem u8_lt {x c : Nat} (hc : c < 256) : x % 256 ^^^ c < 256 := Nat.xor_lt_two_pow (n := 8) (by omega) hc
set_option maxHeartbeats 400000 in
theorem sum_any (ao : Option Addr) (len cap : Nat) (zs : List Int) (w : World) (h : Ints .u8 w ao len zs) : Calls Try.prog 7 #[.slice ao len cap] w fun e w' => e = .returned (.int .u32 (crcOf zs)) ∧ w = w' := by
  have hm := h.lim
  unfold maxLen at hm
  have hz := Lib.hid h.hlen
  go_enter Try.func7, Try.ntmps7
  go_wp2
  go_loop [3, 8] (fun x i => ∃ k : Nat, k ≤ len ∧ i = .int .i64 k ∧ x = .int .u32 (reg (zs.take k) : Nat)) (fun _ i => (len - intOf i).toNat)
  case atStart => exact ⟨0, by omega, rfl, by simp [reg]⟩
  case round =>
    obtain ⟨k, hk, rfl, rfl⟩ := hrel
    have hb : reg (zs.take k) < 4294967296 := reg_lt _ (fun c hc => h.wf c (List.mem_of_mem_take hc))
    by_cases hlt : k < len
    · obtain ⟨a, c, rfl, hcv, hc0, hc1⟩ := h.byte hlt
      have hs := Lib.hid (reg_snoc zs k (by rw [hz.out]; exact hlt))
      generalize hr : reg (zs.take k) = x at *
      have hx := Lib.hid (u8_xor_nat (x % 256) c (by omega) hc1)
      have hy := Lib.hid (u32_xor_nat (csteps 8 (x % 256 ^^^ c)) (x / 256) (csteps_lt _ _ (by have := u8_lt (x := x) hc1; omega)) (by omega))
      clear hr
      have hp := Lib.hid (pushed x c)
      go_wp2_with (go_at_call 17; rw [mod256, hx.out]; refine (entry_any _ (u8_lt hc1) _).mono ?_; rintro e w' ⟨rfl, rfl⟩)
      go_round
      case rel => exact ⟨k+1, by omega, by go_num, by rw [hs.out, hcv.out, div256, hy.out, hp.out]; rfl⟩
      case measure => simp [intOf]; omega
    · go_wp2
      go_ret
      obtain rfl : k = len := by omega
      refine ⟨ret_int ?_, rfl⟩
      rw [List.take_of_length_le (by rw [hz.out]; omega)] at hb ⊢
      rw [not32 _ hb]; rfl

def digits9 : List Int := [49, 50, 51, 52, 53, 54, 55, 56, 57]
theorem reg_digits : reg digits9 = 873187033 := by decide +kernel
theorem crc_digits : crcOf digits9 = 3421780262 := by unfold crcOf; rw [reg_digits]; rfl

set_option maxHeartbeats 400000 in
theorem awake_any (w : World) : Calls Try.prog 9 #[] w fun e w' => e = .returned (.bool true) ∧ Below w.heap.size w w' := by
  have kc := fun (w : World) (C : Array Value) (n c : Nat) => Lib.run_convert_bytes_const (P := Try.prog) w 22 5 C n c Try.underlying22 Try.underlying5
  go_enter Try.func9, Try.ntmps9
  have hi := fun (fr : Nat × Nat) => Ints.new .u8 w digits9 5 fr _ rfl 9 rfl (by decide) (by decide)
  have hc := Lib.hid crc_digits
  go_wp2_with (go_at_call 7; refine (sum_any _ _ _ _ _ (hi _)).mono ?_; rintro e w' ⟨rfl, rfl⟩; rw [hc.out])
  go_ret
  exact ⟨rfl, below_alloc _ _⟩

set_option maxHeartbeats 400000 in
theorem crcSums_any (ao : Option Addr) (len cap : Nat) (zs : List Int) (w : World) (h : Ints .u8 w ao len zs) (hcap : len ≤ cap) : Calls Try.prog 3 #[.slice ao len cap] w fun e w' => e = .returned (.bool true) ∧ Below w.heap.size w w' := by
  have hm := h.lim
  unfold maxLen at hm
  by_cases hl : 2000 < len
  · have ht := h.take (n := 2000) (by omega)
    go_enter Try.func3, Try.ntmps3
    go_wp2_with (first | (go_at_call 7; refine (sum_any _ _ _ _ _ ht).mono ?_; rintro e w' ⟨rfl, rfl⟩) | (go_at_call 8; refine (sumlaw_any _ _ _ _ _ ht).mono ?_; rintro e w' ⟨rfl, rfl⟩) | (go_at_call 9; refine (awake_any _).mono ?_; rintro e w' ⟨rfl, hb⟩))
    go_ret
    exact ⟨rfl, hb⟩
  · go_enter Try.func3, Try.ntmps3
    go_wp2_with (first | (go_at_call 7; refine (sum_any _ _ _ _ _ h).mono ?_; rintro e w' ⟨rfl, rfl⟩) | (go_at_call 8; refine (sumlaw_any _ _ _ _ _ h).mono ?_; rintro e w' ⟨rfl, rfl⟩) | (go_at_call 9; refine (awake_any _).mono ?_; rintro e w' ⟨rfl, hb⟩))
    go_ret
    exact ⟨rfl, hb⟩
end Go.Proofs.Ytcomagpinnbkaaa

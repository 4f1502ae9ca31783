/- The walks of riff's number and low, and of the law's number and chunk. -/
import Derived.Test.YtpbeehfafbgphaaRows
import Derived.Test.YtpbeehfafbgphaaApp
import Derived.Test.YtpbeehfafbgphaaBlk
import Derived.Test.YtpbeehfafbgphaaStr
import Derived.Test.YtpbeehfafbgphaaPln
import Derived.Test.YtpbeehfafbgphaaRest
import Derived.Laws.Bits128
import Derived.Laws.BitsLemmas
import Derived.Lib.AppendStr
import Derived.StillTailTactics
import Derived.Deep.RegionHeld3
import Derived.Deep.RegionWith
import Derived.OwnWalk
namespace Go.Proofs.Ytpbeehfafbgphaa
open Go Go.RowKit Go.Calli
set_option linter.unusedVariables false
set_option linter.unusedSimpArgs false
attribute [local irreducible] wpStill wpAnyH wpAnyS wpList Code.wp
theorem byt_of {l : List Int} (h : ∀ z ∈ l, (Lit.int .u8 z).wf = true) : Byt l := fun z hz => by
  have := bounds_u8 (h z hz)
  omega
theorem wf_of {l : List Int} (h : Byt l) : ∀ z ∈ l, (Lit.int .u8 z).wf = true := fun z hz => WalkArith.wf_u8 ⟨(h z hz).1, by have := (h z hz).2; omega⟩
theorem or8 (x y : Int) (h0 : 0 ≤ x) (h1 : x < 1099511627776) (h2 : x % 256 = 0) (h3 : 0 ≤ y) (h4 : y < 256) : bits .or .i64 x y = x + y :=
  bits_join .i64 40 (by decide) (fun n h h' => IntWalk.i64_in _ (by omega)) 8 x y h0 (by simpa using h2) (by simpa using h1) h3 (by simpa using h4) (by omega)
theorem numL_drop {zs : List Int} {j : Nat} (hj : j < zs.length) : numL (zs.drop j) = zs.getD j 0 + 256 * numL (zs.drop (j + 1)) := by
  rw [List.drop_eq_getElem_cons hj]
  simp [numL, hj]
theorem number_any (ao : Option Addr) (n cap : Nat) (zs : List Int) (hn : n ≤ 4) (w : World) (h : Ints .u8 w ao n zs) : Calls Try.prog 20 #[.slice ao n cap] w fun e w' => e = .returned (.int .i64 (numL zs)) ∧ w = w' := by
  have HZ := Lib.hid (show numL (zs.drop 0) = numL zs from rfl)
  go_enter Try.func20, Try.ntmps20
  go_wp2_with fail
  go_loop [3, 4] (fun v3 v4 => ∃ k : Nat, k ≤ n ∧ v4 = .int .i64 ((k : Int) - 1) ∧ v3 = .int .i64 (numL (zs.drop k))) (fun _ v4 => (intOf v4 + 1).toNat)
  case atStart => exact ⟨n, Nat.le_refl _, rfl, by rw [List.drop_eq_nil_of_le (by rw [h.hlen]; omega)]; rfl⟩
  case round =>
    obtain ⟨k, hk, rfl, rfl⟩ := hrel
    cases k with
    | zero =>
      go_wp2_with fail
      go_ret
      exact ⟨rfl, rfl⟩
    | succ j =>
      obtain ⟨a, c, rfl, hc, hcell, hc256⟩ := h.byte (i := j) (by omega)
      have HN := Lib.hid (numL_drop (zs := zs) (j := j) (by rw [h.hlen]; omega))
      rw [hc.out] at HN
      have hb := numL_lt ((byt_of h.wf).drop (j + 1)) (k := 3) (by rw [List.length_drop, h.hlen]; omega)
      obtain ⟨v, hv⟩ : ∃ v, v = numL (zs.drop (j + 1)) := ⟨_, rfl⟩
      rw [← hv] at hb HN ⊢
      have hb1 : 0 ≤ v := hb.1
      have hb2 : v < 16777216 := by have := hb.2; omega
      have hor := or8 (v * 256) c (by omega) (by omega) (by omega) (by omega) (by omega)
      clear hb hv hc
      simp only [show ((j + 1 : Nat) : Int) - 1 = (j : Int) by omega]
      go_wp2_with fail
      go_round
      case rel => exact ⟨j, by omega, rfl, by rw [HN.out]; congr 1; omega⟩
      case measure => simp [intOf] <;> omega
/-- The bytes of a number, and zeros behind. -/
def lowZ (v : Int) (k n : Nat) : List Int := lowL k v ++ List.replicate (n - k) 0
theorem lowZ_len (v : Int) (k n : Nat) (h : k ≤ n) : (lowZ v k n).length = n := by simp [lowZ, lowL_len]; omega
theorem lowL_snoc (k : Nat) : ∀ v, lowL (k + 1) v = lowL k v ++ [v / 256 ^ k % 256] := by
  induction k with
  | zero => intro v; simp [lowL]
  | succ k ih =>
    intro v
    rw [lowL, ih (v / 256)]
    rw [lowL, Int.ediv_ediv_of_nonneg (by decide), Int.pow_succ, Int.mul_comm]
    rfl
theorem lowZ_set (v : Int) (k n : Nat) (h : k < n) : (lowZ v k n).set k (v / 256 ^ k % 256) = lowZ v (k + 1) n := by
  unfold lowZ
  obtain ⟨m, hm⟩ : ∃ m, n - k = m + 1 := ⟨n - k - 1, by omega⟩
  rw [hm, show n - (k + 1) = m by omega, List.set_append_right _ _ (by rw [lowL_len]; omega), lowL_len, Nat.sub_self, List.replicate_succ, List.set_cons_zero, lowL_snoc]
  simp
theorem lowZ_byt (v : Int) (k n : Nat) : Byt (lowZ v k n) := fun z hz => by
  rcases List.mem_append.1 hz with hz | hz
  · exact lowL_byt _ _ z hz
  · have := (List.mem_replicate.1 hz).2
    omega
theorem infoByte : (Try.prog.info? 5).map (fun i => (i.zero, i.size, i.bytes)) = some (some (.int .u8 0), 1, 1) := by kernel_rfl
theorem make_bytes (n : Nat) (hn : n ≤ 1000) (w : World) : (Instr.makeSlice 25 (.int .i64 (n : Int)) (.int .i64 (n : Int))).run Try.prog w = .ok (.slice (some ⟨w.heap.size, 0, none⟩) n n) (w.alloc (.cells ((List.replicate n (0 : Int)).map (Value.int .u8)).toArray 5)) := by
  obtain ⟨i, hi, hz, hsz, hby⟩ := info_parts infoByte
  have hb2 : (i.bytes : Int) * (n : Int) ≤ 281474976710656 := by rw [hby]; omega
  have hr := run_make (P := Try.prog) w 25 5 i _ Try.underlying25 hi hz .i64 .i64 n n (by omega) (Int.le_refl _) hb2 (by omega)
  simp only [Int.toNat_natCast] at hr
  rw [hr, hsz, Nat.mul_one]
  congr 4
  apply Array.ext'
  rw [show (Value.int IntKind.u8 0).cells = #[Value.int IntKind.u8 0] from rfl, toList_madeCells_one]
  simp
def LowPost (v : Int) (n : Nat) (w : World) (e : Ending) (w' : World) : Prop := ∃ b, e = .returned (.slice (some ⟨b, 0, none⟩) n n) ∧ Blk .u8 w' b 5 (lowL n v) ∧ Below w.heap.size w w' ∧ w.heap.size ≤ b
theorem low_any (v : Int) (n : Nat) (hn : n ≤ 8) (hv : 0 ≤ v) (hv2 : v < 18446744073709551616) (w : World) : Calls Try.prog 19 #[.int .u64 v, .int .i64 (n : Int)] w (LowPost v n w) := by
  have hmk := make_bytes n (by omega)
  have hb0 : Blk .u8 (w.alloc (.cells ((List.replicate n (0 : Int)).map (Value.int .u8)).toArray 5)) w.heap.size 5 (lowZ v 0 n) := heap_alloc_new _ _
  have hB0 := below_alloc w (.cells ((List.replicate n (0 : Int)).map (Value.int .u8)).toArray 5)
  generalize ((List.replicate n (0 : Int)).map (Value.int .u8)).toArray = cs at *
  go_enter Try.func19, Try.ntmps19
  go_wp2_with fail
  go_loopw [6, 11] (fun v6 v11 wr => ∃ k : Nat, k ≤ n ∧ v11 = .int .i64 k ∧ Blk .u8 wr w.heap.size 5 (lowZ v k n) ∧ Below w.heap.size w wr) (fun _ v11 _ => (n - (intOf v11).toNat))
  case atStart => exact ⟨0, by omega, rfl, hb0, hB0⟩
  case round =>
    obtain ⟨k, hk, rfl, hb, hB⟩ := hrel
    clear hmk hb0 hB0
    by_cases hlt : k < n
    · have hcell := hb.cell (i := k) (by rw [lowZ_len v k n hk]; exact hlt)
      have hfr := hb.frozen k
      have hset := hb.set k (v / 256 ^ k % 256)
      rw [lowZ_set v k n hlt] at hset
      have hB2 := hB.setCell (p := ⟨w.heap.size, k, none⟩) (Nat.le_refl _) (.int .u8 (v / 256 ^ k % 256))
      have hpow : (2 : Int) ^ (8 * k) = 256 ^ k := by rw [Int.pow_mul]; rfl
      have HP := Lib.hid hpow
      have HS := Lib.hid hset
      clear hpow hset
      go_wp2_with fail
      go_roundw
      case rel => exact ⟨k + 1, by omega, by go_num, by rw [HP.out]; exact HS.out, by rw [HP.out]; exact hB2⟩
      case measure => simp [intOf] <;> omega
    · obtain rfl : k = n := by omega
      go_wp2_with fail
      go_ret
      exact ⟨_, rfl, by simpa [lowZ] using hb, hB, Nat.le_refl _⟩
/-- The law's number: the same bytes, as a string. -/
theorem lnumber_any (v : Int) (n : Nat) (hn : n ≤ 8) (hv : 0 ≤ v) (hv2 : v < 9223372036854775808) (w : World) : Calls Try.prog 18 #[.int .i64 v, .int .i64 (n : Int)] w fun e w' => e = .returned (.string (strOfNums (lowL n v))) ∧ Below w.heap.size w w' := by
  go_enter Try.func18, Try.ntmps18
  go_wp2_with fail
  go_loopw [0, 5, 6] (fun v0 v5 v6 wr => ∃ (k : Nat) (x : Int), k ≤ n ∧ v6 = .int .i64 k ∧ v0 = .int .i64 x ∧ Hid (x = v / 256 ^ k) ∧ 0 ≤ x ∧ x < 9223372036854775808 ∧ v5 = .string (strOfNums (lowL k v)) ∧ Below w.heap.size w wr) (fun _ _ v6 _ => (n - (intOf v6).toNat))
  case atStart => exact ⟨0, v, by omega, rfl, rfl, by unfold Hid; simp, hv, hv2, rfl, Below.refl _ _⟩
  case round =>
    obtain ⟨k, x, hk, rfl, rfl, hx, hx0, hx1, rfl, hB⟩ := hrel
    by_cases hlt : k < n
    · have hnew : Ints .u8 (wr.alloc (.cells #[.int .u8 (x % 256)] 5)) (some ⟨wr.heap.size, 0, none⟩) 1 [x % 256] := Ints.new .u8 wr [x % 256] 5 (0, 0) _ rfl 1 rfl (by unfold maxLen; omega) (wf_of fun z hz => by simp at hz; omega)
      have hcv := conv_ints (P := Try.prog) hnew 25 5 9 1 rfl rfl rfl
      have hB2 := balloc hB (.cells #[.int .u8 (x % 256)] 5)
      have hsum : Hid (strOfNums (lowL k v) ++ strOfNums [x % 256] = strOfNums (lowL (k + 1) v)) := by unfold Hid; rw [strOfNums_append, lowL_snoc, hx.out]
      have hdiv : Hid (x / 256 = v / 256 ^ (k + 1)) := by unfold Hid; rw [hx.out, Int.ediv_ediv_of_nonneg (Int.pow_nonneg (by decide)), Int.pow_succ]
      have hz1 : (strOfNums (lowL k v)).size = k := by rw [strOfNums_size, lowL_len]
      have hz2 : (strOfNums [x % 256]).size = 1 := rfl
      clear hnew
      go_wp2_with fail
      refine ⟨⟨k + 1, x / 256, by omega, by go_num, rfl, hdiv.out, by omega, by omega, by rw [← hsum.out], hB2⟩, ?_⟩
      simp [intOf] <;> omega
    · obtain rfl : k = n := by omega
      go_wp2_with fail
      go_ret
      exact ⟨rfl, hB⟩
/-- The law's chunk. -/
theorem chunk_any (nm dt : List Int) (hd : dt.length ≤ 4294967295) (w : World) : Calls Try.prog 8 #[.string (strOfNums nm), .string (strOfNums dt)] w fun e w' => e = .returned (.string (strOfNums (encC ⟨nm, dt⟩))) ∧ Below w.heap.size w w' := by
  have hs0 := strOfNums_size dt
  go_enter Try.func8, Try.ntmps8
  go_wp2_with fail
  go_loop [5] (fun v5 => ∃ k : Nat, v5 = .string (strOfNums (nm ++ List.replicate k 32)) ∧ (k = 0 ∨ nm.length + k ≤ 4)) (fun v5 => 4 - (match v5 with | .string s => s.size | _ => 0))
  case atStart => exact ⟨0, by simp, Or.inl rfl⟩
  case round =>
    obtain ⟨k, rfl, hk⟩ := hrel
    have hsz : (strOfNums (nm ++ List.replicate k 32)).size = nm.length + k := by rw [strOfNums_size]; simp
    have hsp : Hid (strOfNums (nm ++ List.replicate k 32) ++ ByteArray.mk #[32] = strOfNums (nm ++ List.replicate (k + 1) 32)) := by
      unfold Hid
      rw [show ByteArray.mk #[32] = strOfNums [32] from rfl, strOfNums_append, List.append_assoc, List.replicate_succ']
    by_cases hlt : nm.length + k < 4
    · have hsz2 : (strOfNums (nm ++ List.replicate (k + 1) 32)).size = nm.length + (k + 1) := by rw [strOfNums_size]; simp
      go_wp2_with fail
      rw [hsp.out]
      refine ⟨⟨k + 1, rfl, Or.inr (by omega)⟩, ?_⟩
      simp only [hsz, hsz2]; omega
    · have hn4 : (nm ++ List.replicate k 32).take 4 = name4 nm := by
        rcases hk with rfl | hk
        · unfold name4
          rw [List.replicate_zero, List.append_nil, List.take_append_of_le_length (by omega)]
        · obtain rfl : k = 4 - nm.length := by omega
          unfold name4
          rw [List.take_append, List.take_append, show ([32, 32, 32, 32] : List Int) = List.replicate 4 32 from rfl, List.take_replicate, List.take_replicate]
          congr 2; omega
      have hsl : (strOfNums (nm ++ List.replicate k 32)).extract 0 4 = strOfNums (name4 nm) := by
        rw [← hn4, strOfNums_extract, List.drop_zero]
      have hl4 : (strOfNums (name4 nm)).size = 4 := by rw [strOfNums_size, name4_len]
      have hl5 : (strOfNums (lowL 4 dt.length)).size = 4 := by rw [strOfNums_size, lowL_len]
      go_wp2_with fail
      have hbig : ¬ 9223372036854775807 < 8 + dt.length := by omega
      have HSUM : Hid (strOfNums (name4 nm) ++ strOfNums (lowL 4 dt.length) ++ strOfNums dt = strOfNums (name4 nm ++ (lowL 4 dt.length ++ dt))) := by unfold Hid; rw [strOfNums_append, strOfNums_append, List.append_assoc]
      go_region_held3 (fun w' => True) (trivial) (first | (go_at_call 18; refine (lnumber_any dt.length 4 (by omega) (by omega) (by omega) _).mono ?_; rintro e w' ⟨rfl, hb⟩))
      rw [HSUM.out]
      have hb2 : Below w.heap.size w w' := ((Below.refl _ _).drew).trans hb
      clear hsz hsp hsl hl4 hl5 hbig hs0
      have hs0 : (strOfNums dt).size = dt.length := strOfNums_size dt
      have hsF : (strOfNums (name4 nm ++ (lowL 4 dt.length ++ dt))).size = 8 + dt.length := by rw [strOfNums_size]; simp [name4_len, lowL_len]; omega
      by_cases hodd : dt.length % 2 = 1
      · have HF : Hid (strOfNums (name4 nm ++ (lowL 4 dt.length ++ dt)) ++ ByteArray.mk #[0] = strOfNums (encC ⟨nm, dt⟩)) := by
          unfold Hid
          rw [show ByteArray.mk #[0] = strOfNums [0] from rfl, strOfNums_append]
          unfold encC padL
          rw [if_pos hodd]; simp
        go_wp2_with fail
        go_ret
        exact ⟨by rw [HF.out] <;> rfl, hb2⟩
      · have HF : Hid (strOfNums (name4 nm ++ (lowL 4 dt.length ++ dt)) = strOfNums (encC ⟨nm, dt⟩)) := by
          unfold Hid encC padL
          rw [if_neg hodd]; simp
        go_wp2_with fail
        go_ret
        exact ⟨by rw [HF.out] <;> rfl, hb2⟩
end Go.Proofs.Ytpbeehfafbgphaa

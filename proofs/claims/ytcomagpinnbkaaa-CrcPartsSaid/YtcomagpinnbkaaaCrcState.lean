/- The walks of crc's State: New, Write, Sum, Len; Parts; and of the statements CrcNobody and CrcParts. -/
import Derived.Test.YtcomagpinnbkaaaCrcTab
namespace Go.Proofs.Ytcomagpinnbkaaa
open Go.RowKit Go.Calli
def stCells (x n : Int) : Array Value := tabTo 256 ++ #[.int .u32 x, .int .i64 n]
set_option maxRecDepth 100000 in
theorem built42 : Try.prog.built 42 [(0, .agg (tabTo 256)), (1, .int .u32 4294967295)] = some (stCells 4294967295 0) := by kernel_rfl
theorem stCells_size (x n : Int) : (stCells x n).size = 258 := by
  unfold stCells; rw [Array.size_append, tabTo_size 256 (Nat.le_refl _)]; rfl
theorem st_tab (x n : Int) (k : Nat) (h : k < 256) : (stCells x n)[k]? = some (.int .u32 (csteps 8 k : Nat)) := by
  unfold stCells; rw [Array.getElem?_append_left (by rw [tabTo_size 256 (Nat.le_refl _)]; exact h)]; exact tabTo_get k h
theorem st_x (x n : Int) : (stCells x n)[256]? = some (.int .u32 x) := by
  unfold stCells; rw [Array.getElem?_append_right (by rw [tabTo_size 256 (Nat.le_refl _)]; omega), tabTo_size 256 (Nat.le_refl _)]; rfl
theorem st_n (x n : Int) : (stCells x n)[257]? = some (.int .i64 n) := by
  unfold stCells; rw [Array.getElem?_append_right (by rw [tabTo_size 256 (Nat.le_refl _)]; omega), tabTo_size 256 (Nat.le_refl _)]; rfl
theorem set_app {t : Array Value} {k i : Nat} (ht : t.size = k) (p q v : Value) (hi : i = k) : (t ++ #[p, q]).setIfInBounds i v = t ++ #[v, q] := by
  subst ht; subst hi
  apply Array.ext'
  simp
theorem set_app1 {t : Array Value} {k i : Nat} (ht : t.size = k) (p q v : Value) (hi : i = k + 1) : (t ++ #[p, q]).setIfInBounds i v = t ++ #[p, v] := by
  subst ht; subst hi
  apply Array.ext'
  simp
theorem st_setx (x n y : Int) : (stCells x n).setIfInBounds 256 (.int .u32 y) = stCells y n := set_app (tabTo_size 256 (Nat.le_refl _)) _ _ _ rfl
theorem st_setn (x n m : Int) : (stCells x n).setIfInBounds 257 (.int .i64 m) = stCells x m := set_app1 (tabTo_size 256 (Nat.le_refl _)) _ _ _ rfl

set_option maxRecDepth 10000 in
set_option maxHeartbeats 400000 in
theorem new_any (w : World) : Calls Try.prog 15 #[] w fun e w' => ∃ b, e = .returned (.pointer (some ⟨b, 0, none⟩)) ∧ w.heap.size ≤ b ∧ w'.heap[b]? = some (.cells (stCells 4294967295 0) 42 (0, 0)) ∧ Below w.heap.size w w' := by
  have hB := Lib.hid built42
  go_enter Try.func15, Try.ntmps15
  go_wp2_with fail
  refine (table_any _).mono ?_; rintro e w1 ⟨rfl, hb1⟩
  dsimp only
  rename_i hK
  apply hK
  refine wpList_built rfl 42 #[(0, .tmp 1), (1, .const (.int .u32 4294967295))] rfl [(0, .agg (tabTo 256)), (1, .int .u32 4294967295)] ?hl _ hB.out ?_
  case hl => simp [go_sem]
  simp only [Act.put, List.setIfInBounds_toArray, List.set_cons_zero, List.set_cons_succ]
  go_wp2_with fail
  go_ret
  exact ⟨_, rfl, hb1.size, heap_alloc_new _ _, hb1.alloc hb1.size _⟩

theorem write_nil (ao : Option Addr) (len cap : Nat) (w : World) : Calls Try.prog 12 #[.pointer none, .slice ao len cap] w fun e w' => e = .returned (.tuple #[]) ∧ w = w' := by
  go_enter Try.func12, Try.ntmps12
  go_wp2
  refine bodyPost_ret (results_none rfl _ _ _) rfl ?_
  exact ⟨rfl, rfl⟩

set_option maxRecDepth 10000 in
set_option maxHeartbeats 400000 in
theorem write_any (b : Nat) (ao : Option Addr) (len cap : Nat) (zs bs : List Int) (w : World) (h : Ints .u8 w ao len bs) (hzs : ∀ c ∈ zs, (Lit.int .u8 c).wf = true) (hap : 0 < len → ∀ a, ao = some a → a.block ≠ b)
    (hs : w.heap[b]? = some (.cells (stCells (reg zs) zs.length) 42 (0, 0))) (hbd : zs.length + len ≤ 9223372036854775807) :
    Calls Try.prog 12 #[.pointer (some ⟨b, 0, none⟩), .slice ao len cap] w fun e w' => e = .returned (.tuple #[]) ∧ Keeps (· = b) w w' ∧ w'.heap[b]? = some (.cells (stCells (reg (zs ++ bs)) (zs ++ bs).length) 42 (0, 0)) := by
  have hm := h.lim
  unfold maxLen at hm
  have hz := Lib.hid h.hlen
  go_enter Try.func12, Try.ntmps12
  go_wp2
  go_loopw [10] (fun i wr => ∃ k : Nat, k ≤ len ∧ i = .int .i64 k ∧ wr.heap[b]? = some (.cells (stCells (reg (zs ++ bs.take k)) zs.length) 42 (0, 0)) ∧ Keeps (· = b) w wr) (fun i _ => (len - intOf i).toNat)
  case atStart => exact ⟨0, by omega, rfl, by simpa using hs, Keeps.refl _ _⟩
  case round =>
    obtain ⟨k, hk, rfl, h1, hg⟩ := hrel
    by_cases hlt : k < len
    · obtain ⟨a, c, rfl, hcv, hc0, hc1⟩ := h.byte hlt
      have hb : reg (zs ++ bs.take k) < 4294967296 := reg_lt _ (fun c hc => by
        rcases List.mem_append.1 hc with hc | hc
        · exact hzs c hc
        · exact h.wf c (List.mem_of_mem_take hc))
      have hsn : reg (zs ++ bs.take (k + 1)) = csteps 8 (reg (zs ++ bs.take k) ^^^ c) := by
        rw [take_succ_getD bs k (by rw [hz.out]; exact hlt), ← List.append_assoc]; unfold reg; rw [List.foldl_append, hcv.out]; rfl
      have HSN := Lib.hid hsn
      clear hsn
      generalize reg (zs ++ bs.take k) = x at *
      have hc0' : wr.cell? (a.add k) = some (.int .u8 c) := hg.cell hc0 (by rw [Addr.add_block]; exact hap (by omega) a rfl)
      have hx : bits BinOp.xor IntKind.u8 ((x : Int) % 256) c = ((x % 256 ^^^ c : Nat) : Int) := u8_xor_nat (x % 256) c (by omega) hc1
      have hx' : bits BinOp.xor IntKind.u8 (IntKind.u8.wrap (x : Int)) c = ((x % 256 ^^^ c : Nat) : Int) := by rw [IntKind.wrap_u8']; exact hx
      have hy := Lib.hid (u32_xor_nat (csteps 8 (x % 256 ^^^ c)) (x / 256) (csteps_lt _ _ (by have := u8_lt (x := x) hc1; omega)) (by omega))
      have hp := Lib.hid (pushed x c)
      have hu := u8_lt (x := x) hc1
      have cx : wr.cell? ⟨b, 256, none⟩ = some (.int .u32 (x : Nat)) := by rw [cell_of_row _ _ _ _ _ _ h1, st_x]
      have ct : wr.cell? ⟨b, x % 256 ^^^ c, none⟩ = some (.int .u32 (csteps 8 (x % 256 ^^^ c) : Nat)) := by rw [cell_of_row _ _ _ _ _ _ h1, st_tab _ _ _ hu]
      have hf : wr.frozen? ⟨b, 256, none⟩ = false := frozen_of_row _ _ _ _ _ h1
      have H1 := Lib.hid h1
      clear h1 hc0
      go_wp2
      go_region
      go_wp2
      go_roundw
      case rel =>
        refine ⟨k + 1, by omega, by go_num, ?_, (hg.setCell (Or.inr rfl) _).drew⟩
        show (wr.setCell _ _).heap[b]? = _
        rw [heap_setCell_same _ _ _ _ _ _ H1.out, st_setx, div256, hy.out, hp.out, HSN.out]
      case measure => simp [intOf]; omega
    · obtain rfl : k = len := by omega
      have ex : wr.cell? ⟨b, 257, none⟩ = some (.int .i64 (zs.length : Int)) := by rw [cell_of_row _ _ _ _ _ _ h1, st_n]
      have hf : wr.frozen? ⟨b, 257, none⟩ = false := frozen_of_row _ _ _ _ _ h1
      have hs2 : (wr.setCell ⟨b, 257, none⟩ (.int .i64 ((zs.length : Int) + (k : Int)))).heap[b]? = some (.cells (stCells (reg (zs ++ bs)) (zs ++ bs).length) 42 (0, 0)) := by
        rw [heap_setCell_same _ _ _ _ _ _ h1, st_setn, List.take_of_length_le (by rw [hz.out]; omega), List.length_append, hz.out]; rfl
      have HS := Lib.hid hs2
      clear h1 hs2
      go_wp2
      go_end0
      exact ⟨rfl, hg.setCell (Or.inr rfl) _, HS.out⟩

theorem stsum_any (b : Nat) (zs : List Int) (w : World) (hzs : ∀ c ∈ zs, (Lit.int .u8 c).wf = true)
    (hs : w.heap[b]? = some (.cells (stCells (reg zs) zs.length) 42 (0, 0))) :
    Calls Try.prog 13 #[.pointer (some ⟨b, 0, none⟩)] w fun e w' => e = .returned (.int .u32 (crcOf zs)) ∧ w = w' := by
  have hb := reg_lt _ hzs
  have cx : w.cell? ⟨b, 256, none⟩ = some (.int .u32 (reg zs : Nat)) := by rw [cell_of_row _ _ _ _ _ _ hs, st_x]
  have hn := Lib.hid (not32 _ hb)
  clear hs
  go_enter Try.func13, Try.ntmps13
  go_wp2
  go_ret
  exact ⟨ret_int (by rw [hn.out]; rfl), rfl⟩
theorem stsum_nil (w : World) : Calls Try.prog 13 #[.pointer none] w fun e w' => e = .returned (.int .u32 0) ∧ w = w' := by
  go_enter Try.func13, Try.ntmps13
  go_wp2
  go_ret
  exact ⟨rfl, rfl⟩
theorem stlen_any (b : Nat) (x n : Int) (w : World) (hs : w.heap[b]? = some (.cells (stCells x n) 42 (0, 0))) :
    Calls Try.prog 14 #[.pointer (some ⟨b, 0, none⟩)] w fun e w' => e = .returned (.int .i64 n) ∧ w = w' := by
  have cx : w.cell? ⟨b, 257, none⟩ = some (.int .i64 n) := by rw [cell_of_row _ _ _ _ _ _ hs, st_n]
  clear hs
  go_enter Try.func14, Try.ntmps14
  go_wp2
  go_ret
  exact ⟨rfl, rfl⟩
theorem stlen_nil (w : World) : Calls Try.prog 14 #[.pointer none] w fun e w' => e = .returned (.int .i64 0) ∧ w = w' := by
  go_enter Try.func14, Try.ntmps14
  go_wp2
  go_ret
  exact ⟨rfl, rfl⟩
theorem crc_nil : crcOf [] = 0 := rfl
theorem Hid_congr {p q : Prop} (h : p = q) (x : Hid p) : Hid q := h ▸ x

set_option maxRecDepth 10000 in
set_option maxHeartbeats 400000 in
theorem crcNobody_any (c : Int) (w : World) : Calls Try.prog 5 #[.int .u8 c] w fun e w' => e = .returned (.bool true) ∧ Below w.heap.size w w' := by
  go_enter Try.func5, Try.ntmps5
  go_wp2_with (first | (go_at_call 12; refine (write_nil _ _ _ _).mono ?_; rintro e w' ⟨rfl, rfl⟩) | (go_at_call 14; refine (stlen_nil _).mono ?_; rintro e w' ⟨rfl, rfl⟩) | (go_at_call_of 13 (Value.pointer none); refine (stsum_nil _).mono ?_; rintro e w' ⟨rfl, rfl⟩) | (go_at_call 15; refine (new_any _).mono ?_; rintro e w1 ⟨b, rfl, hb, hs, hb1⟩; have HS := Lib.hid hs; clear hs) | (go_at_call 13; refine (stsum_any _ [] _ (by simp) HS.out).mono ?_; rintro e w' ⟨rfl, rfl⟩) | (go_at_call 9; refine (awake_any _).mono ?_; rintro e w' ⟨rfl, hb2⟩))
  go_ret
  exact ⟨rfl, ((below_alloc _ _).trans (hb1.mono (by simp))).trans (hb2.mono (by have := hb1.size; simp at this; omega))⟩
end Go.Proofs.Ytcomagpinnbkaaa

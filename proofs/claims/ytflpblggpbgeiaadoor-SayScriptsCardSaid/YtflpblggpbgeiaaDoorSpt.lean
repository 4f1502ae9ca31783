/- A text cut at a byte: plain; and strings.Split's contract said of it. -/
import Derived.Test.YtflpblggpbgeiaaDoorNum
import Derived.Lib.SplitLaws
namespace Go.Proofs.YtflpblggpbgeiaaDoor
open Go Go.RowKit Go.Calli
set_option linter.unusedVariables false
set_option linter.unusedSimpArgs false
def sp8 (c : UInt8) : List UInt8 → List (List UInt8)
  | [] => [[]]
  | b :: r => if b = c then [] :: sp8 c r else (b :: (sp8 c r).headD []) :: (sp8 c r).tail
theorem sp8_ne (c : UInt8) (s : List UInt8) : sp8 c s ≠ [] := by cases s <;> simp [sp8] <;> split <;> simp
theorem splitK_sp8 (c : UInt8) (s : List UInt8) : Lib.splitK [c] 0 (Lib.count s [c]) s = sp8 c s := by
  induction s with
  | nil =>
    rw [Lib.count_one]
    rfl
  | cons b r ih =>
    by_cases h : b = c
    · subst h
      rw [Lib.count_cons_eq, Nat.add_comm]
      have hix : Lib.index (b :: r) [b] = 0 := by rw [Lib.index]; simp [List.isPrefixOf]
      unfold Lib.splitK sp8
      rw [hix, if_neg (by decide), if_pos rfl]
      simp only [Int.toNat_zero, Nat.add_zero, List.take_zero, List.length_cons, List.length_nil, Nat.zero_add, List.drop_succ_cons, List.drop_zero]
      rw [ih]
    · rw [Lib.count_cons_ne b c r h]
      have hp : ([c] : List UInt8).isPrefixOf (b :: r) = false := by simp [List.isPrefixOf, Ne.symm h]
      have hix : Lib.index (b :: r) [c] = if Lib.index r [c] == -1 then -1 else Lib.index r [c] + 1 := by rw [Lib.index, hp]; simp
      rw [show sp8 c (b :: r) = (b :: (sp8 c r).headD []) :: (sp8 c r).tail by simp [sp8, h], ← ih]
      rcases hk : Lib.count r [c] with _ | k
      · simp [Lib.splitK]
      · unfold Lib.splitK
        have hge := Lib.index_ge r [c]
        by_cases hm : Lib.index r [c] = -1
        · have e1 : Lib.index (b :: r) [c] = -1 := by rw [hix, if_pos (beq_iff_eq.2 hm)]
          rw [e1, hm]
          simp
        · obtain ⟨j, hj⟩ : ∃ j : Nat, Lib.index r [c] = j := ⟨(Lib.index r [c]).toNat, by omega⟩
          have e1 : Lib.index (b :: r) [c] = ((j + 1 : Nat) : Int) := by rw [hix, if_neg (fun e => hm (beq_iff_eq.1 e)), hj]; omega
          rw [e1, hj, if_neg (fun e => by have := beq_iff_eq.1 e; omega), if_neg (fun e => by have := beq_iff_eq.1 e; omega)]
          simp only [Int.toNat_natCast, Nat.add_zero, List.take_succ_cons, List.headD_cons, List.tail_cons, List.length_cons, List.length_nil, Nat.zero_add, List.drop_succ_cons]
/-- A text cut at a byte. -/
def spl (c : Int) : List Int → List (List Int)
  | [] => [[]]
  | b :: r => if b = c then [] :: spl c r else (b :: (spl c r).headD []) :: (spl c r).tail
theorem spl_ne (c : Int) (s : List Int) : spl c s ≠ [] := by cases s <;> simp [spl] <;> split <;> simp
theorem u8_inj {a b : Int} (ha : 0 ≤ a ∧ a < 256) (hb : 0 ≤ b ∧ b < 256) (h : UInt8.ofNat a.toNat = UInt8.ofNat b.toNat) : a = b := by
  have := congrArg UInt8.toNat h
  simp at this
  omega
theorem spl_bytes (c : Int) (hc : 0 ≤ c ∧ c < 256) (s : List Int) (hb : Byt s) : sp8 (UInt8.ofNat c.toNat) (Lib.bytesOf s) = (spl c s).map Lib.bytesOf := by
  induction s with
  | nil => rfl
  | cons b r ih =>
    have ih2 := ih (fun z hz => hb z (by simp [hz]))
    have hbb := hb b (by simp)
    show sp8 _ (UInt8.ofNat b.toNat :: Lib.bytesOf r) = _
    unfold sp8 spl
    rw [ih2]
    by_cases h : b = c
    · subst h
      rw [if_pos rfl, if_pos rfl]
      rfl
    · rw [if_neg (fun e => h (u8_inj hbb hc e)), if_neg h]
      rcases hs : spl c r with _ | ⟨x, t⟩
      · exact absurd hs (spl_ne c r)
      · rfl
theorem spl_byt (c : Int) (s : List Int) (hb : Byt s) : ∀ x ∈ spl c s, Byt x := by
  induction s with
  | nil => intro x hx; simp only [spl, List.mem_singleton] at hx; subst hx; exact fun z hz => by simp at hz
  | cons b r ih =>
    have ih2 := ih (fun z hz => hb z (by simp [hz]))
    intro x hx
    unfold spl at hx
    by_cases h : b = c
    · rw [if_pos h] at hx
      rcases List.mem_cons.1 hx with rfl | hx
      · exact fun z hz => by simp at hz
      · exact ih2 x hx
    · rw [if_neg h] at hx
      rcases hs : spl c r with _ | ⟨y, t⟩
      · exact absurd hs (spl_ne c r)
      · rw [hs] at hx ih2
        rcases List.mem_cons.1 hx with rfl | hx
        · intro z hz
          rcases List.mem_cons.1 hz with rfl | hz
          · exact hb _ (by simp)
          · exact ih2 y (by simp) z hz
        · exact ih2 x (by simp at hx; simp [hx])
theorem spl_len (c : Int) (s : List Int) : (spl c s).length ≤ s.length + 1 ∧ ∀ x ∈ spl c s, x.length ≤ s.length := by
  induction s with
  | nil => simp [spl]
  | cons b r ih =>
    unfold spl
    by_cases h : b = c
    · rw [if_pos h]
      refine ⟨by simp only [List.length_cons]; omega, fun x hx => ?_⟩
      rcases List.mem_cons.1 hx with rfl | hx
      · simp
      · have := ih.2 x hx; simp only [List.length_cons]; omega
    · rw [if_neg h]
      rcases hs : spl c r with _ | ⟨y, t⟩
      · exact absurd hs (spl_ne c r)
      · rw [hs] at ih
        refine ⟨by have := ih.1; simp only [List.length_cons, List.tail_cons] at *; omega, fun x hx => ?_⟩
        rcases List.mem_cons.1 hx with rfl | hx
        · have := ih.2 y (by simp); simp only [List.headD_cons, List.length_cons]; omega
        · have := ih.2 x (by simp at hx; simp [hx]); simp only [List.length_cons]; omega
theorem map_inj {α β : Type} {f : α → β} (hf : ∀ a b, f a = f b → a = b) : ∀ {l m : List α}, l.map f = m.map f → l = m := by
  intro l
  induction l with
  | nil => intro m h; cases m with
    | nil => rfl
    | cons _ _ => cases h
  | cons a r ih => intro m h; cases m with
    | nil => cases h
    | cons b t =>
      simp only [List.map_cons, List.cons.injEq] at h
      rw [hf _ _ h.1, ih h.2]
theorem ba_inj (a b : ByteArray) (h : a.data.toList = b.data.toList) : a = b := by
  obtain ⟨⟨x⟩⟩ := a
  obtain ⟨⟨y⟩⟩ := b
  simp only at h
  rw [h]
theorem splitB_spl (c : Int) (hc : 0 ≤ c ∧ c < 256) (s : List Int) (hb : Byt s) : Lib.splitB (strOfNums [c]) 0 (Lib.countB (strOfNums s) (strOfNums [c])) (strOfNums s) = (spl c s).map strOfNums := by
  apply map_inj ba_inj
  have e1 : (strOfNums s).data.toList = Lib.bytesOf s := by simp [strOfNums, Lib.bytesOf]
  have e2 : (strOfNums [c]).data.toList = [UInt8.ofNat c.toNat] := by simp [strOfNums]
  rw [Lib.splitB_data, e1, e2]
  have e3 : Lib.countB (strOfNums s) (strOfNums [c]) = Lib.count (Lib.bytesOf s) [UInt8.ofNat c.toNat] := by unfold Lib.countB; rw [e1, e2]
  rw [e3, splitK_sp8, spl_bytes c hc s hb, List.map_map]
  congr 1
theorem countB_spl (c : Int) (hc : 0 ≤ c ∧ c < 256) (s : List Int) (hb : Byt s) : Lib.countB (strOfNums s) (strOfNums [c]) + 1 = (spl c s).length := by
  have h := Lib.splitB_all (strOfNums [c]) (by rw [strOfNums_size]; simp) 0 _ (strOfNums s) rfl
  rw [splitB_spl c hc s hb, List.length_map] at h
  exact h.symm
/-- Texts in memory. -/
structure Txts (w : World) (a : Addr) (n : Nat) (ws : List (List Int)) : Prop where
  hlen : ws.length = n
  cell : ∀ i, i < n → w.cell? (a.add i) = some (.string (strOfNums (ws.getD i [])))
theorem Txts.keep0 {w w' : World} {a : Addr} {n : Nat} {ws : List (List Int)} (h : Txts w a n ws) (hb : Below w.heap.size w w') : Txts w' a n ws := ⟨h.hlen, fun i hi => (hb.cell (World.block_lt_of_cell? w _ (h.cell i hi))).trans (h.cell i hi)⟩
theorem split_any (c : Int) (hc : 0 ≤ c ∧ c < 256) (s : List Int) (hb : Byt s) (hl : s.length < 4294967281) (m : Int) (w : World) (hm : w.cell? ⟨0, 0, none⟩ = some (.int .i64 m)) : Calls Tryd.prog 24 #[.string (strOfNums s), .string (strOfNums [c])] w fun e w' => ∃ a : Addr, e = .returned (.slice (some a) (spl c s).length (spl c s).length) ∧ Txts w' a (spl c s).length (spl c s) ∧ a.block < w'.heap.size ∧ Below w.heap.size w w' := by
  have h := Tryd.strings_Split (strOfNums s) (strOfNums [c]) m w (by rw [strOfNums_size]; exact hl) hm (by rw [strOfNums_size]; simp)
  rw [splitB_spl c hc s hb, countB_spl c hc s hb] at h
  refine h.mono fun e w' ⟨h1, h2⟩ => ⟨_, h1, ?_, by subst h2; simp, by subst h2; exact below_alloc _ _⟩
  subst h2
  refine ⟨rfl, fun i hi => ?_⟩
  rw [add0, Nat.zero_add]
  refine (cell_of_row _ _ _ _ _ _ (heap_alloc_new w _)).trans ?_
  simp [List.getD, hi]
end Go.Proofs.YtflpblggpbgeiaaDoor

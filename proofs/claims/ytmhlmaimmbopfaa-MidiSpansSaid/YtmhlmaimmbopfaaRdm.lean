/- The walk of the reader's message. -/
import Derived.Test.YtmhlmaimmbopfaaRdn
namespace Go.Proofs.Ytmhlmaimmbopfaa
open Go Go.RowKit Go.Calli
set_option linter.unusedVariables false
theorem suf {bs A R : List Int} {n p : Nat} (hn : bs.length = n) (h : bs.drop p = A ++ R) (hp : p ≤ n) : R = bs.drop (n - R.length) ∧ R.length + A.length + p = n := by
  have hl := congrArg List.length h
  rw [List.length_drop, List.length_append, hn] at hl
  have e : n - R.length = p + A.length := by omega
  refine ⟨?_, by omega⟩
  rw [e, ← List.drop_drop, h, List.drop_left]
theorem and240 : ∀ c, c < 256 → bits BinOp.and IntKind.i64 ((c : Nat) : Int) 240 = ((c / 16 * 16 : Nat) : Int) := by decide +kernel
theorem and15 : ∀ c, c < 256 → bits BinOp.and IntKind.i64 ((c : Nat) : Int) 15 = ((c % 16 : Nat) : Int) := by decide +kernel
def Five (w : World) (b : Nat) (t k c a d : Int) : Prop := w.heap[b]? = some (.cells #[.int .i64 t, .int .i64 k, .int .i64 c, .int .i64 a, .int .i64 d] 23 (0, 0))
def BadSt (b : Nat) (sl : Value) (n : Nat) (E : Int) (w : World) : Prop := E ≠ 0 ∧ ∃ (p' : Nat) (t' s' : Int), p' ≤ n ∧ 0 ≤ t' ∧ t' ≤ 600000000 ∧ SOk s' ∧ Rd w b sl p' t' s' E
def StA (b : Nat) (sl : Value) (n : Nat) (bs : List Int) (p : Nat) (t s : Int) (w : World) : Prop :=
  (∃ (v : Nat) (R : List Int), rdN 0 0 (bs.drop p) = (0, v, R) ∧ t + (v : Int) ≤ 268435455 ∧ R.length ≤ n ∧ R = bs.drop (n - R.length) ∧ Rd w b sl ((n - R.length : Nat) : Int) (t + (v : Int)) s 0) ∨ BadSt b sl n (rdM t s (bs.drop p)).1 w
def StB (b : Nat) (sl : Value) (n : Nat) (bs : List Int) (p : Nat) (t s : Int) (w : World) : Prop :=
  (∃ (t1 s1 : Int) (q : Nat), rdM t s (bs.drop p) = rdT t1 s1 (bs.drop q) ∧ 0 ≤ t1 ∧ t1 ≤ 268435455 ∧ SOk s1 ∧ q ≤ n ∧ Rd w b sl (q : Nat) t1 s1 0) ∨ BadSt b sl n (rdM t s (bs.drop p)).1 w
def MsgPost (b : Nat) (sl : Value) (n : Nat) (r : Int × Msg × List Int) (w : World) (e : Ending) (w' : World) : Prop :=
  (r.1 = 0 ∧ r.2.2.length ≤ n ∧ e = .returned (.agg #[.int .i64 r.2.1.t, .int .i64 r.2.1.k, .int .i64 r.2.1.c, .int .i64 r.2.1.a, .int .i64 r.2.1.b]) ∧ Rd w' b sl ((n - r.2.2.length : Nat) : Int) r.2.1.t (r.2.1.k + r.2.1.c) 0 ∧ Keeps (fun k => k = b) w w') ∨
  (r.1 ≠ 0 ∧ ∃ x0 x1 x2 x3 x4 : Int, e = .returned (.agg #[.int .i64 x0, .int .i64 x1, .int .i64 x2, .int .i64 x3, .int .i64 x4]) ∧ ∃ p' t' s' : Int, Rd w' b sl p' t' s' r.1 ∧ Keeps (fun k => k = b) w w')
theorem bytes8_drop {ao : Option Addr} {n : Nat} {bs : List Int} {w : World} (h : Ints .u8 w ao n bs) (p : Nat) : Bytes8 (bs.drop p) := fun z hz => by
  have := bounds_u8 (h.wf z (List.mem_of_mem_drop hz))
  omega
theorem rdN_v0 (L : List Int) : ∀ i v, (rdN i v L).1 ≠ 0 → (rdN i v L).2.1 = 0 := by
  induction L with
  | nil => intro i v h; simp [rdN]
  | cons c r ih =>
    intro i v h
    unfold rdN at h ⊢
    split
    · rfl
    · rename_i h1
      rw [if_neg h1] at h
      split
      · rename_i h2
        rw [if_pos h2] at h
        simp at h
      · rename_i h2
        rw [if_neg h2] at h
        exact ih _ _ h
def NumRes (bs : List Int) (n p : Nat) (v : Nat) (R : List Int) (E : Int) (p' : Nat) : Prop := rdN 0 0 (bs.drop p) = (E, v, R) ∧ (E = 0 → R.length ≤ n ∧ p' = n - R.length ∧ R = bs.drop (n - R.length))
theorem num_uni (b : Nat) (ao : Option Addr) (n cap : Nat) (bs : List Int) (p : Nat) (hp : p ≤ n) (hn : n ≤ 1000000) (t s : Int) (hab : ∀ a, ao = some a → a.block ≠ b) (w : World) (hi : Ints .u8 w ao n bs) (h : Rd w b (.slice ao n cap) p t s 0) : Calls Try.prog 22 #[.pointer (some ⟨b, 0, none⟩)] w fun e w' => ∃ (v : Nat) (R : List Int) (E : Int) (p' : Nat), e = .returned (.int .i64 (v : Nat)) ∧ v ≤ 268435455 ∧ p' ≤ n ∧ Hid (NumRes bs n p v R E p') ∧ Rd w' b (.slice ao n cap) p' t s E ∧ Keeps (fun k => k = b) w w' := by
  have hv0 := rdN_v0 (bs.drop p) 0 0
  rcases hN : rdN 0 0 (bs.drop p) with ⟨E, v, R⟩
  rw [hN] at hv0
  have hB := bytes8_drop hi p
  refine (num_any b ao n cap bs p hp hn t s hab w hi h).mono ?_
  rw [hN]
  rintro e w1 (⟨h1, h2, rfl, h3, h4⟩ | ⟨h1, rfl, p', h2, h3, h4⟩)
  · simp only at h1 h2 h3
    subst h1
    obtain ⟨g1, g2⟩ := num_back _ v R hB hN
    have hsf := suf hi.hlen g2 hp
    exact ⟨v, R, 0, n - R.length, rfl, g1, by omega, ⟨hN, fun _ => ⟨h2, rfl, hsf.1⟩⟩, h3, h4⟩
  · have hv := hv0 h1
    simp only at hv h1 h3
    subst hv
    exact ⟨0, R, E, p', rfl, by omega, h2, ⟨hN, fun e0 => absurd e0 h1⟩, h3, h4⟩
/-- Does a kind stand there? -/
def hiB : List Int → Bool
  | [] => false
  | c :: _ => decide (128 ≤ c)
def StA2 (b : Nat) (ao : Option Addr) (n cap : Nat) (bs : List Int) (p : Nat) (t s : Int) (vb : Bool) (w : World) : Prop :=
  (∃ (v p1 : Nat), rdN 0 0 (bs.drop p) = (0, v, bs.drop p1) ∧ t + (v : Int) ≤ 268435455 ∧ p1 ≤ n ∧ vb = hiB (bs.drop p1) ∧ Rd w b (.slice ao n cap) (p1 : Nat) (t + (v : Int)) s 0) ∨ (vb = false ∧ BadSt b (.slice ao n cap) n (rdM t s (bs.drop p)).1 w)
def kindB (k : Int) : Bool := decide (twoB k = false ∧ k ≠ 192)
/-- What is known of a message that has its time and its kind. -/
def FC (bs : List Int) (n p : Nat) (t s : Int) (t1 s1 : Int) (q : Nat) (E : Int) : Prop :=
  q ≤ n ∧ SOk s1 ∧ 0 ≤ t1 ∧ t1 ≤ 600000000 ∧ (E = 0 → rdM t s (bs.drop p) = rdT t1 s1 (bs.drop q) ∧ t1 ≤ 268435455) ∧ (E ≠ 0 → (rdM t s (bs.drop p)).1 = E)
theorem info23 : (Try.prog.info? 23).map (·.size) = some 5 := by kernel_rfl
theorem five_same {w : World} {b : Nat} {t k c a d : Int} (h : Five w b t k c a d) (t' k' c' a' d' : Int) :
    Five (((((w.setCell ⟨b, 0, none⟩ (.int .i64 t')).setCell ⟨b, 1, none⟩ (.int .i64 k')).setCell ⟨b, 2, none⟩ (.int .i64 c')).setCell ⟨b, 3, none⟩ (.int .i64 a')).setCell ⟨b, 4, none⟩ (.int .i64 d')) b t' k' c' a' d' :=
  heap_setCell_same _ _ _ _ _ _ (heap_setCell_same _ _ _ _ _ _ (heap_setCell_same _ _ _ _ _ _ (heap_setCell_same _ _ _ _ _ _ (heap_setCell_same _ _ _ _ _ _ h))))
theorem Five.cells {w : World} {b : Nat} {t k c a d : Int} (h : Five w b t k c a d) : w.cell? ⟨b, 0, none⟩ = some (.int .i64 t) ∧ w.cell? ⟨b, 1, none⟩ = some (.int .i64 k) ∧ w.cell? ⟨b, 2, none⟩ = some (.int .i64 c) ∧ w.cell? ⟨b, 3, none⟩ = some (.int .i64 a) ∧ w.cell? ⟨b, 4, none⟩ = some (.int .i64 d) ∧ w.frozen? ⟨b, 0, none⟩ = false ∧ w.frozen? ⟨b, 1, none⟩ = false ∧ w.frozen? ⟨b, 2, none⟩ = false ∧ w.frozen? ⟨b, 3, none⟩ = false ∧ w.frozen? ⟨b, 4, none⟩ = false :=
  ⟨(cell_of_row _ _ _ _ _ _ h).trans rfl, (cell_of_row _ _ _ _ _ _ h).trans rfl, (cell_of_row _ _ _ _ _ _ h).trans rfl, (cell_of_row _ _ _ _ _ _ h).trans rfl, (cell_of_row _ _ _ _ _ _ h).trans rfl, frozen_of_row _ _ _ _ _ h, frozen_of_row _ _ _ _ _ h, frozen_of_row _ _ _ _ _ h, frozen_of_row _ _ _ _ _ h, frozen_of_row _ _ _ _ _ h⟩
theorem Five.kept {w w' : World} {b c : Nat} {t k cc a d : Int} (h : Five w b t k cc a d) (hk : Keeps (fun k => k = c) w w') (hn : b ≠ c) : Five w' b t k cc a d := hk.heap h hn
theorem andK {s : Int} (h : SOk s) : bits BinOp.and IntKind.i64 s 240 = s / 16 * 16 := by
  obtain ⟨c, rfl⟩ : ∃ c : Nat, s = c := ⟨s.toNat, by unfold SOk at h; omega⟩
  rw [and240 c (by unfold SOk at h; omega)]; omega
theorem andC {s : Int} (h : SOk s) : bits BinOp.and IntKind.i64 s 15 = s % 16 := by
  obtain ⟨c, rfl⟩ : ∃ c : Nat, s = c := ⟨s.toNat, by unfold SOk at h; omega⟩
  rw [and15 c (by unfold SOk at h; omega)]; omega
def SevRes (L : List Int) (bs : List Int) (n : Nat) (v : Int) (E : Int) (p' : Nat) : Prop := (rd7 L).1 = E ∧ (E = 0 → (rd7 L).2.1 = v ∧ (rd7 L).2.2 = bs.drop p')
theorem seven_uni (b : Nat) (ao : Option Addr) (n cap : Nat) (bs : List Int) (p : Nat) (hp : p ≤ n) (hn : n ≤ 1000000) (t s : Int) (hab : ∀ a, ao = some a → a.block ≠ b) (w : World) (hi : Ints .u8 w ao n bs) (h : Rd w b (.slice ao n cap) p t s 0) : Calls Try.prog 25 #[.pointer (some ⟨b, 0, none⟩)] w fun e w' => ∃ (v : Int) (E : Int) (p' : Nat), e = .returned (.int .i64 v) ∧ p' ≤ n ∧ Hid (SevRes (bs.drop p) bs n v E p') ∧ Rd w' b (.slice ao n cap) p' t s E ∧ Keeps (fun k => k = b) w w' := by
  have hB := bytes8_drop hi p
  refine (seven_any b ao n cap bs p hp hn t s hab w hi h).mono ?_
  rcases hN : rd7 (bs.drop p) with ⟨E, v, R⟩
  rintro e w1 (⟨h1, h2, rfl, h3, h4⟩ | ⟨h1, rfl, p', h2, h3, h4⟩)
  · simp only at h1 h2 h3
    subst h1
    obtain ⟨g1, g2, g3, g4⟩ := rd7_back hB hN
    have hsf := suf (A := [v]) hi.hlen g1 hp
    exact ⟨v, 0, n - R.length, rfl, by omega, ⟨by rw [hN], fun _ => ⟨by rw [hN], by rw [hN]; exact hsf.1⟩⟩, h3, h4⟩
  · simp only at h1 h3
    exact ⟨0, E, p', rfl, h2, ⟨by rw [hN], fun e0 => absurd e0 h1⟩, h3, h4⟩
theorem Ints.keptb {k : IntKind} {w w' : World} {ao : Option Addr} {n b : Nat} {bs : List Int} (h : Ints k w ao n bs) (hk : Keeps (fun k => k = b) w w') (hab : ∀ a, ao = some a → a.block ≠ b) : Ints k w' ao n bs := h.kept hk (fun a ha => hab a ha)
theorem rdT_e7 {t s : Int} {L : List Int} (hk : kindB (s / 16 * 16) = false) (h : (rd7 L).1 ≠ 0) : (rdT t s L).1 = (rd7 L).1 := by
  unfold rdT
  rw [if_neg (of_decide_eq_false hk), if_pos h]
theorem rdT_one {t s v : Int} {L R : List Int} (hk : kindB (s / 16 * 16) = false) (h2 : twoB (s / 16 * 16) = false) (h : rd7 L = (0, v, R)) : rdT t s L = (0, ⟨t, s / 16 * 16, s % 16, v, 0⟩, R) := by
  unfold rdT
  rw [if_neg (of_decide_eq_false hk), h, h2]
  simp
theorem rdT_two {t s v v2 : Int} {L R R2 : List Int} (hk : kindB (s / 16 * 16) = false) (h2 : twoB (s / 16 * 16) = true) (h : rd7 L = (0, v, R)) (h' : rd7 R = (0, v2, R2)) : rdT t s L = (0, ⟨t, s / 16 * 16, s % 16, v, v2⟩, R2) := by
  unfold rdT
  rw [if_neg (of_decide_eq_false hk), h, h2]
  simp only [ne_eq, not_true, if_false, if_true, h']
theorem rdT_two_e {t s v : Int} {L R : List Int} (hk : kindB (s / 16 * 16) = false) (h2 : twoB (s / 16 * 16) = true) (h : rd7 L = (0, v, R)) (h' : (rd7 R).1 ≠ 0) : (rdT t s L).1 = (rd7 R).1 := by
  unfold rdT
  rw [if_neg (of_decide_eq_false hk), h, h2]
  simp only [ne_eq, not_true, if_false, if_true]
  rw [if_pos h']
def SA (bs : List Int) (n p : Nat) (t s t1 s1 : Int) (q : Nat) (v E : Int) (p' : Nat) : Prop :=
  p' ≤ n ∧ (E = 0 → rdM t s (bs.drop p) = rdT t1 s1 (bs.drop q) ∧ kindB (s1 / 16 * 16) = false ∧ rd7 (bs.drop q) = (0, v, bs.drop p')) ∧ (E ≠ 0 → (rdM t s (bs.drop p)).1 = E)
def SB (bs : List Int) (n p : Nat) (t s t1 s1 : Int) (q : Nat) (v v2 E : Int) (p' : Nat) : Prop :=
  p' ≤ n ∧ (E = 0 → rdM t s (bs.drop p) = (0, ⟨t1, s1 / 16 * 16, s1 % 16, v, v2⟩, bs.drop p')) ∧ (E ≠ 0 → (rdM t s (bs.drop p)).1 = E)
theorem sev_eq {L bs : List Int} {n p' : Nat} {v : Int} (h : SevRes L bs n v 0 p') : rd7 L = (0, v, bs.drop p') := by
  rcases hL : rd7 L with ⟨a, b, c⟩
  unfold SevRes at h
  rw [hL] at h
  obtain ⟨h1, h2⟩ := h
  obtain ⟨h3, h4⟩ := h2 rfl
  simp only at h1 h3 h4
  rw [h1, h3, h4]
theorem msg_end {b : Nat} {sl : Value} {n : Nat} {bs : List Int} {p q p' : Nat} {t s t1 s1 k v v2 E : Int} {w W : World} (hbl : bs.length = n) (hbz : b < w.heap.size) (hk : s1 / 16 * 16 = k) (hS : SB bs n p t s t1 s1 q v v2 E p') (hR : Rd W b sl (p' : Nat) t1 s1 E) (hkp : Keeps (fun k => k = b) w W) :
    MsgPost b sl n (rdM t s (bs.drop p)) w (.returned (.agg #[.int .i64 t1, .int .i64 k, .int .i64 (s1 % 16), .int .i64 v, .int .i64 v2])) (((((W.setCell ⟨w.heap.size, 0, none⟩ (.int .i64 t1)).setCell ⟨w.heap.size, 1, none⟩ (.int .i64 k)).setCell ⟨w.heap.size, 2, none⟩ (.int .i64 (s1 % 16))).setCell ⟨w.heap.size, 3, none⟩ (.int .i64 v)).setCell ⟨w.heap.size, 4, none⟩ (.int .i64 v2)) := by
  have hkp' := ((((hkp.setCell (p := ⟨w.heap.size, 0, none⟩) (.inl (Nat.le_refl _)) (.int .i64 t1)).setCell (p := ⟨w.heap.size, 1, none⟩) (.inl (Nat.le_refl _)) (.int .i64 k)).setCell (p := ⟨w.heap.size, 2, none⟩) (.inl (Nat.le_refl _)) (.int .i64 (s1 % 16))).setCell (p := ⟨w.heap.size, 3, none⟩) (.inl (Nat.le_refl _)) (.int .i64 v)).setCell (p := ⟨w.heap.size, 4, none⟩) (.inl (Nat.le_refl _)) (.int .i64 v2)
  have hkZ : Keeps (fun k => k = w.heap.size) W _ := (((((Keeps.refl (fun k => k = w.heap.size) W).setCell (p := ⟨w.heap.size, 0, none⟩) (.inr rfl) (.int .i64 t1)).setCell (p := ⟨w.heap.size, 1, none⟩) (.inr rfl) (.int .i64 k)).setCell (p := ⟨w.heap.size, 2, none⟩) (.inr rfl) (.int .i64 (s1 % 16))).setCell (p := ⟨w.heap.size, 3, none⟩) (.inr rfl) (.int .i64 v)).setCell (p := ⟨w.heap.size, 4, none⟩) (.inr rfl) (.int .i64 v2)
  have hR' := hR.kept hkZ (by omega)
  obtain ⟨h1, h2, h3⟩ := hS
  by_cases hE : E = 0
  · subst hE
    rw [h2 rfl]
    have hl : (bs.drop p').length = n - p' := by rw [List.length_drop, hbl]
    refine .inl ⟨rfl, by simp only; rw [hl]; omega, by simp only; rw [hk], ?_, hkp'⟩
    simp only
    rw [hl, show n - (n - p') = p' by omega, show s1 / 16 * 16 + s1 % 16 = s1 by omega]
    exact hR'
  · exact .inr ⟨by rw [h3 hE]; exact hE, _, _, _, _, _, rfl, _, _, _, by rw [h3 hE]; exact hR', hkp'⟩
set_option maxRecDepth 100000 in
set_option maxHeartbeats 4000000 in
theorem msg_any (b : Nat) (ao : Option Addr) (n cap : Nat) (bs : List Int) (p : Nat) (hp : p ≤ n) (hn : n ≤ 1000000) (t s : Int) (ht0 : 0 ≤ t) (ht1 : t ≤ 268435455) (hs : SOk s) (hab : ∀ a, ao = some a → a.block ≠ b) (w : World) (hi : Ints .u8 w ao n bs) (h : Rd w b (.slice ao n cap) p t s 0) : Calls Try.prog 21 #[.pointer (some ⟨b, 0, none⟩)] w (MsgPost b (.slice ao n cap) n (rdM t s (bs.drop p)) w) := by
  have hbl := Lib.hid hi.hlen
  have hz0 : Five (w.alloc (.cells #[.int .i64 0, .int .i64 0, .int .i64 0, .int .i64 0, .int .i64 0] 23)) w.heap.size 0 0 0 0 0 := heap_alloc_new _ _
  have hk0 : Keeps (fun k => k = b) w (w.alloc (.cells #[.int .i64 0, .int .i64 0, .int .i64 0, .int .i64 0, .int .i64 0] 23)) := (Keeps.refl _ w).alloc _
  have hbz := lt_of_block h
  have hi0 := hi.keep0 (below_alloc w (.cells #[.int .i64 0, .int .i64 0, .int .i64 0, .int .i64 0, .int .i64 0] 23))
  have h0 := h.keep0 (below_alloc w (.cells #[.int .i64 0, .int .i64 0, .int .i64 0, .int .i64 0, .int .i64 0] 23))
  have hnum := Lib.hid (fun w (hi : Ints .u8 w ao n bs) (h : Rd w b (.slice ao n cap) p t s 0) => num_uni b ao n cap bs p hp hn t s hab w hi h)
  have HS := Lib.hid hs
  have HAB := Lib.hid hab
  have HIw := Lib.hid hi
  clear hi h hs hab
  go_enter Try.func21, Try.ntmps21
  go_upto_region 1 with fail
  generalize w.alloc (.cells #[.int .i64 0, .int .i64 0, .int .i64 0, .int .i64 0, .int .i64 0] 23) = W at *
  obtain ⟨c0, c1, c2, c3, c4, f1, f2, f3, f4⟩ := rd_cells h0
  have H0 := Lib.hid h0
  have HI0 := Lib.hid (hi0.keep0 ((Below.refl W.heap.size W).drew))
  have HZ0 := Lib.hid hz0
  clear h0 hi0 hz0
  go_cut [] (fun wx => ∃ (v : Nat) (R : List Int) (E : Int) (p' : Nat), v ≤ 268435455 ∧ p' ≤ n ∧ Hid (NumRes bs n p v R E p') ∧ Rd wx b (.slice ao n cap) p' (t + (v : Int)) s E ∧ Five wx w.heap.size 0 0 0 0 0 ∧ Keeps (fun k => k = b) w wx)
  case first =>
    go_region_with (go_at_call 22; refine (hnum.out _ (by exact HI0.out) (by exact H0.out)).mono ?_; rintro e w1 ⟨v, R, E, p', rfl, hv, hp', hN, h1, hk1⟩; obtain ⟨d0, d1, d2, d3, d4, g1, g2, g3, g4⟩ := rd_cells h1; have e1 : IntKind.i64.wrap (t + (v : Int)) = t + (v : Int) := IntWalk.i64_in _ (by omega))

    all_goals go_wp2_with fail
    all_goals go_meet
    all_goals exact ⟨v, R, E, p', hv, hp', hN, Rd.time (w := w1) h1 _, (HZ0.out : Five W _ _ _ _ _ _) |> fun hz => ((((Keeps.refl (fun k => k = b) W).drew).trans hk1).setCell (p := ⟨b, 2, none⟩) (.inr rfl) _).heap hz (by omega), hk0.trans ((((Keeps.refl (fun k => k = b) W).drew).trans hk1).setCell (p := ⟨b, 2, none⟩) (.inr rfl) _)⟩
  case rest =>
  obtain ⟨v, R, E, p', hv, hp', hN, h1, hz1, hk1⟩ := hcut
  obtain ⟨w1, rfl⟩ : ∃ w', w' = wc := ⟨_, rfl⟩
  obtain ⟨d0, d1, d2, d3, d4, g1, g2, g3, g4⟩ := rd_cells h1
  have H1 := Lib.hid h1
  have HZ1 := Lib.hid hz1
  clear c0 c1 c2 c3 c4 f1 f2 f3 f4 h1 hz1 HZ0 H0 HI0 hk0 hnum
  go_upto_if 18 with fail
  go_cut [] (fun wx => StA b (.slice ao n cap) n bs p t s wx ∧ Five wx w.heap.size 0 0 0 0 0 ∧ Keeps (fun k => k = b) w wx)
  case first =>
    obtain ⟨N1, N2⟩ := hN.out
    have HN1 := Lib.hid N1
    clear N1 N2
    by_cases hmax : 268435455 < t + (v : Int)
    · by_cases hE : E = 0
      · subst hE
        have hr : (rdM t s (bs.drop p)).1 = 5 := by unfold rdM; rw [HN1.out]; simp [hmax]
        have HR := Lib.hid hr
        clear hr
        go_wp2_with (go_at_call 23; refine (fail_0 b _ _ _ s 5 _ (by exact H1.out)).mono ?_; rintro e w2 ⟨rfl, h2, hk2⟩)
        go_meet
        exact ⟨.inr ⟨by rw [HR.out]; decide, p', t + (v : Int), s, hp', by omega, by omega, HS.out, by rw [HR.out]; exact h2⟩, hk2.heap HZ1.out (by omega), hk1.trans hk2⟩
      · have hr : (rdM t s (bs.drop p)).1 = E := by unfold rdM; rw [HN1.out]; simp [hE]
        have HR := Lib.hid hr
        clear hr
        go_wp2_with (go_at_call 23; refine (fail_e b _ _ _ s E 5 hE _ (by exact H1.out)).mono ?_; rintro e w2 ⟨rfl, h2, hk2⟩)
        go_meet
        exact ⟨.inr ⟨by rw [HR.out]; exact hE, p', t + (v : Int), s, hp', by omega, by omega, HS.out, by rw [HR.out]; exact h2⟩, hk2.heap HZ1.out (by omega), hk1.trans hk2⟩
    · by_cases hE : E = 0
      · subst hE
        have hN2 := hN.out.2 rfl
        have HN2 := Lib.hid hN2
        clear hN2
        go_wp2_with fail
        go_meet
        exact ⟨.inl ⟨v, R, HN1.out, by omega, HN2.out.1, HN2.out.2.2, by rw [← HN2.out.2.1]; exact H1.out⟩, HZ1.out, hk1⟩
      · have hr : (rdM t s (bs.drop p)).1 = E := by unfold rdM; rw [HN1.out]; simp [hE]
        have HR := Lib.hid hr
        clear hr
        go_wp2_with fail
        go_meet
        exact ⟨.inr ⟨by rw [HR.out]; exact hE, p', t + (v : Int), s, hp', by omega, by omega, HS.out, by rw [HR.out]; exact H1.out⟩, HZ1.out, hk1⟩
  case rest =>
  obtain ⟨hA, hz2, hk2⟩ := hcut
  obtain ⟨w2, rfl⟩ : ∃ w', w' = wc := ⟨_, rfl⟩
  have HZ2 := Lib.hid hz2
  clear d0 d1 d2 d3 d4 g1 g2 g3 g4 hN hv hp' H1 HZ1 hz2 hk1
  go_upto_region 4 with fail
  go_cut [50] (fun v wx => ∃ vb, v = .bool vb ∧ StA2 b ao n cap bs p t s vb wx ∧ Five wx w.heap.size 0 0 0 0 0 ∧ Keeps (fun k => k = b) w wx)
  case first =>
    rcases hA with ⟨v, R, hN, hmx, hRl, hRd, hR⟩ | ⟨hE, p', t', s', hp', ht0', ht1', hs', hR⟩
    · obtain ⟨p1, hp1⟩ : ∃ p1, p1 = n - R.length := ⟨_, rfl⟩
      rw [← hp1] at hRd hR
      have hp1n : p1 ≤ n := by omega
      rw [hRd] at hN
      have HN := Lib.hid hN
      obtain ⟨c0, c1, c2, c3, c4, f1, f2, f3, f4⟩ := rd_cells hR
      have HR := Lib.hid hR
      clear hN hRd hR hp1 hRl
      by_cases hlt : p1 < n
      · have hi2 := HIw.out.kept hk2 (fun a' ha' => HAB.out a' ha')
        obtain ⟨a, c, rfl, hcv, hcell, hc256⟩ := hi2.byte hlt
        have hd := rd7_drop bs p1 (by rw [hbl.out]; exact hlt)
        rw [hcv.out] at hd
        have HD := Lib.hid hd
        have hq0 : (0 : Int) ≤ (p1 : Int) := by omega
        have hq1 : (p1 : Int) < (n : Int) := by omega
        clear hd hi2
        go_quiet (fail)
        go_wp2_with fail
        go_meet
        exact ⟨_, rfl, .inl ⟨v, p1, HN.out, hmx, hp1n, by rw [HD.out]; simp [hiB], HR.out⟩, HZ2.out, hk2.drewN _⟩
      · obtain rfl : p1 = n := by omega
        have hd : bs.drop p1 = [] := by rw [List.drop_eq_nil_iff, hbl.out]; omega
        have HD := Lib.hid hd
        clear hd
        go_quiet (fail)
        go_wp2_with fail
        go_meet
        exact ⟨_, rfl, .inl ⟨v, p1, HN.out, hmx, hp1n, by rw [HD.out]; rfl, HR.out⟩, HZ2.out, hk2.drewN _⟩
    · obtain ⟨c0, c1, c2, c3, c4, f1, f2, f3, f4⟩ := rd_cells hR
      have HR := Lib.hid hR
      generalize hEE : (rdM t s (bs.drop p)).1 = E at *
      have HEE := Lib.hid hEE
      have hEb : (E == 0) = false := by simpa using hE
      have HE := Lib.hid hE
      clear hR hEE hE
      go_quiet (fail)
      go_wp2_with fail
      go_meet
      exact ⟨_, rfl, .inr ⟨rfl, by rw [HEE.out]; exact HE.out, p', t', s', hp', ht0', ht1', hs', by rw [HEE.out]; exact HR.out⟩, HZ2.out, hk2.drewN _⟩
  case rest =>
  obtain ⟨vb, rfl, hA2, hz3, hk3⟩ := hcut
  obtain ⟨w3, rfl⟩ : ∃ w', w' = wc := ⟨_, rfl⟩
  have HZ3 := Lib.hid hz3
  clear hA HZ2 hz3 hk2
  go_upto_if 50 with fail
  go_cut [] (fun wx => StB b (.slice ao n cap) n bs p t s wx ∧ Five wx w.heap.size 0 0 0 0 0 ∧ Keeps (fun k => k = b) w wx)
  case first =>
    rcases hA2 with ⟨v, p1, hN, hmx, hp1n, hvb, hR⟩ | ⟨rfl, hbad⟩
    · have HN := Lib.hid hN
      have HVB := Lib.hid hvb
      clear hN hvb
      cases vb with
      | true =>
        have hlt : p1 < n := by
          rcases Nat.lt_or_ge p1 n with h | h
          · exact h
          · have hd : bs.drop p1 = [] := by rw [List.drop_eq_nil_iff, hbl.out]; exact h
            have := HVB.out
            rw [hd] at this
            simp [hiB] at this
        have hi3 := HIw.out.kept hk3 (fun a' ha' => HAB.out a' ha')
        obtain ⟨a, rfl, -⟩ := hi3.some (by omega)
        have hB := Lib.hid (byte_ok b a n cap bs p1 hlt hn (t + (v : Int)) s (HAB.out a rfl) w3 hi3 hR)
        have hz := bounds_u8 (getD_wf hi3.wf (by decide) p1)
        have hd := rd7_drop bs p1 (by rw [hbl.out]; exact hlt)
        have hvb2 := HVB.out
        rw [hd] at hvb2
        have hN2 := HN.out
        rw [hd] at hN2
        have HN2 := Lib.hid hN2
        clear hi3 hR hd hN2 HVB
        generalize bs.getD p1 0 = c at *
        have hc128 : 128 ≤ c := by simpa [hiB] using hvb2.symm
        clear hvb2
        by_cases hcs : c = s
        · have hr : (rdM t s (bs.drop p)).1 = 4 := by
            unfold rdM
            rw [HN2.out]
            simp only [ne_eq, not_true, if_false]
            rw [if_neg (by omega), rdS_cons, if_pos hc128, if_pos hcs]
            simp
          have HR := Lib.hid hr
          subst hcs
          clear hr
          go_wp2_with (first | (go_at_call 24; refine hB.out.mono ?_; rintro e w4 ⟨rfl, h4, hk4⟩; obtain ⟨c0, c1, c2, c3, c4, f1, f2, f3, f4⟩ := rd_cells h4) | (go_at_call 23; refine (fail_0 b _ _ _ _ 4 _ (by exact h4)).mono ?_; rintro e w5 ⟨rfl, h5, hk5⟩; obtain ⟨d0, d1, d2, d3, d4, g1, g2, g3, g4⟩ := rd_cells h5))
          go_meet
          have hk6 := (hk4.trans hk5).setCell (p := ⟨b, 3, none⟩) (.inr rfl) (.int .i64 c)
          exact ⟨.inr ⟨by rw [HR.out]; decide, p1 + 1, t + (v : Int), c, by omega, by omega, by omega, HS.out, by rw [HR.out]; exact h5.status _⟩, hk6.heap HZ3.out (by omega), hk3.trans hk6⟩
        · have hr : rdM t s (bs.drop p) = rdT (t + (v : Int)) c (bs.drop (p1 + 1)) := by
            unfold rdM
            rw [HN2.out]
            simp only [ne_eq, not_true, if_false]
            rw [if_neg (by omega), rdS_cons, if_pos hc128, if_neg hcs]
            simp
          have HR := Lib.hid hr
          have hcb : (c == s) = false := by simpa using hcs
          have hsok : SOk c := ⟨by omega, by omega⟩
          clear hr hcs
          go_wp2_with (go_at_call 24; refine hB.out.mono ?_; rintro e w4 ⟨rfl, h4, hk4⟩; obtain ⟨c0, c1, c2, c3, c4, f1, f2, f3, f4⟩ := rd_cells h4)
          go_meet
          have hk6 := hk4.setCell (p := ⟨b, 3, none⟩) (.inr rfl) (.int .i64 c)
          exact ⟨.inl ⟨t + (v : Int), c, p1 + 1, HR.out, by omega, by omega, hsok, by omega, by exact h4.status _⟩, hk6.heap HZ3.out (by omega), hk3.trans hk6⟩
      | false =>
        have hr : rdM t s (bs.drop p) = rdT (t + (v : Int)) s (bs.drop p1) := by
          have hS : rdS s (bs.drop p1) = (0, s, bs.drop p1) := by
            have h2 := HVB.out
            rcases hd : bs.drop p1 with _ | ⟨c, r⟩
            · rfl
            · rw [hd] at h2
              rw [rdS_cons, if_neg]
              simpa [hiB] using h2.symm
          unfold rdM
          rw [HN.out]
          simp only [ne_eq, not_true, if_false]
          rw [if_neg (by omega), hS]
          simp
        have HR := Lib.hid hr
        have HR3 := Lib.hid hR
        clear hr hR HVB
        go_wp2_with fail
        go_meet
        exact ⟨.inl ⟨t + (v : Int), s, p1, HR.out, by omega, hmx, HS.out, hp1n, HR3.out⟩, HZ3.out, hk3⟩
    · have HB := Lib.hid hbad
      clear hbad
      go_wp2_with fail
      go_meet
      exact ⟨.inr HB.out, HZ3.out, hk3⟩
  case rest =>
  obtain ⟨hB, hz4, hk4⟩ := hcut
  obtain ⟨w4, rfl⟩ : ∃ w', w' = wc := ⟨_, rfl⟩
  clear hA2 HZ3 hk3
  have hfc : ∃ (t1 s1 : Int) (q : Nat) (E : Int), FC bs n p t s t1 s1 q E ∧ Rd w4 b (.slice ao n cap) (q : Nat) t1 s1 E := by
    rcases hB with ⟨t1, s1, q, h1, h2, h3, h4, h5, h6⟩ | ⟨hE, p', t', s', h1, h2, h3, h4, h5⟩
    · exact ⟨t1, s1, q, 0, ⟨h5, h4, h2, by omega, fun _ => ⟨h1, h3⟩, fun e => absurd rfl e⟩, h6⟩
    · exact ⟨t', s', p', _, ⟨h1, h4, h2, h3, fun e => absurd e hE, fun _ => rfl⟩, h5⟩
  obtain ⟨t1, s1, q, E, hfc, hR⟩ := hfc
  have HFC := Lib.hid hfc
  have ek := andK hfc.2.1
  have ec := andC hfc.2.1
  have hs1 := hfc.2.1
  unfold SOk at hs1
  have HZ4 := Lib.hid hz4
  have HR4 := Lib.hid hR
  obtain ⟨c0, c1, c2, c3, c4, f1, f2, f3, f4⟩ := rd_cells hR
  clear hB hfc hz4 hR
  go_upto_region 9 with fail
  go_cut [4] (fun v wx => ∃ M, v = .pointer (some ⟨M, 0, none⟩) ∧ w.heap.size < M ∧ Five wx M t1 (s1 / 16 * 16) (s1 % 16) 0 0 ∧ Rd wx b (.slice ao n cap) (q : Nat) t1 s1 E ∧ Five wx w.heap.size 0 0 0 0 0 ∧ Keeps (fun k => k = b) w wx)
  case first =>
    have hZs := lt_of_block HZ4.out
    have hnw2 := World.new_ne w4 ⟨b, 2, none⟩ c2
    have hnw3 := World.new_ne w4 ⟨b, 3, none⟩ c3
    go_region_held3 (fun w' => w'.cell? ⟨b, 2, none⟩ = some (.int .i64 t1) ∧ w'.cell? ⟨b, 3, none⟩ = some (.int .i64 s1)) (go_keep) (fail)
    all_goals go_wp2_with fail
    all_goals go_meet
    all_goals exact ⟨w4.heap.size, rfl, hZs, heap_alloc_new _ _, HR4.out.keep0 ((below_alloc w4 (.cells #[.int .i64 t1, .int .i64 (s1 / 16 * 16), .int .i64 (s1 % 16), .int .i64 0, .int .i64 0] 23)).drew), (Below.heap_alloc _ _ _ hZs).trans HZ4.out, (hk4.alloc _).drew⟩
  case rest =>
  obtain ⟨M, rfl, hZM, hM, hR5, hz5, hk5⟩ := hcut
  obtain ⟨w5, rfl⟩ : ∃ w', w' = wc := ⟨_, rfl⟩
  obtain ⟨m0', m1', m2', m3', m4', -⟩ := hM.cells
  have HM := Lib.hid hM
  have HR5 := Lib.hid hR5
  have HZ5 := Lib.hid hz5
  clear c0 c1 c2 c3 c4 f1 f2 f3 f4 HR4 HZ4 hM hR5 hz5 hk4 ek ec
  obtain ⟨k, hkk⟩ : ∃ k, s1 / 16 * 16 = k := ⟨_, rfl⟩
  rw [hkk] at m1' HM
  have HKK := Lib.hid hkk
  clear hkk
  go_upto_region 10 with fail
  go_cut [88] (fun v wx => v = .bool (kindB k) ∧ w5 = wx)
  case first =>
    by_cases h2 : twoB k = true
    · have e := Lib.hid (show kindB k = false from decide_eq_false fun h => by rw [h2] at h; simp at h)
      have H2 := Lib.hid h2
      clear h2
      go_wp2_with (go_at_call 18; refine (two_any _ _).mono ?_; rintro e w' ⟨rfl, rfl⟩; rw [H2.out])
      go_meet
      exact ⟨by rw [e.out], rfl⟩
    · have h2' : twoB k = false := by simpa using h2
      have H2 := Lib.hid h2'
      clear h2 h2'
      by_cases h3 : k = 192
      · have e := Lib.hid (show kindB k = false from decide_eq_false fun h => h.2 h3)
        have hb3 : (k == 192) = true := by simpa using h3
        clear h3
        go_wp2_with (go_at_call 18; refine (two_any _ _).mono ?_; rintro e w' ⟨rfl, rfl⟩; rw [H2.out])
        go_meet
        exact ⟨by rw [e.out]; first | rfl | simp_all, rfl⟩
      · have e := Lib.hid (show kindB k = true from decide_eq_true ⟨H2.out, h3⟩)
        have hb3 : (k == 192) = false := by simpa using h3
        have hb4 : (k != 192) = true := by simpa using h3
        clear h3
        go_wp2_with (go_at_call 18; refine (two_any _ _).mono ?_; rintro e w' ⟨rfl, rfl⟩; rw [H2.out])
        go_meet
        exact ⟨by rw [e.out], rfl⟩
  case rest =>
  obtain ⟨rfl, rfl⟩ := hcut
  go_upto_if 88 with fail
  go_cut [] (fun wx => ∃ E' : Int, Hid (FC bs n p t s t1 s1 q E' ∧ (E' = 0 → kindB k = false)) ∧ Rd wx b (.slice ao n cap) (q : Nat) t1 s1 E' ∧ Five wx M t1 k (s1 % 16) 0 0 ∧ Five wx w.heap.size 0 0 0 0 0 ∧ Keeps (fun k => k = b) w wx)
  case first =>
    generalize hkb : kindB k = kb
    have HKB := Lib.hid hkb
    clear hkb
    cases kb with
    | false =>
      go_wp2_with fail
      go_meet
      exact ⟨E, ⟨HFC.out, fun _ => HKB.out⟩, HR5.out, HM.out, HZ5.out, hk5⟩
    | true =>
      by_cases hE : E = 0
      · subst hE
        have hr : (rdM t s (bs.drop p)).1 = 4 := by
          rw [(HFC.out.2.2.2.2.1 rfl).1]
          unfold rdT
          rw [HKK.out, if_pos (of_decide_eq_true HKB.out)]
        have HR := Lib.hid hr
        clear hr
        go_wp2_with (go_at_call 23; refine (fail_0 b _ _ _ s1 4 _ (by exact HR5.out)).mono ?_; rintro e w6 ⟨rfl, h6, hk6⟩)
        go_meet
        exact ⟨4, ⟨⟨HFC.out.1, HFC.out.2.1, HFC.out.2.2.1, HFC.out.2.2.2.1, fun e => (by simp at e), fun _ => HR.out⟩, fun e => (by simp at e)⟩, h6, HM.out.kept hk6 (by omega), HZ5.out.kept hk6 (by omega), hk5.trans hk6⟩
      · go_wp2_with (go_at_call 23; refine (fail_e b _ _ _ s1 E 4 hE _ (by exact HR5.out)).mono ?_; rintro e w6 ⟨rfl, h6, hk6⟩)
        go_meet
        exact ⟨E, ⟨HFC.out, fun e => absurd e hE⟩, h6, HM.out.kept hk6 (by omega), HZ5.out.kept hk6 (by omega), hk5.trans hk6⟩
  case rest =>
  obtain ⟨E', hfk, hR6, hM6, hz6, hk6⟩ := hcut
  obtain ⟨w6, rfl⟩ : ∃ w', w' = wc := ⟨_, rfl⟩
  clear HR5 HZ5 HM hk5 m0' m1' m2' m3' m4'
  have hMZ : M ≠ w.heap.size := by omega
  have hMb : M ≠ b := by omega
  go_upto_region 12 with fail
  go_cut [] (fun wx => ∃ (v E2 : Int) (p2 : Nat), Hid (SA bs n p t s t1 s1 q v E2 p2) ∧ Rd wx b (.slice ao n cap) (p2 : Nat) t1 s1 E2 ∧ Five wx M t1 k (s1 % 16) v 0 ∧ Five wx w.heap.size 0 0 0 0 0 ∧ Keeps (fun k => k = b) w wx)
  case first =>
    have HM6 := Lib.hid hM6
    have HZ6 := Lib.hid hz6
    have hMw : w.heap.size ≤ M := by omega
    by_cases hE : E' = 0
    · subst hE
      have HK0 := Lib.hid (hfk.out.2 rfl)
      have hi6 := Ints.keptb HIw.out hk6 HAB.out
      have hsv := Lib.hid (seven_uni b ao n cap bs q hfk.out.1.1 hn t1 s1 HAB.out w6 hi6 hR6)
      clear hR6 hM6 hz6 hi6
      go_wp2_with (go_at_call 25; refine hsv.out.mono ?_; rintro e w7 ⟨v, E2, p2, rfl, hp2, hS7, h7, hk7⟩; obtain ⟨m0', m1', m2', m3', m4', mf0, mf1, mf2, mf3, mf4⟩ := (HM6.out.kept hk7 hMb).cells)
      go_meet
      have hkM : Keeps (fun k => k = M) w7 (w7.setCell ⟨M, 3, none⟩ (.int .i64 v)) := (Keeps.refl (fun k => k = M) w7).setCell (p := ⟨M, 3, none⟩) (.inr rfl) _
      refine ⟨v, E2, p2, ⟨hp2, fun e => ?_, fun e => ?_⟩, h7.kept hkM (Ne.symm hMb), heap_setCell_same _ _ _ _ _ _ (HM6.out.kept hk7 hMb), (HZ6.out.kept hk7 (by omega)).kept hkM (Ne.symm hMZ), (hk6.trans hk7).setCell (p := ⟨M, 3, none⟩) (.inl hMw) _⟩
      · subst e
        exact ⟨(hfk.out.1.2.2.2.2.1 rfl).1, by rw [HKK.out]; exact HK0.out, sev_eq hS7.out⟩
      · rw [(hfk.out.1.2.2.2.2.1 rfl).1, rdT_e7 (by rw [HKK.out]; exact HK0.out) (by rw [hS7.out.1]; exact e), hS7.out.1]
    · have HR6 := Lib.hid hR6
      clear hR6 hM6 hz6
      go_wp2_with (go_at_call 25; refine (seven_e b _ _ t1 s1 E' hE _ (by exact HR6.out)).mono ?_; rintro e w7 ⟨rfl, h7, hk7⟩; obtain ⟨m0', m1', m2', m3', m4', mf0, mf1, mf2, mf3, mf4⟩ := (HM6.out.kept hk7 hMb).cells)
      go_meet
      have hkM : Keeps (fun k => k = M) w7 (w7.setCell ⟨M, 3, none⟩ (.int .i64 0)) := (Keeps.refl (fun k => k = M) w7).setCell (p := ⟨M, 3, none⟩) (.inr rfl) _
      exact ⟨0, E', q, ⟨hfk.out.1.1, fun e => absurd e hE, fun e => hfk.out.1.2.2.2.2.2 e⟩, h7.kept hkM (Ne.symm hMb), heap_setCell_same _ _ _ _ _ _ (HM6.out.kept hk7 hMb), (HZ6.out.kept hk7 (by omega)).kept hkM (Ne.symm hMZ), (hk6.trans hk7).setCell (p := ⟨M, 3, none⟩) (.inl hMw) _⟩
  case rest =>
  obtain ⟨v, E2, p2, hSA, hR7, hM7, hz7, hk7⟩ := hcut
  obtain ⟨w7, rfl⟩ : ∃ w', w' = wc := ⟨_, rfl⟩
  clear hR6 hM6 hz6 hk6 hfk
  have HM7 := Lib.hid hM7
  have HZ7 := Lib.hid hz7
  have HR7 := Lib.hid hR7
  obtain ⟨m0', m1', m2', m3', m4', mf0, mf1, mf2, mf3, mf4⟩ := hM7.cells
  obtain ⟨z0', z1', z2', z3', z4', zf0, zf1, zf2, zf3, zf4⟩ := hz7.cells
  have hMw : w.heap.size ≤ M := by omega
  clear hM7 hz7 hR7
  by_cases h2 : twoB k = true
  · have H2 := Lib.hid h2
    clear h2
    go_upto_region 14 with (go_at_call 18; refine (two_any _ _).mono ?_; rintro e w' ⟨rfl, rfl⟩; rw [H2.out])
    go_cut [] (fun wx => ∃ (v2 E3 : Int) (p3 : Nat), Hid (SB bs n p t s t1 s1 q v v2 E3 p3) ∧ Rd wx b (.slice ao n cap) (p3 : Nat) t1 s1 E3 ∧ Five wx M t1 k (s1 % 16) v v2 ∧ Five wx w.heap.size 0 0 0 0 0 ∧ Keeps (fun k => k = b) w wx)
    case first =>
      by_cases hE : E2 = 0
      · subst hE
        have hi7 := Ints.keptb HIw.out hk7 HAB.out
        have hsv := Lib.hid (seven_uni b ao n cap bs p2 hSA.out.1 hn t1 s1 HAB.out w7 hi7 HR7.out)
        clear hi7 m0' m1' m2' m3' m4' mf0 mf1 mf2 mf3 mf4 z0' z1' z2' z3' z4' zf0 zf1 zf2 zf3 zf4
        go_wp2_with (go_at_call 25; refine hsv.out.mono ?_; rintro e w8 ⟨v2, E3, p3, rfl, hp3, hS8, h8, hk8⟩; obtain ⟨m0', m1', m2', m3', m4', mf0, mf1, mf2, mf3, mf4⟩ := (HM7.out.kept hk8 hMb).cells)
        go_meet
        have hkM : Keeps (fun k => k = M) w8 (w8.setCell ⟨M, 4, none⟩ (.int .i64 v2)) := (Keeps.refl (fun k => k = M) w8).setCell (p := ⟨M, 4, none⟩) (.inr rfl) _
        have hA := hSA.out.2.1 rfl
        refine ⟨v2, E3, p3, ⟨hp3, fun e => ?_, fun e => ?_⟩, h8.kept hkM (Ne.symm hMb), heap_setCell_same _ _ _ _ _ _ (HM7.out.kept hk8 hMb), (HZ7.out.kept hk8 (by omega)).kept hkM (Ne.symm hMZ), (hk7.trans hk8).setCell (p := ⟨M, 4, none⟩) (.inl hMw) _⟩
        · subst e
          rw [hA.1]
          exact rdT_two hA.2.1 (by rw [HKK.out]; exact H2.out) hA.2.2 (sev_eq hS8.out)
        · rw [hA.1, rdT_two_e hA.2.1 (by rw [HKK.out]; exact H2.out) hA.2.2 (by rw [hS8.out.1]; exact e), hS8.out.1]
      · clear m0' m1' m2' m3' m4' mf0 mf1 mf2 mf3 mf4 z0' z1' z2' z3' z4' zf0 zf1 zf2 zf3 zf4
        go_wp2_with (go_at_call 25; refine (seven_e b _ _ t1 s1 E2 hE _ (by exact HR7.out)).mono ?_; rintro e w8 ⟨rfl, h8, hk8⟩; obtain ⟨m0', m1', m2', m3', m4', mf0, mf1, mf2, mf3, mf4⟩ := (HM7.out.kept hk8 hMb).cells)
        go_meet
        have hkM : Keeps (fun k => k = M) w8 (w8.setCell ⟨M, 4, none⟩ (.int .i64 0)) := (Keeps.refl (fun k => k = M) w8).setCell (p := ⟨M, 4, none⟩) (.inr rfl) _
        exact ⟨0, E2, p2, ⟨hSA.out.1, fun e => absurd e hE, fun e => hSA.out.2.2 e⟩, h8.kept hkM (Ne.symm hMb), heap_setCell_same _ _ _ _ _ _ (HM7.out.kept hk8 hMb), (HZ7.out.kept hk8 (by omega)).kept hkM (Ne.symm hMZ), (hk7.trans hk8).setCell (p := ⟨M, 4, none⟩) (.inl hMw) _⟩
    case rest =>
      obtain ⟨v2, E3, p3, hSB, hR8, hM8, hz8, hk8⟩ := hcut
      obtain ⟨w8, rfl⟩ : ∃ w', w' = wc := ⟨_, rfl⟩
      clear m0' m1' m2' m3' m4' mf0 mf1 mf2 mf3 mf4 z0' z1' z2' z3' z4' zf0 zf1 zf2 zf3 zf4 HR7 HM7 HZ7 hk7
      obtain ⟨m0', m1', m2', m3', m4', mf0, mf1, mf2, mf3, mf4⟩ := hM8.cells
      obtain ⟨z0', z1', z2', z3', z4', zf0, zf1, zf2, zf3, zf4⟩ := hz8.cells
      have HZ8 := Lib.hid hz8
      have HR8 := Lib.hid hR8
      clear hM8 hz8 hR8
      go_wp2_with fail
      refine bodyPost_ret (results_cell_row rfl _ _ _ _ _ _ _ rfl (five_same HZ8.out _ _ _ _ _) Try.underlying23 rfl info23) rfl ?_
      exact msg_end hbl.out (by omega) HKK.out hSB.out HR8.out hk8
  · have H2 := Lib.hid (show twoB k = false by simpa using h2)
    clear h2
    have hSB : SB bs n p t s t1 s1 q v 0 E2 p2 := ⟨hSA.out.1, fun e => by
      have hA := hSA.out.2.1 e
      rw [hA.1]
      exact rdT_one hA.2.1 (by rw [HKK.out]; exact H2.out) hA.2.2, hSA.out.2.2⟩
    have HSB := Lib.hid hSB
    clear hSB
    go_wp2_with (go_at_call 18; refine (two_any _ _).mono ?_; rintro e w' ⟨rfl, rfl⟩; rw [H2.out])
    refine bodyPost_ret (results_cell_row rfl _ _ _ _ _ _ _ rfl (five_same HZ7.out _ _ _ _ _) Try.underlying23 rfl info23) rfl ?_
    exact msg_end hbl.out (by omega) HKK.out HSB.out HR7.out hk7
end Go.Proofs.Ytmhlmaimmbopfaa

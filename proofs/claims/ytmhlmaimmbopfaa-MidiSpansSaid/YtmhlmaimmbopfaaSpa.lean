/- Plain: which keys are held when. No program in sight. -/
import Derived.Test.YtmhlmaimmbopfaaPlm
namespace Go.Proofs.Ytmhlmaimmbopfaa
open Go Go.RowKit Go.Calli
set_option linter.unusedVariables false
set_option linter.unusedSimpArgs false
/-- A span. -/
structure Sp where
  c : Int
  q : Int
  f : Int
  t : Int
  h : Int
def sp0 : Sp := ⟨0, 0, 0, 0, 0⟩
def cls (s : Sp) (t : Int) : Sp := ⟨s.c, s.q, s.f, t, s.h⟩
def hit (m : Msg) (s : Sp) : Bool := decide (s.c = m.c ∧ s.q = m.a)
def letL (m : Msg) : List Sp → List Sp × List Sp
  | [] => ([], [])
  | s :: r => if hit m s = true then (r, [cls s m.t]) else (s :: (letL m r).1, (letL m r).2)
theorem letL_app (m : Msg) (l r : List Sp) (h : ∀ s ∈ l, hit m s = false) : letL m (l ++ r) = (l ++ (letL m r).1, (letL m r).2) := by
  induction l with
  | nil => rfl
  | cons s l ih =>
    rw [List.cons_append, letL, if_neg (by rw [h s (by simp)]; decide), ih (fun s hs => h s (by simp [hs]))]
    rfl
theorem letL_none (m : Msg) (l : List Sp) (h : ∀ s ∈ l, hit m s = false) : letL m l = (l, []) := by
  have := letL_app m l [] h
  simpa [letL] using this
theorem letL_at (m : Msg) (l : List Sp) (k : Nat) (hk : k < l.length) (h : ∀ s ∈ l.take k, hit m s = false) (hh : hit m (l.getD k sp0) = true) : letL m l = (l.take k ++ l.drop (k + 1), [cls (l.getD k sp0) m.t]) := by
  have e : l = l.take k ++ (l.getD k sp0 :: l.drop (k + 1)) := by
    have h1 : l.getD k sp0 = l[k] := by simp [List.getD, hk]
    rw [h1, ← List.drop_eq_getElem_cons hk, List.take_append_drop]
  conv => lhs; rw [e]
  rw [letL_app m _ _ h, letL, if_pos hh]
theorem letL_snoc (m : Msg) (l : List Sp) (s : Sp) : letL m (l ++ [s]) = if l.any (hit m) = true then ((letL m l).1 ++ [s], (letL m l).2) else if hit m s = true then (l, [cls s m.t]) else (l ++ [s], []) := by
  induction l with
  | nil => rw [List.nil_append, letL, letL]; rfl
  | cons x l ih =>
    rw [List.cons_append, letL, List.any_cons]
    by_cases hx : hit m x = true
    · rw [if_pos hx, hx]; simp [letL, hx]
    · rw [if_neg hx, ih, show (hit m x || l.any (hit m)) = l.any (hit m) by simp [hx]]
      by_cases ha : l.any (hit m) = true
      · rw [if_pos ha, if_pos ha]; simp [letL, hx]
      · rw [if_neg ha, if_neg ha]
        by_cases hs : hit m s = true
        · rw [if_pos hs, if_pos hs]
        · rw [if_neg hs, if_neg hs]
theorem letL_len (m : Msg) (l : List Sp) : (letL m l).1.length ≤ l.length ∧ (letL m l).2.length ≤ 1 ∧ (letL m l).1.length + (letL m l).2.length = l.length := by
  induction l with
  | nil => simp [letL]
  | cons s l ih =>
    rw [letL]
    by_cases hs : hit m s = true
    · rw [if_pos hs]; simp
    · rw [if_neg hs]; simp; omega
theorem letL_mem (m : Msg) (l : List Sp) : (∀ s ∈ (letL m l).1, s ∈ l) ∧ (∀ s ∈ (letL m l).2, ∃ x ∈ l, hit m x = true ∧ s = cls x m.t) := by
  induction l with
  | nil => simp [letL]
  | cons x l ih =>
    rw [letL]
    by_cases hs : hit m x = true
    · rw [if_pos hs]
      refine ⟨fun s hs => by simp [hs], fun s h => ⟨x, by simp, hs, by simpa using h⟩⟩
    · rw [if_neg hs]
      refine ⟨fun s h => ?_, fun s h => ?_⟩
      · rcases List.mem_cons.1 h with rfl | h
        · simp
        · simp [ih.1 s h]
      · obtain ⟨y, h1, h2⟩ := ih.2 s h
        exact ⟨y, by simp [h1], h2⟩
structure St where
  held : List Sp
  out : List Sp
  e : Int
def key (m : Msg) : Bool := decide (m.k = 128 ∨ m.k = 144)
def on (m : Msg) : Bool := decide (m.k = 144 ∧ 0 < m.b)
def newS (m : Msg) : Sp := ⟨m.c, m.a, m.t, 0, m.b⟩
def mx (a b : Int) : Int := if a < b then b else a
def letS (x : St) (m : Msg) : St := if key m = true then ⟨(letL m x.held).1, x.out ++ (letL m x.held).2, mx x.e m.t⟩ else ⟨x.held, x.out, mx x.e m.t⟩
def stepS (x : St) (m : Msg) : St := if on m = true then ⟨(letS x m).held ++ [newS m], (letS x m).out, (letS x m).e⟩ else letS x m
def st0 : St := ⟨[], [], 0⟩
def runL (l : List Msg) : St := l.foldl stepS st0
theorem runL_snoc (l : List Msg) (m : Msg) : runL (l ++ [m]) = stepS (runL l) m := by simp [runL]
theorem runL_take (l : List Msg) (k : Nat) (hk : k < l.length) : runL (l.take (k + 1)) = stepS (runL (l.take k)) (l.getD k m0) := by
  rw [List.take_succ_eq_append_getElem hk, runL_snoc]
  simp [List.getD, hk]
theorem stepS_len (x : St) (m : Msg) : (stepS x m).held.length + (stepS x m).out.length ≤ x.held.length + x.out.length + 1 := by
  have := letL_len m x.held
  unfold stepS letS
  split <;> split <;> simp <;> omega
theorem runL_len (l : List Msg) : (runL l).held.length + (runL l).out.length ≤ l.length := by
  have : ∀ k, k ≤ l.length → (runL (l.take k)).held.length + (runL (l.take k)).out.length ≤ k := by
    intro k
    induction k with
    | zero => intro _; simp [runL, st0]
    | succ k ih =>
      intro hk
      rw [runL_take l k (by omega)]
      have := stepS_len (runL (l.take k)) (l.getD k m0)
      have := ih (by omega)
      omega
  have h := this l.length (Nat.le_refl _)
  rwa [List.take_length] at h
/-- The end: those that are held, by channels and keys. -/
def buk (l : List Sp) (n : Nat) : List Sp := l.filter (fun s => decide (s.c = ((n / 128 : Nat) : Int) ∧ s.q = ((n % 128 : Nat) : Int)))
def buks (l : List Sp) (n : Nat) : List Sp := (List.range n).flatMap (buk l)
theorem buks_succ (l : List Sp) (n : Nat) : buks l (n + 1) = buks l n ++ buk l n := by simp [buks, List.range_succ]
def less (x y : Sp) : Bool := decide (x.c < y.c ∨ (x.c = y.c ∧ x.q < y.q))
def lst (l : List Sp) : Nat → Nat
  | 0 => 0
  | k + 1 => if less (l.getD k sp0) (l.getD (lst l k) sp0) = true then k else lst l k
theorem lst_lt (l : List Sp) : ∀ k, lst l k ≤ k ∧ (0 < k → lst l k < k) := by
  intro k
  induction k with
  | zero => simp [lst]
  | succ k ih =>
    rw [lst]
    split
    · omega
    · have := ih; omega
def num (s : Sp) : Int := s.c * 128 + s.q
def Rng (s : Sp) : Prop := 0 ≤ s.c ∧ s.c ≤ 15 ∧ 0 ≤ s.q ∧ s.q ≤ 127
theorem less_num {x y : Sp} (hx : Rng x) (hy : Rng y) : less x y = true ↔ num x < num y := by
  obtain ⟨_, _, _, _⟩ := hx
  obtain ⟨_, _, _, _⟩ := hy
  unfold less num
  rw [decide_eq_true_iff]
  omega
theorem lst_least (l : List Sp) (hl : ∀ s ∈ l, Rng s) : ∀ k, k ≤ l.length → ∀ j, j < k → num (l.getD (lst l k) sp0) ≤ num (l.getD j sp0) ∧ (j < lst l k → num (l.getD (lst l k) sp0) < num (l.getD j sp0)) := by
  have hR : ∀ j, j < l.length → Rng (l.getD j sp0) := fun j hj => hl _ (by rw [show l.getD j sp0 = l[j] by simp [List.getD, hj]]; exact List.getElem_mem _)
  intro k
  induction k with
  | zero => intro _ j hj; omega
  | succ k ih =>
    intro hk j hj
    have ih := ih (by omega)
    have hlt := lst_lt l k
    rw [lst]
    by_cases h : less (l.getD k sp0) (l.getD (lst l k) sp0) = true
    · rw [if_pos h]
      have h2 := (less_num (hR k (by omega)) (hR _ (by omega))).1 h
      rcases Nat.lt_or_ge j k with h3 | h3
      · have := (ih j h3).1
        exact ⟨by omega, fun _ => by omega⟩
      · obtain rfl : j = k := by omega
        exact ⟨by omega, fun h => by omega⟩
    · rw [if_neg h]
      have h2 : ¬ (num (l.getD k sp0) < num (l.getD (lst l k) sp0)) := fun e => h ((less_num (hR k (by omega)) (hR _ (by omega))).2 e)
      rcases Nat.lt_or_ge j k with h3 | h3
      · exact ih j h3
      · obtain rfl : j = k := by omega
        exact ⟨by omega, fun h => by omega⟩
def del (l : List Sp) (i : Nat) : List Sp := l.take i ++ l.drop (i + 1)
theorem del_len (l : List Sp) (i : Nat) (h : i < l.length) : (del l i).length + 1 = l.length := by
  unfold del; rw [List.length_append, List.length_take, List.length_drop]; omega
theorem del_split (l : List Sp) (i : Nat) (h : i < l.length) : l = l.take i ++ (l.getD i sp0 :: l.drop (i + 1)) := by
  rw [show l.getD i sp0 = l[i] by simp [List.getD, h], ← List.drop_eq_getElem_cons h, List.take_append_drop]
theorem del_perm (l : List Sp) (i : Nat) (h : i < l.length) : (l.getD i sp0 :: del l i).Perm l := by
  conv => rhs; rw [del_split l i h]
  exact List.perm_middle.symm
def sel : Nat → List Sp → List Sp
  | 0, _ => []
  | n + 1, l => if l = [] then [] else l.getD (lst l l.length) sp0 :: sel n (del l (lst l l.length))
theorem sel_nil (n : Nat) : sel n [] = [] := by cases n <;> simp [sel]
theorem sel_perm : ∀ (n : Nat) (l : List Sp), l.length ≤ n → (sel n l).Perm l := by
  intro n
  induction n with
  | zero => intro l h; rw [List.eq_nil_of_length_eq_zero (by omega : l.length = 0)]; exact .refl _
  | succ n ih =>
    intro l h
    rw [sel]
    by_cases hl : l = []
    · subst hl; rw [if_pos rfl]
    · rw [if_neg hl]
      have hp : 0 < l.length := List.length_pos_iff.2 hl
      have hi := (lst_lt l l.length).2 hp
      have hd := del_len l _ hi
      exact ((ih _ (by omega)).cons _).trans (del_perm l _ hi)
theorem buk_num {s : Sp} (hs : Rng s) (n : Nat) : (decide (s.c = ((n / 128 : Nat) : Int) ∧ s.q = ((n % 128 : Nat) : Int)) = true) ↔ num s = n := by
  obtain ⟨_, _, _, _⟩ := hs
  unfold num
  rw [decide_eq_true_iff]
  omega
theorem flatMap_one {α β : Type} (l : List α) (f g : α → List β) (h : ∀ x ∈ l, f x = g x) : l.flatMap f = l.flatMap g := by
  induction l with
  | nil => rfl
  | cons x l ih => rw [List.flatMap_cons, List.flatMap_cons, h x (by simp), ih (fun y hy => h y (by simp [hy]))]
theorem buks_add (l : List Sp) (a b : Nat) : buks l (a + b) = buks l a ++ (List.range b).flatMap (fun i => buk l (a + i)) := by
  induction b with
  | zero => simp
  | succ b ih => rw [← Nat.add_assoc, buks_succ, ih, List.range_succ, List.flatMap_append]; simp
theorem buks_nil (l : List Sp) (n : Nat) (h : ∀ j, j < n → buk l j = []) : buks l n = [] := by
  induction n with
  | zero => rfl
  | succ n ih => rw [buks_succ, ih (fun j hj => h j (by omega)), h n (by omega)]; rfl
theorem sel_buks : ∀ (n : Nat) (l : List Sp), l.length ≤ n → (∀ s ∈ l, Rng s) → sel n l = buks l 2048 := by
  intro n
  induction n with
  | zero =>
    intro l h _
    rw [List.eq_nil_of_length_eq_zero (by omega : l.length = 0)]
    exact (buks_nil _ _ (fun j _ => rfl)).symm
  | succ n ih =>
    intro l h hR
    rw [sel]
    by_cases hl : l = []
    · subst hl; rw [if_pos rfl]; exact (buks_nil _ _ (fun j _ => rfl)).symm
    · rw [if_neg hl]
      have hp : 0 < l.length := List.length_pos_iff.2 hl
      have hi := (lst_lt l l.length).2 hp
      have hd := del_len l _ hi
      have hle := lst_least l hR l.length (Nat.le_refl _)
      generalize lst l l.length = i at *
      have hsp := del_split l i hi
      have hRs : Rng (l.getD i sp0) := hR _ (by rw [show l.getD i sp0 = l[i] by simp [List.getD, hi]]; exact List.getElem_mem _)
      have hRd : ∀ s ∈ del l i, Rng s := fun s hs => hR s (by
        rcases List.mem_append.1 hs with h | h
        · exact List.mem_of_mem_take h
        · exact List.mem_of_mem_drop h)
      rw [ih (del l i) (by omega) hRd]
      obtain ⟨N, hN⟩ : ∃ N : Nat, num (l.getD i sp0) = N := ⟨(num (l.getD i sp0)).toNat, by obtain ⟨_, _, _, _⟩ := hRs; unfold num; omega⟩
      have hN2 : N < 2048 := by obtain ⟨_, _, _, _⟩ := hRs; unfold num at hN; omega
      have hgt : ∀ s ∈ l, num (l.getD i sp0) ≤ num s := fun s hs => by
        obtain ⟨j, hj, rfl⟩ := List.getElem_of_mem hs
        have := (hle j hj).1
        rwa [show l.getD j sp0 = l[j] by simp [List.getD, hj]] at this
      have hgt2 : ∀ s ∈ l.take i, num (l.getD i sp0) < num s := fun s hs => by
        obtain ⟨j, hj, rfl⟩ := List.getElem_of_mem hs
        rw [List.length_take] at hj
        have := (hle j (by omega)).2 (by omega)
        rw [show l.getD j sp0 = l[j]'(by omega) by simp [List.getD, show j < l.length by omega]] at this
        rw [List.getElem_take]
        exact this
      have hlow : ∀ j, j < N → buk l j = [] := fun j hj => by
        unfold buk
        rw [List.filter_eq_nil_iff]
        intro s hs
        rw [buk_num (hR s hs)]
        have := hgt s hs
        omega
      have hlow2 : ∀ j, j < N → buk (del l i) j = [] := fun j hj => by
        unfold buk
        rw [List.filter_eq_nil_iff]
        intro s hs
        rw [buk_num (hRd s hs)]
        have : num (l.getD i sp0) ≤ num s := hgt s (by
          rcases List.mem_append.1 hs with h | h
          · exact List.mem_of_mem_take h
          · exact List.mem_of_mem_drop h)
        omega
      have hbukN : buk l N = l.getD i sp0 :: buk (del l i) N := by
        have h1 : buk (l.take i) N = [] := by
          unfold buk
          rw [List.filter_eq_nil_iff]
          intro s hs
          rw [buk_num (hR s (List.mem_of_mem_take hs))]
          have := hgt2 s hs
          omega
        have h2 : buk l N = buk (l.take i ++ (l.getD i sp0 :: l.drop (i + 1))) N := by rw [← hsp]
        rw [h2]
        unfold buk del
        unfold buk at h1
        rw [List.filter_append, List.filter_append, h1, List.nil_append, List.nil_append, List.filter_cons, if_pos ((buk_num hRs N).2 hN)]
      have hbuko : ∀ j, j ≠ N → buk l j = buk (del l i) j := fun j hj => by
        have h2 : buk l j = buk (l.take i ++ (l.getD i sp0 :: l.drop (i + 1))) j := by rw [← hsp]
        rw [h2]
        unfold buk del
        rw [List.filter_append, List.filter_append, List.filter_cons, if_neg (by rw [buk_num hRs]; omega)]
      have e : 2048 = N + (1 + (2047 - N)) := by omega
      rw [e, buks_add l N, buks_add (del l i) N, buks_nil _ _ hlow, buks_nil _ _ hlow2, List.nil_append, List.nil_append]
      have e2 : List.range (1 + (2047 - N)) = 0 :: (List.range (2047 - N)).map Nat.succ := by rw [Nat.add_comm, List.range_succ_eq_map]
      rw [e2, List.flatMap_cons, List.flatMap_cons, Nat.add_zero, hbukN, List.cons_append]
      congr 1
      congr 1
      apply flatMap_one
      intro x hx
      obtain ⟨y, -, rfl⟩ := List.mem_map.1 hx
      exact (hbuko _ (by simp)).symm
/-- The law's answer. -/
def spansL (l : List Msg) : List Sp := (runL l).out ++ (buks (runL l).held 2048).map (fun s => cls s (runL l).e)
def Same (x y : Sp) : Prop := x.c = y.c ∧ x.q = y.q
structure Inv (x : St) : Prop where
  o1 : ∀ s ∈ x.out, s.f ≤ s.t ∧ s.t ≤ x.e
  h1 : ∀ s ∈ x.held, s.f ≤ x.e
  o2 : x.out.Pairwise (fun a b => Same a b → a.t ≤ b.f)
  oh : ∀ a ∈ x.out, ∀ b ∈ x.held, Same a b → a.t ≤ b.f
  h2 : x.held.Pairwise (fun a b => ¬ Same a b)
  r : ∀ s ∈ x.held, Rng s
theorem inv0 : Inv st0 := ⟨fun s hs => by simp [st0] at hs, fun s hs => by simp [st0] at hs, .nil, fun a ha => by simp [st0] at ha, .nil, fun s hs => by simp [st0] at hs⟩
theorem letL_sub (m : Msg) (l : List Sp) : (letL m l).1.Sublist l := by
  induction l with
  | nil => exact .refl _
  | cons s l ih =>
    rw [letL]
    by_cases hs : hit m s = true
    · rw [if_pos hs]; exact List.sublist_cons_self _ _
    · rw [if_neg hs]; exact ih.cons_cons _
theorem letL_free (m : Msg) (l : List Sp) (h : l.Pairwise (fun a b => ¬ Same a b)) : ∀ s ∈ (letL m l).1, hit m s = false := by
  induction l with
  | nil => simp [letL]
  | cons x l ih =>
    rw [letL]
    obtain ⟨h1, h2⟩ := List.pairwise_cons.1 h
    by_cases hx : hit m x = true
    · rw [if_pos hx]
      intro s hs
      have hn := h1 s hs
      unfold hit at hx ⊢
      rw [decide_eq_true_iff] at hx
      rw [decide_eq_false_iff_not]
      unfold Same at hn
      omega
    · rw [if_neg hx]
      intro s hs
      rcases List.mem_cons.1 hs with rfl | hs
      · simpa using hx
      · exact ih h2 s hs
theorem Inv.late {x : St} (h : Inv x) (e : Int) (he : x.e ≤ e) : Inv ⟨x.held, x.out, e⟩ :=
  ⟨fun s hs => by have := h.o1 s hs; simp only; omega, fun s hs => by have := h.h1 s hs; simp only; omega, h.o2, h.oh, h.h2, h.r⟩
theorem inv_let {x : St} (h : Inv x) (m : Msg) (hm : x.e ≤ m.t) : Inv ⟨(letL m x.held).1, x.out ++ (letL m x.held).2, m.t⟩ := by
  have hmem := letL_mem m x.held
  have hlen := (letL_len m x.held).2.1
  have hsub := letL_sub m x.held
  refine ⟨fun s hs => ?_, fun s hs => ?_, ?_, fun a ha b hb hab => ?_, h.h2.sublist hsub, fun s hs => h.r s (hmem.1 s hs)⟩
  · rcases List.mem_append.1 hs with hs | hs
    · have := h.o1 s hs; simp only; omega
    · obtain ⟨y, h1, _, rfl⟩ := hmem.2 s hs
      have := h.h1 y h1
      simp only [cls]; omega
  · have := h.h1 s (hmem.1 s hs); simp only; omega
  · refine List.pairwise_append.2 ⟨h.o2, ?_, fun a ha b hb hab => ?_⟩
    · match hl : (letL m x.held).2, hlen with
      | [], _ => exact .nil
      | [y], _ => exact List.pairwise_singleton _ _
    · obtain ⟨y, h1, _, rfl⟩ := hmem.2 b hb
      exact h.oh a ha y h1 hab
  · rcases List.mem_append.1 ha with ha | ha
    · exact h.oh a ha b (hmem.1 b hb) hab
    · obtain ⟨y, h1, h2, rfl⟩ := hmem.2 a ha
      have := letL_free m x.held h.h2 b hb
      unfold hit at h2 this
      rw [decide_eq_true_iff] at h2
      rw [decide_eq_false_iff_not] at this
      unfold Same at hab
      simp only [cls] at hab
      omega
theorem inv_step {x : St} (h : Inv x) (m : Msg) (hm : x.e ≤ m.t) (hok : m.ok = true) : Inv (stepS x m) ∧ (stepS x m).e = m.t := by
  have hmx : mx x.e m.t = m.t := by unfold mx; split <;> omega
  have hmo := (ok_iff m).1 hok
  have hL := inv_let h m hm
  have hF := letL_free m x.held h.h2
  unfold stepS
  by_cases ho : on m = true
  · have hk : key m = true := by unfold on at ho; unfold key; rw [decide_eq_true_iff] at ho ⊢; exact .inr ho.1
    rw [if_pos ho]
    unfold letS
    rw [if_pos hk, hmx]
    refine ⟨⟨hL.o1, fun s hs => ?_, hL.o2, fun a ha b hb hab => ?_, ?_, fun s hs => ?_⟩, rfl⟩
    · rcases List.mem_append.1 hs with hs | hs
      · exact hL.h1 s hs
      · simp at hs; subst hs; simp [newS]
    · rcases List.mem_append.1 hb with hb | hb
      · exact hL.oh a ha b hb hab
      · simp at hb; subst hb
        have := hL.o1 a ha
        simp only [newS] at *; omega
    · refine List.pairwise_append.2 ⟨hL.h2, List.pairwise_singleton _ _, fun a ha b hb => ?_⟩
      simp at hb; subst hb
      have := hF a ha
      unfold hit at this
      rw [decide_eq_false_iff_not] at this
      unfold Same newS
      exact this
    · rcases List.mem_append.1 hs with hs | hs
      · exact hL.r s hs
      · simp at hs; subst hs
        unfold Rng newS
        simp only
        omega
  · rw [if_neg ho]
    unfold letS
    by_cases hk : key m = true
    · rw [if_pos hk, hmx]; exact ⟨hL, rfl⟩
    · rw [if_neg hk, hmx]; exact ⟨h.late m.t hm, rfl⟩
/-- Those of the messages that may be, in order. -/
def some_ (l : List Msg) : Nat → List Msg × Int
  | 0 => ([], 0)
  | k + 1 => if (l.getD k m0).ok = true ∧ (some_ l k).2 ≤ (l.getD k m0).t then ((some_ l k).1 ++ [l.getD k m0], (l.getD k m0).t) else some_ l k
theorem some_inv (l : List Msg) : ∀ k, Inv (runL (some_ l k).1) ∧ (runL (some_ l k).1).e = (some_ l k).2 := by
  intro k
  induction k with
  | zero => exact ⟨inv0, rfl⟩
  | succ k ih =>
    rw [some_]
    split
    · rename_i h
      rw [runL_snoc]
      exact inv_step ih.1 _ (by rw [ih.2]; exact h.2) h.1
    · exact ih
theorem some_len (l : List Msg) : ∀ k, (some_ l k).1.length ≤ k := by
  intro k
  induction k with
  | zero => simp [some_]
  | succ k ih =>
    rw [some_]
    split
    · simp; omega
    · omega
theorem spans_good {l : List Msg} (h : Inv (runL l)) : (∀ s ∈ spansL l, s.f ≤ s.t) ∧ (spansL l).Pairwise (fun a b => Same a b → a.t ≤ b.f) := by
  have hp : (buks (runL l).held 2048).Perm (runL l).held := by
    rw [← sel_buks _ _ (Nat.le_refl _) h.r]; exact sel_perm _ _ (Nat.le_refl _)
  refine ⟨fun s hs => ?_, ?_⟩
  · rcases List.mem_append.1 hs with hs | hs
    · exact (h.o1 s hs).1
    · obtain ⟨y, hy, rfl⟩ := List.mem_map.1 hs
      exact h.h1 y (hp.mem_iff.1 hy)
  · refine List.pairwise_append.2 ⟨h.o2, ?_, fun a ha b hb hab => ?_⟩
    · rw [List.pairwise_map]
      have := (hp.pairwise_iff (R := fun a b => ¬ Same a b) (fun h1 h2 => h1 ⟨h2.1.symm, h2.2.symm⟩)).2 h.h2
      exact this.imp (fun hn hs => absurd hs hn)
    · obtain ⟨y, hy, rfl⟩ := List.mem_map.1 hb
      exact h.oh a ha y (hp.mem_iff.1 hy) hab
end Go.Proofs.Ytmhlmaimmbopfaa

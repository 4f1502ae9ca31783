/- Plain: steps as lines, and read again. No program in sight. -/
import Derived.Test.YtflpblggpbgeiaaDoorSwo
namespace Go.Proofs.YtflpblggpbgeiaaDoor
open Go Go.RowKit Go.Calli
set_option linter.unusedVariables false
set_option linter.unusedSimpArgs false
def putL (a : Ac) (f : Int) : List Int := if f = 1 then wordL a.nm else if f = 0 then numD a.v else if f = 2 then numD a.n else if f = 3 then numD a.m else if f = 4 then numD a.x else numD a.p
def lineL (a : Ac) : List Int := vW a.k ++ (vF a.k).flatMap (fun f => 32 :: putL a f)
def setF (b a : Ac) (f : Int) : Ac := if f = 1 then ⟨b.k, b.v, a.nm, b.n, b.m, b.p, b.x⟩ else if f = 0 then ⟨b.k, a.v, b.nm, b.n, b.m, b.p, b.x⟩ else if f = 2 then ⟨b.k, b.v, b.nm, a.n, b.m, b.p, b.x⟩ else if f = 3 then ⟨b.k, b.v, b.nm, b.n, a.m, b.p, b.x⟩ else if f = 4 then ⟨b.k, b.v, b.nm, b.n, b.m, b.p, a.x⟩ else if f = 5 then ⟨b.k, b.v, b.nm, b.n, b.m, a.p, b.x⟩ else b
def cleanL (a : Ac) : Ac := (vF a.k).foldl (fun b f => setF b a f) ⟨a.k, 0, [], 0, 0, 0, 0⟩
def i64 (n : Int) : Prop := -9223372036854775808 ≤ n ∧ n < 9223372036854775808
structure OkA (a : Ac) : Prop where
  nm : Byt a.nm
  nl : a.nm.length ≤ 1000000
  v : i64 a.v
  n : i64 a.n
  m : i64 a.m
  p : i64 a.p
  x : i64 a.x
theorem six {f : Int} (h : 0 ≤ f ∧ f ≤ 5) : f = 0 ∨ f = 1 ∨ f = 2 ∨ f = 3 ∨ f = 4 ∨ f = 5 := by omega
theorem numD_no (n : Int) : ∀ z ∈ numD n, z ≠ 32 := by
  intro z hz
  unfold numD at hz
  split at hz
  · rcases List.mem_cons.1 hz with rfl | hz
    · decide
    · have := digL_dig _ z hz; omega
  · have := digL_dig _ z hz; omega
theorem wordL_no (l : List Int) (hb : Byt l) : ∀ z ∈ wordL l, z ≠ 32 := by
  intro z hz
  unfold wordL at hz
  rcases List.mem_cons.1 hz with rfl | hz
  · decide
  · obtain ⟨c, hc, hz⟩ := List.mem_flatMap.1 hz
    have h := hb c hc
    unfold encB at hz
    by_cases hp : plainB c = true
    · rw [if_pos hp] at hz
      simp only [List.mem_singleton] at hz
      subst hz
      have := of_decide_eq_true hp
      omega
    · rw [if_neg hp] at hz
      simp only [List.mem_cons, List.not_mem_nil, or_false] at hz
      have h1 : ∀ d, 0 ≤ d → d < 16 → hx d ≠ 32 := fun d _ _ => by unfold hx; split <;> omega
      rcases hz with rfl | rfl | rfl
      · decide
      · exact h1 _ (by omega) (by omega)
      · exact h1 _ (by omega) (by omega)
theorem putL_no (a : Ac) (f : Int) (h : OkA a) : ∀ z ∈ putL a f, z ≠ 32 := by
  unfold putL
  repeat' split
  · exact wordL_no _ h.nm
  all_goals exact numD_no _
theorem putL_byt (a : Ac) (f : Int) (h : OkA a) : Byt (putL a f) := by
  unfold putL
  repeat' split
  · exact wordL_byt h.nm
  all_goals exact numD_byt _
theorem spl_cons (c b : Int) (r : List Int) : spl c (b :: r) = if b = c then [] :: spl c r else (b :: (spl c r).headD []) :: (spl c r).tail := rfl
theorem spl_none (h : List Int) (hn : ∀ z ∈ h, z ≠ 32) : spl 32 h = [h] := by
  induction h with
  | nil => rfl
  | cons c r ih =>
    unfold spl
    rw [if_neg (hn c (by simp)), ih (fun z hz => hn z (by simp [hz]))]
    rfl
theorem spl_some (h t : List Int) (hn : ∀ z ∈ h, z ≠ 32) : spl 32 (h ++ 32 :: t) = h :: spl 32 t := by
  induction h with
  | nil => rfl
  | cons c r ih =>
    rw [List.cons_append, spl_cons, if_neg (hn c (by simp)), ih (fun z hz => hn z (by simp [hz]))]
    rfl
theorem spl_line (g : Int → List Int) (fs : List Int) (hg : ∀ f ∈ fs, ∀ z ∈ g f, z ≠ 32) : ∀ h : List Int, (∀ z ∈ h, z ≠ 32) → spl 32 (h ++ fs.flatMap (fun f => 32 :: g f)) = h :: fs.map g := by
  induction fs with
  | nil => intro h hn; simp [spl_none h hn]
  | cons f r ih =>
    intro h hn
    rw [List.flatMap_cons, List.cons_append, spl_some h _ hn, ih (fun f hf => hg f (by simp [hf])) (g f) (hg f (by simp))]
    rfl
theorem vW_no (k : Int) : ∀ z ∈ vW k, z ≠ 32 := by
  by_cases h : 1 ≤ k ∧ k ≤ 12
  · rcases (show k = 1 ∨ k = 2 ∨ k = 3 ∨ k = 4 ∨ k = 5 ∨ k = 6 ∨ k = 7 ∨ k = 8 ∨ k = 9 ∨ k = 10 ∨ k = 11 ∨ k = 12 by omega) with rfl | rfl | rfl | rfl | rfl | rfl | rfl | rfl | rfl | rfl | rfl | rfl <;> decide
  · have : vW k = [] := by
      unfold vW
      rw [if_neg (by omega), if_neg (by omega), if_neg (by omega), if_neg (by omega), if_neg (by omega), if_neg (by omega), if_neg (by omega), if_neg (by omega), if_neg (by omega), if_neg (by omega), if_neg (by omega), if_neg (by omega)]
    rw [this]; intro z hz; simp at hz
theorem out_vW (k : Int) (h : ¬ (1 ≤ k ∧ k ≤ 12)) : vW k = [] ∧ vF k = [] := by
  constructor
  · unfold vW
    rw [if_neg (by omega), if_neg (by omega), if_neg (by omega), if_neg (by omega), if_neg (by omega), if_neg (by omega), if_neg (by omega), if_neg (by omega), if_neg (by omega), if_neg (by omega), if_neg (by omega), if_neg (by omega)]
  · unfold vF
    rw [if_neg (by omega), if_neg (by omega), if_neg (by omega), if_neg (by omega), if_neg (by omega), if_neg (by omega), if_neg (by omega), if_neg (by omega), if_neg (by omega), if_neg (by omega), if_neg (by omega), if_neg (by omega)]
theorem vW_all : ((List.range 13).all fun j => (List.range 13).all fun k => decide (1 ≤ j → j < k → vW (j : Int) ≠ vW (k : Int) ∧ vW (j : Int) ≠ [])) = true := by decide +kernel
theorem vW_ne {j k : Nat} (h1 : 1 ≤ j) (h2 : j < k) (h3 : k ≤ 12) : vW (j : Int) ≠ vW (k : Int) := by
  have := List.all_eq_true.1 (List.all_eq_true.1 vW_all j (List.mem_range.2 (by omega))) k (List.mem_range.2 (by omega))
  exact (of_decide_eq_true this h1 h2).1
theorem vW_nil {k : Int} (h : 1 ≤ k ∧ k ≤ 12) : vW k ≠ [] := by
  rcases (show k = 1 ∨ k = 2 ∨ k = 3 ∨ k = 4 ∨ k = 5 ∨ k = 6 ∨ k = 7 ∨ k = 8 ∨ k = 9 ∨ k = 10 ∨ k = 11 ∨ k = 12 by omega) with rfl | rfl | rfl | rfl | rfl | rfl | rfl | rfl | rfl | rfl | rfl | rfl <;> decide
theorem vF_nodup (k : Int) : (vF k).Nodup := by
  by_cases h : 1 ≤ k ∧ k ≤ 12
  · rcases (show k = 1 ∨ k = 2 ∨ k = 3 ∨ k = 4 ∨ k = 5 ∨ k = 6 ∨ k = 7 ∨ k = 8 ∨ k = 9 ∨ k = 10 ∨ k = 11 ∨ k = 12 by omega) with rfl | rfl | rfl | rfl | rfl | rfl | rfl | rfl | rfl | rfl | rfl | rfl <;> decide
  · rw [(out_vW k h).2]; exact List.nodup_nil
theorem parseW_find (ws : List (List Int)) (k : Nat) (hk : vW (k : Int) = ws.headD []) : ∀ (f j : Nat), j ≤ k → k < j + f → (∀ i, j ≤ i → i < k → vW (i : Int) ≠ ws.headD []) → parseW f (j : Int) ws = parseK k ws := by
  intro f
  induction f with
  | zero => intro j h1 h2; omega
  | succ f ih =>
    intro j h1 h2 hn
    unfold parseW
    by_cases h : j = k
    · subst h; rw [if_pos hk]
    · rw [if_neg (hn j (Nat.le_refl _) (by omega))]
      have := ih (j + 1) (by omega) (by omega) (fun i hi => hn i (by omega))
      rw [← this]; rfl
theorem okA_put (a : Ac) (f : Int) (h : OkA a) : okA f (putL a f) = true := by
  unfold okA putL
  split
  · rw [read_word h.nm]; rfl
  · repeat' split
    · rw [read_num h.v.1 h.v.2]; rfl
    · rw [read_num h.n.1 h.n.2]; rfl
    · rw [read_num h.m.1 h.m.2]; rfl
    · rw [read_num h.x.1 h.x.2]; rfl
    · rw [read_num h.p.1 h.p.2]; rfl
theorem takeA_put (b a : Ac) (f : Int) (hf : 0 ≤ f ∧ f ≤ 5) (h : OkA a) : takeA b f (putL a f) = setF b a f := by
  have h1 := read_word h.nm
  have h2 := read_num h.v.1 h.v.2
  have h3 := read_num h.n.1 h.n.2
  have h4 := read_num h.m.1 h.m.2
  have h5 := read_num h.x.1 h.x.2
  have h6 := read_num h.p.1 h.p.2
  rcases six hf with rfl | rfl | rfl | rfl | rfl | rfl <;> simp [takeA, putL, setF, numOf, h1, h2, h3, h4, h5, h6]
theorem takeAll_put (a : Ac) (h : OkA a) : ∀ (fs : List Int) (b : Ac), (∀ f ∈ fs, 0 ≤ f ∧ f ≤ 5) → takeAll b fs (fs.map (putL a)) = some (fs.foldl (fun b f => setF b a f) b) := by
  intro fs
  induction fs with
  | nil => intro b _; rfl
  | cons f r ih =>
    intro b hf
    rw [List.map_cons]
    unfold takeAll
    rw [if_pos (okA_put a f h), takeA_put b a f (hf f (by simp)) h, ih _ (fun g hg => hf g (by simp [hg]))]
    rfl
/-- A step's line is read as it, clean. -/
theorem parse_line {a : Ac} (h : OkA a) (hk : 1 ≤ a.k ∧ a.k ≤ 12) : parseL (lineL a) = some (cleanL a) := by
  unfold parseL lineL
  rw [spl_line (putL a) (vF a.k) (fun f _ => putL_no a f h) (vW a.k) (vW_no a.k)]
  obtain ⟨k, hkk⟩ : ∃ k : Nat, a.k = (k : Int) := ⟨a.k.toNat, by omega⟩
  have := parseW_find (vW a.k :: (vF a.k).map (putL a)) k (by rw [hkk]; rfl) 12 1 (by omega) (by omega) (fun i h1 h2 => by rw [hkk]; exact vW_ne h1 h2 (by omega))
  rw [show ((1 : Nat) : Int) = 1 from rfl] at this
  rw [this]
  unfold parseK cleanL
  rw [← hkk]
  exact takeAll_put a h _ _ (vF_rng a.k).1
theorem line_out {a : Ac} (hk : ¬ (1 ≤ a.k ∧ a.k ≤ 12)) : lineL a = [] := by
  unfold lineL
  rw [(out_vW a.k hk).1, (out_vW a.k hk).2]; rfl
theorem line_in {a : Ac} (hk : 1 ≤ a.k ∧ a.k ≤ 12) : lineL a ≠ [] := by
  unfold lineL
  intro e
  exact vW_nil hk (List.append_eq_nil_iff.1 e).1
theorem spl_back (l : List Int) : (spl 32 l).headD [] ++ (spl 32 l).tail.flatMap (fun x => 32 :: x) = l := by
  induction l with
  | nil => rfl
  | cons c r ih =>
    unfold spl
    rcases hs : spl 32 r with _ | ⟨y, t⟩
    · exact absurd hs (spl_ne 32 r)
    · rw [hs] at ih
      by_cases h : c = 32
      · subst h
        rw [if_pos rfl]
        simp only [List.headD_cons, List.tail_cons, List.nil_append, List.flatMap_cons, List.cons_append] at ih ⊢
        rw [ih]
      · rw [if_neg h]
        simp only [List.headD_cons, List.tail_cons, List.cons_append] at ih ⊢
        rw [ih]
theorem parseW_some (ws : List (List Int)) (a : Ac) : ∀ (f j : Nat), parseW f (j : Int) ws = some a → ∃ k : Nat, j ≤ k ∧ k < j + f ∧ vW (k : Int) = ws.headD [] ∧ parseK k ws = some a := by
  intro f
  induction f with
  | zero => intro j h; cases h
  | succ f ih =>
    intro j h
    unfold parseW at h
    by_cases hv : vW (j : Int) = ws.headD []
    · rw [if_pos hv] at h
      exact ⟨j, Nat.le_refl _, by omega, hv, h⟩
    · rw [if_neg hv] at h
      obtain ⟨k, h1, h2, h3⟩ := ih (j + 1) h
      exact ⟨k, by omega, by omega, h3⟩
def Same (f : Int) (a b : Ac) : Prop := ∀ c, setF c a f = setF c b f
theorem same_take {f g : Int} (hf : 0 ≤ f ∧ f ≤ 5) (hg : 0 ≤ g ∧ g ≤ 5) (h : f ≠ g) (b : Ac) (x : List Int) : Same f (takeA b g x) b := by
  intro c
  rcases six hf with rfl | rfl | rfl | rfl | rfl | rfl <;> rcases six hg with rfl | rfl | rfl | rfl | rfl | rfl <;> first | exact absurd rfl h | rfl
theorem set_take {f : Int} (hf : 0 ≤ f ∧ f ≤ 5) (b : Ac) (x : List Int) : setF b (takeA b f x) f = takeA b f x := by
  rcases six hf with rfl | rfl | rfl | rfl | rfl | rfl <;> rfl
theorem put_same {f : Int} (hf : 0 ≤ f ∧ f ≤ 5) {a b : Ac} (h : Same f a b) : putL a f = putL b f := by
  have := h ac0
  rcases six hf with rfl | rfl | rfl | rfl | rfl | rfl <;> simp [setF, putL, ac0] at this ⊢ <;> rw [this]
theorem word_len {y x : List Int} (h : wordL y = x) : y.length ≤ x.length := by
  have hs : ∀ m : List Int, m.length ≤ (m.map fun c => (encB c).length).sum := by
    intro m
    induction m with
    | nil => simp
    | cons c r ih =>
      have : 1 ≤ (encB c).length := by unfold encB; split <;> simp
      simp only [List.map_cons, List.sum_cons, List.length_cons]; omega
  have h1 := hs y
  rw [← h]
  unfold wordL encW
  rw [List.length_cons, List.length_flatMap]
  omega
theorem put_take {f : Int} (hf : 0 ≤ f ∧ f ≤ 5) (b : Ac) (x : List Int) (hx : Byt x) (hl : x.length ≤ 1000000) (hb : OkA b) (h : okA f x = true) : putL (takeA b f x) f = x ∧ OkA (takeA b f x) := by
  by_cases h1 : f = 1
  · subst h1
    have ho : (readW x).isSome = true := h
    obtain ⟨y, hy⟩ := Option.isSome_iff_exists.1 ho
    obtain ⟨w1, w2⟩ := word_read hx hy
    have w3 := word_len w1
    refine ⟨?_, ?_⟩
    · simp [putL, takeA, hy, w1]
    · simp only [takeA, if_true, hy, Option.getD_some]
      exact ⟨w2, by simp only; omega, hb.v, hb.n, hb.m, hb.p, hb.x⟩
  · have ho : (readN x).isSome = true := by unfold okA at h; rw [if_neg h1] at h; exact h
    obtain ⟨y, hy⟩ := Option.isSome_iff_exists.1 ho
    obtain ⟨w1, w2⟩ := num_read hy
    have hi : i64 y := w2
    rcases six hf with rfl | rfl | rfl | rfl | rfl | rfl
    · exact ⟨by simp [putL, takeA, numOf, hy, w1], by simp only [takeA, numOf, hy]; exact ⟨hb.nm, hb.nl, hi, hb.n, hb.m, hb.p, hb.x⟩⟩
    · exact absurd rfl h1
    · exact ⟨by simp [putL, takeA, numOf, hy, w1], by simp only [takeA, numOf, hy]; exact ⟨hb.nm, hb.nl, hb.v, hi, hb.m, hb.p, hb.x⟩⟩
    · exact ⟨by simp [putL, takeA, numOf, hy, w1], by simp only [takeA, numOf, hy]; exact ⟨hb.nm, hb.nl, hb.v, hb.n, hi, hb.p, hb.x⟩⟩
    · exact ⟨by simp [putL, takeA, numOf, hy, w1], by simp only [takeA, numOf, hy]; exact ⟨hb.nm, hb.nl, hb.v, hb.n, hb.m, hb.p, hi⟩⟩
    · exact ⟨by simp [putL, takeA, numOf, hy, w1], by simp only [takeA, numOf, hy]; exact ⟨hb.nm, hb.nl, hb.v, hb.n, hb.m, hi, hb.x⟩⟩
theorem take_k (b : Ac) (f : Int) (x : List Int) : (takeA b f x).k = b.k := by unfold takeA; (repeat' split) <;> rfl
theorem takeAll_some : ∀ (fs : List Int) (b : Ac) (xs : List (List Int)) (a : Ac), takeAll b fs xs = some a → fs.Nodup → (∀ f ∈ fs, 0 ≤ f ∧ f ≤ 5) → (∀ x ∈ xs, Byt x ∧ x.length ≤ 1000000) → OkA b → OkA a ∧ a.k = b.k ∧ fs.map (putL a) = xs ∧ a = fs.foldl (fun c f => setF c a f) b ∧ (∀ f, 0 ≤ f ∧ f ≤ 5 → f ∉ fs → Same f a b)
  | [], b, [], a, h, _, _, _, hb => by
    cases h
    exact ⟨hb, rfl, rfl, rfl, fun f _ _ c => rfl⟩
  | [], b, _ :: _, a, h, _, _, _, _ => by cases h
  | _ :: _, b, [], a, h, _, _, _, _ => by cases h
  | f :: fs, b, x :: xs, a, h, hn, hf, hx, hb => by
    unfold takeAll at h
    by_cases ho : okA f x = true
    · rw [if_pos ho] at h
      have hff := hf f (by simp)
      obtain ⟨p1, p2⟩ := put_take hff b x (hx x (by simp)).1 (hx x (by simp)).2 hb ho
      obtain ⟨n1, n2⟩ := List.nodup_cons.1 hn
      obtain ⟨q1, q2, q3, q4, q5⟩ := takeAll_some fs _ xs a h n2 (fun g hg => hf g (by simp [hg])) (fun y hy => hx y (by simp [hy])) p2
      have hs := q5 f hff n1
      refine ⟨q1, by rw [q2, take_k], ?_, ?_, fun g hg hng c => ?_⟩
      · rw [List.map_cons, q3, put_same hff hs, p1]
      · rw [List.foldl_cons, show setF b a f = takeA b f x by rw [hs b, set_take hff]]
        exact q4
      · rw [q5 g hg (fun e => hng (by simp [e])) c]
        exact same_take hg hff (fun e => hng (by simp [e])) b x c
    · rw [if_neg ho] at h; cases h
/-- What is read has just this line, and is clean. -/
theorem line_parse {l : List Int} {a : Ac} (hb : Byt l) (hl : l.length ≤ 1000000) (h : parseL l = some a) : lineL a = l ∧ cleanL a = a ∧ OkA a ∧ 1 ≤ a.k ∧ a.k ≤ 12 := by
  unfold parseL at h
  obtain ⟨k, h1, h2, h3, h4⟩ := parseW_some _ a 12 1 h
  unfold parseK at h4
  have hw := spl_byt 32 l hb
  have hw2 := (spl_len 32 l).2
  have hok : OkA ⟨(k : Int), 0, [], 0, 0, 0, 0⟩ := ⟨fun z hz => by simp at hz, by simp, by simp [i64], by simp [i64], by simp [i64], by simp [i64], by simp [i64]⟩
  obtain ⟨q1, q2, q3, q4, -⟩ := takeAll_some _ _ _ a h4 (vF_nodup k) (vF_rng k).1 (fun x hx => ⟨hw x (List.mem_of_mem_drop hx), Nat.le_trans (hw2 x (List.mem_of_mem_drop hx)) hl⟩) hok
  have q2' : a.k = (k : Int) := q2
  refine ⟨?_, ?_, q1, by omega, by omega⟩
  · unfold lineL
    rw [q2', h3]
    have := spl_back l
    rw [← List.drop_one, ← q3, List.flatMap_map] at this
    exact this
  · unfold cleanL
    rw [q2']
    exact q4.symm
end Go.Proofs.YtflpblggpbgeiaaDoor

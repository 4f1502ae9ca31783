/- The walk of the statement's own Spans. -/
import Derived.Test.YtmhlmaimmbopfaaSps
namespace Go.Proofs.Ytmhlmaimmbopfaa
open Go Go.RowKit Go.Calli
set_option linter.unusedVariables false
set_option linter.unusedSimpArgs false
attribute [local irreducible] wpStill wpAnyH wpAnyS wpList Code.wp
def Owns (w : World) (B : Nat) (v : Value) (l : List Sp) : Prop := w.ownsRow B 35 5 v l.length (l.flatMap valsS)
theorem owns_more {w : World} {B : Nat} {v : Value} {l : List Sp} {x : Sp} (h : w.ownsRow B 35 5 v (l.length + 1) (l.flatMap valsS ++ valsS x)) : Owns w B v (l ++ [x]) := by
  unfold Owns
  rw [List.length_append, List.flatMap_append]
  simpa using h
theorem Owns.off {w : World} {B : Nat} {v : Value} {l : List Sp} (h : Owns w B v l) {b t : Nat} {cs : Array Value} {fr : Nat × Nat} (hx : w.heap[b]? = some (.cells cs t fr)) (ht : t ≠ 35) : v.ownBlock ≠ some b := fun e => by
  obtain ⟨cs', hcs⟩ := own_block_type h e
  exact block_ne hx hcs ht rfl
theorem Owns.keep0 {w w' : World} {B : Nat} {v : Value} {l : List Sp} (h : Owns w B v l) (hb : Below w.heap.size w w') : Owns w' B v l := own_below0 h hb
/-- Two slices of one's own, apart. -/
structure Own2 (w : World) (B : Nat) (v u : Value) (l r : List Sp) : Prop where
  a : Owns w B v l
  b : Owns w B u r
  sep : ∀ k, v.ownBlock = some k → u.ownBlock ≠ some k
theorem Own2.keep0 {w w' : World} {B : Nat} {v u : Value} {l r : List Sp} (h : Own2 w B v u l r) (hb : Below w.heap.size w w') : Own2 w' B v u l r := ⟨h.a.keep0 hb, h.b.keep0 hb, h.sep⟩
theorem Own2.flip {w : World} {B : Nat} {v u : Value} {l r : List Sp} (h : Own2 w B v u l r) : Own2 w B u v r l := ⟨h.b, h.a, fun k h1 h2 => h.sep k h2 h1⟩
theorem Own2.add {w w2 : World} {B : Nat} {v u v2 : Value} {l r l2 : List Sp} (h : Own2 w B v u l r) (ho : Owns w2 B v2 l2) (hk : Keeps (fun k => v.ownBlock = some k) w w2) (hn : ∀ k, v2.ownBlock = some k → v.ownBlock = some k ∨ w.heap.size ≤ k) : Own2 w2 B v2 u l2 r :=
  ⟨ho, owns_kept h.b hk (fun k e1 e2 => h.sep k e2 e1), fun k e1 e2 => by
    rcases hn k e1 with e | e
    · exact h.sep k e e2
    · have := (h.b.lt k e2).2; omega⟩
structure Own3 (w : World) (B : Nat) (v1 v2 v3 : Value) (l1 l2 l3 : List Sp) : Prop where
  a : Owns w B v1 l1
  b : Owns w B v2 l2
  c : Owns w B v3 l3
  ab : ∀ k, v1.ownBlock = some k → v2.ownBlock ≠ some k
  ac : ∀ k, v1.ownBlock = some k → v3.ownBlock ≠ some k
  bc : ∀ k, v2.ownBlock = some k → v3.ownBlock ≠ some k
theorem Own3.keep0 {w w' : World} {B : Nat} {v1 v2 v3 : Value} {l1 l2 l3 : List Sp} (h : Own3 w B v1 v2 v3 l1 l2 l3) (hb : Below w.heap.size w w') : Own3 w' B v1 v2 v3 l1 l2 l3 := ⟨h.a.keep0 hb, h.b.keep0 hb, h.c.keep0 hb, h.ab, h.ac, h.bc⟩
theorem Own3.addC {w w2 : World} {B : Nat} {v1 v2 v3 u : Value} {l1 l2 l3 l : List Sp} (h : Own3 w B v1 v2 v3 l1 l2 l3) (ho : Owns w2 B u l) (hk : Keeps (fun k => v3.ownBlock = some k) w w2) (hn : ∀ k, u.ownBlock = some k → v3.ownBlock = some k ∨ w.heap.size ≤ k) : Own3 w2 B v1 v2 u l1 l2 l :=
  ⟨owns_kept h.a hk (fun k e1 e2 => h.ac k e1 e2), owns_kept h.b hk (fun k e1 e2 => h.bc k e1 e2), ho, h.ab, fun k e1 e2 => by
    rcases hn k e2 with e | e
    · exact h.ac k e1 e
    · have := (h.a.lt k e1).2; omega, fun k e1 e2 => by
    rcases hn k e2 with e | e
    · exact h.bc k e1 e
    · have := (h.b.lt k e1).2; omega⟩
theorem Own3.kept {S : Nat → Prop} {w w' : World} {B : Nat} {v1 v2 v3 : Value} {l1 l2 l3 : List Sp} (h : Own3 w B v1 v2 v3 l1 l2 l3) (hk : Keeps S w w') (h1 : ∀ k, v1.ownBlock = some k → ¬ S k) (h2 : ∀ k, v2.ownBlock = some k → ¬ S k) (h3 : ∀ k, v3.ownBlock = some k → ¬ S k) : Own3 w' B v1 v2 v3 l1 l2 l3 :=
  ⟨owns_kept h.a hk h1, owns_kept h.b hk h2, owns_kept h.c hk h3, h.ab, h.ac, h.bc⟩
theorem Own3.swap {w : World} {B : Nat} {v1 v2 v3 : Value} {l1 l2 l3 : List Sp} (h : Own3 w B v1 v2 v3 l1 l2 l3) : Own3 w B v1 v3 v2 l1 l3 l2 := ⟨h.a, h.c, h.b, h.ac, h.ab, fun k e1 e2 => h.bc k e2 e1⟩
theorem any_none {m : Msg} {l : List Sp} (h : l.any (hit m) = false) : ∀ s ∈ l, hit m s = false := fun s hs => by
  cases hh : hit m s with
  | false => rfl
  | true => rw [List.any_eq_true.2 ⟨s, hs, hh⟩] at h; cases h
theorem letL_step (m : Msg) (l : List Sp) (s : Sp) :
    (l.any (hit m) = true → letL m (l ++ [s]) = ((letL m l).1 ++ [s], (letL m l).2)) ∧
    (l.any (hit m) = false → hit m s = true → letL m (l ++ [s]) = ((letL m l).1, (letL m l).2 ++ [cls s m.t])) ∧
    (l.any (hit m) = false → hit m s = false → letL m (l ++ [s]) = ((letL m l).1 ++ [s], (letL m l).2)) := by
  refine ⟨fun h => by rw [letL_snoc, if_pos h], fun h h2 => ?_, fun h h2 => ?_⟩
  · rw [letL_snoc, if_neg (by rw [h]; decide), if_pos h2, letL_none m l (any_none h)]; rfl
  · rw [letL_snoc, if_neg (by rw [h]; decide), if_neg (by rw [h2]; decide), letL_none m l (any_none h)]
theorem any_snoc (m : Msg) (l : List Sp) (s : Sp) : (l ++ [s]).any (hit m) = (l.any (hit m) || hit m s) := by rw [List.any_append]; simp
/-- The state of the inner loop. -/
def InRel (B : Nat) (m : Msg) (hs o : List Sp) (hv : Value) (k : Nat) (v4 v8 v9 : Value) (w wr : World) : Prop := v9 = .bool ((hs.take k).any (hit m)) ∧ Own3 wr B hv v4 v8 hs (o ++ (letL m (hs.take k)).2) (letL m (hs.take k)).1 ∧ Below B w wr
/-- The state of the loop over the messages. -/
def LgRel (B : Nat) (x : St) (v3 v4 v5 : Value) (w wr : World) : Prop := v5 = .int .i64 x.e ∧ Own2 wr B v3 v4 x.held x.out ∧ Below B w wr
theorem mx_tt {e t : Int} (h : e < t) : mx e t = t := if_pos h
theorem mx_ff {e t : Int} (h : ¬ e < t) : mx e t = e := if_neg h
theorem buk_snoc (l : List Sp) (s : Sp) (c q : Nat) (hq : q < 128) : buk (l ++ [s]) (c * 128 + q) = buk l (c * 128 + q) ++ (if s.c = (c : Int) ∧ s.q = (q : Int) then [s] else []) := by
  unfold buk
  rw [List.filter_append]
  congr 1
  rw [show (c * 128 + q) / 128 = c by omega, show (c * 128 + q) % 128 = q by omega]
  by_cases h : s.c = (c : Int) ∧ s.q = (q : Int)
  · rw [if_pos h, List.filter_cons, if_pos (decide_eq_true h)]; rfl
  · rw [if_neg h, List.filter_cons, if_neg (by rw [decide_eq_false h]; decide)]; rfl
theorem buk_len (l : List Sp) (n : Nat) : (buk l n).length ≤ l.length := List.length_filter_le _ _
theorem buks_len (l : List Sp) (n : Nat) : (buks l n).length ≤ n * l.length := by
  induction n with
  | zero => simp [buks]
  | succ n ih =>
    have := buk_len l n
    rw [buks_succ, List.length_append, Nat.succ_mul]; omega
/-- The state of the loops over channels, keys, and those that are held. -/
def BkRel (B : Nat) (x : St) (e : Int) (hv : Value) (N : Nat) (r : List Sp) (v4 : Value) (w wr : World) : Prop := Own2 wr B hv v4 x.held (x.out ++ (buks x.held N ++ buk r N).map (fun s => cls s e)) ∧ Below B w wr
theorem BkRel.next {B : Nat} {x : St} {e : Int} {hv : Value} {N : Nat} {v4 : Value} {w wr : World} (h : BkRel B x e hv N x.held v4 w wr) : BkRel B x e hv (N + 1) [] v4 w wr := by
  unfold BkRel at *
  rw [buks_succ, show buk [] (N + 1) = [] from rfl, List.append_nil]
  exact h
def offK (k : Int) : Bool := decide (¬ (k = 128 ∨ k = 144))
set_option maxRecDepth 100000 in
set_option maxHeartbeats 8000000 in
theorem lspans_any (ao : Option Addr) (n cap : Nat) (l : List Msg) (hn : n ≤ 900) (w : World) (h : Msgs w ao n l) : Calls Try.prog 14 #[.slice ao n cap] w (SpansPost (spansL l) w) := by
  have HL := Lib.hid h.hlen
  go_enter Try.func14, Try.ntmps14
  go_wp2_with fail
  go_loopw [3, 4, 5, 6] (fun v3 v4 v5 v6 wr => ∃ k : Nat, k ≤ n ∧ v6 = .int .i64 k ∧ LgRel w.heap.size (runL (l.take k)) v3 v4 v5 w wr) (fun _ _ _ v6 _ => (n - (intOf v6).toNat))
  case atStart => exact ⟨0, by omega, rfl, rfl, ⟨World.ownsRow_nil _ _ _ _, World.ownsRow_nil _ _ _ _, fun k e => by cases e⟩, Below.refl _ _⟩
  case round =>
    obtain ⟨k, hk, rfl, rfl, hO, hb⟩ := hrel
    by_cases hlt : k < n
    · obtain ⟨p, rfl, hcell⟩ := (h.keep0 (hb.mono (Nat.le_refl _))).cell k hlt
      have hst := runL_take l k (by rw [HL.out]; exact hlt)
      have hln := runL_len (l.take k)
      rw [List.length_take] at hln
      generalize l.getD k m0 = m at *
      generalize runL (l.take k) = x at *
      obtain ⟨t, kd, c, a, b⟩ := m
      obtain ⟨q0, q1, q2, q3, q4⟩ := hcell
      have HST := Lib.hid hst
      clear hst
      simp only at q0 q1 q2 q3 q4
      have hm0 : (wr.alloc (.cells #[.int .i64 t, .int .i64 kd, .int .i64 c, .int .i64 a, .int .i64 b] 23)).heap[wr.heap.size]? = some (.cells #[.int .i64 t, .int .i64 kd, .int .i64 c, .int .i64 a, .int .i64 b] 23 (0, 0)) := heap_alloc_new _ _
      have hb1 := hb.alloc hb.size (.cells #[.int .i64 t, .int .i64 kd, .int .i64 c, .int .i64 a, .int .i64 b] 23)
      have hO1 := hO.keep0 (below_alloc wr (.cells #[.int .i64 t, .int .i64 kd, .int .i64 c, .int .i64 a, .int .i64 b] 23))
      go_upto_region 7 with fail
      generalize wr.alloc (.cells #[.int .i64 t, .int .i64 kd, .int .i64 c, .int .i64 a, .int .i64 b] 23) = W1 at *
      obtain ⟨y0, y1, y2, y3, y4⟩ := five_cells hm0
      clear q0 q1 q2 q3 q4
      obtain ⟨e, he⟩ : ∃ e, e = x.e := ⟨_, rfl⟩
      rw [← he]
      have HE := Lib.hid he
      clear he
      go_upto_if 29 with fail
      go_cut [5] (fun v5 wx => v5 = .int .i64 (mx e t) ∧ W1 = wx)
      case first =>
        by_cases het : e < t
        · have hmx := mx_tt het
          go_wp2_with fail
          go_meet
          exact ⟨by rw [hmx], rfl⟩
        · have hmx := mx_ff het
          go_wp2_with fail
          go_meet
          exact ⟨by rw [hmx], rfl⟩
      case rest =>
        obtain ⟨rfl, rfl⟩ := hcut
        generalize hE : mx e t = E at *
        have HE2 := Lib.hid hE
        clear hE
        go_upto_region 9 with fail
        go_cut [39] (fun v39 wx => v39 = .bool (offK kd) ∧ W1 = wx)
        case first =>
          by_cases h1 : kd = 128
          · have ho : offK kd = false := decide_eq_false (fun h => h (.inl h1))
            subst h1
            go_wp2_with fail
            go_meet
            exact ⟨by rw [ho], rfl⟩
          · by_cases h2 : kd = 144
            · have ho : offK kd = false := decide_eq_false (fun h => h (.inr h2))
              subst h2
              go_wp2_with fail
              go_meet
              exact ⟨by rw [ho], rfl⟩
            · have ho : offK kd = true := decide_eq_true (fun h => by omega)
              have g1 : (kd != 128) = true := by simpa using h1
              have g2 : (kd != 144) = true := by simpa using h2
              go_wp2_with fail
              go_meet
              exact ⟨by rw [ho], rfl⟩
        case rest =>
          obtain ⟨rfl, rfl⟩ := hcut
          by_cases hkey : kd = 128 ∨ kd = 144
          · have ho : offK kd = false := decide_eq_false (fun h => h hkey)
            have HK : Hid (key ⟨t, kd, c, a, b⟩ = true) := decide_eq_true hkey
            clear hkey
            obtain ⟨ha, hb, hsep⟩ := hO1
            obtain ⟨ao', hcp, rfl, hle, hRc, _⟩ := own_recs sp0 valsS_len (by decide) ha
            rw [ho]
            clear y0 y1 y2 y3 y4 ho
            have hO3 : InRel w.heap.size ⟨t, kd, c, a, b⟩ x.held x.out (.slice ao' x.held.length hcp) 0 u4 (.slice none 0 0) (.bool false) w W1 := ⟨rfl, ⟨ha, by rw [List.take_zero]; simpa [letL] using hb, World.ownsRow_nil _ _ _ _, hsep, (fun k _ e => by cases e), (fun k _ e => by cases e)⟩, hb1⟩
            have hmb : wr.heap.size < W1.heap.size := lt_of_block hm0
            generalize wr.heap.size = mb at *
            go_wp2_with fail
            go_loopw [4, 8, 9, 10] (fun v4 v8 v9 v10 wi => ∃ j : Nat, j ≤ x.held.length ∧ v10 = .int .i64 j ∧ InRel w.heap.size ⟨t, kd, c, a, b⟩ x.held x.out (.slice ao' x.held.length hcp) j v4 v8 v9 w wi ∧ wi.heap[mb]? = some (.cells #[.int .i64 t, .int .i64 kd, .int .i64 c, .int .i64 a, .int .i64 b] 23 (0, 0))) (fun _ _ _ v10 _ => (x.held.length - (intOf v10).toNat))
            case atStart => exact ⟨0, by omega, rfl, hO3, hm0⟩
            case round =>
              clear hO3 hm0 hO ha hb hb1 hRc hsep
              obtain ⟨j, hj, rfl, ⟨rfl, hO, hb⟩, hm0⟩ := hrel
              generalize wr = wi at *
              by_cases hlt : j < x.held.length
              · obtain ⟨ao2, hcp2, he2, _, hRc, hRb⟩ := own_recs sp0 valsS_len (by decide) hO.a
                cases he2
                obtain ⟨p, rfl, hcj⟩ := hRc.cell j hlt
                clear hRc hRb
                have htk : x.held.take (j + 1) = x.held.take j ++ [x.held.getD j sp0] := by
                  rw [List.take_succ_eq_append_getElem hlt]; simp [List.getD, hlt]
                obtain ⟨hl1, hl2, hl3⟩ := letL_step ⟨t, kd, c, a, b⟩ (x.held.take j) (x.held.getD j sp0)
                have han := any_snoc ⟨t, kd, c, a, b⟩ (x.held.take j) (x.held.getD j sp0)
                rw [← htk] at hl1 hl2 hl3 han
                have hlen := letL_len ⟨t, kd, c, a, b⟩ (x.held.take j)
                rw [List.length_take] at hlen
                generalize x.held.getD j sp0 = s at *
                obtain ⟨sc, sq, sf, st, sh⟩ := s
                have a0 : wi.cell? (p.add (j * 5)) = some (.int .i64 sc) := hcj 0 _ rfl
                have a1 : wi.cell? ⟨(p.add (j * 5)).block, (p.add (j * 5)).off + 1, none⟩ = some (.int .i64 sq) := hcj 1 _ rfl
                have a2 : wi.cell? ⟨(p.add (j * 5)).block, (p.add (j * 5)).off + 2, none⟩ = some (.int .i64 sf) := hcj 2 _ rfl
                have a3 : wi.cell? ⟨(p.add (j * 5)).block, (p.add (j * 5)).off + 3, none⟩ = some (.int .i64 st) := hcj 3 _ rfl
                have a4 : wi.cell? ⟨(p.add (j * 5)).block, (p.add (j * 5)).off + 4, none⟩ = some (.int .i64 sh) := hcj 4 _ rfl
                have hx1 : (wi.alloc (.cells #[.int .i64 sc, .int .i64 sq, .int .i64 sf, .int .i64 st, .int .i64 sh] 35)).heap[wi.heap.size]? = some (.cells #[.int .i64 sc, .int .i64 sq, .int .i64 sf, .int .i64 st, .int .i64 sh] 35 (0, 0)) := heap_alloc_new _ _
                have hba := below_alloc wi (.cells #[.int .i64 sc, .int .i64 sq, .int .i64 sf, .int .i64 st, .int .i64 sh] 35)
                have hb1 := hb.alloc hb.size (.cells #[.int .i64 sc, .int .i64 sq, .int .i64 sf, .int .i64 st, .int .i64 sh] 35)
                have hm1 := (hba.block _ (lt_of_block hm0)).trans hm0
                have hO1 := hO.keep0 hba
                have hmi : wi.heap.size ≠ mb := by have := lt_of_block hm0; omega
                have hwi : w.heap.size ≤ wi.heap.size := hb.size
                have hwi3 : (Value.slice (some p) x.held.length hcp).ownBlock ≠ some wi.heap.size := fun e => by have := (hO.a.lt _ e).2; omega
                have hwi4 : u4.ownBlock ≠ some wi.heap.size := fun e => by have := (hO.b.lt _ e).2; omega
                have hwi8 : u8.ownBlock ≠ some wi.heap.size := fun e => by have := (hO.c.lt _ e).2; omega
                have HL1 := Lib.hid hl1
                have HL2 := Lib.hid hl2
                have HL3 := Lib.hid hl3
                have HAN := Lib.hid han
                clear hl1 hl2 hl3 han hcj htk hO
                go_upto_region 16 with fail
                generalize wi.alloc (.cells #[.int .i64 sc, .int .i64 sq, .int .i64 sf, .int .i64 st, .int .i64 sh] 35) = W2 at *
                clear a0 a1 a2 a3 a4 hba hb hm0
                obtain ⟨y0, y1, y2, y3, y4⟩ := five_cells hm1
                obtain ⟨z0, z1, z2, z3, z4⟩ := five_cells hx1
                obtain ⟨G, hG⟩ : ∃ G, G = (x.held.take j).any (hit ⟨t, kd, c, a, b⟩) := ⟨_, rfl⟩
                rw [← hG]
                have HG := Lib.hid hG
                clear hG
                have HREST : Hid (letL ⟨t, kd, c, a, b⟩ (x.held.take (j + 1)) = ((letL ⟨t, kd, c, a, b⟩ (x.held.take j)).1 ++ [⟨sc, sq, sf, st, sh⟩], (letL ⟨t, kd, c, a, b⟩ (x.held.take j)).2) → ∀ v2 w2, w2.ownsRow w.heap.size 35 5 v2 ((letL ⟨t, kd, c, a, b⟩ (x.held.take j)).1.length + 1) (((letL ⟨t, kd, c, a, b⟩ (x.held.take j)).1.flatMap valsS) ++ valsS ⟨sc, sq, sf, st, sh⟩) → Keeps (fun k => u8.ownBlock = some k) W2 w2 → (∀ k, v2.ownBlock = some k → u8.ownBlock = some k ∨ W2.heap.size ≤ k) → (Own3 w2 w.heap.size (.slice (some p) x.held.length hcp) u4 v2 x.held (x.out ++ (letL ⟨t, kd, c, a, b⟩ (x.held.take (j + 1))).2) (letL ⟨t, kd, c, a, b⟩ (x.held.take (j + 1))).1 ∧ Below w.heap.size w w2) ∧ w2.heap[mb]? = some (.cells #[.int .i64 t, .int .i64 kd, .int .i64 c, .int .i64 a, .int .i64 b] 23 (0, 0))) := by
                  intro he v2 w2 h1 h2 h3
                  rw [he]
                  exact ⟨⟨hO1.addC (owns_more h1) h2 h3, hb1.trans (owns_below hO1.c h2 hb1.size)⟩, h2.heap hm1 (fun e => by obtain ⟨cs, hcs⟩ := own_block_type hO1.c e; exact block_ne hm1 hcs (by decide) rfl)⟩
                have hRB : Hid (∃ v2 w2, (Builtin.append_ #[31, 31] 31 #[u8, .slice (some ⟨W2.heap.size, 0, none⟩) 1 1]).run Try.prog (W2.alloc (.cells #[.int .i64 sc, .int .i64 sq, .int .i64 sf, .int .i64 st, .int .i64 sh] 35)) = .ok v2 w2 ∧ w2.ownsRow w.heap.size 35 5 v2 ((letL ⟨t, kd, c, a, b⟩ (x.held.take j)).1.length + 1) (((letL ⟨t, kd, c, a, b⟩ (x.held.take j)).1.flatMap valsS) ++ valsS ⟨sc, sq, sf, st, sh⟩) ∧ Keeps (fun k => u8.ownBlock = some k) W2 w2 ∧ (∀ k, v2.ownBlock = some k → u8.ownBlock = some k ∨ W2.heap.size ≤ k)) :=
                  run_append_rec_at (P := Try.prog) W2 31 31 35 5 Try.underlying31 infoSp rfl (by decide) w.heap.size u8 _ _ hO1.c (valsS ⟨sc, sq, sf, st, sh⟩) rfl (valsS_one _) (by omega) (by unfold maxLen; omega) hb1.size
                have hW2 : w.heap.size ≤ W2.heap.size := hb1.size
                cases G with
                | true =>
                  have hr := HREST.out (HL1.out HG.out.symm)
                  have HN9 : Hid ((x.held.take (j + 1)).any (hit ⟨t, kd, c, a, b⟩) = true) := by unfold Hid; rw [HAN.out, ← HG.out]; rfl
                  obtain ⟨v2, w2, hrun, h1, h2, h3⟩ := hRB.out
                  have HR := Lib.hid (hr v2 w2 h1 h2 h3)
                  clear hr h1 h2 h3
                  go_wp2_with (at_builtin; refine wpList_append_eq rfl (.tmp 73) (.tmp 75) 31 31 rfl rfl rfl hrun ?_)
                  refine ⟨⟨j + 1, by omega, by go_num, ⟨by rw [HN9.out], HR.out.1.1, HR.out.1.2⟩, HR.out.2⟩, ?_⟩
                  simp [intOf]; omega
                | false =>
                  by_cases e1 : sc = c
                  · subst e1
                    by_cases e2 : sq = a
                    · subst e2
                      have he := HL2.out HG.out.symm (hit_true rfl rfl)
                      have HN9 : Hid ((x.held.take (j + 1)).any (hit ⟨t, kd, sc, sq, b⟩) = true) := by unfold Hid; rw [HAN.out, ← HG.out]; exact hit_true rfl rfl
                      have fz : W2.frozen? ⟨wi.heap.size, 3, none⟩ = false := frozen_of_row _ _ _ _ _ hx1
                      have HE := Lib.hid he
                      clear he hRB HREST HL1 HL2 HL3
                      go_upto_region 19 with fail
                      have hS3 : Keeps (fun b => b = wi.heap.size) W2 (W2.setCell ⟨wi.heap.size, 3, none⟩ (.int .i64 t)) := (Keeps.refl (fun b => b = wi.heap.size) W2).setCell (p := ⟨wi.heap.size, 3, none⟩) (.inr rfl) _
                      have hO2 := hO1.kept hS3 (fun k e1 e2 => hwi3 (e2 ▸ e1)) (fun k e1 e2 => hwi4 (e2 ▸ e1)) (fun k e1 e2 => hwi8 (e2 ▸ e1))
                      have hx3 : (W2.setCell ⟨wi.heap.size, 3, none⟩ (.int .i64 t)).heap[wi.heap.size]? = some (.cells #[.int .i64 sc, .int .i64 sq, .int .i64 sf, .int .i64 t, .int .i64 sh] 35 (0, 0)) := heap_setCell_same _ _ _ _ _ _ hx1
                      have hm3 := hS3.heap hm1 (fun e => hmi e.symm)
                      have hb3 := hb1.trans (hS3.toBelow hW2 (fun k hk e => by omega))
                      clear hx1 fz y0 y1 y2 y3 y4 z0 z1 z2 z3 z4 hO1 hm1 hb1 hS3 hwi3 hwi4 hwi8
                      have hW3 : w.heap.size ≤ (W2.setCell ⟨wi.heap.size, 3, none⟩ (.int .i64 t)).heap.size := hb3.size
                      generalize W2.setCell ⟨wi.heap.size, 3, none⟩ (.int .i64 t) = W3 at *
                      obtain ⟨v2, w2, hrun, h1, h2, h3⟩ := run_append_rec_at (P := Try.prog) W3 31 31 35 5 Try.underlying31 infoSp rfl (by decide) w.heap.size u4 _ _ hO2.b (valsS (cls ⟨sc, sq, sf, st, sh⟩ t)) rfl (valsS_one _) (by rw [List.length_append]; omega) (by rw [List.length_append]; unfold maxLen; omega) hW3
                      have HR : Hid ((Own3 w2 w.heap.size (.slice (some p) x.held.length hcp) v2 u8 x.held (x.out ++ (letL ⟨t, kd, sc, sq, b⟩ (x.held.take (j + 1))).2) (letL ⟨t, kd, sc, sq, b⟩ (x.held.take (j + 1))).1 ∧ Below w.heap.size w w2) ∧ w2.heap[mb]? = some (.cells #[.int .i64 t, .int .i64 kd, .int .i64 sc, .int .i64 sq, .int .i64 b] 23 (0, 0))) := by
                        unfold Hid
                        rw [HE.out]
                        have ho := owns_more (x := cls ⟨sc, sq, sf, st, sh⟩ t) h1
                        rw [List.append_assoc] at ho
                        exact ⟨⟨(hO2.swap.addC ho h2 h3).swap, hb3.trans (owns_below hO2.b h2 hW3)⟩, h2.heap hm3 (fun e => by obtain ⟨cs, hcs⟩ := own_block_type hO2.b e; exact block_ne hm3 hcs (by decide) rfl)⟩
                      simp only [valsS, cls] at hrun
                      obtain ⟨z0, z1, z2, z3, z4⟩ := five_cells hx3
                      clear h1 h2 h3 hO2 hx3 hm3
                      go_wp2_with (at_builtin; refine wpList_append_eq rfl (.tmp 69) (.tmp 71) 31 31 rfl rfl rfl hrun ?_)
                      refine ⟨⟨j + 1, by omega, by go_num, ⟨by rw [HN9.out], HR.out.1.1, HR.out.1.2⟩, HR.out.2⟩, ?_⟩
                      simp [intOf]; omega
                    · have hr := HREST.out (HL3.out HG.out.symm (hit_false (fun h => e2 h.2)))
                      have HN9 : Hid ((x.held.take (j + 1)).any (hit ⟨t, kd, sc, a, b⟩) = false) := by unfold Hid; rw [HAN.out, ← HG.out]; exact hit_false (fun h => e2 h.2)
                      obtain ⟨v2, w2, hrun, h1, h2, h3⟩ := hRB.out
                      have HR := Lib.hid (hr v2 w2 h1 h2 h3)
                      have g1 : (sq == a) = false := by simpa using e2
                      clear hr h1 h2 h3
                      go_wp2_with (at_builtin; refine wpList_append_eq rfl (.tmp 73) (.tmp 75) 31 31 rfl rfl rfl hrun ?_)
                      refine ⟨⟨j + 1, by omega, by go_num, ⟨by rw [HN9.out], HR.out.1.1, HR.out.1.2⟩, HR.out.2⟩, ?_⟩
                      simp [intOf]; omega
                  · have hr := HREST.out (HL3.out HG.out.symm (hit_false (fun h => e1 h.1)))
                    have HN9 : Hid ((x.held.take (j + 1)).any (hit ⟨t, kd, c, a, b⟩) = false) := by unfold Hid; rw [HAN.out, ← HG.out]; exact hit_false (fun h => e1 h.1)
                    obtain ⟨v2, w2, hrun, h1, h2, h3⟩ := hRB.out
                    have HR := Lib.hid (hr v2 w2 h1 h2 h3)
                    have g1 : (sc == c) = false := by simpa using e1
                    clear hr h1 h2 h3
                    go_wp2_with (at_builtin; refine wpList_append_eq rfl (.tmp 73) (.tmp 75) 31 31 rfl rfl rfl hrun ?_)
                    refine ⟨⟨j + 1, by omega, by go_num, ⟨by rw [HN9.out], HR.out.1.1, HR.out.1.2⟩, HR.out.2⟩, ?_⟩
                    simp [intOf]; omega
              · obtain rfl : j = x.held.length := by omega
                rw [List.take_length] at hO
                have hlen := letL_len ⟨t, kd, c, a, b⟩ x.held
                obtain ⟨y0, y1, y2, y3, y4⟩ := five_cells hm0
                by_cases h1 : kd = 144
                · subst h1
                  by_cases h2 : 0 < b
                  · have hstep := HST.out.trans (step_on (x := x) (m := ⟨t, 144, c, a, b⟩) HK.out (decide_eq_true ⟨rfl, h2⟩))
                    have HSTEP := Lib.hid hstep
                    clear hstep
                    obtain ⟨v2, w2, hrun, h3, h4, h5⟩ := run_append_rec_at (P := Try.prog) wi 31 31 35 5 Try.underlying31 infoSp rfl (by decide) w.heap.size u8 _ _ hO.c (valsS (newS ⟨t, 144, c, a, b⟩)) rfl (valsS_one _) (by omega) (by unfold maxLen; omega) hb.size
                    have HR : Hid (Own2 w2 w.heap.size v2 u4 ((letL ⟨t, 144, c, a, b⟩ x.held).1 ++ [newS ⟨t, 144, c, a, b⟩]) (x.out ++ (letL ⟨t, 144, c, a, b⟩ x.held).2) ∧ Below w.heap.size w w2) := by
                      have := hO.addC (owns_more h3) h4 h5
                      exact ⟨⟨this.c, this.b, fun k e1 e2 => this.bc k e2 e1⟩, hb.trans (owns_below hO.c h4 hb.size)⟩
                    simp only [valsS, newS] at hrun
                    clear h3 h4 h5 hO hm0
                    go_wp2_with (at_builtin; refine wpList_append_eq rfl (.tmp 86) (.tmp 96) 31 31 rfl rfl rfl hrun ?_)
                    refine ⟨⟨k + 1, by omega, by go_num, by rw [HSTEP.out]; show _ = Value.int .i64 (mx x.e t); rw [← HE.out, HE2.out], ?_, HR.out.2⟩, ?_⟩
                    · rw [HSTEP.out]; exact HR.out.1
                    · simp [intOf]; omega
                  · have hstep := HST.out.trans (step_let (x := x) (m := ⟨t, 144, c, a, b⟩) HK.out (decide_eq_false (fun h => h2 h.2)))
                    have HSTEP := Lib.hid hstep
                    clear hstep
                    go_wp2_with fail
                    refine ⟨⟨k + 1, by omega, by go_num, by rw [HSTEP.out]; show _ = Value.int .i64 (mx x.e t); rw [← HE.out, HE2.out], ?_, hb⟩, ?_⟩
                    · rw [HSTEP.out]; exact ⟨hO.c, hO.b, fun k e1 e2 => hO.bc k e2 e1⟩
                    · simp [intOf]; omega
                · have hstep := HST.out.trans (step_let (x := x) (m := ⟨t, kd, c, a, b⟩) HK.out (decide_eq_false (fun h => h1 h.1)))
                  have HSTEP := Lib.hid hstep
                  have g1 : (kd == 144) = false := by simpa using h1
                  clear hstep
                  go_wp2_with fail
                  refine ⟨⟨k + 1, by omega, by go_num, by rw [HSTEP.out]; show _ = Value.int .i64 (mx x.e t); rw [← HE.out, HE2.out], ?_, hb⟩, ?_⟩
                  · rw [HSTEP.out]; exact ⟨hO.c, hO.b, fun k e1 e2 => hO.bc k e2 e1⟩
                  · simp [intOf]; omega
          · have ho : offK kd = true := decide_eq_true hkey
            rw [ho]
            have hstep := step_off (x := x) (m := ⟨t, kd, c, a, b⟩) (decide_eq_false hkey) (decide_eq_false (fun h => hkey (.inr h.1)))
            go_wp2_with fail
            refine ⟨⟨k + 1, by omega, by go_num, by rw [HST.out, hstep]; show _ = Value.int .i64 (mx x.e t); rw [← HE.out, HE2.out], ?_, hb1⟩, ?_⟩
            · rw [HST.out, hstep]; exact hO1
            · simp [intOf]; omega
    · obtain rfl : k = n := by omega
      rw [List.take_of_length_le (by rw [HL.out]; exact Nat.le_refl _)] at hO
      have hln := runL_len l
      rw [HL.out] at hln
      have hR : spansL l = (runL l).out ++ (buks (runL l).held 2048).map (fun s => cls s (runL l).e) := rfl
      rw [List.take_of_length_le (by rw [HL.out]; exact Nat.le_refl _)]
      generalize runL l = x at *
      obtain ⟨e, he⟩ : ∃ e, e = x.e := ⟨_, rfl⟩
      rw [← he]
      rw [← he] at hR
      have HE := Lib.hid he
      have HR0 := Lib.hid hR
      clear hR he
      obtain ⟨ho, hc, rfl, hle, _, _⟩ := own_recs sp0 valsS_len (by decide) hO.a
      have hB0 : BkRel w.heap.size x e (.slice ho x.held.length hc) 0 [] u4 w wr := ⟨by simpa [buks, buk] using hO, hb⟩
      clear hO hb h
      go_wp2_with fail
      go_loopw [4, 12] (fun v4 v12 wc => ∃ c : Nat, c ≤ 16 ∧ v12 = .int .i64 c ∧ BkRel w.heap.size x e (.slice ho x.held.length hc) (c * 128) [] v4 w wc) (fun _ v12 _ => (16 - (intOf v12).toNat))
      case atStart => exact ⟨0, by omega, rfl, hB0⟩
      case round =>
        clear hB0
        obtain ⟨c, hc16, rfl, hB⟩ := hrel
        by_cases hcl : c < 16
        · go_wp2_with fail
          go_loopw [4, 13] (fun v4 v13 wc => ∃ q : Nat, q ≤ 128 ∧ v13 = .int .i64 q ∧ BkRel w.heap.size x e (.slice ho x.held.length hc) (c * 128 + q) [] v4 w wc) (fun _ v13 _ => (128 - (intOf v13).toNat))
          case atStart => exact ⟨0, by omega, rfl, hB⟩
          case round =>
            clear hB
            obtain ⟨q, hq128, rfl, hB⟩ := hrel
            by_cases hql : q < 128
            · go_wp2_with fail
              go_loopw [4, 14] (fun v4 v14 wc => ∃ j : Nat, j ≤ x.held.length ∧ v14 = .int .i64 j ∧ BkRel w.heap.size x e (.slice ho x.held.length hc) (c * 128 + q) (x.held.take j) v4 w wc) (fun _ v14 _ => (x.held.length - (intOf v14).toNat))
              case atStart => exact ⟨0, by omega, rfl, hB⟩
              case round =>
                clear hB
                obtain ⟨j, hj, rfl, hO, hb⟩ := hrel
                generalize wr = wi at *
                by_cases hlt : j < x.held.length
                · obtain ⟨ho2, hc2, he2, _, hRc, _⟩ := own_recs sp0 valsS_len (by decide) hO.a
                  cases he2
                  obtain ⟨p, rfl, hcj⟩ := hRc.cell j hlt
                  clear hRc
                  have htk : x.held.take (j + 1) = x.held.take j ++ [x.held.getD j sp0] := by
                    rw [List.take_succ_eq_append_getElem hlt]; simp [List.getD, hlt]
                  have hbk := buk_snoc (x.held.take j) (x.held.getD j sp0) c q hql
                  rw [← htk] at hbk
                  have hl1 := buk_len (x.held.take j) (c * 128 + q)
                  have hl2 := buks_len x.held (c * 128 + q)
                  have hl3 : (c * 128 + q) * x.held.length ≤ 2048 * 900 := Nat.mul_le_mul (by omega) (by omega)
                  rw [List.length_take] at hl1
                  generalize x.held.getD j sp0 = s at *
                  obtain ⟨sc, sq, sf, st, sh⟩ := s
                  have a0 : wi.cell? (p.add (j * 5)) = some (.int .i64 sc) := hcj 0 _ rfl
                  have a1 : wi.cell? ⟨(p.add (j * 5)).block, (p.add (j * 5)).off + 1, none⟩ = some (.int .i64 sq) := hcj 1 _ rfl
                  have a2 : wi.cell? ⟨(p.add (j * 5)).block, (p.add (j * 5)).off + 2, none⟩ = some (.int .i64 sf) := hcj 2 _ rfl
                  have a3 : wi.cell? ⟨(p.add (j * 5)).block, (p.add (j * 5)).off + 3, none⟩ = some (.int .i64 st) := hcj 3 _ rfl
                  have a4 : wi.cell? ⟨(p.add (j * 5)).block, (p.add (j * 5)).off + 4, none⟩ = some (.int .i64 sh) := hcj 4 _ rfl
                  have HBK := Lib.hid hbk
                  clear hbk htk hcj
                  by_cases e1 : sc = (c : Int)
                  · subst e1
                    by_cases e2 : sq = (q : Int)
                    · subst e2
                      have hbk := HBK.out
                      rw [if_pos ⟨rfl, rfl⟩] at hbk
                      have hx1 : (wi.alloc (.cells #[.int .i64 c, .int .i64 q, .int .i64 sf, .int .i64 st, .int .i64 sh] 35)).heap[wi.heap.size]? = some (.cells #[.int .i64 c, .int .i64 q, .int .i64 sf, .int .i64 st, .int .i64 sh] 35 (0, 0)) := heap_alloc_new _ _
                      have hba := below_alloc wi (.cells #[.int .i64 c, .int .i64 q, .int .i64 sf, .int .i64 st, .int .i64 sh] 35)
                      have hb1 := hb.alloc hb.size (.cells #[.int .i64 c, .int .i64 q, .int .i64 sf, .int .i64 st, .int .i64 sh] 35)
                      have hO1 := hO.keep0 hba
                      have hwi : w.heap.size ≤ wi.heap.size := hb.size
                      have hwi3 : (Value.slice (some p) x.held.length hc).ownBlock ≠ some wi.heap.size := fun e => by have := (hO.a.lt _ e).2; omega
                      have hwi4 : u4.ownBlock ≠ some wi.heap.size := fun e => by have := (hO.b.lt _ e).2; omega
                      go_upto_region 35 with fail
                      generalize wi.alloc (.cells #[.int .i64 c, .int .i64 q, .int .i64 sf, .int .i64 st, .int .i64 sh] 35) = W2 at *
                      clear a0 a1 a2 a3 a4 hba hb hO
                      have fz : W2.frozen? ⟨wi.heap.size, 3, none⟩ = false := frozen_of_row _ _ _ _ _ hx1
                      obtain ⟨z0, z1, z2, z3, z4⟩ := five_cells hx1
                      go_upto_region 36 with fail
                      have hS3 : Keeps (fun b => b = wi.heap.size) W2 (W2.setCell ⟨wi.heap.size, 3, none⟩ (.int .i64 e)) := (Keeps.refl (fun b => b = wi.heap.size) W2).setCell (p := ⟨wi.heap.size, 3, none⟩) (.inr rfl) _
                      have hO2 : Own2 (W2.setCell ⟨wi.heap.size, 3, none⟩ (.int .i64 e)) w.heap.size (.slice (some p) x.held.length hc) u4 x.held (x.out ++ (buks x.held (c * 128 + q) ++ buk (x.held.take j) (c * 128 + q)).map (fun s => cls s e)) := ⟨owns_kept hO1.a hS3 (fun k e1 e2 => hwi3 (e2 ▸ e1)), owns_kept hO1.b hS3 (fun k e1 e2 => hwi4 (e2 ▸ e1)), hO1.sep⟩
                      have hx3 : (W2.setCell ⟨wi.heap.size, 3, none⟩ (.int .i64 e)).heap[wi.heap.size]? = some (.cells #[.int .i64 c, .int .i64 q, .int .i64 sf, .int .i64 e, .int .i64 sh] 35 (0, 0)) := heap_setCell_same _ _ _ _ _ _ hx1
                      have hb3 := hb1.trans (hS3.toBelow hb1.size (fun k hk e => by omega))
                      clear hx1 fz z0 z1 z2 z3 z4 hO1 hb1 hS3 hwi3 hwi4
                      generalize W2.setCell ⟨wi.heap.size, 3, none⟩ (.int .i64 e) = W3 at *
                      obtain ⟨v2, w2, hrun, h1, h2, h3⟩ := run_append_rec_at (P := Try.prog) W3 31 31 35 5 Try.underlying31 infoSp rfl (by decide) w.heap.size u4 _ _ hO2.b (valsS (cls ⟨c, q, sf, st, sh⟩ e)) rfl (valsS_one _) (by rw [List.length_append, List.length_map, List.length_append]; omega) (by rw [List.length_append, List.length_map, List.length_append]; unfold maxLen; omega) hb3.size
                      have HR : Hid (BkRel w.heap.size x e (.slice (some p) x.held.length hc) (c * 128 + q) (x.held.take (j + 1)) v2 w w2) := by
                        unfold Hid BkRel
                        rw [hbk, ← List.append_assoc, List.map_append, ← List.append_assoc]
                        have ho := owns_more (x := cls ⟨c, q, sf, st, sh⟩ e) h1
                        exact ⟨(hO2.flip.add ho h2 h3).flip, hb3.trans (owns_below hO2.b h2 hb3.size)⟩
                      simp only [valsS, cls] at hrun
                      obtain ⟨z0, z1, z2, z3, z4⟩ := five_cells hx3
                      clear h1 h2 h3 hO2 hx3 hbk
                      go_wp2_with (at_builtin; refine wpList_append_eq rfl (.tmp 134) (.tmp 136) 31 31 rfl rfl rfl hrun ?_)
                      refine ⟨⟨j + 1, by omega, by go_num, HR.out⟩, ?_⟩
                      simp [intOf]; omega
                    · have hbk := HBK.out
                      rw [if_neg (fun h => e2 h.2), List.append_nil] at hbk
                      have HR : Hid (BkRel w.heap.size x e (.slice (some p) x.held.length hc) (c * 128 + q) (x.held.take (j + 1)) u4 w wi) := by
                        unfold Hid BkRel; rw [hbk]; exact ⟨hO, hb⟩
                      have g1 : (sq == (q : Int)) = false := by simpa using e2
                      clear hbk hO
                      go_wp2_with fail
                      refine ⟨⟨j + 1, by omega, by go_num, HR.out⟩, ?_⟩
                      simp [intOf]; omega
                  · have hbk := HBK.out
                    rw [if_neg (fun h => e1 h.1), List.append_nil] at hbk
                    have HR : Hid (BkRel w.heap.size x e (.slice (some p) x.held.length hc) (c * 128 + q) (x.held.take (j + 1)) u4 w wi) := by
                      unfold Hid BkRel; rw [hbk]; exact ⟨hO, hb⟩
                    have g1 : (sc == (c : Int)) = false := by simpa using e1
                    clear hbk hO
                    go_wp2_with fail
                    refine ⟨⟨j + 1, by omega, by go_num, HR.out⟩, ?_⟩
                    simp [intOf]; omega
                · obtain rfl : j = x.held.length := by omega
                  rw [List.take_length] at hO
                  have hN := BkRel.next ⟨hO, hb⟩
                  clear hO
                  go_wp2_with fail
                  refine ⟨⟨q + 1, by omega, by go_num, hN⟩, ?_⟩
                  simp [intOf]; omega
            · obtain rfl : q = 128 := by omega
              have hN : BkRel w.heap.size x e (.slice ho x.held.length hc) ((c + 1) * 128) [] u4 w wr := by rw [Nat.succ_mul]; exact hB
              clear hB
              go_wp2_with fail
              refine ⟨⟨c + 1, by omega, by go_num, hN⟩, ?_⟩
              simp [intOf]; omega
        · obtain rfl : c = 16 := by omega
          obtain ⟨hO, hb⟩ := hB
          rw [show buk [] (16 * 128) = [] from rfl, List.append_nil] at hO
          obtain ⟨oo, oc, rfl, hoc, hoR, _⟩ := own_recs sp0 valsS_len (by decide) hO.b
          have HOR := Lib.hid hoR
          clear hoR hO
          go_wp2_with fail
          go_ret
          exact ⟨_, _, _, rfl, hoc, by rw [HR0.out]; exact HOR.out, hb⟩
end Go.Proofs.Ytmhlmaimmbopfaa

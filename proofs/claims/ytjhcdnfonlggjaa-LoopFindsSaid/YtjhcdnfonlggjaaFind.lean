/- The walks of loop.better and loop.Find; the statement LoopFinds. -/
import Derived.Test.YtjhcdnfonlggjaaSeam
namespace Go.Proofs.Ytjhcdnfonlggjaa
open Go.RowKit Go.Calli
set_option linter.unusedVariables false
/-- A loop is better than another one. -/
def Better (f1 t1 s1 f2 t2 s2 : Int) : Prop := s1 < s2 ∨ (s1 = s2 ∧ (t2 - f2 < t1 - f1 ∨ (t1 - f1 = t2 - f2 ∧ f1 < f2)))
instance (f1 t1 s1 f2 t2 s2 : Int) : Decidable (Better f1 t1 s1 f2 t2 s2) := by unfold Better; infer_instance
def betterB (f1 t1 s1 f2 t2 s2 : Int) : Bool := decide (Better f1 t1 s1 f2 t2 s2)
def BetterPost (b : Bool) (w : World) (e : Ending) (w' : World) : Prop := e = .returned (.bool b) ∧ Below w.heap.size w w'
set_option maxHeartbeats 400000 in
theorem better_any (f1 t1 s1 f2 t2 s2 : Int) (w : World) (h1 : 0 ≤ f1 ∧ f1 ≤ 1000) (h2 : 0 ≤ t1 ∧ t1 ≤ 1000) (h3 : 0 ≤ f2 ∧ f2 ≤ 1000) (h4 : 0 ≤ t2 ∧ t2 ≤ 1000) :
    Calls Try.prog 17 #[.agg #[.int .i64 f1, .int .i64 t1, .int .i64 s1], .agg #[.int .i64 f2, .int .i64 t2, .int .i64 s2]] w (BetterPost (betterB f1 t1 s1 f2 t2 s2) w) := by
  by_cases hs : s1 = s2
  · subst hs
    by_cases hn : t1 - f1 = t2 - f2
    · by_cases hf : f1 < f2
      · skip
        have hv : betterB f1 t1 s1 f2 t2 s1 = true := decide_eq_true (by unfold Better; omega)
        have HV := Lib.hid hv
        clear hv
        go_enter Try.func17, Try.ntmps17
        go_wp2
        go_ret
        rw [BetterPost, HV.out]
        exact ⟨rfl, (below_alloc _ _).alloc (by simp) _⟩
      · skip
        have hv : betterB f1 t1 s1 f2 t2 s1 = false := decide_eq_false (by unfold Better; omega)
        have HV := Lib.hid hv
        clear hv
        go_enter Try.func17, Try.ntmps17
        go_wp2
        go_ret
        rw [BetterPost, HV.out]
        exact ⟨rfl, (below_alloc _ _).alloc (by simp) _⟩
    · by_cases hf : t2 - f2 < t1 - f1
      · skip
        have hv : betterB f1 t1 s1 f2 t2 s1 = true := decide_eq_true (by unfold Better; omega)
        have HV := Lib.hid hv
        clear hv
        go_enter Try.func17, Try.ntmps17
        go_wp2
        go_ret
        rw [BetterPost, HV.out]
        exact ⟨rfl, (below_alloc _ _).alloc (by simp) _⟩
      · skip
        have hv : betterB f1 t1 s1 f2 t2 s1 = false := decide_eq_false (by unfold Better; omega)
        have HV := Lib.hid hv
        clear hv
        go_enter Try.func17, Try.ntmps17
        go_wp2
        go_ret
        rw [BetterPost, HV.out]
        exact ⟨rfl, (below_alloc _ _).alloc (by simp) _⟩
  · by_cases hf : s1 < s2
    · skip
      have hv : betterB f1 t1 s1 f2 t2 s2 = true := decide_eq_true (by unfold Better; omega)
      have HV := Lib.hid hv
      clear hv
      go_enter Try.func17, Try.ntmps17
      go_wp2
      go_ret
      rw [BetterPost, HV.out]
      exact ⟨rfl, (below_alloc _ _).alloc (by simp) _⟩
    · skip
      have hv : betterB f1 t1 s1 f2 t2 s2 = false := decide_eq_false (by unfold Better; omega)
      have HV := Lib.hid hv
      clear hv
      go_enter Try.func17, Try.ntmps17
      go_wp2
      go_ret
      rw [BetterPost, HV.out]
      exact ⟨rfl, (below_alloc _ _).alloc (by simp) _⟩

/-- A loop that there is. -/
def Valid (len : Nat) (least p q : Int) : Prop := 0 ≤ p ∧ p + least ≤ q ∧ q ≤ len
/-- The best of the loops that have been tried. -/
def BestAt (zs : List Int) (len : Nat) (least : Int) (D : Int → Int → Prop) (found : Bool) (bf bt bs : Int) : Prop :=
  (found = false → ∀ p q, Valid len least p q → ¬ D p q) ∧
  (found = true → Valid len least bf bt ∧ bs = seamTo zs bf bt 8 ∧ ∀ p q, Valid len least p q → D p q → ¬ Better p q (seamTo zs p q 8) bf bt bs)
/-- What has been tried at the head of a round. -/
def Done (F T : Int) (p q : Int) : Prop := p < F ∨ (p = F ∧ q < T)
theorem BestAt.congr {zs : List Int} {len : Nat} {least : Int} {D D' : Int → Int → Prop} {found : Bool} {bf bt bs : Int} (h : BestAt zs len least D found bf bt bs) (hd : ∀ p q, Valid len least p q → (D' p q → D p q)) : BestAt zs len least D' found bf bt bs :=
  ⟨fun hf p q hv hD => h.1 hf p q hv (hd p q hv hD), fun hf => ⟨(h.2 hf).1, (h.2 hf).2.1, fun p q hv hD => (h.2 hf).2.2 p q hv (hd p q hv hD)⟩⟩
theorem BestAt.keep {zs : List Int} {len : Nat} {least F T : Int} {found : Bool} {bf bt bs : Int} (h : BestAt zs len least (Done F T) found bf bt bs) (hf : found = true) (hn : ¬ Better F T (seamTo zs F T 8) bf bt bs) : BestAt zs len least (Done F (T + 1)) found bf bt bs := by
  refine ⟨fun e => (by rw [hf] at e; cases e), fun _ => ⟨(h.2 hf).1, (h.2 hf).2.1, fun p q hv hD => ?_⟩⟩
  by_cases hpq : p = F ∧ q = T
  · obtain ⟨rfl, rfl⟩ := hpq; exact hn
  · exact (h.2 hf).2.2 p q hv (by unfold Done at *; omega)
theorem BestAt.take {zs : List Int} {len : Nat} {least F T : Int} {found : Bool} {bf bt bs : Int} (h : BestAt zs len least (Done F T) found bf bt bs) (hv0 : Valid len least F T) (hb : found = true → Better F T (seamTo zs F T 8) bf bt bs) : BestAt zs len least (Done F (T + 1)) true F T (seamTo zs F T 8) := by
  refine ⟨fun e => (by cases e), fun _ => ⟨hv0, rfl, fun p q hv hD => ?_⟩⟩
  by_cases hpq : p = F ∧ q = T
  · obtain ⟨rfl, rfl⟩ := hpq; unfold Better; omega
  · have hD' : Done F T p q := by unfold Done at *; omega
    cases hf : found with
    | false => exact absurd hD' (h.1 hf p q hv)
    | true =>
      have h1 := (h.2 hf).2.2 p q hv hD'
      have h2 := hb hf
      unfold Better at *
      omega

/-- What Find answers. -/
def FindPost (zs : List Int) (len : Nat) (least : Int) (w : World) (e : Ending) (w' : World) : Prop :=
  ∃ bf bt bs, e = .returned (.tuple #[.agg #[.int .i64 bf, .int .i64 bt, .int .i64 bs], .bool true]) ∧ Valid len least bf bt ∧ bs = seamTo zs bf bt 8 ∧ (∀ p q, Valid len least p q → ¬ Better p q (seamTo zs p q 8) bf bt bs) ∧ Below w.heap.size w w'
def FindNone (w : World) (e : Ending) (w' : World) : Prop :=
  e = .returned (.tuple #[.agg #[.int .i64 0, .int .i64 0, .int .i64 0], .bool false]) ∧ Below w.heap.size w w'

theorem three_same {w : World} {b : Nat} {x y z : Value} {t : Nat} (h : w.heap[b]? = some (.cells #[x, y, z] t (0, 0))) (x' y' z' : Value) :
    (((w.setCell ⟨b, 0, none⟩ x').setCell ⟨b, 1, none⟩ y').setCell ⟨b, 2, none⟩ z').heap[b]? = some (.cells #[x', y', z'] t (0, 0)) := by
  rw [heap_setCell_same _ _ _ _ _ _ (heap_setCell_same _ _ _ _ _ _ (heap_setCell_same _ _ _ _ _ _ h))]; rfl
theorem three_other {w : World} {b k : Nat} (h : k ≠ b) (x' y' z' : Value) :
    (((w.setCell ⟨b, 0, none⟩ x').setCell ⟨b, 1, none⟩ y').setCell ⟨b, 2, none⟩ z').heap[k]? = w.heap[k]? := by
  rw [heap_setCell_other _ _ _ _ h, heap_setCell_other _ _ _ _ h, heap_setCell_other _ _ _ _ h]
/-- Find's two variables: what it answers, and the best loop so far. -/
structure Two (w wr : World) (bf bt bs : Int) : Prop where
  res : wr.heap[w.heap.size]? = some (.cells #[.int .i64 0, .int .i64 0, .int .i64 0] 34 (0, 0))
  best : wr.heap[w.heap.size + 1]? = some (.cells #[.int .i64 bf, .int .i64 bt, .int .i64 bs] 34 (0, 0))
  below : Below w.heap.size w wr
theorem Two.later {w wr w2 : World} {bf bt bs : Int} (h : Two w wr bf bt bs) (hb : Below wr.heap.size wr w2) : Two w w2 bf bt bs :=
  ⟨(hb.block _ (lt_of_block h.res)).trans h.res, (hb.block _ (lt_of_block h.best)).trans h.best, h.below.trans (hb.mono h.below.size)⟩
theorem Two.set {w wr : World} {bf bt bs : Int} (h : Two w wr bf bt bs) (x y z : Int) : Two w (((wr.setCell ⟨w.heap.size + 1, 0, none⟩ (.int .i64 x)).setCell ⟨w.heap.size + 1, 1, none⟩ (.int .i64 y)).setCell ⟨w.heap.size + 1, 2, none⟩ (.int .i64 z)) x y z :=
  ⟨(three_other (Nat.ne_of_lt (Nat.lt_succ_self _)) _ _ _).trans h.res, three_same h.best _ _ _, ((h.below.setCell (Nat.le_succ _) _).setCell (Nat.le_succ _) _).setCell (Nat.le_succ _) _⟩
theorem Two.alloc {w wr : World} {bf bt bs : Int} (h : Two w wr bf bt bs) (o : Obj) : Two w (wr.alloc o) bf bt bs := h.later (below_alloc _ _)
theorem three_cells {w : World} {b : Nat} {x y z : Value} {t : Nat} (h : w.heap[b]? = some (.cells #[x, y, z] t (0, 0))) :
    w.cell? ⟨b, 0, none⟩ = some x ∧ w.cell? ⟨b, 1, none⟩ = some y ∧ w.cell? ⟨b, 2, none⟩ = some z ∧ w.frozen? ⟨b, 0, none⟩ = false ∧ w.frozen? ⟨b, 1, none⟩ = false ∧ w.frozen? ⟨b, 2, none⟩ = false :=
  ⟨(cell_of_row _ _ _ _ _ _ h).trans rfl, (cell_of_row _ _ _ _ _ _ h).trans rfl, (cell_of_row _ _ _ _ _ _ h).trans rfl, frozen_of_row _ _ _ _ _ h, frozen_of_row _ _ _ _ _ h, frozen_of_row _ _ _ _ _ h⟩
theorem new_three {w w2 : World} {x y z : Value} {t : Nat} (hb : Below (w.alloc (.cells #[x, y, z] t)).heap.size (w.alloc (.cells #[x, y, z] t)) w2) :
    w2.cell? ⟨w.heap.size, 0, none⟩ = some x ∧ w2.cell? ⟨w.heap.size, 1, none⟩ = some y ∧ w2.cell? ⟨w.heap.size, 2, none⟩ = some z := by
  have h : w2.heap[w.heap.size]? = some (.cells #[x, y, z] t (0, 0)) := (hb.block _ (by simp)).trans (heap_alloc_new _ _)
  obtain ⟨a, b, c, _⟩ := three_cells h
  exact ⟨a, b, c⟩
set_option maxRecDepth 100000 in
set_option maxHeartbeats 1000000 in
theorem find_any (ao : Option Addr) (len cap : Nat) (zs : List Int) (least : Int) (w : World) (h : Ints .i64 w ao len zs) (hs : Small zs) (hlm : len ≤ 100) (h1 : 1 ≤ least) (h2 : least ≤ len) :
    Calls Try.prog 14 #[.slice ao len cap, .int .i64 least] w (FindPost zs len least w) := by
  go_enter Try.func14, Try.ntmps14
  go_wp2_with fail
  go_loopw [7, 27] (fun vf i wr => ∃ F : Nat, F ≤ len ∧ i = .int .i64 F ∧ ∃ (b : Bool) (bf bt bs : Int), vf = .bool b ∧ Two w wr bf bt bs ∧ BestAt zs len least (Done F (F + least)) b bf bt bs) (fun _ i _ => (len - intOf i).toNat)
  case atStart => exact ⟨0, by omega, rfl, false, 0, 0, 0, rfl, ⟨heap_alloc2_old _ _ _, heap_alloc2_new _ _ _, (below_alloc _ _).alloc (by simp) _⟩, ⟨fun _ p q hv hd => by unfold Valid at hv; unfold Done at hd; omega, fun e => by cases e⟩⟩
  case round =>
    obtain ⟨F, hF, rfl, b, bf, bt, bs, rfl, hT, hB⟩ := hrel
    have HB := Lib.hid hB
    clear hB
    by_cases hlt : F < len
    · go_wp2_with fail
      obtain ⟨wo, rfl⟩ : ∃ wo : World, wo = wr := ⟨_, rfl⟩
      go_loopw [7, 9] (fun vf t wr => ∃ T : Int, (F : Int) + least ≤ T ∧ T ≤ len + 1 + least ∧ t = .int .i64 T ∧ ∃ (b : Bool) (bf bt bs : Int), vf = .bool b ∧ Two w wr bf bt bs ∧ BestAt zs len least (Done F T) b bf bt bs) (fun _ t _ => (len + 1 + least - intOf t).toNat)
      case atStart => exact ⟨F + least, by omega, by omega, rfl, b, bf, bt, bs, rfl, hT, HB.out⟩
      case round =>
        clear hT HB
        obtain ⟨T, hT1, hT2, rfl, b, bf, bt, bs, rfl, hT, hB⟩ := hrel
        have HB := Lib.hid hB
        have hp1 := hT.best
        have hbel := hT.below
        clear hB
        by_cases hTl : T ≤ len
        · have c0 : wr.cell? ⟨w.heap.size + 1, 0, none⟩ = some (.int .i64 bf) := by rw [cell_of_row _ _ _ _ _ _ hp1]; rfl
          have c1 : wr.cell? ⟨w.heap.size + 1, 1, none⟩ = some (.int .i64 bt) := by rw [cell_of_row _ _ _ _ _ _ hp1]; rfl
          have c2 : wr.cell? ⟨w.heap.size + 1, 2, none⟩ = some (.int .i64 bs) := by rw [cell_of_row _ _ _ _ _ _ hp1]; rfl
          have f0 := frozen_of_row wr (w.heap.size + 1) 0 _ _ hp1
          have f1 := frozen_of_row wr (w.heap.size + 1) 1 _ _ hp1
          have f2 := frozen_of_row wr (w.heap.size + 1) 2 _ _ hp1
          have hsz : w.heap.size + 1 < wr.heap.size := lt_of_block hp1
          clear hp1
          cases b with
          | false =>
            go_wp2_with (go_at_call 10; refine (seam_any _ _ _ _ _ _ _ (h.keep0 hbel) hs (by omega) (by omega)).mono ?_; rintro e w' ⟨rfl, rfl⟩)
            go_roundw
            case rel =>
              exact ⟨T + 1, by omega, by omega, rfl, true, F, T, seamTo zs F T 8, rfl, (hT.set _ _ _).alloc _, HB.out.take (by unfold Valid; omega) (fun e => by cases e)⟩
            case measure => simp [intOf]; omega
          | true =>
            obtain ⟨hv0, hbs, -⟩ := HB.out.2 rfl
            unfold Valid at hv0
            clear hbs
            by_cases hbt : Better F T (seamTo zs F T 8) bf bt bs
            · have hbb : betterB F T (seamTo zs F T 8) bf bt bs = true := decide_eq_true hbt
              have HBT := Lib.hid hbt
              have HBB := Lib.hid hbb
              clear hbt hbb
              go_wp2_with (first | (go_at_call 10; refine (seam_any _ _ _ _ _ _ _ (h.keep0 hbel) hs (by omega) (by omega)).mono ?_; rintro e w' ⟨rfl, rfl⟩) | (go_at_call 17; refine (better_any _ _ _ _ _ _ _ (by omega) (by omega) (by omega) (by omega)).mono ?_; rw [HBB.out]; rintro e w2 ⟨rfl, hb2⟩; have hT2 := (hT.alloc _).later hb2; obtain ⟨k0, k1, k2, g0, g1, g2⟩ := three_cells hT2.best; obtain ⟨n0, n1, n2⟩ := new_three hb2))
              go_roundw
              case rel => exact ⟨T + 1, by omega, by omega, rfl, true, F, T, seamTo zs F T 8, rfl, hT2.set _ _ _, HB.out.take (by unfold Valid; omega) (fun _ => HBT.out)⟩
              case measure => simp [intOf]; omega
            · have hbb : betterB F T (seamTo zs F T 8) bf bt bs = false := decide_eq_false hbt
              have HBT := Lib.hid hbt
              have HBB := Lib.hid hbb
              clear hbt hbb
              go_wp2_with (first | (go_at_call 10; refine (seam_any _ _ _ _ _ _ _ (h.keep0 hbel) hs (by omega) (by omega)).mono ?_; rintro e w' ⟨rfl, rfl⟩) | (go_at_call 17; refine (better_any _ _ _ _ _ _ _ (by omega) (by omega) (by omega) (by omega)).mono ?_; rw [HBB.out]; rintro e w2 ⟨rfl, hb2⟩; have hT2 := (hT.alloc _).later hb2; obtain ⟨k0, k1, k2, g0, g1, g2⟩ := three_cells hT2.best; obtain ⟨n0, n1, n2⟩ := new_three hb2))
              go_roundw
              case rel => exact ⟨T + 1, by omega, by omega, rfl, true, bf, bt, bs, rfl, hT2, HB.out.keep rfl HBT.out⟩
              case measure => simp [intOf]; omega
        · clear hp1
          go_wp2_with fail
          go_roundw
          case rel => exact ⟨F + 1, by omega, by go_num, b, bf, bt, bs, rfl, hT, HB.out.congr (fun p q hv hd => by unfold Valid at hv; unfold Done at *; omega)⟩
          case measure => simp [intOf]; omega
    · obtain rfl : F = len := by omega
      obtain rfl : b = true := by
        cases b with
        | true => rfl
        | false => exact absurd (show Done F (F + least) 0 least by unfold Done; omega) (HB.out.1 rfl 0 least (by unfold Valid; omega))
      obtain ⟨hv0, hbs, hno⟩ := HB.out.2 rfl
      obtain ⟨k0, k1, k2, g0, g1, g2⟩ := three_cells hT.best
      obtain ⟨r0, r1, r2, q0, q1, q2⟩ := three_cells hT.res
      have hbel := hT.below
      have HBS := Lib.hid hbs
      have HV := Lib.hid hv0
      have HNO := Lib.hid hno
      clear hbs hv0 hno
      go_wp2_with fail
      have hfin : Below w.heap.size w (((wr.setCell ⟨w.heap.size, 0, none⟩ (.int .i64 bf)).setCell ⟨w.heap.size, 1, none⟩ (.int .i64 bt)).setCell ⟨w.heap.size, 2, none⟩ (.int .i64 bs)) :=
        ((hbel.setCell (Nat.le_refl _) _).setCell (Nat.le_refl _) _).setCell (Nat.le_refl _) _
      obtain ⟨s0, s1, s2, _⟩ := three_cells (three_same hT.res (.int .i64 bf) (.int .i64 bt) (.int .i64 bs))
      refine bodyPost_ret (v := .tuple #[.agg #[.int .i64 bf, .int .i64 bt, .int .i64 bs], .bool true]) (by simp [results, Try.results14, go_sem, s0, s1, s2]) rfl ?_
      exact ⟨bf, bt, bs, rfl, HV.out, HBS.out, fun p q hv => HNO.out p q hv (by unfold Valid at hv; unfold Done; omega), hfin⟩

set_option maxRecDepth 100000 in
set_option maxHeartbeats 1000000 in
theorem find_none (ao : Option Addr) (len cap : Nat) (least : Int) (w : World) (hlm : len ≤ 100) (h : least < 1 ∨ (len : Int) < least) :
    Calls Try.prog 14 #[.slice ao len cap, .int .i64 least] w (FindNone w) := by
  by_cases h1 : least < 1
  · clear h
    go_enter Try.func14, Try.ntmps14
    go_wp2_with fail
    refine bodyPost_ret (v := .tuple #[.agg #[.int .i64 0, .int .i64 0, .int .i64 0], .bool false]) (by simp [results, Try.results14, go_sem]) rfl ?_
    exact ⟨rfl, below_alloc _ _⟩
  · have h2 : (len : Int) < least := by omega
    clear h
    go_enter Try.func14, Try.ntmps14
    go_wp2_with fail
    refine bodyPost_ret (v := .tuple #[.agg #[.int .i64 0, .int .i64 0, .int .i64 0], .bool false]) (by simp [results, Try.results14, go_sem]) rfl ?_
    exact ⟨rfl, below_alloc _ _⟩
end Go.Proofs.Ytjhcdnfonlggjaa

/- The walk of Of. -/
import Derived.Test.YtidjcbmdmecajaaAny
namespace Go.Proofs.Ytidjcbmdmecajaa
open Go Go.RowKit Go.Calli
set_option linter.unusedVariables false
set_option linter.unusedSimpArgs false
attribute [local irreducible] wpStill wpAnyH wpAnyS wpList Code.wp
theorem ofL_take (l : List En) (a b : Int) (j : Nat) (h : j < l.length) : ofL (l.take (j + 1)) a b = ofL (l.take j) a b ++ (if (l.getD j e0).i = a ∧ (l.getD j e0).l.v = b then [(l.getD j e0).l] else []) := by
  rw [List.take_succ_eq_append_getElem h, ofL_snoc]; simp [List.getD, h]
def OfRel (l : List En) (i v : Int) (n : Nat) (B : Nat) (w1 : World) (v7 v13 : Value) (wr : World) : Prop := ∃ (j N : Nat), j ≤ n ∧ N ≤ j ∧ v13 = .int .i64 j ∧ wr.ownsRow B 34 3 v7 N ((ofL (l.take j) i v).flatMap valsL) ∧ Below B w1 wr
set_option maxHeartbeats 2000000 in
theorem of_any (b B : Nat) (vl ve : Value) (g : Lg) (i v : Int) (hn : g.lost.length ≤ 100000) (w : World) (h : LogIs w b B vl ve g) : Calls Try.prog 9 #[.pointer (some ⟨b, 0, none⟩), .int .i64 i, .int .i64 v] w (ClPost valsL 3 l0 (ofL g.lost i v) w) := by
  have hL := lost_any b B vl ve g w h hn
  go_enter Try.func9, Try.ntmps9
  go_upto_region 3 with (go_at_call 13; refine hL.mono ?_; rintro e w1 ⟨ro, rc, rfl, hc1, hR, hb1⟩)
  generalize g.lost = l at *
  clear hL h
  go_loopw [7, 13] (fun v7 v13 wr => OfRel l i v l.length w1.heap.size w1 v7 v13 wr) (fun _ v13 _ => (l.length - (intOf v13).toNat))
  case atStart => exact ⟨0, 0, by omega, by omega, rfl, World.ownsRow_nil _ _ _ _, Below.refl _ _⟩
  case round =>
    obtain ⟨j, N, hj, hN, rfl, hown, hb⟩ := hrel
    by_cases hlt : j < l.length
    · obtain ⟨a, rfl, hcell⟩ := (hR.keep0 hb).cell j hlt
      have ht := ofL_take l i v j hlt
      generalize l.getD j e0 = x at *
      obtain ⟨xi, xv, xc, xb⟩ := x
      simp only at ht
      have q0 : wr.cell? (a.add (j * 4)) = some (.int .i64 xi) := hcell 0 _ rfl
      have q1 : wr.cell? ⟨(a.add (j * 4)).block, (a.add (j * 4)).off + 1, none⟩ = some (.int .i64 xv) := hcell 1 _ rfl
      have q2 : wr.cell? ⟨(a.add (j * 4)).block, (a.add (j * 4)).off + 2, none⟩ = some (.int .i64 xc) := hcell 2 _ rfl
      have q3 : wr.cell? ⟨(a.add (j * 4)).block, (a.add (j * 4)).off + 3, none⟩ = some (.int .i64 xb) := hcell 3 _ rfl
      clear hcell
      have hownA := own_below0 hown (below_alloc wr (.cells #[.int .i64 xi, .int .i64 xv, .int .i64 xc, .int .i64 xb] 43))
      have hbA : Below w1.heap.size w1 (wr.alloc (.cells #[.int .i64 xi, .int .i64 xv, .int .i64 xc, .int .i64 xb] 43)) := balloc hb _
      by_cases he : xi = i ∧ xv = v
      · rw [if_pos he] at ht
        obtain ⟨rfl, rfl⟩ := he
        have HT := Lib.hid ht
        clear ht hown
        go_wp2_with (at_builtin; refine wpList_append_rec rfl (.tmp 28) (.tmp 31) 27 34 3 rfl Try.underlying27 infoL rfl (by decide) w1.heap.size _ _ _ rfl hownA (valsL ⟨xv, xc, xb⟩) rfl (by rw [World.size_alloc] <;> rfl) (valsL_one _) ?_ ?_ ?_ ?_)
        case refine_1 => omega
        case refine_2 => unfold maxLen; omega
        case refine_3 => exact hbA.size
        intro v' w3 hown' hk
        have hb3 := hbA.trans (owns_below hownA hk hbA.size)
        have hown2 : w3.ownsRow w1.heap.size 34 3 v' (N + 1) ((ofL (l.take (j + 1)) xi xv).flatMap valsL) := by rw [HT.out, List.flatMap_append]; simpa using hown'
        clear hown' hk hownA hbA
        go_wp2_with fail
        refine ⟨⟨j + 1, N + 1, by omega, by omega, by go_num, hown2, hb3⟩, ?_⟩
        simp [intOf]; omega
      · rw [if_neg he, List.append_nil] at ht
        rw [← ht] at hownA
        clear ht hown
        by_cases he1 : xi = i
        · have he2 : ¬ xv = v := fun h => he ⟨he1, h⟩
          obtain rfl := he1
          clear he
          go_wp2_with fail
          refine ⟨⟨j + 1, N, by omega, by omega, by go_num, hownA, hbA⟩, ?_⟩
          simp [intOf]; omega
        · clear he
          go_wp2_with fail
          refine ⟨⟨j + 1, N, by omega, by omega, by go_num, hownA, hbA⟩, ?_⟩
          simp [intOf]; omega
    · obtain rfl : j = l.length := by omega
      rw [List.take_length] at hown
      obtain ⟨qo, qc, rfl, hqc, hQ, _⟩ := own_recs l0 valsL_len (by decide) hown
      have HL := Lib.hid hQ.hlen
      clear hown
      go_wp2_with fail
      go_ret
      exact ⟨qo, qc, by rw [HL.out]; rfl, by rw [HL.out]; exact hqc, by rw [HL.out]; exact hQ, bstep hb1 hb⟩
end Go.Proofs.Ytidjcbmdmecajaa

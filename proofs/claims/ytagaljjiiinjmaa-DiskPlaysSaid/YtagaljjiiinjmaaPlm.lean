/- The walk of the law's own making of a disk. -/
import Derived.Test.YtagaljjiiinjmaaPlr
import Derived.Deep.RegionWith
import Derived.Test.YtagaljjiiinjmaaZer
namespace Go.Proofs.Ytagaljjiiinjmaa
open Go Go.RowKit Go.Calli Go.Dskp Go.Maps
set_option linter.unusedVariables false
set_option linter.unusedSimpArgs false
attribute [local irreducible] wpStill wpAnyH wpAnyS wpList Code.wp
def mkPl (zs : List Int) (n : Nat) : Pl := ⟨zs ++ List.replicate (64 * n - zs.length) 0, List.replicate n 0, List.replicate n 0, List.replicate n 0, 0, 0⟩
def MkPost (zs : List Int) (n : Nat) (w : World) (e : Ending) (w' : World) : Prop := ∃ pb fb ab xb io ik, e = .returned (.pointer (some ⟨pb, 0, none⟩)) ∧ Pln w' pb fb ab xb io ik n (mkPl zs n) ∧ w.heap.size ≤ pb ∧ w.heap.size ≤ fb ∧ w.heap.size ≤ ab ∧ w.heap.size ≤ xb ∧ (∀ a, io = some a → w.heap.size ≤ a.block) ∧ Below w.heap.size w w'
theorem infoInt : (Try.prog.info? 3).map (fun i => (i.zero, i.size, i.bytes)) = some (some (.int .i64 0), 1, 8) := by kernel_rfl
theorem make_eq {P : Program} (t e : TypeId) (k : IntKind) (hu : P.underlying t = some (.slice e)) {bytes : Nat} (hinfo : (P.info? e).map (fun i => (i.zero, i.size, i.bytes)) = some (some (.int k 0), 1, bytes)) (hb8 : bytes ≤ 8) (n : Nat) (hn : n ≤ 1000000) (w : World) :
    (Instr.makeSlice t (.int .i64 (n : Int)) (.int .i64 (n : Int))).run P w = .ok (.slice (some ⟨w.heap.size, 0, none⟩) n n) (w.alloc (.cells (List.replicate n (Value.int k 0)).toArray e)) := by
  obtain ⟨i, hi, hz, hsz, hby⟩ := info_parts hinfo
  have hb : i.bytes * n ≤ 281474976710656 := by rw [hby]; exact Nat.le_trans (Nat.mul_le_mul hb8 hn) (by decide)
  have hb2 : (i.bytes : Int) * (n : Int) ≤ 281474976710656 := by
    have h : ((i.bytes * n : Nat) : Int) ≤ 281474976710656 := by omega
    rwa [Int.natCast_mul] at h
  have hr := run_make (P := P) w t e i (.int k 0) hu hi hz .i64 .i64 n n (by omega) (Int.le_refl _) hb2 (by omega)
  simp only [Int.toNat_natCast] at hr
  rw [hr, hsz, Nat.mul_one]
  congr 3
  apply Array.toList_inj.1
  rw [made_list]
theorem four_rows (w : World) (r1 r2 r3 r4 : Obj) : ∀ W, W = ((((w.alloc r1).alloc r2).alloc r3).alloc r4).drew →
    W.heap[w.heap.size]? = some r1 ∧ W.heap[w.heap.size + 1]? = some r2 ∧ W.heap[w.heap.size + 1 + 1]? = some r3 ∧ W.heap[w.heap.size + 1 + 1 + 1]? = some r4 ∧ Below w.heap.size w W := by
  rintro W rfl
  obtain ⟨a1, a2⟩ := MapKept.heap_alloc w r1
  obtain ⟨b1, b2⟩ := MapKept.heap_alloc (w.alloc r1) r2
  obtain ⟨c1, c2⟩ := MapKept.heap_alloc ((w.alloc r1).alloc r2) r3
  obtain ⟨d1, d2⟩ := MapKept.heap_alloc (((w.alloc r1).alloc r2).alloc r3) r4
  simp only [World.size_alloc] at a1 a2 b1 b2 c1 c2 d1 d2
  refine ⟨?_, ?_, ?_, d1, (balloc (balloc (balloc (below_alloc _ _) _) _) _).drew⟩
  · exact (d2 _ (by omega)).trans ((c2 _ (by omega)).trans ((b2 _ (by omega)).trans a1))
  · exact (d2 _ (by omega)).trans ((c2 _ (by omega)).trans b1)
  · exact (d2 _ (by omega)).trans c1
/-- The law's disk, its image still to come. -/
def Half (n : Nat) (R3 R5 : Array Value) (w : World) (v : Value) (wx : World) : Prop := ∃ pb fb ab xb, v = .pointer (some ⟨pb, 0, none⟩) ∧ wx.heap[pb]? = some (.cells #[.slice none 0 0, .slice (some ⟨fb, 0, none⟩) n n, .slice (some ⟨ab, 0, none⟩) n n, .slice (some ⟨xb, 0, none⟩) n n, .int .i64 0, .int .i64 0] 43 (0, 0)) ∧
  wx.heap[fb]? = some (.cells R3 3 (0, 0)) ∧ wx.heap[ab]? = some (.cells R3 3 (0, 0)) ∧ wx.heap[xb]? = some (.cells R5 5 (0, 0)) ∧
  (fb ≠ ab ∧ fb ≠ xb ∧ ab ≠ xb ∧ pb ≠ fb ∧ pb ≠ ab ∧ pb ≠ xb ∧ w.heap.size ≤ pb ∧ w.heap.size ≤ fb ∧ w.heap.size ≤ ab ∧ w.heap.size ≤ xb) ∧ Below w.heap.size w wx
theorem one_rep (k : Nat) : ∀ u ∈ List.replicate k (Value.int .u8 0), u.oneCell' = true := by
  intro u hu
  rw [(List.mem_replicate.1 hu).2]; rfl
theorem own_empty {W : World} {B g : Nat} (hg : W.heap[g]? = some (.cells #[] 5 (0, 0))) (hb : B ≤ g) : W.ownsRow B 5 1 (.slice (some ⟨g, 0, none⟩) 0 0) 0 [] :=
  ⟨rfl, Or.inr ⟨g, 0, #[], rfl, hb, hg, Nat.le_refl _, by unfold maxLen; omega, rfl, rfl⟩⟩
theorem row_rk {W : World} {g k e : Nat} {v : Value} {RK : Array Value} (hRK : RK = (List.replicate k v).toArray) (hg : W.heap[g]? = some (.cells RK e (0, 0))) : Row W (some ⟨g, 0, none⟩) k (List.replicate k v) := by
  subst hRK
  refine ⟨List.length_replicate, fun i u hu => ⟨_, rfl, ?_⟩⟩
  rw [add0, cell_of_row _ _ _ _ _ _ hg, Nat.zero_add]
  rw [List.getElem?_toArray]; exact hu
theorem half_mk (n : Nat) (R3 R5 : Array Value) (w : World) (p x y z : Nat) (W : World) (hp : W.heap[p]? = some (.cells #[.slice none 0 0, .slice (some ⟨x, 0, none⟩) n n, .slice (some ⟨y, 0, none⟩) n n, .slice (some ⟨z, 0, none⟩) n n, .int .i64 0, .int .i64 0] 43 (0, 0))) (hx : W.heap[x]? = some (.cells R3 3 (0, 0))) (hy : W.heap[y]? = some (.cells R3 3 (0, 0))) (hz : W.heap[z]? = some (.cells R5 5 (0, 0)))
    (hne : x ≠ y ∧ x ≠ z ∧ y ≠ z ∧ p ≠ x ∧ p ≠ y ∧ p ≠ z ∧ w.heap.size ≤ p ∧ w.heap.size ≤ x ∧ w.heap.size ≤ y ∧ w.heap.size ≤ z) (hB : Below w.heap.size w W) : Half n R3 R5 w (.pointer (some ⟨p, 0, none⟩)) W := ⟨p, x, y, z, rfl, hp, hx, hy, hz, hne, hB⟩
set_option maxRecDepth 100000 in
set_option maxHeartbeats 4000000 in
theorem made_any (ao : Option Addr) (l cap : Nat) (zs : List Int) (hl : l ≤ 500) (w : World) (h : Ints .u8 w ao l zs) : Calls Try.prog 11 #[.slice ao l cap] w (MkPost zs ((l + 63) / 64) w) := by
  obtain ⟨n, hn⟩ : ∃ n, n = (l + 63) / 64 := ⟨_, rfl⟩
  rw [← hn]
  have hn9 : n ≤ 9 := by omega
  have hni : ((l : Int) + 63) / 64 = (n : Int) := by omega
  have h64 : l ≤ 64 * n := by omega
  clear hn
  have hm3 := make_eq (P := Try.prog) 41 3 .i64 Try.underlying41 infoInt (by decide) n (by omega)
  have hm5 := make_eq (P := Try.prog) 22 5 .u8 Try.underlying22 infoByte (by decide) n (by omega)
  obtain ⟨R3, hR3⟩ : ∃ R3, R3 = (List.replicate n (Value.int .i64 0)).toArray := ⟨_, rfl⟩
  obtain ⟨R5, hR5⟩ : ∃ R5, R5 = (List.replicate n (Value.int .u8 0)).toArray := ⟨_, rfl⟩
  rw [← hR3] at hm3
  rw [← hR5] at hm5
  have HR3 := Lib.hid hR3
  have HR5 := Lib.hid hR5
  clear hR3 hR5
  go_enter Try.func11, Try.ntmps11
  go_upto_region 2 with fail
  rw [hni]
  go_cut [4] (fun v wx => Half n R3 R5 w v wx)
  case first =>
    go_region_with (fail)
    all_goals
      try simp only [Act.put, List.getElem_toArray, List.getElem_cons_succ, List.getElem_cons_zero, List.setIfInBounds_toArray, List.set_cons_zero, List.set_cons_succ]
      go_wp2_with fail
      go_meet
      obtain ⟨t1, t2, t3, t4, t5⟩ := four_rows w _ _ _ _ _ rfl
      first
        | exact half_mk n R3 R5 w (w.heap.size + 1 + 1 + 1) w.heap.size (w.heap.size + 1) (w.heap.size + 1 + 1) _ t4 t1 t2 t3 (by omega) t5
        | exact half_mk n R3 R5 w (w.heap.size + 1 + 1 + 1) w.heap.size (w.heap.size + 1 + 1) (w.heap.size + 1) _ t4 t1 t3 t2 (by omega) t5
        | exact half_mk n R3 R5 w (w.heap.size + 1 + 1 + 1) (w.heap.size + 1) w.heap.size (w.heap.size + 1 + 1) _ t4 t2 t1 t3 (by omega) t5
        | exact half_mk n R3 R5 w (w.heap.size + 1 + 1 + 1) (w.heap.size + 1) (w.heap.size + 1 + 1) w.heap.size _ t4 t2 t3 t1 (by omega) t5
        | exact half_mk n R3 R5 w (w.heap.size + 1 + 1 + 1) (w.heap.size + 1 + 1) w.heap.size (w.heap.size + 1) _ t4 t3 t1 t2 (by omega) t5
        | exact half_mk n R3 R5 w (w.heap.size + 1 + 1 + 1) (w.heap.size + 1 + 1) (w.heap.size + 1) w.heap.size _ t4 t3 t2 t1 (by omega) t5
  case rest =>
  obtain ⟨pb, fb, ab, xb, rfl, r1, r2, r3, r4, hne, hB⟩ := hcut
  clear hm3 hm5
  have hIc := h.keep0 hB
  have hRow := hIc.row
  have hnil := hIc.nil_len
  obtain ⟨k, hk⟩ : ∃ k, k = 64 * n - l := ⟨_, rfl⟩
  have hk2 : 64 * (n : Int) - (l : Int) = (k : Int) := by omega
  have hlk : l + k = 64 * n := by omega
  have HK := Lib.hid hk
  clear hk hni
  have hpbl : pb < wc.heap.size := (Array.getElem?_eq_some_iff.1 r1).1
  have E1 := (MapKept.heap_alloc wc (.cells #[] 5)).1
  have B1 : Below wc.heap.size wc (wc.alloc (.cells #[] 5)) := below_alloc _ _
  obtain ⟨i5, hi5, hz5, hs5, hb5⟩ := info_parts infoByte
  go_upto_region 3 with fail
  go_upto_region 4 with (at_builtin; first | (refine wpList_append_row rfl (.tmp 18) (.tmp 19) 22 5 rfl Try.underlying22 infoByte rfl wc.heap.size (.slice (some ⟨wc.heap.size, 0, none⟩) 0 0) 0 [] rfl (own_empty E1 (Nat.le_refl _)) ao l cap (zs.map (Value.int .u8)) rfl (hRow.keep0 B1) (one_ints _ _) hnil (by omega) (by unfold maxLen; omega) B1.size ?_; intro v' w5 hown hkp; rw [Nat.zero_add, List.nil_append] at hown; have hB5 := B1.trans (owns_below (own_empty E1 (Nat.le_refl _)) hkp B1.size)) | (refine wpList_append_zeros rfl (.tmp 20) (.tmp 25) 22 3 5 rfl i5 (Value.int .u8 0) .i64 Try.underlying22 Try.underlying3 hi5 hz5 hs5 (by rw [hb5]; decide) rfl rfl wc.heap.size v' l (zs.map (Value.int .u8)) rfl hown k (by simp [Act.eval] <;> omega) (by omega) hB5.size ?_; intro v2 w6 hown6 hkp6; have hB6 := hB5.trans (owns_below hown hkp6 hB5.size); rw [hlk] at hown6; obtain ⟨io, ik, rfl, hik, hR6, hlim6, hund6, hblk6⟩ := own_slice hown6; have q1 := (hB6.block pb hpbl).trans r1; obtain ⟨c0, c1, c2, c3, c4, c5, -, -⟩ := six_cells q1; have f0 := frozen_of_row _ _ 0 _ _ q1))
  go_wp2_with fail
  go_ret
  obtain ⟨n1, n2, n3, n4, n5, n6, m1, m2, m3, m4⟩ := hne
  have l2 := (Array.getElem?_eq_some_iff.1 r2).1
  have l3 := (Array.getElem?_eq_some_iff.1 r3).1
  have l4 := (Array.getElem?_eq_some_iff.1 r4).1
  have q2 := (hB6.block fb l2).trans r2
  have q3 := (hB6.block ab l3).trans r3
  have q4 := (hB6.block xb l4).trans r4
  have hKp : Keeps (fun j => j = pb) w6 (w6.setCell ⟨pb, 0, none⟩ (.slice io (64 * n) ik)) := (Keeps.refl (fun j => j = pb) w6).setCell (p := ⟨pb, 0, none⟩) (.inr rfl) _
  have hBf : Below w.heap.size w (w6.setCell ⟨pb, 0, none⟩ (.slice io (64 * n) ik)) := (bstep hB hB6).setCell (p := ⟨pb, 0, none⟩) m1 _
  have hzl := h.hlen
  have himg : Ints .u8 w6 io (64 * n) (zs ++ List.replicate k 0) := by
    refine Row.ints (by rw [List.map_append, List.map_replicate]; exact hR6) hlim6 ?_
    intro z hz
    rcases List.mem_append.1 hz with hz | hz
    · exact h.wf z hz
    · rw [(List.mem_replicate.1 hz).2]; decide
  have hmk : mkPl zs n = ⟨zs ++ List.replicate k 0, List.replicate n 0, List.replicate n 0, List.replicate n 0, 0, 0⟩ := by
    unfold mkPl; rw [hzl, ← HK.out]
  refine ⟨pb, fb, ab, xb, io, ik, rfl, ?_, m1, m2, m3, m4, fun a ha => Nat.le_trans hB.size (hblk6 a ha).1, hBf⟩
  rw [hmk]
  refine { row := heap_setCell_same _ _ _ _ _ _ q1, rf := ?_, ra := ?_, rx := ?_, lf := List.length_replicate, la := List.length_replicate, lx := List.length_replicate, img := himg.kept hKp (fun a ha e => by have := (hblk6 a ha).1; omega), cap := hik, n1 := n1, n2 := n2, n3 := n3, n4 := n4, n5 := n5, n6 := n6, n7 := fun a ha => by have := (hblk6 a ha).1; exact ⟨by omega, by omega, by omega, by omega⟩ }
  · rw [hKp.heap q2 n4.symm, HR3.out]; simp
  · rw [hKp.heap q3 n5.symm, HR3.out]; simp
  · rw [hKp.heap q4 n6.symm, HR5.out]; simp
end Go.Proofs.Ytagaljjiiinjmaa

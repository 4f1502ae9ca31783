/- The statement DiskPlays. -/
import Derived.Test.YtagaljjiiinjmaaCal
namespace Go.Proofs.Ytagaljjiiinjmaa
open Go Go.RowKit Go.Calli Go.Dskp Go.Maps
set_option linter.unusedVariables false
set_option linter.unusedSimpArgs false
attribute [local irreducible] wpStill wpAnyH wpAnyS wpList Code.wp
/-- A call of the script. -/
structure Opr where
  k : Int
  p : Int
  n : Int
  x : Int
def o0 : Opr := ⟨0, 0, 0, 0⟩
def At4 (w : World) (A : Addr) (o : Opr) : Prop := w.cell? A = some (.int .i64 o.k) ∧ w.cell? ⟨A.block, A.off + 1, none⟩ = some (.int .i64 o.p) ∧ w.cell? ⟨A.block, A.off + 2, none⟩ = some (.int .i64 o.n) ∧ w.cell? ⟨A.block, A.off + 3, none⟩ = some (.int .u8 o.x)
def Opr.wf (o : Opr) : Prop := (Lit.int .i64 o.k).wf = true ∧ (Lit.int .i64 o.p).wf = true ∧ (Lit.int .i64 o.n).wf = true ∧ (Lit.int .u8 o.x).wf = true
structure Ops (w : World) (ao : Option Addr) (n : Nat) (os : List Opr) : Prop where
  hlen : os.length = n
  lim : n ≤ maxLen
  cell : ∀ i, i < n → ∃ a, ao = some a ∧ At4 w (a.add (i * 4)) (os.getD i o0)
  wf : ∀ i, i < n → (os.getD i o0).wf
theorem At4.keep0 {w w' : World} {A : Addr} {o : Opr} (h : At4 w A o) (hb : Below w.heap.size w w') : At4 w' A o := by
  have hl := World.block_lt_of_cell? w _ h.1
  obtain ⟨h0, h1, h2, h3⟩ := h
  exact ⟨(hb.cell hl).trans h0, (hb.cell (p := ⟨A.block, _, none⟩) hl).trans h1, (hb.cell (p := ⟨A.block, _, none⟩) hl).trans h2, (hb.cell (p := ⟨A.block, _, none⟩) hl).trans h3⟩
theorem Ops.keep0 {w w' : World} {ao : Option Addr} {n : Nat} {os : List Opr} (h : Ops w ao n os) (hb : Below w.heap.size w w') : Ops w' ao n os :=
  ⟨h.hlen, h.lim, fun i hi => by
    obtain ⟨a, ha, hc⟩ := h.cell i hi
    exact ⟨a, ha, hc.keep0 hb⟩, h.wf⟩
/-- The state between the calls. -/
def PlaySt (b mb : Nat) (ib : Option Addr) (kap : Nat) (pb fb ab xb : Nat) (io : Option Addr) (ik n : Nat) (zs : List Int) (i : Nat) (w wx : World) : Prop :=
  ∃ m s q, m ≤ i ∧ s.Ok ∧ s.r ≤ (i : Int) ∧ s.img = zs ∧ Rel s q ∧ Dsk wx b mb ib kap m s ∧ Pln wx pb fb ab xb io ik n q ∧ Below w.heap.size w wx
/-- All that stays apart. -/
def Apart (L B b mb : Nat) (ib : Option Addr) (pb fb ab xb : Nat) (io : Option Addr) : Prop :=
  (b < pb ∧ b < fb ∧ b < ab ∧ b < xb ∧ mb < pb ∧ mb < fb ∧ mb < ab ∧ mb < xb ∧ B ≤ b ∧ B ≤ mb ∧ B ≤ pb ∧ B ≤ fb ∧ B ≤ ab ∧ B ≤ xb) ∧ (0 < L → ∀ a, ib = some a → a.block ≠ pb ∧ a.block ≠ fb ∧ a.block ≠ ab ∧ a.block ≠ xb) ∧ (∀ a, io = some a → a.block ≠ b ∧ a.block ≠ mb)
theorem Dsk.kept2 {w w' : World} {b mb : Nat} {ib : Option Addr} {kap m : Nat} {s : Dk} (h : Dsk w b mb ib kap m s) {S : Nat → Prop} (hk : Keeps S w w') (h0 : ¬ S b) (h1 : ¬ S mb) (h2 : 0 < s.img.length → ∀ a, ib = some a → ¬ S a.block) : Dsk w' b mb ib kap m s := by
  by_cases hL : 0 < s.img.length
  · exact h.kept hk h0 h1 (h2 hL)
  · obtain ⟨a1, a2, a3, a4, a5, a6⟩ := h
    have hz : s.img = [] := List.eq_nil_of_length_eq_zero (by omega)
    refine ⟨hk.heap a1 h0, ?_, a3, a4.kept hk h1, a5, a6⟩
    rw [hz]
    exact Ints.nil _ _ _
theorem hlS_img (s : Dk) (p : Int) : (hlS s p).img = s.img ∧ (hlS s p).r = s.r := by unfold hlS; split <;> exact ⟨rfl, rfl⟩
theorem rdS_img (s : Dk) (p : Int) : (rdS s p).img = s.img ∧ (rdS s p).r ≤ s.r + 1 := by
  unfold rdS
  split
  · exact ⟨rfl, by omega⟩
  · split <;> exact ⟨rfl, Int.le_refl _⟩
theorem other_any (pb fb ab xb : Nat) (io : Option Addr) (ik n : Nat) (q : Pl) (k p m x : Int) (hn : n ≤ 100) (w : World) (h : Pln w pb fb ab xb io ik n q) : Calls Try.prog 13 #[.pointer (some ⟨pb, 0, none⟩), .agg #[.int .i64 k, .int .i64 p, .int .i64 m, .int .u8 x]] w (OthPost pb fb ab xb io ik n (oS q k p m x) (oE q k p m) w) := by
  by_cases ho : q.out p
  · exact other_out pb fb ab xb io ik n q k p m x ho w h
  · obtain ⟨p, rfl⟩ : ∃ j : Nat, p = (j : Int) := ⟨p.toNat, by unfold Pl.out at ho; omega⟩
    have hp : p < n := by unfold Pl.out at ho; rw [h.lf] at ho; omega
    by_cases h3 : k = 3
    · by_cases hm : m < 0
      · exact other_3m pb fb ab xb io ik n q k m x p hn hp h3 hm w h
      · exact other_3p pb fb ab xb io ik n q k m x p hn hp h3 (by omega) w h
    · by_cases h4 : k = 4
      · by_cases hm : 0 ≤ m ∧ m ≤ 63
        · exact other_4 pb fb ab xb io ik n q k m x p hn hp h4 hm.1 hm.2 w h
        · exact other_4b pb fb ab xb io ik n q k m x p hn hp h4 (by omega) w h
      · exact other_5 pb fb ab xb io ik n q k m x p hn hp h3 h4 w h
/-- What a call of both disks leaves. -/
structure Step (k : Int) (o : Opr) (s : Dk) (q : Pl) (S' : Dk) (E : Int) : Prop where
  ok : S'.Ok
  img : S'.img = s.img
  r : S'.r = s.r
  rel : Rel S' (oS q k o.p o.n o.x)
  e : oE q k o.p o.n = E
theorem call_any (b mb : Nat) (ib : Option Addr) (kap m : Nat) (s : Dk) (q : Pl) (o : Opr) (hs : s.Ok) (hR : Rel s q) (hm : m < 1000000000) (hwf : o.wf) (w : World) (h : Dsk w b mb ib kap m s) :
    ∃ S' E, Step o.k o s q S' E ∧ Calls Try.prog 12 #[.pointer (some ⟨b, 0, none⟩), .agg #[.int .i64 o.k, .int .i64 o.p, .int .i64 o.n, .int .u8 o.x]] w (SetPost b mb ib kap m S' E w) := by
  obtain ⟨w1, w2, w3, w4⟩ := hwf
  have hn1 : o.n ≤ 9223372036854775807 := by have := bounds_i64 w3; omega
  have hx := bounds_u8 w4
  by_cases h3 : o.k = 3
  · rw [h3]
    exact ⟨_, _, ⟨flS_ok hs _ _ hn1, (flS_img s _ _).1, (flS_img s _ _).2, (rel_fl hR o.p o.n o.x).1, (rel_fl hR o.p o.n o.x).2.symm⟩, call_3 b mb ib kap m s hs hm o.p o.n o.x w2 w h⟩
  · by_cases h4 : o.k = 4
    · rw [h4]
      exact ⟨_, _, ⟨spS_ok hs _ _ _ (by omega) (by omega), (spS_img s _ _ _).1, (spS_img s _ _ _).2, (rel_sp hR o.p o.n o.x).1, (rel_sp hR o.p o.n o.x).2.symm⟩, call_4 b mb ib kap m s hs hm o.p o.n o.x w2 w h⟩
    · exact ⟨_, _, ⟨hlS_ok hs _, (hlS_img s _).1, (hlS_img s _).2, (rel_hl hR o.k o.p o.n o.x h3 h4).1, (rel_hl hR o.k o.p o.n o.x h3 h4).2.symm⟩, call_5 b mb ib kap m s hs o.k o.p o.n o.x h3 h4 w2 w h⟩
theorem rep_getD (n i : Nat) : (List.replicate n (0 : Int)).getD i 0 = 0 := by
  simp only [List.getD_eq_getElem?_getD, List.getElem?_replicate]
  split <;> rfl
theorem rel_start (zs : List Int) : Rel ⟨zs, fun _ => none, 0, 0⟩ (mkPl zs ((zs.length + 63) / 64)) := by
  refine ⟨by simp [mkPl, Dk.pages], by simp [mkPl, Dk.pages], by simp [mkPl, Dk.pages], ?_, ?_, ?_, rfl, rfl⟩
  · simp only [mkPl, Dk.pages, List.length_append, List.length_replicate]; omega
  · intro i
    show (zs ++ List.replicate _ 0).getD i 0 = zs.getD i 0
    by_cases hi : i < zs.length
    · simp [List.getD_eq_getElem?_getD, List.getElem?_append_left hi]
    · simp only [List.getD_eq_getElem?_getD, List.getElem?_append_right (Nat.le_of_not_lt hi), List.getElem?_eq_none (Nat.le_of_not_lt hi), List.getElem?_replicate]
      split <;> rfl
  · intro p hp
    have e : ∀ j, (Dk.t ⟨zs, fun _ => none, 0, 0⟩ j) = Flt.zero := fun j => rfl
    rw [e]
    simp only [mkPl, rep_getD]
    exact ⟨rfl, rfl, by decide, by decide, fun h => absurd rfl h⟩
set_option maxRecDepth 100000 in
set_option maxHeartbeats 2000000 in
theorem plays_any (ao so : Option Addr) (n0 cap l scap : Nat) (zs0 : List Int) (os : List Opr) (hc0 : n0 ≤ cap) (w : World) (h0 : Ints .u8 w ao n0 zs0) (hO : Ops w so l os) : Calls Try.prog 4 #[.slice ao n0 cap, .slice so l scap] w (TruePost w) := by
  have hlim := h0.lim
  unfold maxLen at hlim
  go_enter Try.func4, Try.ntmps4
  go_upto_if 16 with fail
  go_cut [0] (fun v wx => ∃ k, v = .slice ao k cap ∧ Hid (k = min n0 500) ∧ w = wx)
  case first =>
    by_cases hgt : 500 < n0
    · obtain ⟨a, rfl, -⟩ := h0.some (by omega)
      go_wp2_with fail
      all_goals go_meet
      all_goals exact ⟨500, rfl, by unfold Hid; omega, rfl⟩
    · go_wp2_with fail
      go_meet
      exact ⟨n0, rfl, by unfold Hid; omega, rfl⟩
  case rest =>
  obtain ⟨k, rfl, hn0, rfl⟩ := hcut
  have hk : k ≤ 500 := by have := hn0.out; omega
  have hI : Ints .u8 w ao k (zs0.take k) := h0.take (by have := hn0.out; omega)
  generalize zs0.take k = zs at hI
  clear h0 hn0 hc0 hlim
  have hl := hI.hlen
  subst hl
  have hN := new_any ao _ cap zs hk w hI
  go_upto_region 6 with (go_at_call 6; refine hN.mono ?_; rintro e w2 ⟨b, mb, ib, kap, rfl, hD, hb, hmb, hib, hB⟩)
  go_upto_region 7 with (go_at_call 11; refine (made_any ao zs.length cap zs hk w2 (hI.keep0 hB)).mono ?_; rintro e w3 ⟨pb, fb, ab, xb, io, ik, rfl, hP, hpb, hfb, hab, hxb, hio, hB3⟩)
  obtain ⟨n, hn⟩ : ∃ n, n = (zs.length + 63) / 64 := ⟨_, rfl⟩
  have hr0 := rel_start zs
  rw [← hn] at hr0 hP
  have hn9 : n ≤ 9 := by omega
  have hBl : b < w2.heap.size := hD.lt
  have hml : mb < w2.heap.size := hD.2.2.2.1.lt
  have hA : Apart zs.length w.heap.size b mb ib pb fb ab xb io := by
    refine ⟨by omega, fun hL a ha => ?_, fun a ha => ?_⟩
    · have := hD.2.1.under hL a ha; exact ⟨by omega, by omega, by omega, by omega⟩
    · have := hio a ha; exact ⟨by omega, by omega⟩
  have hS0 : PlaySt b mb ib kap pb fb ab xb io ik n zs 0 w w3 := ⟨0, _, _, Nat.le_refl _, ⟨by show zs.length ≤ _; omega, Int.le_refl 0, Int.le_refl 0, Int.le_refl 0, by rintro k t ⟨⟩⟩, Int.le_refl 0, rfl, hr0, hD.keep0 hB3, hP, bstep hB hB3⟩
  have HA := Lib.hid hA
  have hpages : (Dk.pages ⟨zs, fun _ => none, 0, 0⟩) = n := hn.symm
  clear hN hD hP hr0 hB hB3 hA hb hmb hib hio hpb hfb hab hxb
  go_wp2_with fail
  go_loopw [8, 9, 10, 11, 12, 13] (fun v8 v9 v10 v11 v12 v13 wr => ∃ q : Nat, q ≤ 60 ∧ v8 = .int .i64 q ∧ PlaySt b mb ib kap pb fb ab xb io ik n zs q w wr) (fun v8 _ _ _ _ _ _ => (60 - (intOf v8).toNat))
  case atStart => exact ⟨0, by omega, rfl, hS0⟩
  case round =>
    obtain ⟨q, hq, rfl, hS⟩ := hrel
    by_cases hql : q < l ∧ q < 60
    · obtain ⟨hql, hq60⟩ := hql
      obtain ⟨m, s, P, hm, hs, hsr, hsi, hR, hD, hP, hB⟩ := hS
      have hO2 := hO.keep0 hB
      obtain ⟨sa, rfl, hAt⟩ := hO2.cell q hql
      have hwf := hO2.wf q hql
      generalize os.getD q o0 = o at hAt hwf
      obtain ⟨q0, q1, q2, q3⟩ := hAt
      obtain ⟨d0, d1, d2, d3, hD1, hB1⟩ := disk_op wr hD (.int .i64 o.k) (.int .i64 o.p) (.int .i64 o.n) (.int .u8 o.x) _ rfl
      have hP1 := hP.keep0 hB1
      have hbl := hD.lt
      have hmbl : mb < wr.heap.size := hD.2.2.2.1.lt
      by_cases hkind : 3 ≤ o.k ∧ o.k ≤ 5
      · obtain ⟨hk3, hk5⟩ := hkind
        go_upto_region 11 with fail
        generalize wr.alloc _ = w4 at *
        obtain ⟨S', E, hst, hC⟩ := call_any b mb ib kap m s P o hs hR (by omega) hwf w4.drew hD1.drew
        have HST := Lib.hid hst
        have HC := Lib.hid hC
        have HP1 := Lib.hid hP1
        have HB1 := Lib.hid hB1
        obtain ⟨⟨a1, a2, a3, a4, a5, a6, a7, a8, a9, a10, a11, a12, a13, a14⟩, -, -⟩ := HA.out
        have k1 : pb < wr.heap.size := (Array.getElem?_eq_some_iff.1 hP.row).1
        have k2 : fb < wr.heap.size := (Array.getElem?_eq_some_iff.1 hP.rf).1
        have k3 : ab < wr.heap.size := (Array.getElem?_eq_some_iff.1 hP.ra).1
        have k4 : xb < wr.heap.size := (Array.getElem?_eq_some_iff.1 hP.rx).1
        clear hC hP1
        go_upto_region 12 with fail
        refine wp_region_noPanic ?_
        refine wp_region_held_drew (S := fun w' => w'.cell? ⟨wr.heap.size, 0, none⟩ = some (.int .i64 o.k) ∧ w'.cell? ⟨wr.heap.size, 1, none⟩ = some (.int .i64 o.p) ∧ w'.cell? ⟨wr.heap.size, 2, none⟩ = some (.int .i64 o.n) ∧ w'.cell? ⟨wr.heap.size, 3, none⟩ = some (.int .u8 o.x)) (by kernel_rfl) ?_ (fun hHeld => ?_)
        · exact ⟨d0, d1, d2, d3⟩
        refine wpAnyH_take (i := 0) (v := ?_) rfl (by kernel_rfl) (by kernel_rfl) (by kernel_rfl) (fun _ _ _ h => h) (Or.inl ⟨by kernel_rfl, ?_⟩) (by assumption) ?_
        rotate_left
        · (intro w hSw; (try dsimp only at hSw); go_simp; try with_reducible rfl)
        try simp only [Act.put, List.setIfInBounds_toArray, List.set_cons_zero, List.set_cons_succ]
        refine wpAnyH_take (i := 1) (v := ?_) rfl (by kernel_rfl) (by kernel_rfl) (by kernel_rfl) (fun _ _ _ h => h) (Or.inl ⟨by kernel_rfl, ?_⟩) (by assumption) ?_
        rotate_left
        · (intro w hSw; (try dsimp only at hSw); go_simp; try with_reducible rfl)
        try simp only [Act.put, List.setIfInBounds_toArray, List.set_cons_zero, List.set_cons_succ]
        refine wpAnyH_take (i := 3) (v := ?_) rfl (by kernel_rfl) (by kernel_rfl) (by kernel_rfl) (fun _ _ _ h => h) (Or.inl ⟨by kernel_rfl, ?_⟩) (by assumption) ?_
        rotate_left
        · (intro w hSw; (try dsimp only at hSw); go_simp; try with_reducible rfl)
        try simp only [Act.put, List.setIfInBounds_toArray, List.set_cons_zero, List.set_cons_succ]
        refine wpAnyH_take (i := 4) (v := ?_) rfl (by kernel_rfl) (by kernel_rfl) (by kernel_rfl) (fun _ _ _ h => h) (Or.inl ⟨by kernel_rfl, ?_⟩) (by assumption) ?_
        rotate_left
        · (intro w hSw; (try dsimp only at hSw); go_simp; try with_reducible rfl)
        try simp only [Act.put, List.setIfInBounds_toArray, List.set_cons_zero, List.set_cons_succ]
        refine wpAnyH_ready (rs := [2]) (by kernel_rfl) (by simp) ?_
        refine AllReadyH.cons rfl (fun K hK => ?_) AllReadyH.nil
        go_simp
        refine HC.out.mono ?_; rintro e w5 ⟨rfl, ⟨m5, hm5, hD5⟩, hk5⟩; have hP5 := (HP1.out.keep0 (Below.refl _ _).drew).kept hk5 (by omega) (by omega) (by omega) (by omega) (fun a ha => by have := HA.out.2.2 a ha; omega); have g0 := hk5.cell d0 (by show ¬ (wr.heap.size = b ∨ wr.heap.size = mb); omega); have g1 := hk5.cell d1 (by show ¬ (wr.heap.size = b ∨ wr.heap.size = mb); omega); have g2 := hk5.cell d2 (by show ¬ (wr.heap.size = b ∨ wr.heap.size = mb); omega); have g3 := hk5.cell d3 (by show ¬ (wr.heap.size = b ∨ wr.heap.size = mb); omega)
        refine hK.out _ _ ?_ (fun hHeld => ?_)
        · (try dsimp only); exact ⟨g0, g1, g2, g3⟩
        clear hK K
        try simp only [Act.put, List.setIfInBounds_toArray, List.set_cons_zero, List.set_cons_succ]
        refine wpAnyH_ready (rs := [5]) (by kernel_rfl) (by simp) ?_
        refine AllReadyH.cons rfl (fun K hK => ?_) AllReadyH.nil
        go_simp
        refine (other_any pb fb ab xb io ik n P o.k o.p o.n o.x (by omega) w5 hP5).mono ?_; rintro e w6 ⟨rfl, hP6, hk6⟩; rw [HST.out.e]; have f0 := hk6.cell g0 (by show ¬ (wr.heap.size = fb ∨ wr.heap.size = ab ∨ wr.heap.size = xb); omega); have f1 := hk6.cell g1 (by show ¬ (wr.heap.size = fb ∨ wr.heap.size = ab ∨ wr.heap.size = xb); omega); have f2 := hk6.cell g2 (by show ¬ (wr.heap.size = fb ∨ wr.heap.size = ab ∨ wr.heap.size = xb); omega); have f3 := hk6.cell g3 (by show ¬ (wr.heap.size = fb ∨ wr.heap.size = ab ∨ wr.heap.size = xb); omega)
        refine hK.out _ _ ?_ (fun hHeld => ?_)
        · (try dsimp only); exact ⟨f0, f1, f2, f3⟩
        clear hK K
        try simp only [Act.put, List.setIfInBounds_toArray, List.set_cons_zero, List.set_cons_succ]
        refine wpAnyH_rest 6 (by kernel_rfl) (by kernel_rfl) (by kernel_rfl) hHeld ?_
        simp only [List.drop_succ_cons, List.drop_zero]
        repeat (refine no_implicit_lambda% (wpStill_step (fun K hK => ?_)); go_simp; refine hK _ ?_; clear hK K)
        refine wpStill_nil ?_
        refine NoPanic.normal ?_
        go_wp2_with fail
        have hsL : 0 < S'.img.length → ∀ a, ib = some a → ¬ (a.block = fb ∨ a.block = ab ∨ a.block = xb) := by
          intro hL a ha
          rw [HST.out.img, hsi] at hL
          have := HA.out.2.1 hL a ha
          omega
        have hD6 := hD5.kept2 hk6 (by omega) (by omega) hsL
        have hB6 : Below w.heap.size wr w6 := (HB1.out.mono hB.size).trans (((Below.refl _ _).drew).trans ((hk5.toBelow (show w.heap.size ≤ w4.drew.heap.size from Nat.le_trans hB.size HB1.out.size) (fun j hj e => by omega)).trans (hk6.toBelow (Nat.le_trans (Nat.le_trans hB.size HB1.out.size) hk5.size) (fun j hj e => by omega))))
        go_roundw
        case rel => exact ⟨q + 1, by omega, by go_num, m5, S', _, by omega, HST.out.ok, by rw [HST.out.r]; omega, by rw [HST.out.img]; exact hsi, HST.out.rel, hD6, hP6, hB.trans hB6⟩
        case measure => simp [intOf]; omega
      · have hrel := rel_rd hR hs (by rw [hsi]; exact hI.wf) o.p
        have HREL := Lib.hid hrel
        have hok : ∀ j : Nat, j < n → -1 ≤ P.fl.getD j 0 ∧ P.fl.getD j 0 ≤ 9223372036854775807 ∧ 0 ≤ P.al.getD j 0 ∧ P.al.getD j 0 < 64 := by
          intro j hj
          obtain ⟨e1, e2, e3, e4, e5⟩ := hR.at_ j (by rw [← hR.hf, hP.lf]; exact hj)
          obtain ⟨_, _, t1, t2, _, _⟩ := hs.t j
          exact ⟨by rw [e1]; exact t1, by rw [e1]; exact t2, e3, e4⟩
        have hs2 := hs
        obtain ⟨_, z1, z2, z3, _⟩ := hs2
        have hpr := fun w h => pread_any pb fb ab xb io ik n P o.p (by omega) hok (by rw [hR.r]; omega) (by rw [hR.g]; omega) w h
        rw [← HREL.out.2.1, ← HREL.out.2.2] at hpr
        have HPR := Lib.hid hpr
        have HRD := Lib.hid (fun w h => read_any b mb ib kap m s hs (by omega) (by omega) o.p hwf.2.1 w h)
        unfold RdPost at HRD
        have hok' := rdS_ok hs o.p
        have himg := rdS_img s o.p
        generalize rdB s o.p = B at HRD HPR
        generalize rdE s o.p = E at HRD HPR
        generalize rdS s o.p = S' at HRD HREL hok' himg
        generalize prS P o.p = Q' at HPR HREL
        have HREL2 := Lib.hid HREL.out.1
        obtain ⟨⟨a1, a2, a3, a4, a5, a6, a7, a8, a9, a10, a11, a12, a13, a14⟩, -, -⟩ := HA.out
        have k1 : pb < wr.heap.size := (Array.getElem?_eq_some_iff.1 hP.row).1
        have k2 : fb < wr.heap.size := (Array.getElem?_eq_some_iff.1 hP.rf).1
        have HP1 := Lib.hid hP1
        have HB1 := Lib.hid hB1
        clear hpr hrel hok hP1 HREL
        go_upto_region 11 with fail
        generalize wr.alloc _ = w4 at *
        have hnk : o.k < 3 ∨ (3 ≤ o.k ∧ 5 < o.k) := by omega
        rcases hnk with hnk | ⟨hnk, hnk2⟩
        all_goals
          go_upto_region 17 with (first | (go_at_call 9; refine (HRD.out w4 hD1).mono ?_; rintro e w5 ⟨ro, rc, rfl, hrc, ⟨m5, hm5, hD5⟩, hI5, hro, hk5⟩; have hP5 := HP1.out.kept hk5 (by omega) (by omega) (by omega) (by omega) (fun a ha => by have := HA.out.2.2 a ha; omega); have g1 := hk5.cell d1 (by show ¬ (wr.heap.size = b ∨ wr.heap.size = mb); omega)) | (go_at_call 14; refine (HPR.out w5 hP5).mono ?_; rintro e w6 ⟨xo, xc, rfl, hxc, hP6, hI6, hxo, hk6⟩))
          have hsL : 0 < S'.img.length → ∀ a, ib = some a → ¬ (a.block = pb ∨ a.block = fb) := by
            intro hL a ha
            rw [himg.1, hsi] at hL
            have := HA.out.2.1 hL a ha
            omega
          have hD6 := hD5.kept2 hk6 (by omega) (by omega) hsL
          have hw4s := HB1.out.size
          have hI56 := hI5.kept hk6 (fun a ha => by have := hro a ha; omega)
          have hcv1 := conv_ints (P := Try.prog) (hI56.keep0 (Below.refl _ _).drew) 22 5 9 rc rfl rfl rfl
          have hcv2 := conv_ints (P := Try.prog) (hI6.keep0 (Below.refl _ _).drew) 22 5 9 xc rfl rfl rfl
          obtain ⟨c0, c1, c2, c3, c4, c5, -, -⟩ := six_cells (hP6.keep0 (Below.refl _ _).drew).row
          have HR6 := Lib.hid (reads_any b mb ib kap m5 S' w6.drew hD6.drew)
          have HG6 := Lib.hid (failed_any b mb ib kap m5 S' w6.drew hD6.drew)
          have hB6 : Below w.heap.size wr w6 := (HB1.out.mono hB.size).trans ((hk5.toBelow (Nat.le_trans hB.size HB1.out.size) (fun j hj e => by omega)).trans (hk6.toBelow (Nat.le_trans (Nat.le_trans hB.size HB1.out.size) hk5.size) (fun j hj e => by omega)))
          have HD6 := Lib.hid hD6
          have HP6 := Lib.hid hP6
          clear hI5 hI6 hI56 hD6 hD5 hP5 hP6 hk5 hk6 d0 d1 d2 d3 g1 c0 c1 c2 c3
          refine wp_region_noPanic ?_
          refine wp_region_held_drew (S := fun w' => (convert 22 9 (.slice ro B.length rc)).run Try.prog w' = .ok (.string (strOfNums B)) w' ∧ (convert 22 9 (.slice xo B.length xc)).run Try.prog w' = .ok (.string (strOfNums B)) w' ∧ w'.cell? ⟨pb, 4, none⟩ = some (.int .i64 Q'.r) ∧ w'.cell? ⟨pb, 5, none⟩ = some (.int .i64 Q'.g)) (by kernel_rfl) ?_ (fun hHeld => ?_)
          · exact ⟨hcv1, hcv2, c4, c5⟩
          refine wpAnyH_take (i := 0) (v := ?_) rfl (by kernel_rfl) (by kernel_rfl) (by kernel_rfl) (fun _ _ _ h => h) (Or.inl ⟨by kernel_rfl, ?_⟩) (by assumption) ?_
          rotate_left
          · (intro w hSw; (try dsimp only at hSw); go_simp; try with_reducible rfl)
          try simp only [Act.put, List.setIfInBounds_toArray, List.set_cons_zero, List.set_cons_succ]
          refine wpAnyH_take (i := 1) (v := ?_) rfl (by kernel_rfl) (by kernel_rfl) (by kernel_rfl) (fun _ _ _ h => h) (Or.inl ⟨by kernel_rfl, ?_⟩) (by assumption) ?_
          rotate_left
          · (intro w hSw; (try dsimp only at hSw); go_simp; try with_reducible rfl)
          try simp only [Act.put, List.setIfInBounds_toArray, List.set_cons_zero, List.set_cons_succ]
          refine wpAnyH_take (i := 2) (v := .bool false) rfl (by kernel_rfl) (by kernel_rfl) (by kernel_rfl) (fun _ _ _ h => h) (Or.inl ⟨by kernel_rfl, ?_⟩) (by assumption) ?_
          · (intro w hSw; (try dsimp only at hSw); go_simp; try with_reducible rfl)
          try simp only [Act.put, List.setIfInBounds_toArray, List.set_cons_zero, List.set_cons_succ]
          refine wpAnyH_take (i := 3) (v := .bool false) rfl (by kernel_rfl) (by kernel_rfl) (by kernel_rfl) (fun _ _ _ h => h) (Or.inl ⟨by kernel_rfl, ?_⟩) (by assumption) ?_
          · (intro w hSw; (try dsimp only at hSw); go_simp; try with_reducible rfl)
          try simp only [Act.put, List.setIfInBounds_toArray, List.set_cons_zero, List.set_cons_succ]
          refine wpAnyH_take (i := 4) (v := ?_) rfl (by kernel_rfl) (by kernel_rfl) (by kernel_rfl) (fun _ _ _ h => h) (Or.inl ⟨by kernel_rfl, ?_⟩) (by assumption) ?_
          rotate_left
          · (intro w hSw; (try dsimp only at hSw); go_simp; try with_reducible rfl)
          try simp only [Act.put, List.setIfInBounds_toArray, List.set_cons_zero, List.set_cons_succ]
          refine wpAnyH_take (i := 5) (v := ?_) rfl (by kernel_rfl) (by kernel_rfl) (by kernel_rfl) (fun _ _ _ h => h) (Or.inl ⟨by kernel_rfl, ?_⟩) (by assumption) ?_
          rotate_left
          · (intro w hSw; (try dsimp only at hSw); go_simp; try with_reducible rfl)
          try simp only [Act.put, List.setIfInBounds_toArray, List.set_cons_zero, List.set_cons_succ]
          refine wpAnyH_take (i := 6) (v := ?_) rfl (by kernel_rfl) (by kernel_rfl) (by kernel_rfl) (fun _ _ _ h => h) (Or.inl ⟨by kernel_rfl, ?_⟩) (by assumption) ?_
          rotate_left
          · (intro w hSw; (try dsimp only at hSw); go_simp; try with_reducible rfl)
          try simp only [Act.put, List.setIfInBounds_toArray, List.set_cons_zero, List.set_cons_succ]
          refine wpAnyH_take (i := 7) (v := ?_) rfl (by kernel_rfl) (by kernel_rfl) (by kernel_rfl) (fun _ _ _ h => h) (Or.inl ⟨by kernel_rfl, ?_⟩) (by assumption) ?_
          rotate_left
          · (intro w hSw; (try dsimp only at hSw); go_simp; try with_reducible rfl)
          try simp only [Act.put, List.setIfInBounds_toArray, List.set_cons_zero, List.set_cons_succ]
          refine wpAnyH_take (i := 8) (v := .bool false) rfl (by kernel_rfl) (by kernel_rfl) (by kernel_rfl) (fun _ _ _ h => h) (Or.inl ⟨by kernel_rfl, ?_⟩) (by assumption) ?_
          · (intro w hSw; (try dsimp only at hSw); go_simp; try with_reducible rfl)
          try simp only [Act.put, List.setIfInBounds_toArray, List.set_cons_zero, List.set_cons_succ]
          refine wpAnyH_take (i := 9) (v := .bool false) rfl (by kernel_rfl) (by kernel_rfl) (by kernel_rfl) (fun _ _ _ h => h) (Or.inl ⟨by kernel_rfl, ?_⟩) (by assumption) ?_
          · (intro w hSw; (try dsimp only at hSw); go_simp; try with_reducible rfl)
          try simp only [Act.put, List.setIfInBounds_toArray, List.set_cons_zero, List.set_cons_succ]
          refine wpAnyH_take (i := 10) (v := .bool false) rfl (by kernel_rfl) (by kernel_rfl) (by kernel_rfl) (fun _ _ _ h => h) (Or.inl ⟨by kernel_rfl, ?_⟩) (by assumption) ?_
          · (intro w hSw; (try dsimp only at hSw); go_simp; try with_reducible rfl)
          try simp only [Act.put, List.setIfInBounds_toArray, List.set_cons_zero, List.set_cons_succ]
          refine wpAnyH_take (i := 11) (v := ?_) rfl (by kernel_rfl) (by kernel_rfl) (by kernel_rfl) (fun _ _ _ h => h) (Or.inl ⟨by kernel_rfl, ?_⟩) (by assumption) ?_
          rotate_left
          · (intro w hSw; (try dsimp only at hSw); go_simp; try with_reducible rfl)
          try simp only [Act.put, List.setIfInBounds_toArray, List.set_cons_zero, List.set_cons_succ]
          refine wpAnyH_take (i := 13) (v := ?_) rfl (by kernel_rfl) (by kernel_rfl) (by kernel_rfl) (fun _ _ _ h => h) (Or.inl ⟨by kernel_rfl, ?_⟩) (by assumption) ?_
          rotate_left
          · (intro w hSw; (try dsimp only at hSw); go_simp; try with_reducible rfl)
          try simp only [Act.put, List.setIfInBounds_toArray, List.set_cons_zero, List.set_cons_succ]
          refine wpAnyH_take (i := 14) (v := ?_) rfl (by kernel_rfl) (by kernel_rfl) (by kernel_rfl) (fun _ _ _ h => h) (Or.inl ⟨by kernel_rfl, ?_⟩) (by assumption) ?_
          rotate_left
          · (intro w hSw; (try dsimp only at hSw); go_simp; try with_reducible rfl)
          try simp only [Act.put, List.setIfInBounds_toArray, List.set_cons_zero, List.set_cons_succ]
          refine wpAnyH_take (i := 15) (v := ?_) rfl (by kernel_rfl) (by kernel_rfl) (by kernel_rfl) (fun _ _ _ h => h) (Or.inl ⟨by kernel_rfl, ?_⟩) (by assumption) ?_
          rotate_left
          · (intro w hSw; (try dsimp only at hSw); go_simp; try with_reducible rfl)
          try simp only [Act.put, List.setIfInBounds_toArray, List.set_cons_zero, List.set_cons_succ]
          refine wpAnyH_take (i := 16) (v := ?_) rfl (by kernel_rfl) (by kernel_rfl) (by kernel_rfl) (fun _ _ _ h => h) (Or.inl ⟨by kernel_rfl, ?_⟩) (by assumption) ?_
          rotate_left
          · (intro w hSw; (try dsimp only at hSw); go_simp; try with_reducible rfl)
          try simp only [Act.put, List.setIfInBounds_toArray, List.set_cons_zero, List.set_cons_succ]
          refine wpAnyH_ready (rs := [12]) (by kernel_rfl) (by simp) ?_
          refine AllReadyH.cons rfl (fun K hK => ?_) AllReadyH.nil
          go_simp
          refine HR6.out.mono ?_; rintro e w7 ⟨rfl, rfl⟩; rw [← HREL2.out.r]
          refine hK.out _ _ ?_ (fun hHeld => ?_)
          · (try dsimp only); exact ⟨hcv1, hcv2, c4, c5⟩
          clear hK K
          try simp only [Act.put, List.setIfInBounds_toArray, List.set_cons_zero, List.set_cons_succ]
          refine wpAnyH_take (i := 17) (v := .bool false) rfl (by kernel_rfl) (by kernel_rfl) (by kernel_rfl) (fun _ _ _ h => h) (Or.inl ⟨by kernel_rfl, ?_⟩) (by assumption) ?_
          · (intro w hSw; (try dsimp only at hSw); go_simp; try with_reducible rfl)
          try simp only [Act.put, List.setIfInBounds_toArray, List.set_cons_zero, List.set_cons_succ]
          refine wpAnyH_take (i := 18) (v := .bool false) rfl (by kernel_rfl) (by kernel_rfl) (by kernel_rfl) (fun _ _ _ h => h) (Or.inl ⟨by kernel_rfl, ?_⟩) (by assumption) ?_
          · (intro w hSw; (try dsimp only at hSw); go_simp; try with_reducible rfl)
          try simp only [Act.put, List.setIfInBounds_toArray, List.set_cons_zero, List.set_cons_succ]
          refine wpAnyH_take (i := 19) (v := .bool false) rfl (by kernel_rfl) (by kernel_rfl) (by kernel_rfl) (fun _ _ _ h => h) (Or.inl ⟨by kernel_rfl, ?_⟩) (by assumption) ?_
          · (intro w hSw; (try dsimp only at hSw); go_simp; try with_reducible rfl)
          try simp only [Act.put, List.setIfInBounds_toArray, List.set_cons_zero, List.set_cons_succ]
          refine wpAnyH_take (i := 20) (v := ?_) rfl (by kernel_rfl) (by kernel_rfl) (by kernel_rfl) (fun _ _ _ h => h) (Or.inl ⟨by kernel_rfl, ?_⟩) (by assumption) ?_
          rotate_left
          · (intro w hSw; (try dsimp only at hSw); go_simp; try with_reducible rfl)
          try simp only [Act.put, List.setIfInBounds_toArray, List.set_cons_zero, List.set_cons_succ]
          refine wpAnyH_take (i := 22) (v := ?_) rfl (by kernel_rfl) (by kernel_rfl) (by kernel_rfl) (fun _ _ _ h => h) (Or.inl ⟨by kernel_rfl, ?_⟩) (by assumption) ?_
          rotate_left
          · (intro w hSw; (try dsimp only at hSw); go_simp; try with_reducible rfl)
          try simp only [Act.put, List.setIfInBounds_toArray, List.set_cons_zero, List.set_cons_succ]
          refine wpAnyH_take (i := 23) (v := ?_) rfl (by kernel_rfl) (by kernel_rfl) (by kernel_rfl) (fun _ _ _ h => h) (Or.inl ⟨by kernel_rfl, ?_⟩) (by assumption) ?_
          rotate_left
          · (intro w hSw; (try dsimp only at hSw); go_simp; try with_reducible rfl)
          try simp only [Act.put, List.setIfInBounds_toArray, List.set_cons_zero, List.set_cons_succ]
          refine wpAnyH_take (i := 24) (v := ?_) rfl (by kernel_rfl) (by kernel_rfl) (by kernel_rfl) (fun _ _ _ h => h) (Or.inl ⟨by kernel_rfl, ?_⟩) (by assumption) ?_
          rotate_left
          · (intro w hSw; (try dsimp only at hSw); go_simp; try with_reducible rfl)
          try simp only [Act.put, List.setIfInBounds_toArray, List.set_cons_zero, List.set_cons_succ]
          refine wpAnyH_take (i := 25) (v := ?_) rfl (by kernel_rfl) (by kernel_rfl) (by kernel_rfl) (fun _ _ _ h => h) (Or.inl ⟨by kernel_rfl, ?_⟩) (by assumption) ?_
          rotate_left
          · (intro w hSw; (try dsimp only at hSw); go_simp; try with_reducible rfl)
          try simp only [Act.put, List.setIfInBounds_toArray, List.set_cons_zero, List.set_cons_succ]
          refine wpAnyH_ready (rs := [21]) (by kernel_rfl) (by simp) ?_
          refine AllReadyH.cons rfl (fun K hK => ?_) AllReadyH.nil
          go_simp
          refine HG6.out.mono ?_; rintro e w7 ⟨rfl, rfl⟩; rw [← HREL2.out.g]
          refine hK.out _ _ ?_ (fun hHeld => ?_)
          · (try dsimp only); exact ⟨hcv1, hcv2, c4, c5⟩
          clear hK K
          try simp only [Act.put, List.setIfInBounds_toArray, List.set_cons_zero, List.set_cons_succ]
          refine wpAnyH_rest 26 (by kernel_rfl) (by kernel_rfl) (by kernel_rfl) hHeld ?_
          simp only [List.drop_succ_cons, List.drop_zero]
          repeat (refine no_implicit_lambda% (wpStill_step (fun K hK => ?_)); go_simp; refine hK _ ?_; clear hK K)
          refine wpStill_nil ?_
          refine NoPanic.normal ?_
          go_wp2_with fail
          go_roundw
          case rel => exact ⟨q + 1, by omega, by go_num, m5, S', Q', by omega, hok', by have := himg.2; omega, himg.1.trans hsi, HREL2.out, HD6.out.drew, HP6.out.keep0 (Below.refl _ _).drew, hB.trans (hB6.trans (Below.refl _ _).drew)⟩
          case measure => simp [intOf]; omega
    · obtain ⟨m, s, P, hm, hs, hsr, hsi, hR, hD, hP, hB⟩ := hS
      have hA := Lib.hid (awake_any wr.drew)
      have hG := Lib.hid (pages_any b mb ib kap m s hs wr.drew hD.drew)
      obtain ⟨c0, c1, c2, c3, c4, c5, f4, f5⟩ := six_cells hP.row
      have hpn : s.pages = n := by rw [← hP.lf]; exact hR.hf.symm
      have HPN := Lib.hid hpn
      clear hpn hR hD hP hs
      have hqn : l ≤ q ∨ (q < l ∧ q = 60) := by omega
      clear hql
      rcases hqn with hqn | ⟨hqn, rfl⟩
      all_goals
        go_upto_region 18 with fail
        refine wp_region_noPanic ?_
        refine wp_region_held_drew (S := fun w' => w'.cell? ⟨pb, 1, none⟩ = some (.slice (some ⟨fb, 0, none⟩) n n)) (by kernel_rfl) ?_ (fun hHeld => ?_)
        · exact c1
        refine wpAnyH_take (i := 0) (v := ?_) rfl (by kernel_rfl) (by kernel_rfl) (by kernel_rfl) (fun _ _ _ h => h) (Or.inl ⟨by kernel_rfl, ?_⟩) (by assumption) ?_
        rotate_left
        · (intro w hSw; (try dsimp only at hSw); go_simp; try with_reducible rfl)
        try simp only [Act.put, List.setIfInBounds_toArray, List.set_cons_zero, List.set_cons_succ]
        refine wpAnyH_take (i := 2) (v := ?_) rfl (by kernel_rfl) (by kernel_rfl) (by kernel_rfl) (fun _ _ _ h => h) (Or.inl ⟨by kernel_rfl, ?_⟩) (by assumption) ?_
        rotate_left
        · (intro w hSw; (try dsimp only at hSw); go_simp; try with_reducible rfl)
        try simp only [Act.put, List.setIfInBounds_toArray, List.set_cons_zero, List.set_cons_succ]
        refine wpAnyH_take (i := 3) (v := ?_) rfl (by kernel_rfl) (by kernel_rfl) (by kernel_rfl) (fun _ _ _ h => h) (Or.inl ⟨by kernel_rfl, ?_⟩) (by assumption) ?_
        rotate_left
        · (intro w hSw; (try dsimp only at hSw); go_simp; try with_reducible rfl)
        try simp only [Act.put, List.setIfInBounds_toArray, List.set_cons_zero, List.set_cons_succ]
        refine wpAnyH_take (i := 4) (v := ?_) rfl (by kernel_rfl) (by kernel_rfl) (by kernel_rfl) (fun _ _ _ h => h) (Or.inl ⟨by kernel_rfl, ?_⟩) (by assumption) ?_
        rotate_left
        · (intro w hSw; (try dsimp only at hSw); go_simp; try with_reducible rfl)
        try simp only [Act.put, List.setIfInBounds_toArray, List.set_cons_zero, List.set_cons_succ]
        refine wpAnyH_take (i := 5) (v := ?_) rfl (by kernel_rfl) (by kernel_rfl) (by kernel_rfl) (fun _ _ _ h => h) (Or.inl ⟨by kernel_rfl, ?_⟩) (by assumption) ?_
        rotate_left
        · (intro w hSw; (try dsimp only at hSw); go_simp; try with_reducible rfl)
        try simp only [Act.put, List.setIfInBounds_toArray, List.set_cons_zero, List.set_cons_succ]
        refine wpAnyH_take (i := 6) (v := ?_) rfl (by kernel_rfl) (by kernel_rfl) (by kernel_rfl) (fun _ _ _ h => h) (Or.inl ⟨by kernel_rfl, ?_⟩) (by assumption) ?_
        rotate_left
        · (intro w hSw; (try dsimp only at hSw); go_simp; try with_reducible rfl)
        try simp only [Act.put, List.setIfInBounds_toArray, List.set_cons_zero, List.set_cons_succ]
        refine wpAnyH_ready (rs := [1]) (by kernel_rfl) (by simp) ?_
        refine AllReadyH.cons rfl (fun K hK => ?_) AllReadyH.nil
        go_simp
        refine hG.out.mono ?_; rintro e w5 ⟨rfl, rfl⟩; rw [HPN.out]
        refine hK.out _ _ ?_ (fun hHeld => ?_)
        · (try dsimp only); exact c1
        clear hK K
        try simp only [Act.put, List.setIfInBounds_toArray, List.set_cons_zero, List.set_cons_succ]
        refine wpAnyH_take (i := 7) (v := .bool true) rfl (by kernel_rfl) (by kernel_rfl) (by kernel_rfl) (fun _ _ _ h => h) (Or.inl ⟨by kernel_rfl, ?_⟩) (by assumption) ?_
        · (intro w hSw; (try dsimp only at hSw); go_simp; try with_reducible rfl)
        try simp only [Act.put, List.setIfInBounds_toArray, List.set_cons_zero, List.set_cons_succ]
        refine wpAnyH_take (i := 8) (v := .bool true) rfl (by kernel_rfl) (by kernel_rfl) (by kernel_rfl) (fun _ _ _ h => h) (Or.inl ⟨by kernel_rfl, ?_⟩) (by assumption) ?_
        · (intro w hSw; (try dsimp only at hSw); go_simp; try with_reducible rfl)
        try simp only [Act.put, List.setIfInBounds_toArray, List.set_cons_zero, List.set_cons_succ]
        refine wpAnyH_ready (rs := [9]) (by kernel_rfl) (by simp) ?_
        refine AllReadyH.cons rfl (fun K hK => ?_) AllReadyH.nil
        go_simp
        refine hA.out.mono ?_; rintro e w5 ⟨rfl, hb5⟩; have g1 := (Keeps.ofBelow (S := fun _ => False) hb5 (Nat.le_refl _)).cell (p := ⟨pb, 1, none⟩) c1 id
        refine hK.out _ _ ?_ (fun hHeld => ?_)
        · (try dsimp only); exact g1
        clear hK K
        try simp only [Act.put, List.setIfInBounds_toArray, List.set_cons_zero, List.set_cons_succ]
        refine wpAnyH_rest 10 (by kernel_rfl) (by kernel_rfl) (by kernel_rfl) hHeld ?_
        simp only [List.drop_succ_cons, List.drop_zero]
        repeat (refine no_implicit_lambda% (wpStill_step (fun K hK => ?_)); go_simp; refine hK _ ?_; clear hK K)
        refine wpStill_nil ?_
        refine NoPanic.normal ?_
        go_wp2_with fail
        go_ret
        exact ⟨rfl, hB.trans (((Below.refl _ _).drew).trans (hb5.mono hB.size))⟩
end Go.Proofs.Ytagaljjiiinjmaa

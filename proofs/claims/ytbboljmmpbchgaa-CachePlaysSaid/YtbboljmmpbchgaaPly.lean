/- CachePlays. -/
import Derived.Test.YtbboljmmpbchgaaStq
import Derived.Deep.RegionWith
namespace Go.Proofs.Ytbboljmmpbchgaa
open Go Go.RowKit Go.Calli Go.Dskp Go.Maps
set_option linter.unusedVariables false
set_option linter.unusedSimpArgs false
attribute [local irreducible] wpStill wpAnyH wpAnyS wpList Code.wp
theorem infoBool : (Try.prog.info? 4).map (fun i => (i.zero, i.size, i.bytes)) = some (some (.bool false), 1, 1) := by kernel_rfl
theorem infoSl : (Try.prog.info? 22).map (fun i => (i.zero, i.size, i.bytes)) = some (some (.slice none 0 0), 1, 24) := by kernel_rfl
theorem make_eqz {P : Program} (t e : TypeId) (z : Value) (hz1 : z.cells = #[z]) (hu : P.underlying t = some (.slice e)) {bytes : Nat} (hinfo : (P.info? e).map (fun i => (i.zero, i.size, i.bytes)) = some (some z, 1, bytes)) (hb8 : bytes ≤ 24) (n : Nat) (hn : n ≤ 1000000) (w : World) :
    (Instr.makeSlice t (.int .i64 (n : Int)) (.int .i64 (n : Int))).run P w = .ok (.slice (some ⟨w.heap.size, 0, none⟩) n n) (w.alloc (.cells (List.replicate n z).toArray e)) := by
  obtain ⟨i, hi, hz, hsz, hby⟩ := info_parts hinfo
  have hb : i.bytes * n ≤ 281474976710656 := by rw [hby]; exact Nat.le_trans (Nat.mul_le_mul hb8 hn) (by decide)
  have hb2 : (i.bytes : Int) * (n : Int) ≤ 281474976710656 := by
    have h : ((i.bytes * n : Nat) : Int) ≤ 281474976710656 := by omega
    rwa [Int.natCast_mul] at h
  have hr := run_make (P := P) w t e i z hu hi hz .i64 .i64 n n (by omega) (Int.le_refl _) hb2 (by omega)
  simp only [Int.toNat_natCast] at hr
  rw [hr, hsz, Nat.mul_one]
  congr 3
  apply Array.toList_inj.1
  rw [hz1]
  apply List.ext_getElem
  · simp [madeCells]
  · intro i h1 h2
    simp [madeCells, Nat.mod_one]
theorem four_rows (w : World) (r1 r2 r3 r4 : Obj) : ∀ W, W = ((((w.alloc r1).alloc r2).alloc r3).alloc r4).drew →
    W.heap[w.heap.size]? = some r1 ∧ W.heap[w.heap.size + 1]? = some r2 ∧ W.heap[w.heap.size + 1 + 1]? = some r3 ∧ W.heap[w.heap.size + 1 + 1 + 1]? = some r4 ∧ Below w.heap.size w W := by
  rintro W rfl
  obtain ⟨a1, a2⟩ := MapKept.heap_alloc w r1
  obtain ⟨b1, b2⟩ := MapKept.heap_alloc (w.alloc r1) r2
  obtain ⟨c1, c2⟩ := MapKept.heap_alloc ((w.alloc r1).alloc r2) r3
  obtain ⟨d1, d2⟩ := MapKept.heap_alloc (((w.alloc r1).alloc r2).alloc r3) r4
  simp only [World.size_alloc] at a1 a2 b1 b2 c1 c2 d1 d2
  refine ⟨?_, ?_, ?_, d1, (balloc (balloc (balloc (below_alloc _ _) _) _) _).drew⟩
  · exact (d2 _ (by omega)).trans ((c2 _ (by omega)).trans ((b2 _ (by omega)).trans a1))
  · exact (d2 _ (by omega)).trans ((c2 _ (by omega)).trans b1)
  · exact (d2 _ (by omega)).trans c1
/-- The law's cache, its pages still to be set. -/
def Half (n : Nat) (r : Int) (qb : Nat) (R3 R4 R5 : Array Value) (w : World) (v : Value) (wx : World) : Prop := ∃ pb gb kb db, v = .pointer (some ⟨pb, 0, none⟩) ∧ wx.heap[pb]? = some (.cells #[.pointer (some ⟨qb, 0, none⟩), .slice (some ⟨gb, 0, none⟩) n n, .slice (some ⟨kb, 0, none⟩) n n, .slice (some ⟨db, 0, none⟩) n n, .int .i64 0, .int .i64 r, .int .i64 0, .int .i64 0, .int .i64 0, .int .i64 0] 57 (0, 0)) ∧
  wx.heap[gb]? = some (.cells R3 3 (0, 0)) ∧ wx.heap[kb]? = some (.cells R4 4 (0, 0)) ∧ wx.heap[db]? = some (.cells R5 22 (0, 0)) ∧
  (gb ≠ kb ∧ gb ≠ db ∧ kb ≠ db ∧ pb ≠ gb ∧ pb ≠ kb ∧ pb ≠ db ∧ w.heap.size ≤ pb ∧ w.heap.size ≤ gb ∧ w.heap.size ≤ kb ∧ w.heap.size ≤ db) ∧ Below w.heap.size w wx
theorem half_mk (n : Nat) (r : Int) (qb : Nat) (R3 R4 R5 : Array Value) (w : World) (p x y z : Nat) (W : World) (hp : W.heap[p]? = some (.cells #[.pointer (some ⟨qb, 0, none⟩), .slice (some ⟨x, 0, none⟩) n n, .slice (some ⟨y, 0, none⟩) n n, .slice (some ⟨z, 0, none⟩) n n, .int .i64 0, .int .i64 r, .int .i64 0, .int .i64 0, .int .i64 0, .int .i64 0] 57 (0, 0))) (hx : W.heap[x]? = some (.cells R3 3 (0, 0))) (hy : W.heap[y]? = some (.cells R4 4 (0, 0))) (hz : W.heap[z]? = some (.cells R5 22 (0, 0)))
    (hne : x ≠ y ∧ x ≠ z ∧ y ≠ z ∧ p ≠ x ∧ p ≠ y ∧ p ≠ z ∧ w.heap.size ≤ p ∧ w.heap.size ≤ x ∧ w.heap.size ≤ y ∧ w.heap.size ≤ z) (hB : Below w.heap.size w W) : Half n r qb R3 R4 R5 w (.pointer (some ⟨p, 0, none⟩)) W := ⟨p, x, y, z, rfl, hp, hx, hy, hz, hne, hB⟩
/-- The state between the calls. -/
def PlaySt (A : Ad) (B : Bd) (n : Nat) (zs : List Int) (i : Nat) (w wx : World) : Prop := ∃ c ds, CaIs A wx n c ∧ PlSt B wx n c ds ∧ COk c ∧ CLim (600 * i) c ∧ c.d.img = zs ∧ Below w.heap.size w wx
def bdOf (A : Ad) (pb gb kb db qb qm : Nat) (qi : Option Addr) (qk : Nat) : Bd := ⟨pb, gb, kb, db, qb, qm, qi, qk, A.S⟩
theorem half_pl {A : Ad} {n r : Nat} {zs : List Int} {w1 w2 wc : World} {pb gb kb db qb qm : Nat} {qi : Option Addr} {qk : Nat} {R3 R4 R5 : Array Value}
    (hR3 : R3 = (List.replicate n (Value.int .i64 0)).toArray) (hR4 : R4 = (List.replicate n (Value.bool false)).toArray) (hR5 : R5 = (List.replicate n (Value.slice none 0 0)).toArray)
    (r1 : wc.heap[pb]? = some (.cells #[.pointer (some ⟨qb, 0, none⟩), .slice (some ⟨gb, 0, none⟩) n n, .slice (some ⟨kb, 0, none⟩) n n, .slice (some ⟨db, 0, none⟩) n n, .int .i64 0, .int .i64 r, .int .i64 0, .int .i64 0, .int .i64 0, .int .i64 0] 57 (0, 0)))
    (r2 : wc.heap[gb]? = some (.cells R3 3 (0, 0))) (r3 : wc.heap[kb]? = some (.cells R4 4 (0, 0))) (r4 : wc.heap[db]? = some (.cells R5 22 (0, 0)))
    (hne : gb ≠ kb ∧ gb ≠ db ∧ kb ≠ db ∧ pb ≠ gb ∧ pb ≠ kb ∧ pb ≠ db ∧ w2.heap.size ≤ pb ∧ w2.heap.size ≤ gb ∧ w2.heap.size ≤ kb ∧ w2.heap.size ≤ db) (hB : Below w2.heap.size w2 wc) (hB2 : Below w1.heap.size w1 w2)
    (hD : Dsk w2 qb qm qi qk 0 ⟨zs, fun _ => none, 0, 0⟩) (hqb : w1.heap.size ≤ qb) (hqm : w1.heap.size ≤ qm) (hqi : ∀ a, qi = some a → w1.heap.size ≤ a.block ∧ a.block < w2.heap.size) (hAin : ∀ k, A.S k → k < w1.heap.size) :
    PlM (bdOf A pb gb kb db qb qm qi qk) wc n (List.replicate n 0) (List.replicate n false) 0 r 0 0 0 0 (List.replicate n dv0) ⟨zs, fun _ => none, 0, 0⟩ 0 := by
  obtain ⟨n1, n2, n3, n4, n5, n6, m1, m2, m3, m4⟩ := hne
  have l1 := hD.lt
  have l2 := hD.2.2.2.1.lt
  have s1 := hB2.size
  have s2 := hB.size
  refine ⟨r1, by rw [List.map_replicate, ← hR3]; exact r2, by rw [List.map_replicate, ← hR4]; exact r3, by rw [List.map_replicate]; exact (show wc.heap[db]? = some (.cells (List.replicate n (Value.slice none 0 0)).toArray 22 (0, 0)) by rw [← hR5]; exact r4), ⟨0, Nat.le_refl _, hD.keep0 hB⟩, List.length_replicate, List.length_replicate, List.length_replicate, ?_, ?_, ?_⟩
  · refine ⟨n4, n5, n6, ?_, ?_, n1, n2, ?_, ?_, n3, ?_, ?_, ?_, ?_⟩ <;> (simp only [bdOf]; omega)
  · intro a ha
    have := hqi a ha
    simp only [bdOf]
    exact ⟨by omega, by omega, by omega, by omega, by omega⟩
  · intro k hk
    have := hAin k hk
    refine ⟨by omega, ?_, fun a ha => by have := hqi a ha; omega⟩
    rintro (e | e | e | e | e | e) <;> (simp only [bdOf] at e; omega)
set_option maxRecDepth 100000 in
set_option maxHeartbeats 2000000 in
theorem plays_good (ao so : Option Addr) (m cap l scap : Nat) (zs : List Int) (os : List Opr) (n r : Nat) (hm : m ≤ 500) (h1 : 1 ≤ n) (h2 : n ≤ 20) (hr : r ≤ 8) (w : World) (h : Ints .u8 w ao m zs) (hO : Ops w so l os) : Calls Try.prog 6 #[.slice ao m cap, .int .i64 n, .int .i64 r, .slice so l scap] w (TruePost w) := by
  have hM := made_good ao m cap zs hm n r h1 (by omega) (by omega) (by omega) w h
  go_enter Try.func6, Try.ntmps6
  go_upto_region 4 with (go_at_call 8; refine hM.mono ?_; clear hM; rintro e w1 ⟨A, rfl, hC0, hA, hib, hAx, hB1⟩)
  have hN := new_any ao m cap zs hm w1 (h.keep0 hB1)
  go_upto_region 7 with (go_at_call 19; refine hN.mono ?_; clear hN; rintro e w2 ⟨qb, qm, qi, qk, rfl, hD, hqb, hqm, hqi, hB2⟩)
  go_upto_region 9 with fail
  have hm3 := make_eqz (P := Try.prog) 32 3 (.int .i64 0) rfl Try.underlying32 infoI3 (by decide) n (by omega)
  have hm4 := make_eqz (P := Try.prog) 54 4 (.bool false) rfl Try.underlying54 infoBool (by decide) n (by omega)
  have hm5 := make_eqz (P := Try.prog) 55 22 (.slice none 0 0) rfl Try.underlying55 infoSl (by decide) n (by omega)
  obtain ⟨R3, hR3⟩ : ∃ R3, R3 = (List.replicate n (Value.int .i64 0)).toArray := ⟨_, rfl⟩
  obtain ⟨R4, hR4⟩ : ∃ R4, R4 = (List.replicate n (Value.bool false)).toArray := ⟨_, rfl⟩
  obtain ⟨R5, hR5⟩ : ∃ R5, R5 = (List.replicate n (Value.slice none 0 0)).toArray := ⟨_, rfl⟩
  rw [← hR3] at hm3
  rw [← hR4] at hm4
  rw [← hR5] at hm5
  have HR3 := Lib.hid hR3
  have HR4 := Lib.hid hR4
  have HR5 := Lib.hid hR5
  clear hR3 hR4 hR5
  go_cut [13] (fun v wx => Half n r qb R3 R4 R5 w2 v wx)
  case first =>
    clear hO h hC0 hA hib hAx hB1 hD hqi
    go_region_with (fail)
    all_goals
      try simp only [Act.put, List.getElem_toArray, List.getElem_cons_succ, List.getElem_cons_zero, List.setIfInBounds_toArray, List.set_cons_zero, List.set_cons_succ]
      go_wp2_with fail
      go_meet
      obtain ⟨t1, t2, t3, t4, t5⟩ := four_rows w2 _ _ _ _ _ rfl
      first
        | exact half_mk n r qb R3 R4 R5 w2 (w2.heap.size + 1 + 1 + 1) w2.heap.size (w2.heap.size + 1) (w2.heap.size + 1 + 1) _ t4 t1 t2 t3 (by omega) t5
        | exact half_mk n r qb R3 R4 R5 w2 (w2.heap.size + 1 + 1 + 1) w2.heap.size (w2.heap.size + 1 + 1) (w2.heap.size + 1) _ t4 t1 t3 t2 (by omega) t5
        | exact half_mk n r qb R3 R4 R5 w2 (w2.heap.size + 1 + 1 + 1) (w2.heap.size + 1) w2.heap.size (w2.heap.size + 1 + 1) _ t4 t2 t1 t3 (by omega) t5
        | exact half_mk n r qb R3 R4 R5 w2 (w2.heap.size + 1 + 1 + 1) (w2.heap.size + 1) (w2.heap.size + 1 + 1) w2.heap.size _ t4 t2 t3 t1 (by omega) t5
        | exact half_mk n r qb R3 R4 R5 w2 (w2.heap.size + 1 + 1 + 1) (w2.heap.size + 1 + 1) w2.heap.size (w2.heap.size + 1) _ t4 t3 t1 t2 (by omega) t5
        | exact half_mk n r qb R3 R4 R5 w2 (w2.heap.size + 1 + 1 + 1) (w2.heap.size + 1 + 1) (w2.heap.size + 1) w2.heap.size _ t4 t3 t2 t1 (by omega) t5
  case rest =>
  obtain ⟨pb, gb, kb, db, rfl, r1, r2, r3, r4, hne, hB3⟩ := hcut
  clear hm3 hm4 hm5
  have HM0 := half_pl (A := A) HR3.out HR4.out HR5.out r1 r2 r3 r4 hne hB3 hB2 hD hqb hqm hqi hC0.inW
  have hB23 := bstep hB2 hB3
  have hbS : ∀ k, (bdOf A pb gb kb db qb qm qi qk).S k → w1.heap.size ≤ k := by
    have := hB2.size
    rintro k (e | e | e | e | e | e) <;> (simp only [bdOf] at e; omega)
  have hCA : CaIs { A with x := (bdOf A pb gb kb db qb qm qi qk).S } wc n (newC zs n r) := hC0.setX (newC_ok _ _ _) (Keeps.ofBelow hB23 (Nat.le_refl _)) (fun k hk => ⟨HM0.inW k hk, .inr (hbS k hk)⟩)
  have hSep : Sep { A with x := (bdOf A pb gb kb db qb qm qi qk).S } (bdOf A pb gb kb db qb qm qi qk) := ⟨fun k e => e, fun k e => e⟩
  have HSep := Lib.hid hSep
  have hB1c := bstep hB1 hB23
  have HI := Lib.hid h
  have hBw1 := hB1.size
  have hzl := h.hlen
  clear r1 r2 r3 r4 hne hB3 hB2 hD hqb hqm hqi hC0 hib hAx HR3 HR4 HR5 hSep h hB23
  generalize hBB : bdOf A pb gb kb db qb qm qi qk = B at *
  have epb : pb = B.pb := by rw [← hBB]; rfl
  have egb : qb = B.qb := by rw [← hBB]; rfl
  subst epb egb
  have HBB := Lib.hid hBB
  clear hBB
  go_wp2_with fail
  go_loopw [14] (fun v14 wx => ∃ i : Nat, i ≤ n ∧ v14 = .int .i64 i ∧ PlM B wx n (setAll (List.replicate n 0) (-1) i) (List.replicate n false) 0 r 0 0 0 0 (List.replicate n dv0) ⟨zs, fun _ => none, 0, 0⟩ 0 ∧ Keeps B.S wc wx) (fun v14 _ => n - (intOf v14).toNat)
  case atStart => exact ⟨0, Nat.zero_le _, rfl, HM0, Keeps.refl _ _⟩
  case round =>
    clear HM0
    obtain ⟨i, hi, rfl, HM, hkx⟩ := hrel
    by_cases hin2 : i < n
    · obtain ⟨c0, c1, c2, c3, c4, c5, c6, c7, c8, c9⟩ := HM.cells
      have g0 := HM.pgAt i hin2
      have gf := frozen_of_row _ _ i _ _ HM.pgc
      have HM2 := Lib.hid (HM.setPg i (-1))
      have hk3 := hkx.trans ((keep_cell wr B.gb i (.int .i64 (-1))).mono fun k _ h => .inr (.inl h))
      clear HM hkx
      go_wp2_with fail
      go_roundw
      case rel => exact ⟨i + 1, by omega, by go_num, HM2.out, hk3⟩
      case measure => simp [intOf]; omega
    · obtain rfl : i = n := by omega
      have hS0 : PlaySt { A with x := B.S } B i zs 0 w wr := by
        refine ⟨newC zs i r, List.replicate i dv0, hCA.keptX hkx, ⟨?_, fun j hj hf => ?_, by simp [newC], by show 0 < i; omega⟩, newC_ok _ _ _, newC_lim zs (by omega) i r (by omega) (by omega), rfl, hB1c.trans (hkx.toBelow hB1c.size (fun k hk hS => by have := hbS k hS; have := hBw1; omega))⟩
        · show PlM B wr i ((List.replicate i q0).map pgOf) ((List.replicate i q0).map PS.u) 0 r 0 0 0 0 _ _ 0
          rw [setAll_all _ _ _ List.length_replicate] at HM
          rw [List.map_replicate, List.map_replicate]
          exact HM
        · have e : (newC zs i r).ss.getD j q0 = q0 := getD_rep _ _ _
          rw [e] at hf
          cases hf
      clear HM hkx hCA
      go_wp2_with fail
      go_loopw [15] (fun v15 wx => ∃ q : Nat, q ≤ 60 ∧ v15 = .int .i64 q ∧ PlaySt { A with x := B.S } B i zs q w wx) (fun v15 _ => 60 - (intOf v15).toNat)
      case atStart => exact ⟨0, by omega, rfl, hS0⟩
      case round =>
        clear hS0
        obtain ⟨q, hq, rfl, c, ds, hC, H, hok, hL, him0, hB⟩ := hrel
        by_cases hql : q < l ∧ q < 60
        · obtain ⟨hql, hq60⟩ := hql
          have hO2 := hO.keep0 hB
          obtain ⟨sa, rfl, hAt⟩ := hO2.cell q hql
          have hwf := hO2.wf q hql
          clear hO2
          generalize os.getD q o0 = o at hAt hwf
          obtain ⟨o1, o2, o3, o4⟩ := hAt
          have him : c.d.img.length ≤ 512 := by rw [him0]; omega
          have hst := stC_ok hok hL him hwf
          have hstep := fun W hCW HW => step_any (n := i) (by omega) HSep.out c hok (600 * q) (by omega) hL him o hwf ds W hCW HW
          generalize stC c o = C at *
          have HST := Lib.hid hst
          have hCd := hC.keep0 (Below.refl _ _).drew
          have Hd := H.keep0 (Below.refl _ _).drew
          have HIM := Lib.hid him0
          clear hst him him0 hC H
          go_upto_region 17 with fail
          go_region_with (first
            | (go_at_call 20; refine (hstep wr.drew hCd Hd).mono ?_; rintro e W3 ⟨rfl, ⟨ds3, hC3, H3⟩, hk3⟩; obtain ⟨d0, d1, d2, d3, d4, d5, d6, d7, d8, d9⟩ := H3.m.cells)
            | (go_at_call 12; refine (told_any _ i _ W3 hC3).mono ?_; rintro e W4 ⟨rfl, hB4⟩; have hC4 := hC3.keep0 hB4; have H4 := H3.keep0 hB4; obtain ⟨f0, f1, f2, f3, f4, f5, f6, f7, f8, f9⟩ := H4.m.cells; obtain ⟨mA, -, hDA⟩ := hC4.dsk; obtain ⟨mB, -, hDB⟩ := H4.m.dsk)
            | (go_at_call_of 13 (Value.pointer (some ⟨A.b, 0, none⟩)); refine (reads_any A.b A.mb A.ib A.kap mA _ W4 hDA).mono ?_; rintro e w' ⟨rfl, rfl⟩)
            | (go_at_call_of 13 (Value.pointer (some ⟨B.qb, 0, none⟩)); refine (reads_any B.qb B.qm B.qi B.qk mB _ W4 hDB).mono ?_; rintro e w' ⟨rfl, rfl⟩))
          all_goals
            try simp only [Act.put, List.getElem_toArray, List.getElem_cons_succ, List.getElem_cons_zero, List.setIfInBounds_toArray, List.set_cons_zero, List.set_cons_succ]
            have hP := pages_of _ i (by omega) C HST.out.1 W4 hC4
            rw [show pgsC C = C.ss.map pgOf from rfl] at hP
            have hlen : (C.ss.map pgOf).length = i := by rw [List.length_map]; exact H4.len
            unfold PgsPost at hP
            rw [hlen] at hP
            have HLEN := Lib.hid hlen
            have hB3w : Below w.heap.size w W3 := (hB.drew).trans (hk3.toBelow (hB.drew).size (fun k hk hS => by
              rcases hS with e | e
              · have := hA k e; omega
              · have := hbS k e; omega))
            have hB4w := bstep hB3w hB4
            clear hlen d0 d1 d2 d3 d4 d5 d6 d7 d8 d9 f0 f1 f2 f3 f4 f5 f6 f7 f8 f9 hDA hDB hC3 H3 hCd Hd hstep
            go_wp2_with (go_at_call 11; refine hP.mono ?_; clear hP; rintro e W5 ⟨lo, lc, rfl, hlc, hIl, hnl, hB5⟩)
            have hC5 := Lib.hid (hC4.keep0 hB5)
            have H5 := Lib.hid (H4.keep0 hB5)
            have hB5w := bstep hB4w hB5
            clear hC4 H4 hB4w hB3w hB5 hk3 hB4 hB
            go_loopw [17] (fun v17 wx => ∃ k : Nat, k ≤ i ∧ v17 = .int .i64 k ∧ Below W5.heap.size W5 wx) (fun v17 _ => i - (intOf v17).toNat)
            case atStart => exact ⟨0, Nat.zero_le _, rfl, Below.refl _ _⟩
            case round =>
              obtain ⟨k, hk, rfl, hBx⟩ := hrel
              by_cases hki : k < i
              · have H6 := H5.out.keep0 hBx
                have hI6 := hIl.keep0 hBx
                obtain ⟨la, rfl, hx⟩ := hI6.some (by omega)
                have hxk := hx k hki
                obtain ⟨c0, c1, c2, c3, c4, c5, c6, c7, c8, c9⟩ := H6.m.cells
                have g0 := H6.m.pgAt k hki
                generalize (C.ss.map pgOf).getD k 0 = X at *
                clear hx H6 hI6
                go_upto_region 23 with fail
                go_quiet (fail)
                have hBx2 : Below W5.heap.size W5 (wr.drewN nq) := ((Keeps.ofBelow (S := fun _ => False) hBx (Nat.le_refl _)).drewN nq).toBelow (Nat.le_refl _) (fun _ _ h => h)
                clear c0 c1 c2 c3 c4 c5 c6 c7 c8 c9 g0 hxk hBx
                generalize wr.drewN nq = W7 at *
                go_wp2_with fail
                go_roundw
                case rel => exact ⟨k + 1, by omega, by go_num, hBx2⟩
                case measure => simp [intOf]; omega
              · obtain rfl : k = i := by omega
                have HC6 := Lib.hid (hC5.out.keep0 hBx)
                have H6 := Lib.hid (H5.out.keep0 hBx)
                have hB6 := bstep hB5w hBx
                clear hBx hB5w
                go_wp2_with fail
                go_roundw
                case rel => exact ⟨q + 1, by omega, by go_num, C, ds3, HC6.out, H6.out, HST.out.1, HST.out.2.1.mono (by omega), HST.out.2.2.2.trans HIM.out, hB6⟩
                case measure => simp [intOf]; omega
        · have hq2 : l ≤ q ∨ (q < l ∧ 60 ≤ q) := by omega
          clear hC H
          rcases hq2 with hq2 | ⟨hq2, hq3⟩
          all_goals
            go_wp2_with (go_at_call 7; refine (awake_any _).mono ?_; rintro e w3 ⟨rfl, hB3⟩)
            go_ret
            exact ⟨rfl, bstep hB hB3⟩
end Go.Proofs.Ytbboljmmpbchgaa

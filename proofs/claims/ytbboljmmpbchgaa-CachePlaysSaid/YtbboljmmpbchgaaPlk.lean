/- The walk of the law's take: a miss. -/
import Derived.Test.YtbboljmmpbchgaaPlt
import Derived.StillTailTactics
namespace Go.Proofs.Ytbboljmmpbchgaa
open Go Go.RowKit Go.Calli Go.Dskp Go.Maps
set_option linter.unusedVariables false
set_option linter.unusedSimpArgs false
attribute [local irreducible] wpStill wpAnyH wpAnyS wpList Code.wp
theorem PlM.mono {B : Bd} {w : World} {n : Nat} {pg : List Int} {mk : List Bool} {hd re h m t l : Int} {ds : List Dv} {d : Dk} {mx mx' : Nat} (H : PlM B w n pg mk hd re h m t l ds d mx) (hm : mx ≤ mx') : PlM B w n pg mk hd re h m t l ds d mx' := by
  obtain ⟨mm, h1, h2⟩ := H.dsk
  exact ⟨H.row, H.pgc, H.mkc, H.dtc, ⟨mm, by omega, h2⟩, H.lp, H.lm, H.ld, H.ne, H.away⟩
theorem cntP_set (ss : List PS) : ∀ h, (ss.getD h q0).used = true → cntP (ss.set h (ss.getD h q0).drop) + 1 = cntP ss := by
  have hd : ∀ s : PS, s.drop.used = false := fun s => by simp [PS.used, PS.drop]
  induction ss with
  | nil => intro h hu; cases hu
  | cons m r ih =>
    intro h hu
    cases h with
    | zero =>
      have hu' : m.used = true := hu
      show cntP (m.drop :: r) + 1 = cntP (m :: r)
      simp [cntP, List.filter_cons, hd, hu']
    | succ h =>
      have := ih h hu
      show cntP (m :: r.set h (r.getD h q0).drop) + 1 = cntP (m :: r)
      unfold cntP at this ⊢
      by_cases hm : m.used = true
      · rw [List.filter_cons_of_pos hm, List.filter_cons_of_pos hm, List.length_cons, List.length_cons]; omega
      · rw [List.filter_cons_of_neg hm, List.filter_cons_of_neg hm]; omega
theorem vicP_step (n : Nat) (ss : List PS) (h : Nat) (hu : (ss.getD h q0).used = true) : vicP n (cntP ss) ss h = vicP n (cntP (ss.set h (ss.getD h q0).drop)) (ss.set h (ss.getD h q0).drop) ((h + 1) % n) := by
  rw [← cntP_set ss h hu, vicP, if_pos hu]
theorem vicP_end (n k : Nat) (ss : List PS) (h : Nat) (hu : (ss.getD h q0).used = false) : vicP n k ss h = (h, ss, (h + 1) % n) := by
  cases k with
  | zero => rfl
  | succ k => rw [vicP, if_neg (by rw [hu]; decide)]
theorem pg_getD (ss : List PS) (i : Nat) (hi : i < ss.length) : (ss.map pgOf).getD i 0 = pgOf (ss.getD i q0) := by simp [List.getD, hi]
theorem mk_getD (ss : List PS) (i : Nat) (hi : i < ss.length) : (ss.map PS.u).getD i false = (ss.getD i q0).u := by simp [List.getD, hi]
/-- Between the tries. -/
def TS (p : Int) (R : TR) (N i : Nat) (d : Dk) (e : Int) (bo : Option Addr) (bn bc : Nat) (w0 wr : World) : Prop :=
  (e ≠ 0 ∧ R.e = (tryD p (N + 1 - i) d e).e ∧ R.b = (tryD p (N + 1 - i) d e).b ∧ R.d = (tryD p (N + 1 - i) d e).d ∧ R.n = i + (tryD p (N + 1 - i) d e).n) ∨ (e = 0 ∧ R.e = 0 ∧ R.d = d ∧ R.n = i ∧ bn = R.b.length ∧ bn ≤ bc ∧ Ints .u8 wr bo bn R.b ∧ ∀ a, bo = some a → w0.heap.size ≤ a.block)
set_option maxRecDepth 100000 in
set_option maxHeartbeats 2000000 in
theorem take_miss {B : Bd} {w : World} {n : Nat} {ds : List Dv} (hn : n ≤ 1024) (c : Ca) (hC : COk c) (k : Nat) (hk : k ≤ 100000) (hL : CLim k c) (p : Int) (hp : 0 ≤ p) (hwp : (Lit.int .i64 p).wf = true) (hfi : findP c.ss p n 0 = -1) (R : TR) (hR : tryD p (c.retry.toNat + 1) c.d 8 = R) (H : PlSt B w n c ds) : Calls Try.prog 34 #[.pointer (some ⟨B.pb, 0, none⟩), .int .i64 p] w (PkPost B n (if R.e = 0 then ⟨0, R.b, tookC c p R (vicP n (cntP c.ss) c.ss c.hand)⟩ else ⟨R.e, [], lostC c R⟩) w) := by
  have hF := pfind_any hn p H.m
  have hl := H.len
  rw [find_pg c.ss p hp n 0 (by omega), hfi] at hF
  have hm0 := hL.m0
  have hm1 := hL.m1
  have hl0 := hL.l0
  have hl1 := hL.l1
  have ht0 := hL.t0
  have ht1 := hL.t1
  have hr9 := hL.r
  have hmx := hL.mx
  have hok := hL.ok
  have hr0 := hL.r0
  have hr1 := hL.r1
  have hhand := H.hand
  obtain ⟨N, hN⟩ : ∃ N : Nat, c.retry = N := ⟨c.retry.toNat, by omega⟩
  have hN8 : N ≤ 8 := by omega
  rw [hN, Int.toNat_natCast] at hR
  have HD := Lib.hid H.dat
  have hin := H.m.inW
  have hxn := fun k hx => (H.m.away.2 k hx).1
  have H0 := H.m
  rw [hN] at H0
  have hw0 : IntKind.i64.wrap (c.m + 1) = c.m + 1 := IntWalk.i64_in _ (by omega)
  have H1 := H0.own (hd' := c.hand) (re' := N) (h' := c.h) (m' := c.m + 1) (t' := c.t) (l' := c.l) 7 (.int .i64 (c.m + 1)) rfl
  have hk1 : Keeps B.S w (w.setCell ⟨B.pb, 7, none⟩ (.int .i64 (c.m + 1))) := (keep_cell w B.pb 7 _).mono fun k _ h => .inl h
  obtain ⟨c0, c1, c2, c3, c4, c5, c6, c7, c8, c9⟩ := H0.cells
  have cf := frozen_of_row _ _ 7 _ _ H0.row
  have HR := Lib.hid hR
  have HNN := Lib.hid hN
  obtain ⟨X, hX⟩ : ∃ X, X = (if R.e = 0 then (⟨0, R.b, tookC c p R (vicP n (cntP c.ss) c.ss c.hand)⟩ : PR) else ⟨R.e, [], lostC c R⟩) := ⟨_, rfl⟩
  rw [← hX]
  have HX := Lib.hid hX
  clear hX
  clear H H0 hfi hL hr0 hr1 hR hN
  go_enter Try.func34, Try.ntmps34
  go_upto_region 7 with (go_at_call 35; refine hF.mono ?_; rintro e w' ⟨rfl, rfl⟩)
  clear c0 c1 c2 c3 c4 c5 c6 c7 c8 c9 cf
  generalize w.setCell ⟨B.pb, 7, none⟩ (.int .i64 (c.m + 1)) = W1 at *
  go_wp2_with fail
  go_loopw [7, 8, 9] (fun v7 v8 v9 wr => ∃ (i : Nat) (d' : Dk) (e' : Int) (bo : Option Addr) (bn bc : Nat), i ≤ N + 1 ∧ v9 = .int .i64 i ∧ v8 = .int .i64 e' ∧ v7 = .slice bo bn bc ∧ Hid (TS p R N i d' e' bo bn bc w wr) ∧ PlM B wr n (c.ss.map pgOf) (c.ss.map PS.u) c.hand N c.h (c.m + 1) (c.t + i) c.l ds d' (c.mx + i) ∧ d'.Ok ∧ d'.r ≤ c.d.r + i ∧ Keeps B.S w wr) (fun _ _ v9 _ => (N + 1 - (intOf v9).toNat))
  case atStart => exact ⟨0, c.d, 8, none, 0, 0, by omega, rfl, rfl, rfl, .inl ⟨by decide, by rw [Nat.sub_zero, HR.out], by rw [Nat.sub_zero, HR.out], by rw [Nat.sub_zero, HR.out], by rw [Nat.sub_zero, HR.out]; simp⟩, by simpa using H1, hok, by omega, hk1⟩
  case round =>
    clear H1 hk1
    obtain ⟨i, d', e', bo, bn, bc, hi, rfl, rfl, rfl, hT, HM, hdo, hdr, hK⟩ := hrel
    obtain ⟨c0, c1, c2, c3, c4, c5, c6, c7, c8, c9⟩ := HM.cells
    by_cases hgo : i < N + 1 ∧ e' ≠ 0
    · obtain ⟨hlt, he⟩ := hgo
      obtain ⟨j, hj⟩ : ∃ j, N + 1 - i = j + 1 := ⟨N - i, by omega⟩
      have hj2 : N + 1 - (i + 1) = j := by omega
      have hw1 : IntKind.i64.wrap (c.t + i + 1) = c.t + i + 1 := IntWalk.i64_in _ (by omega)
      have heb : (e' == 0) = false := by simpa using he
      have H2 := HM.own (hd' := c.hand) (re' := N) (h' := c.h) (m' := c.m + 1) (t' := c.t + i + 1) (l' := c.l) 8 (.int .i64 (c.t + i + 1)) rfl
      have hk2 : Keeps B.S w (wr.setCell ⟨B.pb, 8, none⟩ (.int .i64 (c.t + i + 1))) := hK.trans ((keep_cell wr B.pb 8 _).mono fun k _ h => .inl h)
      have cf := frozen_of_row _ _ 8 _ _ HM.row
      clear HM hK
      go_upto_region 13 with fail
      clear c0 c1 c2 c3 c4 c5 c6 c7 c8 c9 cf
      generalize wr.setCell ⟨B.pb, 8, none⟩ (.int .i64 (c.t + i + 1)) = W2 at *
      obtain ⟨c0, c1, c2, c3, c4, c5, c6, c7, c8, c9⟩ := H2.cells
      obtain ⟨mm, hmm, hD⟩ := H2.dsk
      have hRd := read_any B.qb B.qm B.qi B.qk mm d' hdo (by omega) (by omega) p hwp W2 hD
      unfold RdPost at hRd
      have hok2 := rdS_ok hdo p
      have hr2 := (rdS_r d' p).1
      have hstep : tryD p (j + 1) d' e' = if rdE d' p = 0 then ⟨0, rdB d' p, rdS d' p, 1⟩ else ⟨(tryD p j (rdS d' p) (rdE d' p)).e, (tryD p j (rdS d' p) (rdE d' p)).b, (tryD p j (rdS d' p) (rdE d' p)).d, (tryD p j (rdS d' p) (rdE d' p)).n + 1⟩ := rfl
      generalize rdE d' p = E at *
      generalize rdB d' p = BB at *
      generalize rdS d' p = DD at *
      have HST := Lib.hid hstep
      have hs2 := hk2.size
      clear hstep hD
      go_wp2_with (go_at_call 38; refine hRd.mono ?_; clear hRd; rintro e w3 ⟨ro, rc, rfl, hrc, ⟨m3, hm3, hD3⟩, hI, hnew, hk3⟩)
      have hK3 : Keeps B.S w w3 := hk2.trans (hk3.mono fun k _ h => h.elim (fun e => .inr (.inr (.inr (.inr (.inl e))))) (fun e => .inr (.inr (.inr (.inr (.inr e))))))
      have H3 := H2.setDk (m0 := mm) (mx' := c.mx + (i + 1)) hD3 (by omega) hk3
      have HTS : Hid (TS p R N (i + 1) DD E ro BB.length rc w w3) := by
        rcases hT.out with ⟨-, t1, t2, t3, t4⟩ | ⟨t1, -⟩
        · rw [hj, HST.out] at t1 t2 t3 t4
          by_cases h0 : E = 0
          · rw [if_pos h0] at t1 t2 t3 t4
            simp only at t1 t2 t3 t4
            exact .inr ⟨h0, t1, t3, by rw [t4]; omega, by rw [t2], hrc, by rw [t2]; exact hI, fun a ha => Nat.le_trans hs2 (hnew a ha)⟩
          · rw [if_neg h0] at t1 t2 t3 t4
            simp only at t1 t2 t3 t4
            exact .inl ⟨h0, by rw [hj2]; exact t1, by rw [hj2]; exact t2, by rw [hj2]; exact t3, by rw [hj2, t4]; omega⟩
        · exact absurd t1 he
      go_roundw
      case rel => exact ⟨i + 1, DD, E, ro, BB.length, rc, by omega, by go_num, rfl, rfl, HTS.out, by rw [show c.t + ((i + 1 : Nat) : Int) = c.t + i + 1 by omega]; exact H3, hok2, by omega, hK3⟩
      case measure => simp [intOf]; omega
    · have HFIN : Hid ((R.e = e' ∧ R.d = d' ∧ R.n = i) ∧ (e' ≠ 0 ∨ (bn = R.b.length ∧ bn ≤ bc ∧ Ints .u8 wr bo bn R.b ∧ ∀ a, bo = some a → w.heap.size ≤ a.block))) := by
        rcases hT.out with ⟨t0, t1, t2, t3, t4⟩ | ⟨t1, t2, t3, t4, t5⟩
        · have hz : N + 1 - i = 0 := by omega
          rw [hz] at t1 t2 t3 t4
          exact ⟨⟨t1, t3, by rw [t4]; simp [tryD]⟩, .inl t0⟩
        · exact ⟨⟨by rw [t2, t1], t3, t4⟩, .inr t5⟩
      by_cases he : e' = 0
      · subst he
        obtain ⟨b1, b2, b3, b4⟩ := HFIN.out.2.resolve_left (fun h => h rfl)
        have HB := Lib.hid (show bn = R.b.length ∧ bn ≤ bc ∧ Ints .u8 wr bo bn R.b ∧ ∀ a, bo = some a → w.heap.size ≤ a.block from ⟨b1, b2, b3, b4⟩)
        have HF1 := Lib.hid HFIN.out.1
        have hX2 : X = ⟨0, R.b, tookC c p R (vicP n (cntP c.ss) c.ss c.hand)⟩ := by rw [HX.out, if_pos HFIN.out.1.1]
        have HX2 := Lib.hid hX2
        have hgo2 : ¬ i < N + 1 ∨ i < N + 1 := by omega
        clear hT HFIN b1 b2 b3 b4 HX hX2 hgo
        have h00 : (0 : Int) = 0 := rfl
        rcases hgo2 with hgo2 | hgo2
        all_goals
          go_upto_region 14 with fail
          clear c0 c1 c2 c3 c4 c5 c6 c7 c8 c9
          go_wp2_with fail
          go_loopw [] (fun wx => ∃ (qs : List PS) (g : Nat), g < n ∧ qs.length = n ∧ Hid (vicP n (cntP c.ss) c.ss c.hand = vicP n (cntP qs) qs g) ∧ AllS SOk qs ∧ PlM B wx n (qs.map pgOf) (qs.map PS.u) g N c.h (c.m + 1) (c.t + i) c.l ds d' (c.mx + i) ∧ DatOk B wx ds qs ∧ Keeps B.S w wx ∧ Keeps B.S wr wx) (fun wx => kCnt B.kb wx)
          case atStart => exact ⟨c.ss, c.hand, hhand, hl, rfl, hC, HM, HD.out.kept hK, hK, Keeps.refl _ _⟩
          case round =>
            clear HM hK hhand
            obtain ⟨qs, g, hg, hql, hv, hall, HV, hdat, hKv, hRW⟩ := hrel
            have hcn : 0 ≤ n := Nat.zero_le _
            obtain ⟨c0, c1, c2, c3, c4, c5, c6, c7, c8, c9⟩ := HV.cells
            have g0 := HV.pgAt g hg
            have k0 := HV.mkAt g hg
            rw [pg_getD _ _ (by omega)] at g0
            rw [mk_getD _ _ (by omega)] at k0
            have hsq := hall g (by omega)
            have hus : (qs.getD g q0).used = ((qs.getD g q0).f && (qs.getD g q0).u) := rfl
            have hpgo : pgOf (qs.getD g q0) = if (qs.getD g q0).f then (qs.getD g q0).p else -1 := rfl
            have HST := Lib.hid (vicP_step n qs g)
            have HEN := Lib.hid (vicP_end n (cntP qs) qs g)
            have HUS := Lib.hid hus
            rw [hpgo] at g0
            clear hus hpgo
            unfold SOk at hsq
            cases hf : (qs.getD g q0).f with
            | true =>
              have hP := (hsq hf).2.1
              rw [hf, if_pos rfl] at g0
              have HF0 := Lib.hid hf
              clear hf hsq
              cases hu : (qs.getD g q0).u with
              | true =>
                rw [hu] at k0
                have HU0 := Lib.hid hu
                clear hu
                have HPP := Lib.hid (show (qs.getD g q0).p = (qs.getD g q0).p from rfl)
                obtain ⟨Pp, hPp⟩ : ∃ Pp, (qs.getD g q0).p = Pp := ⟨_, rfl⟩
                rw [hPp] at g0 hP
                clear hPp HPP
                have HM0 := Lib.hid (kCnt_eq HV.mkc)
                go_wp2
                go_quiet (fail)
                have HV5 := HV.keptX ((Keeps.refl B.x wr).drewN nq)
                have hdat5 := hdat.kept ((Keeps.refl B.S wr).drewN nq)
                have hK5 := hKv.drewN nq
                have hRW5 := hRW.drewN nq
                clear c0 c1 c2 c3 c4 c5 c6 c7 c8 c9 g0 k0 HV hdat hKv
                generalize wr.drewN nq = W5 at *
                obtain ⟨c0, c1, c2, c3, c4, c5, c6, c7, c8, c9⟩ := HV5.cells
                have k0 := HV5.mkAt g hg
                have kf := frozen_of_row _ _ g _ _ HV5.mkc
                go_upto_region 18 with fail
                go_still_tail 9, (by kernel_rfl)
                repeat still_step
                try refine wpStill_nil ?_
                change wpList _ _ _ _ _ W5.drew
                go_upto_region 19 with fail
                have HV6 := (HV5.setMk g false).keptX ((Keeps.refl B.x _).drew)
                have hk6 : Keeps B.S W5 (W5.setCell ⟨B.kb, g, none⟩ (.bool false)).drew := ((keep_cell W5 B.kb g _).mono fun k _ h => .inr (.inr (.inl h))).drew
                have hdat6 := hdat5.kept hk6
                have hK6 := hK5.trans hk6
                have hRW6 := hRW5.trans hk6
                clear c0 c1 c2 c3 c4 c5 c6 c7 c8 c9 k0 kf HV5 hdat5 hK5 hk6
                generalize (W5.setCell ⟨B.kb, g, none⟩ (.bool false)).drew = W6 at *
                obtain ⟨c0, c1, c2, c3, c4, c5, c6, c7, c8, c9⟩ := HV6.cells
                have cf := frozen_of_row _ _ 4 _ _ HV6.row
                have e1 : IntKind.i64.wrap ((g : Int) + 1) = (g : Int) + 1 := IntWalk.i64_in _ (by omega)
                have hn0 : (n : Int) ≠ 0 := by omega
                have hnb : ((n : Int) == 0) = false := by simpa using hn0
                have hnn : ¬ n = 0 := by omega
                obtain ⟨g1, hg1⟩ : ∃ g1 : Nat, g1 = (g + 1) % n := ⟨_, rfl⟩
                have hgn : g1 < n := by rw [hg1]; exact Nat.mod_lt _ (by omega)
                have hgi : ((g : Int) + 1).tmod (n : Int) = (g1 : Int) := by rw [hg1]; rfl
                have hgw : IntKind.i64.wrap (((g : Int) + 1).tmod (n : Int)) = (g1 : Int) := by rw [hgi, IntWalk.i64_in]; omega
                have hne1 : ¬ (n : Int) = -1 := by omega
                go_still_tail 14, (by kernel_rfl)
                repeat still_step
                try refine wpStill_nil ?_
                change wpList _ _ _ _ _ W6.drew
                have hgm : ((g : Int) + 1) % (n : Int) = (g1 : Int) := by rw [hg1]; rfl
                have HGG := Lib.hid hg1
                clear hg1 hgi hgw
                have HV7 := (HV6.own (hd' := g1) (re' := N) (h' := c.h) (m' := c.m + 1) (t' := c.t + i) (l' := c.l) 4 (.int .i64 g1) rfl).keptX ((Keeps.refl B.x _).drew)
                have hk7 : Keeps B.S W6 (W6.setCell ⟨B.pb, 4, none⟩ (.int .i64 g1)).drew := ((keep_cell W6 B.pb 4 _).mono fun k _ h => .inl h).drew
                have hus : (qs.getD g q0).used = true := by rw [HUS.out, HF0.out, HU0.out]; rfl
                have HVV := Lib.hid (hv.out.trans (HST.out hus))
                have HKC := Lib.hid (kcnt_set (qs.map PS.u) g (by rw [mk_getD _ _ (by omega)]; exact HU0.out))
                have HSS := Lib.hid (show (qs.set g (qs.getD g q0).drop).map pgOf = qs.map pgOf from map_set_same pgOf _ _ _ rfl)
                have HSU := Lib.hid (show (qs.set g (qs.getD g q0).drop).map PS.u = (qs.map PS.u).set g false from List.map_set)
                have HALL : Hid (AllS SOk (qs.set g (qs.getD g q0).drop)) := hall.set g (hall g (by omega))
                have hdat7 := (hdat6.kept hk7).qset g (q := (qs.getD g q0).drop) (fun h => h) (fun _ => rfl)
                have hK7 := hK6.trans hk7
                have hRW7 := hRW6.trans hk7
                clear hv hus
                go_wp2_with fail
                go_roundw
                case rel =>
                  refine ⟨qs.set g (qs.getD g q0).drop, g1, hgn, by rw [List.length_set]; exact hql, ?_, HALL.out, ?_, hdat7, hK7, hRW7⟩
                  · have := HVV.out
                    rw [← HGG.out] at this
                    exact this
                  · rw [HSS.out, HSU.out]
                    exact HV7
                case measure =>
                  have e1 := kCnt_eq HV7.mkc
                  have e2 := HKC.out
                  have e3 := HM0.out
                  omega
              | false =>
                rw [hu] at k0
                have hus : (qs.getD g q0).used = false := by rw [HUS.out, HF0.out, hu]; rfl
                clear hu
                obtain ⟨Pp, hPp⟩ : ∃ Pp, (qs.getD g q0).p = Pp := ⟨_, rfl⟩
                rw [hPp] at g0 hP
                clear hPp HUS HST
                go_wp2
                go_quiet (fail)
                have HVE := Lib.hid (hv.out.trans (HEN.out hus))
                have HV5 := HV.keptX ((Keeps.refl B.x wr).drewN nq)
                have hdat5 := hdat.kept ((Keeps.refl B.S wr).drewN nq)
                have hK5 := hKv.drewN nq
                have hR5 : Keeps B.S wr (wr.drewN nq) := (Keeps.refl B.S wr).drewN nq
                clear c0 c1 c2 c3 c4 c5 c6 c7 c8 c9 g0 k0 HV hdat hKv hv hus
                generalize wr.drewN nq = W5 at *
                obtain ⟨c0, c1, c2, c3, c4, c5, c6, c7, c8, c9⟩ := HV5.cells
                have g0 := HV5.pgAt g hg
                have kf := frozen_of_row _ _ g _ _ HV5.pgc
                go_upto_region 20 with fail
                go_still_tail 10, (by kernel_rfl)
                repeat still_step
                try refine wpStill_nil ?_
                change wpList _ _ _ _ _ W5.drew
                go_upto_region 21 with fail
                have HV6 := (HV5.setPg g p).keptX ((Keeps.refl B.x _).drew)
                have hk6 : Keeps B.S W5 (W5.setCell ⟨B.gb, g, none⟩ (.int .i64 p)).drew := ((keep_cell W5 B.gb g _).mono fun k _ h => .inr (.inl h)).drew
                clear c0 c1 c2 c3 c4 c5 c6 c7 c8 c9 g0 kf HV5
                generalize (W5.setCell ⟨B.gb, g, none⟩ (.int .i64 p)).drew = W6 at *
                obtain ⟨c0, c1, c2, c3, c4, c5, c6, c7, c8, c9⟩ := HV6.cells
                have g0 := HV6.mkAt g hg
                have kf := frozen_of_row _ _ g _ _ HV6.mkc
                go_still_tail 9, (by kernel_rfl)
                repeat still_step
                try refine wpStill_nil ?_
                change wpList _ _ _ _ _ W6.drew
                go_upto_region 22 with fail
                have HV7 := (HV6.setMk g true).keptX ((Keeps.refl B.x _).drew)
                have hk7 : Keeps B.S W6 (W6.setCell ⟨B.kb, g, none⟩ (.bool true)).drew := ((keep_cell W6 B.kb g _).mono fun k _ h => .inr (.inr (.inl h))).drew
                clear c0 c1 c2 c3 c4 c5 c6 c7 c8 c9 g0 kf HV6
                generalize (W6.setCell ⟨B.kb, g, none⟩ (.bool true)).drew = W7 at *
                obtain ⟨c0, c1, c2, c3, c4, c5, c6, c7, c8, c9⟩ := HV7.cells
                have g0 := HV7.dtAt g hg
                have kf := frozen_of_row _ _ g _ _ HV7.dtc
                go_still_tail 10, (by kernel_rfl)
                repeat still_step
                try refine wpStill_nil ?_
                change wpList _ _ _ _ _ W7.drew
                unfold Dv.v at g0
                go_upto_region 23 with fail
                have HV8 : PlM B (W7.setCell ⟨B.db, g, none⟩ (.slice bo bn bc)).drew n _ _ _ _ _ _ _ _ (ds.set g ⟨bo, bn, bc⟩) _ _ := (HV7.setDt g ⟨bo, bn, bc⟩).keptX ((Keeps.refl B.x _).drew)
                have hk8 : Keeps B.S W7 (W7.setCell ⟨B.db, g, none⟩ (.slice bo bn bc)).drew := ((keep_cell W7 B.db g _).mono fun k _ h => .inr (.inr (.inr (.inl h)))).drew
                clear c0 c1 c2 c3 c4 c5 c6 c7 c8 c9 g0 kf HV7
                generalize (W7.setCell ⟨B.db, g, none⟩ (.slice bo bn bc)).drew = W8 at *
                obtain ⟨c0, c1, c2, c3, c4, c5, c6, c7, c8, c9⟩ := HV8.cells
                have cf := frozen_of_row _ _ 4 _ _ HV8.row
                have e1 : IntKind.i64.wrap ((g : Int) + 1) = (g : Int) + 1 := IntWalk.i64_in _ (by omega)
                have hn0 : (n : Int) ≠ 0 := by omega
                have hnb : ((n : Int) == 0) = false := by simpa using hn0
                have hnn : ¬ n = 0 := by omega
                obtain ⟨g1, hg1⟩ : ∃ g1 : Nat, g1 = (g + 1) % n := ⟨_, rfl⟩
                have hgn : g1 < n := by rw [hg1]; exact Nat.mod_lt _ (by omega)
                have hgi : ((g : Int) + 1).tmod (n : Int) = (g1 : Int) := by rw [hg1]; rfl
                have hgw : IntKind.i64.wrap (((g : Int) + 1).tmod (n : Int)) = (g1 : Int) := by rw [hgi, IntWalk.i64_in]; omega
                have hne1 : ¬ (n : Int) = -1 := by omega
                go_still_tail 14, (by kernel_rfl)
                repeat still_step
                try refine wpStill_nil ?_
                change wpList _ _ _ _ _ W8.drew
                have hgm : ((g : Int) + 1) % (n : Int) = (g1 : Int) := by rw [hg1]; rfl
                have HGG := Lib.hid hg1
                clear hg1 hgi hgw
                have HV9 := (HV8.own (hd' := g1) (re' := N) (h' := c.h) (m' := c.m + 1) (t' := c.t + i) (l' := c.l) 4 (.int .i64 g1) rfl).keptX ((Keeps.refl B.x _).drew)
                have hk9 : Keeps B.S W8 (W8.setCell ⟨B.pb, 4, none⟩ (.int .i64 g1)).drew := ((keep_cell W8 B.pb 4 _).mono fun k _ h => .inl h).drew
                have hk59 := ((hk6.trans hk7).trans hk8).trans hk9
                have hdat9 := hdat5.kept hk59
                have hK9 := hK5.trans hk59
                clear hk6 hk7 hk8 hk9 HV8 hdat5
                go_upto_region 24 with fail
                clear c0 c1 c2 c3 c4 c5 c6 c7 c8 c9 cf
                generalize (W8.setCell ⟨B.pb, 4, none⟩ (.int .i64 g1)).drew = W9 at *
                obtain ⟨b1, b2, b3, b4⟩ := HB.out
                have hbS : ∀ a, bo = some a → ¬ B.S a.block := fun a ha e => by have := b4 a ha; have := hin _ e; omega
                have hbT : ∀ a, bo = some a → ¬ B.T a.block := fun a ha e => by
                  rcases e with e | e
                  · exact hbS a ha e
                  · have := b4 a ha; have := hxn _ e; omega
                have hI9 := b3.kept (hRW.trans (hR5.trans hk59)) hbS
                subst b1
                have HFI : Hid (PlSt B W9 n (tookC c p R (g, qs, g1)) (ds.set g ⟨bo, R.b.length, bc⟩)) := by
                  refine ⟨?_, hdat9.set (by have := HV9.ld; rw [List.length_set] at this; omega) g (fun _ => ⟨rfl, b2, hI9, hbT⟩), by show (qs.set g _).length = n; rw [List.length_set]; exact hql, hgn⟩
                  show PlM B W9 n ((qs.set g ⟨p, true, true, R.b⟩).map pgOf) ((qs.set g ⟨p, true, true, R.b⟩).map PS.u) g1 c.retry c.h (c.m + 1) (c.t + R.n) c.l _ R.d (c.mx + 9)
                  rw [List.map_set, List.map_set, HF1.out.2.1, HF1.out.2.2, HNN.out]
                  exact HV9.mono (by omega)
                have HG3 := HVE.out
                rw [← HGG.out] at HG3
                have HX3 := HX2.out
                rw [HG3] at HX3
                clear HG3 HV9 hdat9 b3
                have HX4 := Lib.hid HX3
                clear HX3
                go_wp2_with fail
                go_ret2
                rw [HX4.out]
                exact ⟨bo, bc, _, rfl, b2, HFI.out, hI9, hbT, hK9⟩
            | false =>
              rw [hf, if_neg (by decide)] at g0
              have hus : (qs.getD g q0).used = false := by rw [HUS.out, hf]; rfl
              clear hf hsq HUS HST
              go_wp2
              go_quiet (fail)
              have HVE := Lib.hid (hv.out.trans (HEN.out hus))
              have HV5 := HV.keptX ((Keeps.refl B.x wr).drewN nq)
              have hdat5 := hdat.kept ((Keeps.refl B.S wr).drewN nq)
              have hK5 := hKv.drewN nq
              have hR5 : Keeps B.S wr (wr.drewN nq) := (Keeps.refl B.S wr).drewN nq
              clear c0 c1 c2 c3 c4 c5 c6 c7 c8 c9 g0 k0 HV hdat hKv hv hus
              generalize wr.drewN nq = W5 at *
              obtain ⟨c0, c1, c2, c3, c4, c5, c6, c7, c8, c9⟩ := HV5.cells
              have g0 := HV5.pgAt g hg
              have kf := frozen_of_row _ _ g _ _ HV5.pgc
              go_upto_region 20 with fail
              go_still_tail 10, (by kernel_rfl)
              repeat still_step
              try refine wpStill_nil ?_
              change wpList _ _ _ _ _ W5.drew
              go_upto_region 21 with fail
              have HV6 := (HV5.setPg g p).keptX ((Keeps.refl B.x _).drew)
              have hk6 : Keeps B.S W5 (W5.setCell ⟨B.gb, g, none⟩ (.int .i64 p)).drew := ((keep_cell W5 B.gb g _).mono fun k _ h => .inr (.inl h)).drew
              clear c0 c1 c2 c3 c4 c5 c6 c7 c8 c9 g0 kf HV5
              generalize (W5.setCell ⟨B.gb, g, none⟩ (.int .i64 p)).drew = W6 at *
              obtain ⟨c0, c1, c2, c3, c4, c5, c6, c7, c8, c9⟩ := HV6.cells
              have g0 := HV6.mkAt g hg
              have kf := frozen_of_row _ _ g _ _ HV6.mkc
              go_still_tail 9, (by kernel_rfl)
              repeat still_step
              try refine wpStill_nil ?_
              change wpList _ _ _ _ _ W6.drew
              go_upto_region 22 with fail
              have HV7 := (HV6.setMk g true).keptX ((Keeps.refl B.x _).drew)
              have hk7 : Keeps B.S W6 (W6.setCell ⟨B.kb, g, none⟩ (.bool true)).drew := ((keep_cell W6 B.kb g _).mono fun k _ h => .inr (.inr (.inl h))).drew
              clear c0 c1 c2 c3 c4 c5 c6 c7 c8 c9 g0 kf HV6
              generalize (W6.setCell ⟨B.kb, g, none⟩ (.bool true)).drew = W7 at *
              obtain ⟨c0, c1, c2, c3, c4, c5, c6, c7, c8, c9⟩ := HV7.cells
              have g0 := HV7.dtAt g hg
              have kf := frozen_of_row _ _ g _ _ HV7.dtc
              go_still_tail 10, (by kernel_rfl)
              repeat still_step
              try refine wpStill_nil ?_
              change wpList _ _ _ _ _ W7.drew
              unfold Dv.v at g0
              go_upto_region 23 with fail
              have HV8 : PlM B (W7.setCell ⟨B.db, g, none⟩ (.slice bo bn bc)).drew n _ _ _ _ _ _ _ _ (ds.set g ⟨bo, bn, bc⟩) _ _ := (HV7.setDt g ⟨bo, bn, bc⟩).keptX ((Keeps.refl B.x _).drew)
              have hk8 : Keeps B.S W7 (W7.setCell ⟨B.db, g, none⟩ (.slice bo bn bc)).drew := ((keep_cell W7 B.db g _).mono fun k _ h => .inr (.inr (.inr (.inl h)))).drew
              clear c0 c1 c2 c3 c4 c5 c6 c7 c8 c9 g0 kf HV7
              generalize (W7.setCell ⟨B.db, g, none⟩ (.slice bo bn bc)).drew = W8 at *
              obtain ⟨c0, c1, c2, c3, c4, c5, c6, c7, c8, c9⟩ := HV8.cells
              have cf := frozen_of_row _ _ 4 _ _ HV8.row
              have e1 : IntKind.i64.wrap ((g : Int) + 1) = (g : Int) + 1 := IntWalk.i64_in _ (by omega)
              have hn0 : (n : Int) ≠ 0 := by omega
              have hnb : ((n : Int) == 0) = false := by simpa using hn0
              have hnn : ¬ n = 0 := by omega
              obtain ⟨g1, hg1⟩ : ∃ g1 : Nat, g1 = (g + 1) % n := ⟨_, rfl⟩
              have hgn : g1 < n := by rw [hg1]; exact Nat.mod_lt _ (by omega)
              have hgi : ((g : Int) + 1).tmod (n : Int) = (g1 : Int) := by rw [hg1]; rfl
              have hgw : IntKind.i64.wrap (((g : Int) + 1).tmod (n : Int)) = (g1 : Int) := by rw [hgi, IntWalk.i64_in]; omega
              have hne1 : ¬ (n : Int) = -1 := by omega
              go_still_tail 14, (by kernel_rfl)
              repeat still_step
              try refine wpStill_nil ?_
              change wpList _ _ _ _ _ W8.drew
              have hgm : ((g : Int) + 1) % (n : Int) = (g1 : Int) := by rw [hg1]; rfl
              have HGG := Lib.hid hg1
              clear hg1 hgi hgw
              have HV9 := (HV8.own (hd' := g1) (re' := N) (h' := c.h) (m' := c.m + 1) (t' := c.t + i) (l' := c.l) 4 (.int .i64 g1) rfl).keptX ((Keeps.refl B.x _).drew)
              have hk9 : Keeps B.S W8 (W8.setCell ⟨B.pb, 4, none⟩ (.int .i64 g1)).drew := ((keep_cell W8 B.pb 4 _).mono fun k _ h => .inl h).drew
              have hk59 := ((hk6.trans hk7).trans hk8).trans hk9
              have hdat9 := hdat5.kept hk59
              have hK9 := hK5.trans hk59
              clear hk6 hk7 hk8 hk9 HV8 hdat5
              go_upto_region 24 with fail
              clear c0 c1 c2 c3 c4 c5 c6 c7 c8 c9 cf
              generalize (W8.setCell ⟨B.pb, 4, none⟩ (.int .i64 g1)).drew = W9 at *
              obtain ⟨b1, b2, b3, b4⟩ := HB.out
              have hbS : ∀ a, bo = some a → ¬ B.S a.block := fun a ha e => by have := b4 a ha; have := hin _ e; omega
              have hbT : ∀ a, bo = some a → ¬ B.T a.block := fun a ha e => by
                rcases e with e | e
                · exact hbS a ha e
                · have := b4 a ha; have := hxn _ e; omega
              have hI9 := b3.kept (hRW.trans (hR5.trans hk59)) hbS
              subst b1
              have HFI : Hid (PlSt B W9 n (tookC c p R (g, qs, g1)) (ds.set g ⟨bo, R.b.length, bc⟩)) := by
                refine ⟨?_, hdat9.set (by have := HV9.ld; rw [List.length_set] at this; omega) g (fun _ => ⟨rfl, b2, hI9, hbT⟩), by show (qs.set g _).length = n; rw [List.length_set]; exact hql, hgn⟩
                show PlM B W9 n ((qs.set g ⟨p, true, true, R.b⟩).map pgOf) ((qs.set g ⟨p, true, true, R.b⟩).map PS.u) g1 c.retry c.h (c.m + 1) (c.t + R.n) c.l _ R.d (c.mx + 9)
                rw [List.map_set, List.map_set, HF1.out.2.1, HF1.out.2.2, HNN.out]
                exact HV9.mono (by omega)
              have HG3 := HVE.out
              rw [← HGG.out] at HG3
              have HX3 := HX2.out
              rw [HG3] at HX3
              clear HG3 HV9 hdat9 b3
              have HX4 := Lib.hid HX3
              clear HX3
              go_wp2_with fail
              go_ret2
              rw [HX4.out]
              exact ⟨bo, bc, _, rfl, b2, HFI.out, hI9, hbT, hK9⟩
      · have hgo2 : ¬ i < N + 1 := by omega
        have heb : (e' == 0) = false := by simpa using he
        obtain ⟨f1, f2, f3⟩ := HFIN.out.1
        have cf := frozen_of_row _ _ 9 _ _ HM.row
        have hw3 : IntKind.i64.wrap (c.l + 1) = c.l + 1 := IntWalk.i64_in _ (by omega)
        have H2 := (HM.own (hd' := c.hand) (re' := N) (h' := c.h) (m' := c.m + 1) (t' := c.t + i) (l' := c.l + 1) 9 (.int .i64 (c.l + 1)) rfl).mono (mx' := c.mx + 9) (by omega)
        have hk2 : Keeps B.S w (wr.setCell ⟨B.pb, 9, none⟩ (.int .i64 (c.l + 1))) := hK.trans ((keep_cell wr B.pb 9 _).mono fun k _ h => .inl h)
        have hX2 : X = ⟨e', [], lostC c R⟩ := by rw [HX.out, if_neg (by rw [f1]; exact he), f1]
        have HX2 := Lib.hid hX2
        have HFF := Lib.hid (And.intro f2 f3)
        have HE2 := Lib.hid H2
        clear hT HFIN f1 f2 f3 hX2 HX HM H2 hgo
        go_wp2_with fail
        go_ret2
        rw [HX2.out]
        refine ⟨none, 0, ds, rfl, Nat.le_refl _, ⟨?_, HD.out.kept hk2, hl, hhand⟩, Ints.nil _ _ _, fun a ha => (by cases ha), hk2⟩
        show PlM B _ n (c.ss.map pgOf) (c.ss.map PS.u) c.hand c.retry c.h (c.m + 1) (c.t + R.n) (c.l + 1) ds R.d (c.mx + 9)
        rw [HFF.out.1, HFF.out.2, HNN.out]
        exact HE2.out
end Go.Proofs.Ytbboljmmpbchgaa

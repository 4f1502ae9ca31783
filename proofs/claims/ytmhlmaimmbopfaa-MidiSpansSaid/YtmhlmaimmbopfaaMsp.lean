/- The statement MidiSpans. -/
import Derived.Test.YtmhlmaimmbopfaaSpl
namespace Go.Proofs.Ytmhlmaimmbopfaa
open Go Go.RowKit Go.Calli
set_option linter.unusedVariables false
set_option linter.unusedSimpArgs false
attribute [local irreducible] wpStill wpAnyH wpAnyS wpList Code.wp
theorem spans_eq {l : List Msg} (h : Inv (runL l)) : spansP l = spansL l := by
  unfold spansP spansL
  rw [sel_buks _ _ (Nat.le_refl _) h.r]
theorem some_yes {l : List Msg} {k : Nat} (h1 : (l.getD k m0).ok = true) (h2 : (some_ l k).2 ≤ (l.getD k m0).t) : some_ l (k + 1) = ((some_ l k).1 ++ [l.getD k m0], (l.getD k m0).t) := if_pos ⟨h1, h2⟩
theorem some_no {l : List Msg} {k : Nat} (h : ¬ ((l.getD k m0).ok = true ∧ (some_ l k).2 ≤ (l.getD k m0).t)) : some_ l (k + 1) = some_ l k := if_neg h
theorem getD_mem' {l : List Sp} {k : Nat} (h : k < l.length) : l.getD k sp0 ∈ l := by
  rw [show l.getD k sp0 = l[k] by simp [List.getD, h]]; exact List.getElem_mem _
theorem pair_at {l : List Sp} (h : l.Pairwise (fun a b => Same a b → a.t ≤ b.f)) {i j : Nat} (hij : i < j) (hj : j < l.length) : Same (l.getD i sp0) (l.getD j sp0) → (l.getD i sp0).t ≤ (l.getD j sp0).f := by
  have := List.pairwise_iff_getElem.1 h i j (by omega) hj hij
  rw [show l.getD i sp0 = l[i]'(by omega) by simp [List.getD, show i < l.length by omega], show l.getD j sp0 = l[j] by simp [List.getD, hj]]
  exact this
theorem own_msg_more {w : World} {B : Nat} {v : Value} {l : List Msg} {x : Msg} (h : w.ownsRow B 23 5 v (l.length + 1) (flat l ++ vals5 x)) : w.ownsRow B 23 5 v (l ++ [x]).length (flat (l ++ [x])) := by
  rw [List.length_append, flat_snoc]
  exact h
/-- The state of the loop that picks messages. -/
def SmRel (B : Nat) (p : List Msg × Int) (v3 v4 : Value) (w wr : World) : Prop := v4 = .int .i64 p.2 ∧ wr.ownsRow B 23 5 v3 p.1.length (flat p.1) ∧ Below B w wr
set_option maxRecDepth 100000 in
set_option maxHeartbeats 16000000 in
theorem midiSpans_any (ao : Option Addr) (n0 cap : Nat) (l0 : List Msg) (hc : n0 ≤ cap) (w : World) (h0 : Msgs w ao n0 l0) : Calls Try.prog 4 #[.slice ao n0 cap] w (TruePost w) := by
  go_enter Try.func4, Try.ntmps4
  go_upto_region 2 with (go_at_call 12; refine (few_any ao n0 cap l0 hc w h0).mono ?_; rintro e w1 ⟨n, rfl, hn, hn40, hncap, rfl⟩)
  have h : Msgs w ao n (l0.take n) := h0.take (by have := hn.out; omega)
  generalize l0.take n = l at h
  clear h0 hn
  have HL := Lib.hid h.hlen
  go_wp2_with fail
  go_loopw [3, 4, 5] (fun v3 v4 v5 wr => ∃ k : Nat, k ≤ n ∧ v5 = .int .i64 k ∧ SmRel w.heap.size (some_ l k) v3 v4 w wr) (fun _ _ v5 _ => (n - (intOf v5).toNat))
  case atStart => exact ⟨0, by omega, rfl, rfl, World.ownsRow_nil _ _ _ _, Below.refl _ _⟩
  case round =>
    obtain ⟨k, hk, rfl, rfl, hO, hb⟩ := hrel
    by_cases hlt : k < n
    · obtain ⟨a, rfl, hAt0⟩ := h.cell k hlt
      have hAt := hAt0.keep0 hb
      have hR := Lib.hid (fun w => lright_any (l.getD k m0).t (l.getD k m0).k (l.getD k m0).c (l.getD k m0).a (l.getD k m0).b w)
      have HY := Lib.hid (fun h1 h2 => some_yes (l := l) (k := k) h1 h2)
      have HN := Lib.hid (fun h => some_no (l := l) (k := k) h)
      have hsl := some_len l k
      generalize l.getD k m0 = m at *
      generalize some_ l k = P at *
      obtain ⟨S, T⟩ := P
      simp only at HY HN hO hsl
      have HAT := Lib.hid hAt
      have HAT0 := Lib.hid hAt0
      clear hAt0
      obtain ⟨q0, q1, q2, q3, q4⟩ := hAt
      cases hok : m.ok with
      | false =>
        have HOK := Lib.hid (show rightB m.t m.k m.c m.a m.b = false from hok)
        have HP := Lib.hid (HN.out (fun h => by rw [hok] at h; cases h.1))
        clear hok
        go_wp2_with (go_at_call 9; refine (hR.out _).mono ?_; rintro e w2 ⟨rfl, hb2⟩; rw [HOK.out])
        refine ⟨⟨k + 1, by omega, by go_num, by rw [HP.out], by rw [HP.out]; exact own_below0 hO hb2, bstep hb hb2⟩, ?_⟩
        simp [intOf]; omega
      | true =>
        have HOK := Lib.hid (show rightB m.t m.k m.c m.a m.b = true from hok)
        by_cases hge : T ≤ m.t
        · have HP := Lib.hid (HY.out hok hge)
          clear hok
          go_upto_region 8 with (go_at_call 9; refine (hR.out _).mono ?_; rintro e w2 ⟨rfl, hb2⟩; rw [HOK.out]; obtain ⟨r0, r1, r2, r3, r4⟩ := HAT.out.keep0 hb2)
          have hb3 := bstep hb hb2
          have hO2 := own_below0 hO hb2
          obtain ⟨v2, w3, hrun, hown, hk3, hn3⟩ := run_append_rec_at (P := Try.prog) w2 29 29 23 5 Try.underlying29 infoMsg rfl (by decide) w.heap.size u3 _ _ hO2 (vals5 m) rfl (vals5_one m) (by omega) (by unfold maxLen; omega) hb3.size
          have HB3 : Below w.heap.size w w3 := hb3.trans (owns_below hO2 hk3 hb3.size)
          have HO3 := Lib.hid (own_msg_more hown)
          obtain ⟨s0, s1, s2, s3, s4⟩ := HAT0.out.keep0 HB3
          simp only [vals5] at hrun
          clear hown hO2 hk3 hn3 hO q0 q1 q2 q3 q4
          go_wp2_with (at_builtin; refine wpList_append_eq rfl (.tmp 32) (.tmp 37) 29 29 rfl rfl rfl hrun ?_)
          refine ⟨⟨k + 1, by omega, by go_num, by rw [HP.out], by rw [HP.out]; exact HO3.out, HB3⟩, ?_⟩
          simp [intOf]; omega
        · have HP := Lib.hid (HN.out (fun h => hge h.2))
          clear hok
          go_wp2_with (go_at_call 9; refine (hR.out _).mono ?_; rintro e w2 ⟨rfl, hb2⟩; rw [HOK.out]; obtain ⟨r0, r1, r2, r3, r4⟩ := HAT.out.keep0 hb2)
          refine ⟨⟨k + 1, by omega, by go_num, by rw [HP.out], by rw [HP.out]; exact own_below0 hO hb2, bstep hb hb2⟩, ?_⟩
          simp [intOf]; omega
    · obtain rfl : k = n := by omega
      have hinv := (some_inv l k).1
      have hsl := some_len l k
      have hO2 := hO
      obtain ⟨so, sc, rfl, hsc, hM, _⟩ := own_msgs hO
      clear hO hO2 h
      generalize (some_ l k).1 = S at *
      have hR := spans_good hinv
      have hE := spans_eq hinv
      have hC1 := Lib.hid (fun w h => spans_any so S.length sc S (by omega) w h)
      have hC2 := Lib.hid (fun w h => lspans_any so S.length sc S (by omega) w h)
      rw [hE] at hC1
      generalize spansL S = R at *
      clear hinv hE
      go_upto_region 12 with (first | (go_at_call 13; refine (hC1.out _ hM).mono ?_; rintro e w2 ⟨xo, xn, xc, rfl, hxc, hX, hb2⟩; have hM2 := hM.keep0 hb2) | (go_at_call 14; refine (hC2.out _ hM2).mono ?_; rintro e w3 ⟨yo, yn, yc, rfl, hyc, hY, hb3⟩))
      have hX3 := hX.keep0 hb3
      obtain rfl := hX3.hlen
      obtain rfl := hY.hlen
      have hb4 := bstep (bstep hb hb2) hb3
      have hlim := hX.lim
      unfold maxLen at hlim
      clear hX hM hM2 hb2 hb3 hC1 hC2
      go_wp2_with fail
      go_loopw [8] (fun v8 wr => ∃ i : Nat, i ≤ R.length ∧ v8 = .int .i64 i ∧ Below w3.heap.size w3 wr) (fun v8 _ => (R.length - (intOf v8).toNat))
      case atStart => exact ⟨0, by omega, rfl, Below.refl _ _⟩
      case round =>
        obtain ⟨i, hi, rfl, hbr⟩ := hrel
        by_cases hlt : i < R.length
        · obtain ⟨px, rfl, hcx⟩ := (hX3.keep0 hbr).cell i hlt
          obtain ⟨py, rfl, hcy⟩ := (hY.keep0 hbr).cell i hlt
          have hft := hR.1 _ (getD_mem' hlt)
          have hpr := fun q (hq : q < i) => pair_at hR.2 hq hlt
          generalize hs : R.getD i sp0 = s at *
          obtain ⟨sc, sq, sf, st, sh⟩ := s
          have HS := Lib.hid hs
          clear hs
          simp only at hft
          have HX := Lib.hid hX3
          have HY := Lib.hid hY
          have HPR := Lib.hid hpr
          have HCX := Lib.hid hcx
          have a0 : wr.cell? (px.add (i * 5)) = some (.int .i64 sc) := hcx 0 _ rfl
          have a1 : wr.cell? ⟨(px.add (i * 5)).block, (px.add (i * 5)).off + 1, none⟩ = some (.int .i64 sq) := hcx 1 _ rfl
          have a2 : wr.cell? ⟨(px.add (i * 5)).block, (px.add (i * 5)).off + 2, none⟩ = some (.int .i64 sf) := hcx 2 _ rfl
          have a3 : wr.cell? ⟨(px.add (i * 5)).block, (px.add (i * 5)).off + 3, none⟩ = some (.int .i64 st) := hcx 3 _ rfl
          have a4 : wr.cell? ⟨(px.add (i * 5)).block, (px.add (i * 5)).off + 4, none⟩ = some (.int .i64 sh) := hcx 4 _ rfl
          have b0 : wr.cell? (py.add (i * 5)) = some (.int .i64 sc) := hcy 0 _ rfl
          have b1 : wr.cell? ⟨(py.add (i * 5)).block, (py.add (i * 5)).off + 1, none⟩ = some (.int .i64 sq) := hcy 1 _ rfl
          have b2 : wr.cell? ⟨(py.add (i * 5)).block, (py.add (i * 5)).off + 2, none⟩ = some (.int .i64 sf) := hcy 2 _ rfl
          have b3 : wr.cell? ⟨(py.add (i * 5)).block, (py.add (i * 5)).off + 3, none⟩ = some (.int .i64 st) := hcy 3 _ rfl
          have b4 : wr.cell? ⟨(py.add (i * 5)).block, (py.add (i * 5)).off + 4, none⟩ = some (.int .i64 sh) := hcy 4 _ rfl
          clear hcx hcy hX3 hY hpr hR
          have hd : decide (st < sf) = false := decide_eq_false (by omega)
          go_upto_region 17 with fail
          go_quiet (fail)
          have hbq : Below w3.heap.size w3 (wr.drewN nq) := below_drewN hbr nq
          clear hbr a0 a1 a2 a3 a4 b0 b1 b2 b3 b4 hd
          generalize wr.drewN nq = W at *
          go_wp2_with fail
          go_loopw [9] (fun v9 wi => ∃ q : Nat, q ≤ i ∧ v9 = .int .i64 q ∧ Below w3.heap.size w3 wi) (fun v9 _ => (i - (intOf v9).toNat))
          case atStart => exact ⟨0, by omega, rfl, hbq⟩
          case round =>
            clear hbq
            obtain ⟨q, hq, rfl, hbi⟩ := hrel
            by_cases hql : q < i
            · have hXi := HX.out.keep0 hbi
              obtain ⟨p1, hp1, hcs⟩ := hXi.cell i hlt
              obtain ⟨p2, hp2, hcu⟩ := hXi.cell q (by omega)
              cases hp1
              cases hp2
              have hpr := HPR.out q hql
              rw [HS.out] at hcs
              generalize R.getD q sp0 = u at *
              obtain ⟨uc, uq, uf, ut, uh⟩ := u
              have a0 : wr.cell? (px.add (i * 5)) = some (.int .i64 sc) := hcs 0 _ rfl
              have a1 : wr.cell? ⟨(px.add (i * 5)).block, (px.add (i * 5)).off + 1, none⟩ = some (.int .i64 sq) := hcs 1 _ rfl
              have a2 : wr.cell? ⟨(px.add (i * 5)).block, (px.add (i * 5)).off + 2, none⟩ = some (.int .i64 sf) := hcs 2 _ rfl
              have b0 : wr.cell? (px.add (q * 5)) = some (.int .i64 uc) := hcu 0 _ rfl
              have b1 : wr.cell? ⟨(px.add (q * 5)).block, (px.add (q * 5)).off + 1, none⟩ = some (.int .i64 uq) := hcu 1 _ rfl
              have b3 : wr.cell? ⟨(px.add (q * 5)).block, (px.add (q * 5)).off + 3, none⟩ = some (.int .i64 ut) := hcu 3 _ rfl
              clear hcs hcu hXi HX HY
              go_upto_region 22 with fail
              by_cases e1 : uc = sc
              · subst e1
                by_cases e2 : uq = sq
                · subst e2
                  have hle : ut ≤ sf := hpr ⟨rfl, rfl⟩
                  have hd : decide (sf < ut) = false := decide_eq_false (by omega)
                  clear hpr hle
                  go_quiet (fail)
                  go_wp2_with fail
                  refine ⟨⟨q + 1, by omega, by go_num, below_drewN hbi _⟩, ?_⟩
                  simp [intOf]; omega
                · have hd : decide (uq = sq) = false := decide_eq_false e2
                  have hd2 : (uq == sq) = false := by simpa using e2
                  clear hpr
                  go_quiet (fail)
                  go_wp2_with fail
                  refine ⟨⟨q + 1, by omega, by go_num, below_drewN hbi _⟩, ?_⟩
                  simp [intOf]; omega
              · have hd : decide (uc = sc) = false := decide_eq_false e1
                have hd2 : (uc == sc) = false := by simpa using e1
                clear hpr
                go_quiet (fail)
                go_wp2_with fail
                refine ⟨⟨q + 1, by omega, by go_num, below_drewN hbi _⟩, ?_⟩
                simp [intOf]; omega
            · obtain rfl : q = i := by omega
              go_wp2_with fail
              refine ⟨⟨q + 1, by omega, by go_num, hbi⟩, ?_⟩
              simp [intOf]; omega
        · go_wp2_with (go_at_call 10; refine (awake_any _).mono ?_; rintro e w9 ⟨rfl, hb9⟩)
          go_ret
          exact ⟨rfl, bstep (bstep hb4 hbr) hb9⟩
end Go.Proofs.Ytmhlmaimmbopfaa

/- The law TraceCounts. -/
import Derived.Test.YtidjcbmdmecajaaCst
namespace Go.Proofs.Ytidjcbmdmecajaa
open Go Go.RowKit Go.Calli
set_option linter.unusedVariables false
set_option linter.unusedSimpArgs false
attribute [local irreducible] wpStill wpAnyH wpAnyS wpList Code.wp
def CoRel (Ab B2 : Nat) (l : List Rp) (rn : Nat) (w2 : World) (v4 v5 v6 v7 v8 v9 v10 : Value) (wr : World) : Prop := ∃ (j : Nat) (vl ve : Value), j ≤ rn ∧ v10 = .int .i64 j ∧ v4 = .int .i64 (noteL g0 (l.take j)).samples ∧ v5 = .int .i64 (noteL g0 (l.take j)).frames ∧ v6 = .int .i64 (noteL g0 (l.take j)).reads ∧ v7 = .int .i64 (noteL g0 (l.take j)).worst ∧ CSt Ab B2 vl ve v8 v9 (noteL g0 (l.take j)) (noteL g0 (l.take j)).lost (noteL g0 (l.take j)).ended w2 wr
theorem rec_cellsL {w : World} {A : Option Addr} {n : Nat} {ms : List Ls} (h : Recs valsL 3 l0 w A n ms) {k : Nat} (hk : k < n) : ∃ a, A = some a ∧ w.cell? (a.add (k * 3)) = some (.int .i64 (ms.getD k l0).v) ∧ w.cell? ⟨(a.add (k * 3)).block, (a.add (k * 3)).off + 1, none⟩ = some (.int .i64 (ms.getD k l0).c) ∧ w.cell? ⟨(a.add (k * 3)).block, (a.add (k * 3)).off + 2, none⟩ = some (.int .i64 (ms.getD k l0).b) := by
  obtain ⟨a, ha, hcell⟩ := h.cell k hk
  exact ⟨a, ha, hcell 0 _ rfl, hcell 1 _ rfl, hcell 2 _ rfl⟩
theorem rec_cellsE {w : World} {A : Option Addr} {n : Nat} {ms : List En} (h : Recs valsE 4 e0 w A n ms) {k : Nat} (hk : k < n) : ∃ a, A = some a ∧ w.cell? (a.add (k * 4)) = some (.int .i64 (ms.getD k e0).i) ∧ w.cell? ⟨(a.add (k * 4)).block, (a.add (k * 4)).off + 1, none⟩ = some (.int .i64 (ms.getD k e0).l.v) ∧ w.cell? ⟨(a.add (k * 4)).block, (a.add (k * 4)).off + 2, none⟩ = some (.int .i64 (ms.getD k e0).l.c) ∧ w.cell? ⟨(a.add (k * 4)).block, (a.add (k * 4)).off + 3, none⟩ = some (.int .i64 (ms.getD k e0).l.b) := by
  obtain ⟨a, ha, hcell⟩ := h.cell k hk
  exact ⟨a, ha, hcell 0 _ rfl, hcell 1 _ rfl, hcell 2 _ rfl, hcell 3 _ rfl⟩
theorem rec_cellsD {w : World} {A : Option Addr} {n : Nat} {ms : List Ed} (h : Recs valsD 2 d0 w A n ms) {k : Nat} (hk : k < n) : ∃ a, A = some a ∧ w.cell? (a.add (k * 2)) = some (.int .i64 (ms.getD k d0).i) ∧ w.cell? ⟨(a.add (k * 2)).block, (a.add (k * 2)).off + 1, none⟩ = some (.int .i64 (ms.getD k d0).v) := by
  obtain ⟨a, ha, hcell⟩ := h.cell k hk
  exact ⟨a, ha, hcell 0 _ rfl, hcell 1 _ rfl⟩
set_option maxRecDepth 100000 in
set_option maxHeartbeats 4000000 in
theorem counts_any (ao : Option Addr) (n cap : Nat) (l0' : List Rp) (w : World) (h0 : Rps w ao n l0') : Calls Try.prog 4 #[.slice ao n cap] w fun e w' => e = .returned (.bool true) ∧ Below w.heap.size w w' := by
  have hF := few_any ao n cap l0' w h0
  have hN := fun w => new_any w
  have hsm := fewL_sm l0'
  unfold FewPost at hF
  generalize fewL l0' = l at *
  go_enter Try.func4, Try.ntmps4
  go_upto_region 2 with (first | (go_at_call 6; refine hF.mono ?_; rintro e w1 ⟨ro, rn, rc, rfl, hrc, hrn, hR, hb1⟩))
  clear hF h0
  have hR0 := hR.far
  have HLN := Lib.hid hR.hlen
  clear hR
  go_upto_region 3 with (first | (go_at_call 7; refine (hN _).mono ?_; clear hN; rintro e w2 ⟨rfl, hs2, hl2, hb2⟩))
  have hR2 := hR0.keep0 hb2
  have hbw2 : Below w.heap.size w w2 := bstep hb1 hb2
  have s1 := hb1.size
  have hAB : w1.heap.size ≤ w2.heap.size := hb2.size
  have HL2 := Lib.hid (hl2 w2.heap.size)
  clear hl2 hb2 hR0 hb1 hs2
  generalize w1.heap.size = Ab at *
  obtain ⟨B2, hB2⟩ : ∃ B, B = w2.heap.size := ⟨_, rfl⟩
  rw [← hB2] at HL2 hAB
  have HB2 := Lib.hid hB2
  clear hB2
  go_upto_region 7 with fail
  go_loopw [4, 5, 6, 7, 8, 9, 10] (fun v4 v5 v6 v7 v8 v9 v10 wr => CoRel Ab B2 l rn w2 v4 v5 v6 v7 v8 v9 v10 wr) (fun _ _ _ _ _ _ v10 _ => (rn - (intOf v10).toNat))
  case atStart => exact ⟨0, .slice none 0 0, .slice none 0 0, by omega, rfl, rfl, rfl, rfl, rfl, ⟨HL2.out, World.ownsRow_nil _ _ _ _, World.ownsRow_nil _ _ _ _, fun k hk => (by cases hk), fun k hk => (by cases hk), Keeps.refl _ _⟩⟩
  case round =>
    clear HL2
    obtain ⟨j, vl, ve, hj, rfl, rfl, rfl, rfl, rfl, hC⟩ := hrel
    by_cases hlt : j < rn
    · obtain ⟨a, m, rfl, hcell, hm, hab, hfar⟩ := (hR2.kept hC.kep).cell j hlt
      have hlj : j < l.length := by rw [HLN.out]; exact hlt
      have HSN := Lib.hid (noteL_take g0 l j hlj)
      have hlim : Lim (0 + j) (noteL g0 (l.take j)) := by
        have := Lim.zero.noteL (l := l.take j) (fun r hr => hsm r (List.mem_of_mem_take hr))
        rwa [List.length_take, Nat.min_eq_left (Nat.le_of_lt hlj)] at this
      have hsr : Sm (l.getD j r0) := hsm _ (by rw [show l.getD j r0 = l[j] by simp [List.getD, hlj]]; exact List.getElem_mem _)
      generalize l.getD j r0 = r at *
      generalize hgj : noteL g0 (l.take j) = gj at *
      clear hgj
      have q0 : wr.cell? (a.add (j * 5)) = some (.slice m.o1 m.n1 m.c1) := hcell 0 _ rfl
      have q1 : wr.cell? ⟨(a.add (j * 5)).block, (a.add (j * 5)).off + 1, none⟩ = some (.slice m.o2 m.n2 m.c2) := hcell 1 _ rfl
      have q2 : wr.cell? ⟨(a.add (j * 5)).block, (a.add (j * 5)).off + 2, none⟩ = some (.slice m.o3 m.n3 m.c3) := hcell 2 _ rfl
      have q3 : wr.cell? ⟨(a.add (j * 5)).block, (a.add (j * 5)).off + 3, none⟩ = some (.int .i64 r.frames) := hcell 3 _ rfl
      have q4 : wr.cell? ⟨(a.add (j * 5)).block, (a.add (j * 5)).off + 4, none⟩ = some (.int .i64 r.reads) := hcell 4 _ rfl
      clear hcell
      obtain ⟨cs, hcs⟩ : ∃ cs : Array Value, cs = #[.slice m.o1 m.n1 m.c1, .slice m.o2 m.n2 m.c2, .slice m.o3 m.n3 m.c3, .int .i64 r.frames, .int .i64 r.reads] := ⟨_, rfl⟩
      have hbl := below_alloc wr (.cells cs 32)
      have hp0 : (wr.alloc (.cells cs 32)).heap[wr.heap.size]? = some (.cells cs 32 (0, 0)) := heap_alloc_new _ _
      have hC0 := hC.keep0 hbl
      have hm0 := hm.keep0 hbl
      have hbw : B2 ≤ wr.heap.size := by rw [HB2.out]; exact hC.kep.size
      have hN0 := note_any Ab B2 vl ve gj m r (0 + j) (by omega) hlim hsr (wr.alloc (.cells cs 32)) (Nat.le_trans hbw hbl.size) hC0.log hm0 (hfar.mono fun k hk => by
        rcases hC.log.inS k hk with h | h
        · show Ab ≤ k; omega
        · show Ab ≤ k; omega)
      have hbw0 : B2 ≤ (wr.alloc (.cells cs 32)).heap.size := Nat.le_trans hbw hbl.size
      rw [hcs] at hp0 hC0 hm0 hN0 hbw0
      clear hC hm hbl hcs
      go_upto_region 10 with fail
      generalize wr.alloc (.cells #[.slice m.o1 m.n1 m.c1, .slice m.o2 m.n2 m.c2, .slice m.o3 m.n3 m.c3, .int .i64 r.frames, .int .i64 r.reads] 32) = WA at *
      generalize wr.heap.size = pb at *
      clear q0 q1 q2 q3 q4
      obtain ⟨e0, e1, e2, e3, e4⟩ : WA.cell? ⟨pb, 0, none⟩ = some (.slice m.o1 m.n1 m.c1) ∧ WA.cell? ⟨pb, 1, none⟩ = some (.slice m.o2 m.n2 m.c2) ∧ WA.cell? ⟨pb, 2, none⟩ = some (.slice m.o3 m.n3 m.c3) ∧ WA.cell? ⟨pb, 3, none⟩ = some (.int .i64 r.frames) ∧ WA.cell? ⟨pb, 4, none⟩ = some (.int .i64 r.reads) := ⟨(cell_of_row _ _ _ _ _ _ hp0).trans rfl, (cell_of_row _ _ _ _ _ _ hp0).trans rfl, (cell_of_row _ _ _ _ _ _ hp0).trans rfl, (cell_of_row _ _ _ _ _ _ hp0).trans rfl, (cell_of_row _ _ _ _ _ _ hp0).trans rfl⟩
      go_upto_region 11 with (go_at_call 12; refine hN0.mono ?_; rintro e w5 ⟨rfl, hx⟩; have HX := Lib.hid (hC0.noted hAB hbw0 hx); clear hx)
      obtain ⟨vl', ve', hC5, hk5⟩ := HX.out
      clear e0 e1 e2 e3 e4
      have hp5 := hk5.heap hp0 (fun hS => by
        rcases hS with h | h | h
        · have := hC0.log.blk
          rw [← h, hp0] at this
          simp at this
        · exact own_off hp0 (by decide) hC0.log.lost h
        · exact own_off hp0 (by decide) hC0.log.ended h)
      have hm5 := hm0.kept hk5 (hfar.mono fun k hk => by
        rcases hC0.log.inS k hk with h | h
        · show Ab ≤ k; omega
        · show Ab ≤ k; omega)
      clear HX hC0 hp0 hm0 hk5 hN0 hbw0
      obtain ⟨A2, hA2⟩ : ∃ A, A = m.o2 := ⟨_, rfl⟩
      obtain ⟨A3, hA3⟩ : ∃ A, A = m.o3 := ⟨_, rfl⟩
      rw [← hA2, ← hA3] at hp5
      have HA2 := Lib.hid hA2
      have HA3 := Lib.hid hA3
      clear hA2 hA3
      have p0 : w5.cell? ⟨pb, 0, none⟩ = some (.slice m.o1 m.n1 m.c1) := (cell_of_row _ _ _ _ _ _ hp5).trans rfl
      have p1 : w5.cell? ⟨pb, 1, none⟩ = some (.slice A2 m.n2 m.c2) := (cell_of_row _ _ _ _ _ _ hp5).trans rfl
      have p2 : w5.cell? ⟨pb, 2, none⟩ = some (.slice A3 m.n3 m.c3) := (cell_of_row _ _ _ _ _ _ hp5).trans rfl
      have p3 : w5.cell? ⟨pb, 3, none⟩ = some (.int .i64 r.frames) := (cell_of_row _ _ _ _ _ _ hp5).trans rfl
      have p4 : w5.cell? ⟨pb, 4, none⟩ = some (.int .i64 r.reads) := (cell_of_row _ _ _ _ _ _ hp5).trans rfl
      have HO := Lib.hid hm5.out
      have hO20 : m.n1 ≤ 20 := by rw [HO.out]; exact hsr.out
      have hO2 : m.n2 ≤ 20 := by rw [← hm5.lost.hlen]; exact hsr.lost
      have hO3 : m.n3 ≤ 20 := by rw [← hm5.ended.hlen]; exact hsr.ended
      have b1 := hlim.s0; have b2 := hlim.s1; have b4 := hlim.f0; have b5 := hlim.f1; have b6 := hlim.r0; have b7 := hlim.r1; have b8 := hlim.l; have b9 := hlim.e; have b10 := hlim.w0; have b11 := hlim.w1
      have HJ := Lib.hid hlim.n
      have t4 := hsr.f0; have t5 := hsr.f1; have t6 := hsr.r0; have t7 := hsr.r1
      clear hlim hsr
      obtain ⟨wo, hwo⟩ : ∃ x, x = max gj.worst r.frames := ⟨_, rfl⟩
      have HWO := Lib.hid hwo
      clear hwo
      go_upto_if 50 with fail
      go_cut [7] (fun v wx => v = .int .i64 wo ∧ w5 = wx)
      case first =>
        by_cases hgt : gj.worst < r.frames
        · go_wp2_with fail
          all_goals go_meet
          all_goals exact ⟨by rw [HWO.out, Int.max_eq_right (by omega)], rfl⟩
        · go_wp2_with fail
          all_goals go_meet
          all_goals exact ⟨by rw [HWO.out, Int.max_eq_left (by omega)], rfl⟩
      case rest =>
      obtain ⟨rfl, rfl⟩ := hcut
      go_upto_region 17 with fail
      go_loopw [8, 12] (fun v8 v12 ws => ∃ k : Nat, k ≤ m.n2 ∧ v12 = .int .i64 k ∧ CSt Ab B2 vl' ve' v8 u9 (note gj r) (gj.lost ++ ents (j : Int) (r.lost.take k)) gj.ended w2 ws ∧ ws.heap[pb]? = some (.cells #[.slice m.o1 m.n1 m.c1, .slice A2 m.n2 m.c2, .slice A3 m.n3 m.c3, .int .i64 r.frames, .int .i64 r.reads] 32 (0, 0)) ∧ m.Is ws r) (fun _ v12 _ => (m.n2 - (intOf v12).toNat))
      case atStart => exact ⟨0, by omega, rfl, by simpa [ents] using hC5, hp5, hm5⟩
      case round =>
        clear hC5 hp5 hm5 p0 p1 p2 p3 p4
        obtain ⟨k, hk, rfl, hC6, hp6, hm6⟩ := hrel
        have p1 : wr.cell? ⟨pb, 1, none⟩ = some (.slice A2 m.n2 m.c2) := (cell_of_row _ _ _ _ _ _ hp6).trans rfl
        by_cases hlk : k < m.n2
        · obtain ⟨la, hla, y0, y1, y2⟩ := rec_cellsL hm6.lost hlk
          obtain rfl : A2 = some la := HA2.out.trans hla
          clear hla
          have HEN := Lib.hid (ents_take (j : Int) r.lost k (by rw [hm6.lost.hlen]; exact hlk))
          generalize r.lost.getD k l0 = x at *
          have hle : (gj.lost ++ ents (j : Int) (r.lost.take k)).length ≤ 500 := by
            rw [List.length_append]; unfold ents; rw [List.length_map, List.length_take]; omega
          have hlist : gj.lost ++ ents (j : Int) (r.lost.take (k + 1)) = gj.lost ++ ents (j : Int) (r.lost.take k) ++ [⟨j, x⟩] := by rw [HEN.out, List.append_assoc]
          have HLI := Lib.hid hlist
          clear hlist
          generalize gj.lost ++ ents (j : Int) (r.lost.take k) = le at *
          have hwB : B2 ≤ wr.heap.size := by rw [HB2.out]; exact hC6.kep.size
          have hown := hC6.own8
          have HC6 := Lib.hid hC6
          have HM6 := Lib.hid hm6
          clear hC6 hm6
          go_wp2_with (at_builtin; refine wpList_append_rec_at rfl (.tmp 60) (.tmp 68) 39 43 4 rfl Try.underlying39 infoE rfl (by decide) B2 _ _ _ rfl hown (valsE ⟨j, x⟩) rfl rfl (valsE_one _) ?_ ?_ ?_ ?_)

          case refine_1 => omega
          case refine_2 => unfold maxLen; omega
          case refine_3 => exact hwB
          intro v' w6 hown' hk6 hn6
          have hC7 := HC6.out.add8 hAB ⟨j, x⟩ hown' hk6 hn6
          rw [← HLI.out] at hC7
          have hp7 := hk6.heap hp6 (fun hS => own_off hp6 (by decide) hown hS)
          have hm7 := HM6.out.kept hk6 (hfar.mono fun q hq => by have := (hown.lt q hq).1; show Ab ≤ q; omega)
          clear hown hown' hk6 hn6 hp6 HC6 HM6 p1
          go_wp2_with fail
          refine ⟨⟨k + 1, by omega, by go_num, hC7, hp7, hm7⟩, ?_⟩
          simp [intOf]; omega
        · obtain rfl : k = m.n2 := by omega
          rw [List.take_of_length_le (by rw [hm6.lost.hlen]; exact Nat.le_refl _)] at hC6
          go_upto_region 21 with fail
          clear p1
          go_loopw [9, 13] (fun v9 v13 ws => ∃ k : Nat, k ≤ m.n3 ∧ v13 = .int .i64 k ∧ CSt Ab B2 vl' ve' u8 v9 (note gj r) (gj.lost ++ ents (j : Int) r.lost) (gj.ended ++ ends (j : Int) (r.ended.take k)) w2 ws ∧ ws.heap[pb]? = some (.cells #[.slice m.o1 m.n1 m.c1, .slice A2 m.n2 m.c2, .slice A3 m.n3 m.c3, .int .i64 r.frames, .int .i64 r.reads] 32 (0, 0)) ∧ m.Is ws r) (fun _ v13 _ => (m.n3 - (intOf v13).toNat))
          case atStart => exact ⟨0, by omega, rfl, by simpa [ends] using hC6, hp6, hm6⟩
          case round =>
            clear hC6 hp6 hm6
            obtain ⟨k, hk, rfl, hC6, hp6, hm6⟩ := hrel
            have p2 : wr.cell? ⟨pb, 2, none⟩ = some (.slice A3 m.n3 m.c3) := (cell_of_row _ _ _ _ _ _ hp6).trans rfl
            by_cases hlk : k < m.n3
            · obtain ⟨la, x, hla, hx, y0, _, _⟩ := hm6.ended.int hlk
              obtain rfl : A3 = some la := HA3.out.trans hla
              clear hla
              have hen := ends_take (j : Int) r.ended k (by rw [hm6.ended.hlen]; exact hlk)
              rw [hx.out] at hen
              have HEN := Lib.hid hen
              clear hen hx
              have hle : (gj.ended ++ ends (j : Int) (r.ended.take k)).length ≤ 500 := by
                rw [List.length_append]; unfold ends; rw [List.length_map, List.length_take]; omega
              have hlist : gj.ended ++ ends (j : Int) (r.ended.take (k + 1)) = gj.ended ++ ends (j : Int) (r.ended.take k) ++ [⟨j, x⟩] := by rw [HEN.out, List.append_assoc]
              have HLI := Lib.hid hlist
              clear hlist
              generalize gj.ended ++ ends (j : Int) (r.ended.take k) = ld at *
              have hwB : B2 ≤ wr.heap.size := by rw [HB2.out]; exact hC6.kep.size
              have hown := hC6.own9
              have HC6 := Lib.hid hC6
              have HM6 := Lib.hid hm6
              clear hC6 hm6
              go_wp2_with (at_builtin; refine wpList_append_rec_at rfl (.tmp 77) (.tmp 85) 40 45 2 rfl Try.underlying40 infoD rfl (by decide) B2 _ _ _ rfl hown (valsD ⟨j, x⟩) rfl rfl (valsD_one _) ?_ ?_ ?_ ?_)
              case refine_1 => omega
              case refine_2 => unfold maxLen; omega
              case refine_3 => exact hwB
              intro v' w6 hown' hk6 hn6
              have hC7 := HC6.out.add9 hAB ⟨j, x⟩ hown' hk6 hn6
              rw [← HLI.out] at hC7
              have hp7 := hk6.heap hp6 (fun hS => own_off hp6 (by decide) hown hS)
              have hm7 := HM6.out.kept hk6 (hfar.mono fun q hq => by have := (hown.lt q hq).1; show Ab ≤ q; omega)
              clear hown hown' hk6 hn6 hp6 HC6 HM6 p2
              go_wp2_with fail
              refine ⟨⟨k + 1, by omega, by go_num, hC7, hp7, hm7⟩, ?_⟩
              simp [intOf]; omega
            · obtain rfl : k = m.n3 := by omega
              rw [List.take_of_length_le (by rw [hm6.ended.hlen]; exact Nat.le_refl _)] at hC6
              have HC6 := Lib.hid hC6
              clear hp6 hm6 hC6
              go_wp2_with fail
              refine ⟨⟨j + 1, vl', ve', by omega, by go_num, ?_, ?_, ?_, ?_, ?_⟩, ?_⟩
              · rw [HSN.out, HO.out]; rfl
              · rw [HSN.out]; rfl
              · rw [HSN.out]; rfl
              · rw [HSN.out, HWO.out]; rfl
              · have h := HC6.out
                have hj0 : gj.renders = (j : Int) := by rw [HJ.out]; omega
                rw [← hj0] at h
                rw [HSN.out]
                exact h
              · simp [intOf]; omega
    · obtain rfl : j = rn := by omega
      rw [List.take_of_length_le (by rw [HLN.out]; exact Nat.le_refl _)] at hC ⊢
      have hb5 : Below w.heap.size w wr := hbw2.trans (hC.kep.toBelow hbw2.size (fun k hk hS => by have : Ab ≤ k := hS; omega))
      have hG : (noteL g0 l).renders = ((j : Nat) : Int) := by rw [noteL_renders, HLN.out]; show (0 : Int) + _ = _; omega
      have hlim : Lim (0 + j) (noteL g0 l) := by
        have := Lim.zero.noteL (l := l) hsm
        rwa [HLN.out] at this
      have hlo : (noteL g0 l).lost.length ≤ 500 := by have := hlim.l; omega
      have hen : (noteL g0 l).ended.length ≤ 500 := by have := hlim.e; omega
      clear hlim hsm hR2 HLN HB2
      generalize noteL g0 l = G at *
      have aRe := fun w h => renders_any Ab B2 vl ve G w h
      have aSa := fun w h => samples_any Ab B2 vl ve G w h
      have aFr := fun w h => frames_any Ab B2 vl ve G w h
      have aRd := fun w h => reads_any Ab B2 vl ve G w h
      have aWo := fun w h => worst_any Ab B2 vl ve G w h
      have aLo := fun w h => lost_any Ab B2 vl ve G w h (by omega)
      have aEn := fun w h => ended_any Ab B2 vl ve G w h (by omega)
      rw [hG] at aRe
      clear hG
      have HC := Lib.hid hC
      clear hC
      go_upto_region 25 with (first
        | (go_at_call 13; refine (aLo _ HC.out.log).mono ?_; rintro e w6 ⟨xo, xc, rfl, hxc, hX, hb6⟩; have HC := Lib.hid (HC.out.keep0 hb6); have hb5 := bstep hb5 hb6)
        | (go_at_call 14; refine (aEn _ HC.out.log).mono ?_; rintro e w7 ⟨yo, yc, rfl, hyc, hY, hb7⟩; have HC := Lib.hid (HC.out.keep0 hb7); have hX := hX.keep0 hb7; have hb5 := bstep hb5 hb7))
      obtain ⟨zo, zc, rfl, hzc, hZ, _⟩ := own_recs e0 valsE_len (by decide) HC.out.own8
      obtain ⟨so, sc, rfl, hsc, hS, _⟩ := own_recs d0 valsD_len (by decide) HC.out.own9
      go_upto_region 28 with (first
        | (go_at_call 15; refine (aRe _ HC.out.log).mono ?_; rintro e w8 ⟨rfl, rfl⟩)
        | (go_at_call 16; refine (aSa _ HC.out.log).mono ?_; rintro e w8 ⟨rfl, rfl⟩)
        | (go_at_call 17; refine (aFr _ HC.out.log).mono ?_; rintro e w8 ⟨rfl, rfl⟩)
        | (go_at_call 18; refine (aRd _ HC.out.log).mono ?_; rintro e w8 ⟨rfl, rfl⟩)
        | (go_at_call 19; refine (aWo _ HC.out.log).mono ?_; rintro e w8 ⟨rfl, rfl⟩))
      have HAA := Lib.hid (fun w => awake_any w)
      clear HC aRe aSa aFr aRd aWo aLo aEn
      go_loopw [16] (fun v16 wq => ∃ k : Nat, k ≤ G.lost.length ∧ v16 = .int .i64 k ∧ Below w7.heap.size w7 wq) (fun v16 _ => (G.lost.length - (intOf v16).toNat))
      case atStart => exact ⟨0, by omega, rfl, Below.refl _ _⟩
      case round =>
        obtain ⟨k, hk, rfl, hbq⟩ := hrel
        by_cases hlk : k < G.lost.length
        · obtain ⟨xa, rfl, x0, x1, x2, x3⟩ := rec_cellsE (hX.keep0 hbq) hlk
          obtain ⟨za, rfl, z0, z1, z2, z3⟩ := rec_cellsE (hZ.keep0 hbq) hlk
          generalize G.lost.getD k e0 = x at *
          go_upto_region 30 with fail
          go_quiet (fail)
          have hbd : Below w7.heap.size w7 (wr.drewN nq) := hbq.trans ⟨rfl, rfl, rfl, Nat.le_refl _, fun _ _ => rfl⟩
          go_wp2_with fail
          refine ⟨⟨k + 1, by omega, by go_num, hbd⟩, ?_⟩
          simp [intOf]; omega
        · obtain rfl : k = G.lost.length := by omega
          go_upto_region 33 with fail
          go_loopw [17] (fun v17 wq => ∃ k : Nat, k ≤ G.ended.length ∧ v17 = .int .i64 k ∧ Below w7.heap.size w7 wq) (fun v17 _ => (G.ended.length - (intOf v17).toNat))
          case atStart => exact ⟨0, by omega, rfl, hbq⟩
          case round =>
            clear hbq
            obtain ⟨k, hk, rfl, hbq⟩ := hrel
            by_cases hlk : k < G.ended.length
            · obtain ⟨xa, rfl, x0, x1⟩ := rec_cellsD (hY.keep0 hbq) hlk
              obtain ⟨za, rfl, z0, z1⟩ := rec_cellsD (hS.keep0 hbq) hlk
              generalize G.ended.getD k d0 = x at *
              go_upto_region 35 with fail
              go_quiet (fail)
              have hbd : Below w7.heap.size w7 (wr.drewN nq) := hbq.trans ⟨rfl, rfl, rfl, Nat.le_refl _, fun _ _ => rfl⟩
              go_wp2_with fail
              refine ⟨⟨k + 1, by omega, by go_num, hbd⟩, ?_⟩
              simp [intOf]; omega
            · obtain rfl : k = G.ended.length := by omega
              have hbw := bstep hb5 hbq
              go_wp2_with (go_at_call 11; refine (HAA.out _).mono ?_; rintro e w9 ⟨rfl, hb9⟩)
              go_ret
              exact ⟨rfl, bstep hbw hb9⟩
end Go.Proofs.Ytidjcbmdmecajaa

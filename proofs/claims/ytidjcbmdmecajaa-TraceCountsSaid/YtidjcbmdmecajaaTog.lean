/- The law TraceTogether. -/
import Derived.Test.YtidjcbmdmecajaaFew
namespace Go.Proofs.Ytidjcbmdmecajaa
open Go Go.RowKit Go.Calli
set_option linter.unusedVariables false
set_option linter.unusedSimpArgs false
attribute [local irreducible] wpStill wpAnyH wpAnyS wpList Code.wp
def NZ : Value := .slice none 0 0
theorem logS_nil {b k : Nat} (h : LogS b (.slice none 0 0) (.slice none 0 0) k) : k = b := by
  rcases h with h | h | h
  · exact h
  · cases h
  · cases h
theorem RpsF.rps {S : Nat → Prop} {w : World} {ao : Option Addr} {n : Nat} {l : List Rp} (h : RpsF S w ao n l) : Rps w ao n l :=
  ⟨h.hlen, h.lim, fun i hi => by
    obtain ⟨a, m, ha, h1, h2, _, _⟩ := h.cell i hi
    exact ⟨a, m, ha, h1, h2⟩⟩
def LenPost (n : Nat) (w : World) (e : Ending) (w' : World) : Prop := ∃ ro rc, e = .returned (.slice ro n rc) ∧ Below w.heap.size w w'
theorem ClPost.len {α : Type} {f : α → List Value} {size : Nat} {d : α} {ms : List α} {w : World} : ∀ e w', ClPost f size d ms w e w' → LenPost ms.length w e w' := fun e w' ⟨ro, rc, h1, _, _, h4⟩ => ⟨ro, rc, h1, h4⟩
theorem all0 (b B : Nat) (ao : Option Addr) (n c : Nat) (l : List Rp) (hn : n ≤ 20) (hs : ∀ r ∈ l, Sm r) (w : World) (hB : B ≤ w.heap.size) (h : LogIs w b B (.slice none 0 0) (.slice none 0 0) g0) (hl : RpsF (fun k => k = b ∨ B ≤ k) w ao n l) :
    Calls Try.prog 8 #[.pointer (some ⟨b, 0, none⟩), .slice ao n c] w (NotePost b B (.slice none 0 0) (.slice none 0 0) (noteL g0 l) w) := all_any b B _ _ 0 ao n c l (by omega) g0 Lim.zero hs w hB h hl
set_option maxRecDepth 100000 in
set_option maxHeartbeats 4000000 in
theorem together_any (ao : Option Addr) (n cap : Nat) (l0 : List Rp) (w : World) (h0 : Rps w ao n l0) : Calls Try.prog 5 #[.slice ao n cap] w fun e w' => e = .returned (.bool true) ∧ Below w.heap.size w w' := by
  have hF := few_any ao n cap l0 w h0
  have hN := fun w => new_any w
  have hM := fun w => new_any w
  have hsm := fewL_sm l0
  unfold FewPost at hF
  generalize fewL l0 = l at *
  go_enter Try.func5, Try.ntmps5
  go_upto_region 2 with (first | (go_at_call 6; refine hF.mono ?_; rintro e w1 ⟨ro, rn, rc, rfl, hrc, hrn, hR, hb1⟩))
  clear hF h0
  have hR0 := hR.far
  have HLN := Lib.hid hR.hlen
  clear hR
  go_upto_region 3 with (first | (go_at_call 7; refine (hN _).mono ?_; clear hN; rintro e w2 ⟨rfl, hs2, hl2, hb2⟩) | (go_at_call 7; refine (hM _).mono ?_; clear hM; rintro e w3 ⟨rfl, hs3, hl3, hb3⟩))
  have hLa := fun B => (hl2 B).keep0 hb3
  have hRa : RpsF (fun k => k = w1.heap.size ∨ w3.heap.size ≤ k) w3 ro rn l := ((hR0.keep0 hb2).keep0 hb3).mono (fun k hk => by show w1.heap.size ≤ k; omega)
  have hR3 := (hR0.keep0 hb2).keep0 hb3
  have hAll := all0 w1.heap.size w3.heap.size ro rn rc l hrn hsm w3 (Nat.le_refl _) (hLa _) hRa
  have hbw3 : Below w.heap.size w w3 := bstep (bstep hb1 hb2) hb3
  have s1 := hb1.size
  have HS2 := Lib.hid hs2
  have HS3 := Lib.hid hs3
  clear hLa hRa hl2 hb2 hb3 hR0 hb1 hs2 hs3
  go_upto_region 4 with (first | (go_at_call 8; refine hAll.mono ?_; clear hAll; rintro e w4 ⟨rfl, va, vb, hA, hkA, hnA⟩))
  have hkA' : Keeps (fun k => k = w1.heap.size) w3 w4 := hkA.mono (fun k _ h => logS_nil h)
  have hLb : ∀ B, LogIs w4 w2.heap.size B (.slice none 0 0) (.slice none 0 0) g0 := fun B => (hl3 B).kept hkA' (fun k hk e => by have := logS_nil hk; have := HS2.out; omega)
  have hR4 : RpsF (fun k => w1.heap.size ≤ k) w4 ro rn l := hR3.kept (hkA'.mono (fun k _ h => by show w1.heap.size ≤ k; omega))
  have hAf : ∀ k, LogS w1.heap.size va vb k → k ≠ w2.heap.size := fun k hk e => by
    have := HS2.out
    have := HS3.out
    rcases hnA k hk with h | h
    · have := logS_nil h; omega
    · omega
  have hb4 : Below w.heap.size w w4 := hbw3.trans (hkA'.toBelow hbw3.size (fun k hk e => by omega))
  have s4 := hkA'.size
  clear hkA hnA hl3 hR3 hkA' hbw3
  have hb42 : w.heap.size ≤ w2.heap.size ∧ w2.heap.size < w4.heap.size := by have := HS2.out; have := HS3.out; omega
  rw [HS2.out] at hLb hAf hb42
  clear HS2 HS3
  go_upto_region 5 with fail
  generalize w1.heap.size = A at *
  have HR4 := Lib.hid hR4
  have HLB := Lib.hid hLb
  have HA := Lib.hid hA
  clear hR4 hLb hA
  go_loopw [5] (fun v5 wr => ∃ j : Nat, j ≤ rn ∧ v5 = .int .i64 j ∧ AlRel (A + 1) w4.heap.size (.slice none 0 0) (.slice none 0 0) (noteL g0 (l.take j)) w4 wr) (fun v5 _ => (rn - (intOf v5).toNat))
  case atStart => exact ⟨0, by omega, rfl, _, _, HLB.out _, Keeps.refl _ _, fun k hk => .inl hk⟩
  case round =>
    obtain ⟨j, hj, rfl, vl', ve', hL, hkw, hnw⟩ := hrel
    have hkw' : Keeps (fun k => k = A + 1) w4 wr := hkw.mono (fun k _ h => logS_nil h)
    have hRr := HR4.out.kept (hkw'.mono (S' := fun k => A ≤ k) fun k _ h => by show A ≤ k; omega)
    have hAr := HA.out.kept hkw' (fun k hk => hAf k hk)
    by_cases hlt : j < rn
    · obtain ⟨a, m, rfl, hcell, hm, hab, hfar⟩ := hRr.cell j hlt
      have hlj : j < l.length := by rw [HLN.out]; exact hlt
      have hsn := noteL_take g0 l j hlj
      have hlim : Lim (0 + j) (noteL g0 (l.take j)) := by
        have := Lim.zero.noteL (l := l.take j) (fun r hr => hsm r (List.mem_of_mem_take hr))
        rwa [List.length_take, Nat.min_eq_left (Nat.le_of_lt hlj)] at this
      have hsr : Sm (l.getD j r0) := hsm _ (by rw [show l.getD j r0 = l[j] by simp [List.getD, hlj]]; exact List.getElem_mem _)
      generalize l.getD j r0 = r at *
      generalize hgj : noteL g0 (l.take j) = gj at *
      clear hgj
      have q0 : wr.cell? (a.add (j * 5)) = some (.slice m.o1 m.n1 m.c1) := hcell 0 _ rfl
      have q1 : wr.cell? ⟨(a.add (j * 5)).block, (a.add (j * 5)).off + 1, none⟩ = some (.slice m.o2 m.n2 m.c2) := hcell 1 _ rfl
      have q2 : wr.cell? ⟨(a.add (j * 5)).block, (a.add (j * 5)).off + 2, none⟩ = some (.slice m.o3 m.n3 m.c3) := hcell 2 _ rfl
      have q3 : wr.cell? ⟨(a.add (j * 5)).block, (a.add (j * 5)).off + 3, none⟩ = some (.int .i64 r.frames) := hcell 3 _ rfl
      have q4 : wr.cell? ⟨(a.add (j * 5)).block, (a.add (j * 5)).off + 4, none⟩ = some (.int .i64 r.reads) := hcell 4 _ rfl
      clear hcell
      have hNo := note_any (A + 1) w4.heap.size vl' ve' gj m r (0 + j) (by omega) hlim hsr wr hkw.size hL hm (hfar.mono fun k hk => by
        rcases hL.inS k hk with h | h
        · show A ≤ k; omega
        · show A ≤ k; omega)
      have HSN := Lib.hid hsn
      clear hsn hL hm hRr hlim hsr hAr hkw'
      go_wp2_with (go_at_call 12; refine hNo.mono ?_; rintro e w5 ⟨rfl, hx⟩; have HX := Lib.hid (AlRel.step (Below.refl _ _) hkw hnw hx); clear hx)
      refine ⟨⟨j + 1, by omega, by go_num, by rw [HSN.out]; exact HX.out⟩, ?_⟩
      simp [intOf]; omega
    · obtain rfl : j = rn := by omega
      rw [List.take_of_length_le (by rw [HLN.out]; exact Nat.le_refl _)] at hL
      have hb5 : Below w.heap.size w wr := hb4.trans (hkw'.toBelow hb4.size (fun k hk e => by omega))
      have hG : (noteL g0 l).renders = ((j : Nat) : Int) := by rw [noteL_renders, HLN.out]; show (0 : Int) + _ = _; omega
      have hlim : Lim (0 + j) (noteL g0 l) := by
        have := Lim.zero.noteL (l := l) hsm
        rwa [HLN.out] at this
      have hlo : (noteL g0 l).lost.length ≤ 100000 := by have := hlim.l; omega
      have hen : (noteL g0 l).ended.length ≤ 100000 := by have := hlim.e; omega
      have hAN := all_nil ro j rc l wr hRr.rps
      clear HR4 HLB HA hkw hnw hkw' hb4 hAf hRr hlim HLN
      generalize noteL g0 l = G at *
      have hj20 : j ≤ 1000 := by omega
      have HG := Lib.hid hG
      clear hG
      generalize A + 1 = Bb at *
      have aRo := fun w h => rows_any A w3.heap.size va vb G j hj20 HG.out w h
      have aRe := fun w h => renders_any A w3.heap.size va vb G w h
      have aSa := fun w h => samples_any A w3.heap.size va vb G w h
      have aFr := fun w h => frames_any A w3.heap.size va vb G w h
      have aRd := fun w h => reads_any A w3.heap.size va vb G w h
      have aWo := fun w h => worst_any A w3.heap.size va vb G w h
      have aLo := fun w h => (lost_any A w3.heap.size va vb G w h hlo).mono ClPost.len
      have aEn := fun w h => (ended_any A w3.heap.size va vb G w h hen).mono ClPost.len
      have bRo := fun w h => rows_any Bb w4.heap.size vl' ve' G j hj20 HG.out w h
      have bRe := fun w h => renders_any Bb w4.heap.size vl' ve' G w h
      have bSa := fun w h => samples_any Bb w4.heap.size vl' ve' G w h
      have bFr := fun w h => frames_any Bb w4.heap.size vl' ve' G w h
      have bRd := fun w h => reads_any Bb w4.heap.size vl' ve' G w h
      have bWo := fun w h => worst_any Bb w4.heap.size vl' ve' G w h
      have bLo := fun w h => (lost_any Bb w4.heap.size vl' ve' G w h hlo).mono ClPost.len
      have bEn := fun w h => (ended_any Bb w4.heap.size vl' ve' G w h hen).mono ClPost.len
      generalize (rrun G j).best = x1 at *
      generalize (rrun G j).fr = x2 at *
      generalize G.lost.length = x3 at *
      generalize G.ended.length = x4 at *
      have HLA := Lib.hid hAr
      have HLB := Lib.hid hL
      clear hAr hL
      go_wp2_with (first
        | (go_at_call 8; refine hAN.mono ?_; rintro e w5 ⟨rfl, hb⟩; have HLA := Lib.hid (HLA.out.keep0 hb); have HLB := Lib.hid (HLB.out.keep0 hb); have hb5 := bstep hb5 hb)
        | (go_at_call 9; refine (of_nil _ _ _).mono ?_; rintro e w6 ⟨rfl, rfl⟩)
        | (go_at_call 11; refine (awake_any _).mono ?_; rintro e w6 ⟨rfl, hb⟩; have HLA := Lib.hid (HLA.out.keep0 hb); have HLB := Lib.hid (HLB.out.keep0 hb); have hb5 := bstep hb5 hb)
        | (go_at_call_of 10 (Value.pointer none); refine (rows_nil _).mono ?_; rintro e w6 ⟨rfl, rfl⟩)
        | (go_at_call_of 10 (Value.pointer (some ⟨A, 0, none⟩)); refine (aRo _ HLA.out).mono ?_; rintro e w6 ⟨rfl, hb⟩; have HLA := Lib.hid (HLA.out.keep0 hb); have HLB := Lib.hid (HLB.out.keep0 hb); have hb5 := bstep hb5 hb)
        | (go_at_call_of 10 (Value.pointer (some ⟨Bb, 0, none⟩)); refine (bRo _ HLB.out).mono ?_; rintro e w6 ⟨rfl, hb⟩; have HLA := Lib.hid (HLA.out.keep0 hb); have HLB := Lib.hid (HLB.out.keep0 hb); have hb5 := bstep hb5 hb)
        | (go_at_call_of 15 (Value.pointer none); refine (renders_nil _).mono ?_; rintro e w6 ⟨rfl, rfl⟩)
        | (go_at_call_of 15 (Value.pointer (some ⟨A, 0, none⟩)); refine (aRe _ HLA.out).mono ?_; rintro e w6 ⟨rfl, rfl⟩)
        | (go_at_call_of 15 (Value.pointer (some ⟨Bb, 0, none⟩)); refine (bRe _ HLB.out).mono ?_; rintro e w6 ⟨rfl, rfl⟩)
        | (go_at_call_of 16 (Value.pointer none); refine (samples_nil _).mono ?_; rintro e w6 ⟨rfl, rfl⟩)
        | (go_at_call_of 16 (Value.pointer (some ⟨A, 0, none⟩)); refine (aSa _ HLA.out).mono ?_; rintro e w6 ⟨rfl, rfl⟩)
        | (go_at_call_of 16 (Value.pointer (some ⟨Bb, 0, none⟩)); refine (bSa _ HLB.out).mono ?_; rintro e w6 ⟨rfl, rfl⟩)
        | (go_at_call_of 17 (Value.pointer none); refine (frames_nil _).mono ?_; rintro e w6 ⟨rfl, rfl⟩)
        | (go_at_call_of 17 (Value.pointer (some ⟨A, 0, none⟩)); refine (aFr _ HLA.out).mono ?_; rintro e w6 ⟨rfl, rfl⟩)
        | (go_at_call_of 17 (Value.pointer (some ⟨Bb, 0, none⟩)); refine (bFr _ HLB.out).mono ?_; rintro e w6 ⟨rfl, rfl⟩)
        | (go_at_call_of 18 (Value.pointer none); refine (reads_nil _).mono ?_; rintro e w6 ⟨rfl, rfl⟩)
        | (go_at_call_of 18 (Value.pointer (some ⟨A, 0, none⟩)); refine (aRd _ HLA.out).mono ?_; rintro e w6 ⟨rfl, rfl⟩)
        | (go_at_call_of 18 (Value.pointer (some ⟨Bb, 0, none⟩)); refine (bRd _ HLB.out).mono ?_; rintro e w6 ⟨rfl, rfl⟩)
        | (go_at_call_of 19 (Value.pointer none); refine (worst_nil _).mono ?_; rintro e w6 ⟨rfl, rfl⟩)
        | (go_at_call_of 19 (Value.pointer (some ⟨A, 0, none⟩)); refine (aWo _ HLA.out).mono ?_; rintro e w6 ⟨rfl, rfl⟩)
        | (go_at_call_of 19 (Value.pointer (some ⟨Bb, 0, none⟩)); refine (bWo _ HLB.out).mono ?_; rintro e w6 ⟨rfl, rfl⟩)
        | (go_at_call_of 13 (Value.pointer none); refine (lost_nil _).mono ?_; rintro e w6 ⟨rfl, rfl⟩)
        | (go_at_call_of 13 (Value.pointer (some ⟨A, 0, none⟩)); refine (aLo _ HLA.out).mono ?_; rintro e w6 ⟨qo, qc, rfl, hb⟩; have HLA := Lib.hid (HLA.out.keep0 hb); have HLB := Lib.hid (HLB.out.keep0 hb); have hb5 := bstep hb5 hb)
        | (go_at_call_of 13 (Value.pointer (some ⟨Bb, 0, none⟩)); refine (bLo _ HLB.out).mono ?_; rintro e w6 ⟨qo, qc, rfl, hb⟩; have HLA := Lib.hid (HLA.out.keep0 hb); have HLB := Lib.hid (HLB.out.keep0 hb); have hb5 := bstep hb5 hb)
        | (go_at_call_of 14 (Value.pointer none); refine (ended_nil _).mono ?_; rintro e w6 ⟨rfl, rfl⟩)
        | (go_at_call_of 14 (Value.pointer (some ⟨A, 0, none⟩)); refine (aEn _ HLA.out).mono ?_; rintro e w6 ⟨qo, qc, rfl, hb⟩; have HLA := Lib.hid (HLA.out.keep0 hb); have HLB := Lib.hid (HLB.out.keep0 hb); have hb5 := bstep hb5 hb)
        | (go_at_call_of 14 (Value.pointer (some ⟨Bb, 0, none⟩)); refine (bEn _ HLB.out).mono ?_; rintro e w6 ⟨qo, qc, rfl, hb⟩; have HLA := Lib.hid (HLA.out.keep0 hb); have HLB := Lib.hid (HLB.out.keep0 hb); have hb5 := bstep hb5 hb))
      go_ret
      exact ⟨rfl, hb5⟩
end Go.Proofs.Ytidjcbmdmecajaa

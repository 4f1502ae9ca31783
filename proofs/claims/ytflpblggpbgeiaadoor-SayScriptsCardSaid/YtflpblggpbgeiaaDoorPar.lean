/- The walk of say.Parse. -/
import Derived.Test.YtflpblggpbgeiaaDoorTak
import Derived.Test.YtflpblggpbgeiaaDoorSpt
import Derived.BigQuiet
namespace Go.Proofs.YtflpblggpbgeiaaDoor
open Go Go.RowKit Go.Calli
set_option linter.unusedVariables false
set_option linter.unusedSimpArgs false
attribute [local irreducible] wpStill wpAnyH wpAnyS wpList Code.wp
def takeAll (a : Ac) : List Int → List (List Int) → Option Ac
  | [], [] => some a
  | f :: fs, x :: xs => if okA f x = true then takeAll (takeA a f x) fs xs else none
  | _, _ => none
theorem takeAll_len : ∀ (fs : List Int) (a : Ac) (xs : List (List Int)), fs.length ≠ xs.length → takeAll a fs xs = none
  | [], a, [], h => absurd rfl h
  | [], a, _ :: _, _ => rfl
  | _ :: _, a, [], _ => rfl
  | f :: fs, a, x :: xs, h => by
    unfold takeAll
    split
    · exact takeAll_len fs _ xs (by simpa using h)
    · rfl
def parseK (k : Int) (ws : List (List Int)) : Option Ac := takeAll ⟨k, 0, [], 0, 0, 0, 0⟩ (vF k) (ws.drop 1)
def parseW : Nat → Int → List (List Int) → Option Ac
  | 0, _, _ => none
  | f + 1, k, ws => if vW k = ws.headD [] then parseK k ws else parseW f (k + 1) ws
def parseL (l : List Int) : Option Ac := parseW 12 1 (spl 32 l)
theorem seven_set {w : World} {b T : Nat} {e0 e1 e2 e3 e4 e5 e6 : Value} (h : w.heap[b]? = some (.cells #[e0, e1, e2, e3, e4, e5, e6] T (0, 0))) (v0 v1 v2 v3 v4 v5 v6 : Value) : (((((((w.setCell ⟨b, 0, none⟩ v0).setCell ⟨b, 1, none⟩ v1).setCell ⟨b, 2, none⟩ v2).setCell ⟨b, 3, none⟩ v3).setCell ⟨b, 4, none⟩ v4).setCell ⟨b, 5, none⟩ v5).setCell ⟨b, 6, none⟩ v6).heap[b]? = some (.cells #[v0, v1, v2, v3, v4, v5, v6] T (0, 0)) := by
  have h1 : (w.setCell ⟨b, 0, none⟩ v0).heap[b]? = some (.cells #[v0, e1, e2, e3, e4, e5, e6] T (0, 0)) := heap_setCell_same _ _ _ _ _ _ h
  have h2 : ((w.setCell ⟨b, 0, none⟩ v0).setCell ⟨b, 1, none⟩ v1).heap[b]? = some (.cells #[v0, v1, e2, e3, e4, e5, e6] T (0, 0)) := heap_setCell_same _ _ _ _ _ _ h1
  have h3 : (((w.setCell ⟨b, 0, none⟩ v0).setCell ⟨b, 1, none⟩ v1).setCell ⟨b, 2, none⟩ v2).heap[b]? = some (.cells #[v0, v1, v2, e3, e4, e5, e6] T (0, 0)) := heap_setCell_same _ _ _ _ _ _ h2
  have h4 : ((((w.setCell ⟨b, 0, none⟩ v0).setCell ⟨b, 1, none⟩ v1).setCell ⟨b, 2, none⟩ v2).setCell ⟨b, 3, none⟩ v3).heap[b]? = some (.cells #[v0, v1, v2, v3, e4, e5, e6] T (0, 0)) := heap_setCell_same _ _ _ _ _ _ h3
  have h5 : (((((w.setCell ⟨b, 0, none⟩ v0).setCell ⟨b, 1, none⟩ v1).setCell ⟨b, 2, none⟩ v2).setCell ⟨b, 3, none⟩ v3).setCell ⟨b, 4, none⟩ v4).heap[b]? = some (.cells #[v0, v1, v2, v3, v4, e5, e6] T (0, 0)) := heap_setCell_same _ _ _ _ _ _ h4
  have h6 : ((((((w.setCell ⟨b, 0, none⟩ v0).setCell ⟨b, 1, none⟩ v1).setCell ⟨b, 2, none⟩ v2).setCell ⟨b, 3, none⟩ v3).setCell ⟨b, 4, none⟩ v4).setCell ⟨b, 5, none⟩ v5).heap[b]? = some (.cells #[v0, v1, v2, v3, v4, v5, e6] T (0, 0)) := heap_setCell_same _ _ _ _ _ _ h5
  have h7 : (((((((w.setCell ⟨b, 0, none⟩ v0).setCell ⟨b, 1, none⟩ v1).setCell ⟨b, 2, none⟩ v2).setCell ⟨b, 3, none⟩ v3).setCell ⟨b, 4, none⟩ v4).setCell ⟨b, 5, none⟩ v5).setCell ⟨b, 6, none⟩ v6).heap[b]? = some (.cells #[v0, v1, v2, v3, v4, v5, v6] T (0, 0)) := heap_setCell_same _ _ _ _ _ _ h6
  exact h7
theorem seven_below {B : Nat} {a w : World} (h : Below B a w) {b : Nat} (hb : B ≤ b) (v0 v1 v2 v3 v4 v5 v6 : Value) : Below B a (((((((w.setCell ⟨b, 0, none⟩ v0).setCell ⟨b, 1, none⟩ v1).setCell ⟨b, 2, none⟩ v2).setCell ⟨b, 3, none⟩ v3).setCell ⟨b, 4, none⟩ v4).setCell ⟨b, 5, none⟩ v5).setCell ⟨b, 6, none⟩ v6) :=
  ((((((h.setCell (p := ⟨b, 0, none⟩) hb v0).setCell (p := ⟨b, 1, none⟩) hb v1).setCell (p := ⟨b, 2, none⟩) hb v2).setCell (p := ⟨b, 3, none⟩) hb v3).setCell (p := ⟨b, 4, none⟩) hb v4).setCell (p := ⟨b, 5, none⟩) hb v5).setCell (p := ⟨b, 6, none⟩) hb v6
theorem results_cell_tmp {P : Program} {fn : Func} {p q : Tmp} {ty : TypeId} (h : fn.results = #[.cell p ty, .tmp q]) (tmps : Array Value) (w : World) (g : Nat) (t : TypeId) (cs : Array Value) (fr : Nat × Nat) (d : TypeDesc)
    (hp : tmps.getD p undef = .pointer (some ⟨g, 0, none⟩)) (hg : w.heap[g]? = some (.cells cs t fr))
    (hu : P.underlying ty = some d) (hd : (match d with | .struct _ | .array _ _ => true | _ => false) = true) (hi : (P.info? ty).map (·.size) = some cs.size) :
    (results fn tmps).run P w = .ok (.tuple #[.agg cs, tmps.getD q undef]) w := by
  have hp' : tmps[p]?.getD undef = .pointer (some ⟨g, 0, none⟩) := by simpa using hp
  simp [results, h, hp', asAddr, run_loadVar_row w g t ty cs fr d hg hu hd hi]
theorem info23 : (Tryd.prog.info? 23).map (·.size) = some 7 := by kernel_rfl
theorem str_ne {a b : List Int} (ha : Byt a) (hb : Byt b) (h : a ≠ b) : ((strOfNums a).toList == (strOfNums b).toList) = false := by
  rw [beq_eq_false_iff_ne]
  intro e
  rw [Lib.strOfNums_toList, Lib.strOfNums_toList] at e
  exact h (strOfNums_inj ha hb (by unfold strOfNums; rw [show (a.map fun n => UInt8.ofNat n.toNat) = Lib.bytesOf a from rfl, e]; rfl))
theorem vW_byt (k : Int) : Byt (vW k) := by
  have hall : ∀ l ∈ ([[115, 116, 97, 114, 116], [115, 116, 111, 112], [115, 101, 101, 107], [112, 105, 116, 99, 104], [118, 111, 108, 117, 109, 101], [114, 101, 110, 100, 101, 114], [101, 118, 105, 99, 116], [102, 97, 105, 108], [115, 112, 111, 105, 108], [104, 101, 97, 108], [107, 101, 121], [103, 97, 116, 101], []] : List (List Int)), ∀ z ∈ l, 0 ≤ z ∧ z < 256 := by decide
  have hm : vW k ∈ ([[115, 116, 97, 114, 116], [115, 116, 111, 112], [115, 101, 101, 107], [112, 105, 116, 99, 104], [118, 111, 108, 117, 109, 101], [114, 101, 110, 100, 101, 114], [101, 118, 105, 99, 116], [102, 97, 105, 108], [115, 112, 111, 105, 108], [104, 101, 97, 108], [107, 101, 121], [103, 97, 116, 101], []] : List (List Int)) := by
    by_cases h : 1 ≤ k ∧ k ≤ 12
    · rcases (show k = 1 ∨ k = 2 ∨ k = 3 ∨ k = 4 ∨ k = 5 ∨ k = 6 ∨ k = 7 ∨ k = 8 ∨ k = 9 ∨ k = 10 ∨ k = 11 ∨ k = 12 by omega) with rfl | rfl | rfl | rfl | rfl | rfl | rfl | rfl | rfl | rfl | rfl | rfl <;> decide
    · have : vW k = [] := by
        unfold vW
        rw [if_neg (by omega), if_neg (by omega), if_neg (by omega), if_neg (by omega), if_neg (by omega), if_neg (by omega), if_neg (by omega), if_neg (by omega), if_neg (by omega), if_neg (by omega), if_neg (by omega), if_neg (by omega)]
      rw [this]; decide
  exact fun z hz => hall _ hm z hz
theorem vF_rng (k : Int) : (∀ z ∈ vF k, 0 ≤ z ∧ z ≤ 5) ∧ (vF k).length ≤ 3 := by
  by_cases h : 1 ≤ k ∧ k ≤ 12
  · rcases (show k = 1 ∨ k = 2 ∨ k = 3 ∨ k = 4 ∨ k = 5 ∨ k = 6 ∨ k = 7 ∨ k = 8 ∨ k = 9 ∨ k = 10 ∨ k = 11 ∨ k = 12 by omega) with rfl | rfl | rfl | rfl | rfl | rfl | rfl | rfl | rfl | rfl | rfl | rfl <;> decide
  · have : vF k = [] := by
      unfold vF
      rw [if_neg (by omega), if_neg (by omega), if_neg (by omega), if_neg (by omega), if_neg (by omega), if_neg (by omega), if_neg (by omega), if_neg (by omega), if_neg (by omega), if_neg (by omega), if_neg (by omega), if_neg (by omega)]
    rw [this]; decide
def ParP (o : Option Ac) (w : World) (e : Ending) (w' : World) : Prop := e = .returned (.tuple #[.agg (cellsA (o.getD ac0)), .int .i64 (if o.isSome = true then 0 else 4)]) ∧ Below w.heap.size w w'
def HasM (w : World) : Prop := ∃ m, w.cell? ⟨0, 0, none⟩ = some (.int .i64 m)
theorem HasM.keep0 {w w' : World} (h : HasM w) (hb : Below w.heap.size w w') : HasM w' := by
  obtain ⟨m, hm⟩ := h
  exact ⟨m, (hb.cell (World.block_lt_of_cell? w _ hm)).trans hm⟩
def ParRel (l : List Int) (a : Addr) (w W1 : World) (v5 : Value) (wr : World) : Prop := ∃ k : Nat, 1 ≤ k ∧ k ≤ 13 ∧ v5 = .int .i64 (k : Int) ∧ Hid (parseL l = parseW (13 - k) k (spl 32 l)) ∧ Below W1.heap.size W1 wr
set_option maxRecDepth 100000 in
set_option maxHeartbeats 8000000 in
theorem parse_any (l : List Int) (hb : Byt l) (hl : l.length ≤ 1000000) (w : World) (hm : HasM w) : Calls Tryd.prog 10 #[.string (strOfNums l)] w (ParP (parseL l) w) := by
  have hk0 := below_alloc w (.cells (cellsA ac0) 23)
  have hz0 := heap_alloc_new w (.cells (cellsA ac0) 23)
  have hm0 := hm.keep0 hk0
  have hc0 : cellsA ac0 = #[.int .i64 0, .int .i64 0, .string (ByteArray.mk #[]), .int .i64 0, .int .i64 0, .int .i64 0, .int .i64 0] := rfl
  rw [hc0] at hk0 hz0 hm0
  go_enter Tryd.func10, Tryd.ntmps10
  go_upto_region 1 with fail
  generalize w.alloc (.cells #[.int .i64 0, .int .i64 0, .string (ByteArray.mk #[]), .int .i64 0, .int .i64 0, .int .i64 0, .int .i64 0] 23) = W at *
  obtain ⟨m, hm1⟩ := hm0
  have hsp := split_any 32 (by omega) l hb (by omega) m W hm1
  have HSP : Hid (Calls Tryd.prog 24 #[.string (strOfNums l), .string (ByteArray.mk #[32])] W fun e w' => ∃ a : Addr, e = .returned (.slice (some a) (spl 32 l).length (spl 32 l).length) ∧ Txts w' a (spl 32 l).length (spl 32 l) ∧ a.block < w'.heap.size ∧ Below W.heap.size W w') := hsp
  have hwb := spl_byt 32 l hb
  have hwl := spl_len 32 l
  have hwn := spl_ne 32 l
  have HPL : Hid (parseL l = parseW 12 1 (spl 32 l)) := rfl
  generalize spl 32 l = ws at *
  clear hsp hm1 hm hc0
  go_upto_region 3 with (go_at_call 24; refine HSP.out.mono ?_; rintro e w1 ⟨a, rfl, hT, hab, hb1⟩)
  have hz1 := (hb1.block _ (lt_of_block hz0)).trans hz0
  have hbw := hk0.trans (hb1.mono hk0.size)
  have HZ1 := Lib.hid hz1
  have HT := Lib.hid hT
  have HBW := Lib.hid hbw
  obtain ⟨N, hN⟩ : ∃ N, N = ws.length := ⟨_, rfl⟩
  rw [← hN] at HT ⊢
  have hN0 : 0 < N := by rw [hN]; exact List.length_pos_iff.2 hwn
  have hNl : N ≤ 1000001 := by rw [hN]; omega
  have HN := Lib.hid hN
  have HWL := Lib.hid hwl.2
  clear hz0 hz1 hk0 hb1 hT HSP hbw hwl hwn hN
  go_loopw [5] (fun v5 wr => ∃ k : Nat, 1 ≤ k ∧ k ≤ 13 ∧ v5 = .int .i64 (k : Int) ∧ Hid (parseL l = parseW (13 - k) k ws) ∧ Below w1.heap.size w1 wr) (fun v5 _ => 13 - natV v5)
  case atStart => exact ⟨1, by omega, by omega, rfl, HPL.out, Below.refl _ _⟩
  case round =>
    clear HPL
    obtain ⟨k, hk1, hk13, rfl, hP, hbr⟩ := hrel
    have HZr := Lib.hid ((hbr.block _ (lt_of_block HZ1.out)).trans HZ1.out)
    have HBr := Lib.hid (HBW.out.trans (hbr.mono HBW.out.size))
    by_cases hlt : k ≤ 12
    · have hpw : parseW (13 - k) k ws = if vW k = ws.headD [] then parseK k ws else parseW (13 - (k + 1)) ((k + 1 : Nat) : Int) ws := by
        rw [show 13 - k = (13 - (k + 1)) + 1 by omega]
        rfl
      have hVB := vW_byt k
      have hVF := vF_rng k
      have HV := Lib.hid (verbs_any k wr)
      go_upto_region 6 with (go_at_call 25; refine HV.out.mono ?_; rintro e w2 ⟨fo, fn, rfl, hF, hb2⟩)
      have hvx := heap_alloc_new w2 (.cells #[.string (strOfNums (vW k)), .slice fo fn fn] 51)
      have hbx := below_alloc w2 (.cells #[.string (strOfNums (vW k)), .slice fo fn fn] 51)
      have hb3 := bstep hbr (hb2.trans (hbx.mono hb2.size))
      have hF3 := hF.keep0 hbx
      have hfl := hF.hlen
      clear hF hb2 hbx HV
      generalize w2.alloc (.cells #[.string (strOfNums (vW k)), .slice fo fn fn] 51) = W3 at *
      generalize w2.heap.size = vb at *
      have hT3 := HT.out.keep0 hb3
      have hz3 := (hb3.block _ (lt_of_block HZ1.out)).trans HZ1.out
      have hB3 := HBW.out.trans (hb3.mono HBW.out.size)
      have q0 := hT3.cell 0 hN0
      have ha0 : a.add 0 = a := by cases a; simp [Addr.add]
      rw [ha0] at q0
      have hq0 : ws.headD [] = ws.getD 0 [] := by cases ws <;> rfl
      have hw0b : Byt (ws.getD 0 []) := by
        cases hws : ws with
        | nil => exact fun z hz => by simp at hz
        | cons x t => exact hwb x (by rw [hws]; simp)
      rw [hq0] at hpw
      obtain ⟨r0, r1⟩ : W3.cell? ⟨vb, 0, none⟩ = some (.string (strOfNums (vW k))) ∧ W3.cell? ⟨vb, 1, none⟩ = some (.slice fo fn fn) := ⟨(cell_of_row _ _ _ _ _ _ hvx).trans rfl, (cell_of_row _ _ _ _ _ _ hvx).trans rfl⟩
      by_cases heq : vW k = ws.getD 0 []
      · rw [if_pos heq] at hpw
        have g1 : ((strOfNums (vW k)).toList == (strOfNums (ws.getD 0 [])).toList) = true := by rw [heq]; simp
        have g2 : ((strOfNums (vW k)).toList != (strOfNums (ws.getD 0 [])).toList) = false := by rw [bne, g1]; rfl
        have HPK : Hid (parseL l = parseK k ws) := hP.out.trans hpw
        clear hpw hP
        generalize strOfNums (ws.getD 0 []) = s0 at *
        generalize strOfNums (vW k) = s1 at *
        clear heq hVB hw0b hq0
        go_quiet (fail)
        have hb4 : Below w1.heap.size w1 (W3.drewN nq) := ⟨hb3.os, hb3.tape, hb3.output, hb3.size, hb3.block⟩
        have hF4 : Ints .i64 (W3.drewN nq) fo fn (vF k) := ⟨hF3.1, hF3.2, hF3.3, hF3.4⟩
        have hT4 : Txts (W3.drewN nq) a N ws := ⟨hT3.hlen, hT3.cell⟩
        have hz4 : (W3.drewN nq).heap[w.heap.size]? = _ := hz3
        have hB4 : Below w.heap.size w (W3.drewN nq) := ⟨hB3.os, hB3.tape, hB3.output, hB3.size, hB3.block⟩
        have r14 : (W3.drewN nq).cell? ⟨vb, 1, none⟩ = some (.slice fo fn fn) := r1
        clear hb3 hF3 hT3 hz3 hB3 r0 r1 q0 hvx g1 g2
        generalize W3.drewN nq = W4 at *
        have hlF := hF4.hlen
        by_cases hNf : N = fn + 1
        · have g3 : ((N : Int) - 1 == (fn : Int)) = true := by rw [beq_iff_eq]; omega
          have g4 : ((N : Int) - 1 != (fn : Int)) = false := by rw [bne, g3]; rfl
          have hba := below_alloc W4 (.cells (cellsA ⟨k, 0, [], 0, 0, 0, 0⟩) 23)
          have hx0 := heap_alloc_new W4 (.cells (cellsA ⟨k, 0, [], 0, 0, 0, 0⟩) 23)
          have r15 := (hba.cell (World.block_lt_of_cell? W4 _ r14)).trans r14
          have hcA : cellsA ⟨k, 0, [], 0, 0, 0, 0⟩ = #[.int .i64 k, .int .i64 0, .string (ByteArray.mk #[]), .int .i64 0, .int .i64 0, .int .i64 0, .int .i64 0] := rfl
          rw [hcA] at hba hx0 r15
          have HT4 := Lib.hid hT4
          have HF4 := Lib.hid hF4
          have HZ4 := Lib.hid hz4
          have HB4 := Lib.hid hB4
          have HX0 : Hid ((W4.alloc (.cells #[.int .i64 k, .int .i64 0, .string (ByteArray.mk #[]), .int .i64 0, .int .i64 0, .int .i64 0, .int .i64 0] 23)).heap[W4.heap.size]? = some (.cells (cellsA ⟨k, 0, [], 0, 0, 0, 0⟩) 23 (0, 0))) := hx0
          have HBA := Lib.hid hba
          go_upto_region 11 with fail
          have HNF := Lib.hid hNf
          clear hba hx0 r14 r15 hcA hT4 hF4 hz4 hB4 hb4 hNf
          go_loopw [37] (fun v37 wi => ∃ (j : Nat) (aj : Ac), j ≤ fn ∧ v37 = .int .i64 (j : Int) ∧ wi.heap[W4.heap.size]? = some (.cells (cellsA aj) 23 (0, 0)) ∧ Hid (parseK k ws = takeAll aj ((vF k).drop j) ((ws.drop 1).drop j)) ∧ Below W4.heap.size W4 wi) (fun v37 _ => fn - natV v37)
          case atStart => exact ⟨0, _, by omega, rfl, HX0.out, rfl, HBA.out⟩
          case round =>
            clear HX0 HBA
            obtain ⟨j, aj, hj, rfl, hA, hQ, hbi⟩ := hrel
            have hNf := HNF.out
            have hzi := (hbi.block _ (lt_of_block HZ4.out)).trans HZ4.out
            have hBi := HB4.out.trans (hbi.mono HB4.out.size)
            by_cases hjl : j < fn
            · obtain ⟨fa, fv, rfl, hfx, hfc, hf0, hf5⟩ := (HF4.out.keep0 hbi).int hjl
              have hfr := hVF.1 _ (getD_mem0 (l := vF k) (k := j) (by rw [hlF]; exact hjl))
              rw [hfx.out] at hfr
              have hxc := (HT4.out.keep0 hbi).cell (j + 1) (by omega)
              rw [show a.add (j + 1) = ⟨a.block, a.off + (j + 1), none⟩ from rfl] at hxc
              have hxb : Byt (ws.getD (j + 1) []) := hwb _ (by rw [show ws.getD (j + 1) [] = ws[j + 1]'(by rw [← HN.out]; omega) by simp [List.getD, show j + 1 < ws.length by rw [← HN.out]; omega]]; exact List.getElem_mem _)
              have hxl : (ws.getD (j + 1) []).length ≤ 1000000 := Nat.le_trans (HWL.out _ (by rw [show ws.getD (j + 1) [] = ws[j + 1]'(by rw [← HN.out]; omega) by simp [List.getD, show j + 1 < ws.length by rw [← HN.out]; omega]]; exact List.getElem_mem _)) hl
              have hdf : (vF k).drop j = fv :: (vF k).drop (j + 1) := by
                rw [List.drop_eq_getElem_cons (by rw [hlF]; exact hjl)]
                congr 1
                rw [← hfx.out]; simp [List.getD, show j < (vF k).length by rw [hlF]; exact hjl]
              have hdx : (ws.drop 1).drop j = ws.getD (j + 1) [] :: (ws.drop 1).drop (j + 1) := by
                rw [List.drop_drop, List.drop_drop, Nat.add_comm 1 j, List.drop_eq_getElem_cons (by rw [← HN.out]; omega), show 1 + (j + 1) = j + 1 + 1 by omega]
                congr 1
                simp [List.getD, show j + 1 < ws.length by rw [← HN.out]; omega]
              have hQ2 := hQ.out
              rw [hdf, hdx] at hQ2
              unfold takeAll at hQ2
              have HTK := Lib.hid (take_any W4.heap.size aj fv hfr (ws.getD (j + 1) []) hxb hxl _ hA)
              generalize ws.getD (j + 1) [] = x at *
              unfold TakP at HTK
              have hjN : j + 1 < N := by omega
              clear hNf
              obtain ⟨⟨c0, c1, c2, c3, c4, c5, c6⟩, f0, f1, f2, f3, f4, f5, f6⟩ := seven_cells hzi
              cases hok : okA fv x with
              | false =>
                rw [hok] at HTK hQ2
                rw [if_neg (by decide)] at hQ2
                have HO : Hid (parseL l = none) := HPK.out.trans hQ2
                clear hQ hQ2 hdf hdx hok hfx hxb hxl
                go_upto_region 14 with (go_at_call 26; refine HTK.out.mono ?_; rintro e w6 ⟨rfl, hA6, hk6⟩; have hz6 := hk6.heap hzi (Nat.ne_of_lt (lt_of_block HZ4.out)); obtain ⟨⟨p0, p1, p2, p3, p4, p5, p6⟩, q0, q1, q2, q3, q4, q5, q6⟩ := seven_cells hz6)
                have hB6 := hBi.trans (hk6.toBelow hBi.size (fun k hk e => by have := HB4.out.size; omega))
                have HS := Lib.hid (seven_set hz6 (.int .i64 0) (.int .i64 0) (.string (ByteArray.mk #[])) (.int .i64 0) (.int .i64 0) (.int .i64 0) (.int .i64 0))
                have HBB := Lib.hid (seven_below hB6 (b := w.heap.size) (Nat.le_refl _) (.int .i64 0) (.int .i64 0) (.string (ByteArray.mk #[])) (.int .i64 0) (.int .i64 0) (.int .i64 0) (.int .i64 0))
                go_wp2_with fail
                exact bodyPost_ret (results_cell_tmp (fn := Tryd.f10) (p := 2) (q := 3) (ty := 23) rfl _ _ _ _ _ _ _ rfl HS.out Tryd.underlying23 rfl info23) rfl ⟨by rw [HO.out] <;> rfl, HBB.out⟩
              | true =>
                rw [hok] at HTK hQ2
                rw [if_pos rfl] at hQ2
                have HQ2 := Lib.hid hQ2
                clear hQ hQ2 hdf hdx hok hfx hxb hxl
                go_upto_region 15 with (go_at_call 26; refine HTK.out.mono ?_; rintro e w6 ⟨rfl, hA6, hk6⟩)
                have hb6 := hbi.trans (hk6.toBelow hbi.size (fun k hk e => by omega))
                go_wp2_with fail
                refine ⟨⟨j + 1, _, by omega, by go_num, hA6, HQ2.out, hb6⟩, ?_⟩
                simp [natV]; omega
            · obtain rfl : j = fn := by omega
              have hQ2 := hQ.out
              rw [List.drop_of_length_le (by rw [hlF]; exact Nat.le_refl _), List.drop_drop, List.drop_of_length_le (by rw [← HN.out]; omega)] at hQ2
              have HO : Hid (parseL l = some aj) := HPK.out.trans hQ2
              clear hQ hQ2 hNf
              obtain ⟨⟨c0, c1, c2, c3, c4, c5, c6⟩, f0, f1, f2, f3, f4, f5, f6⟩ := seven_cells hzi
              obtain ⟨ak, av, anm, an, am, ap, ax⟩ := aj
              unfold cellsA at hA
              simp only at hA
              obtain ⟨⟨d0, d1, d2, d3, d4, d5, d6⟩, -⟩ := seven_cells hA
              have HS := Lib.hid (seven_set hzi (.int .i64 ak) (.int .i64 av) (.string (strOfNums anm)) (.int .i64 an) (.int .i64 am) (.int .i64 ap) (.int .i64 ax))
              have HBB := Lib.hid (seven_below hBi (b := w.heap.size) (Nat.le_refl _) (.int .i64 ak) (.int .i64 av) (.string (strOfNums anm)) (.int .i64 an) (.int .i64 am) (.int .i64 ap) (.int .i64 ax))
              go_wp2_with fail
              exact bodyPost_ret (results_cell_tmp (fn := Tryd.f10) (p := 2) (q := 3) (ty := 23) rfl _ _ _ _ _ _ _ rfl HS.out Tryd.underlying23 rfl info23) rfl ⟨by rw [HO.out] <;> rfl, HBB.out⟩
        · have g3 : ((N : Int) - 1 == (fn : Int)) = false := by rw [beq_eq_false_iff_ne]; omega
          have g4 : ((N : Int) - 1 != (fn : Int)) = true := by rw [bne, g3]; rfl
          have HO : Hid (parseL l = none) := HPK.out.trans (takeAll_len _ _ _ (by rw [hlF, List.length_drop, ← HN.out]; omega))
          obtain ⟨⟨c0, c1, c2, c3, c4, c5, c6⟩, f0, f1, f2, f3, f4, f5, f6⟩ := seven_cells hz4
          have HS := Lib.hid (seven_set hz4 (.int .i64 0) (.int .i64 0) (.string (ByteArray.mk #[])) (.int .i64 0) (.int .i64 0) (.int .i64 0) (.int .i64 0))
          have HBB := Lib.hid (seven_below hB4 (b := w.heap.size) (Nat.le_refl _) (.int .i64 0) (.int .i64 0) (.string (ByteArray.mk #[])) (.int .i64 0) (.int .i64 0) (.int .i64 0) (.int .i64 0))
          clear hF4 hT4 hVF
          go_wp2_with fail
          exact bodyPost_ret (results_cell_tmp (fn := Tryd.f10) (p := 2) (q := 3) (ty := 23) rfl _ _ _ _ _ _ _ rfl HS.out Tryd.underlying23 rfl info23) rfl ⟨by rw [HO.out] <;> rfl, HBB.out⟩
      · rw [if_neg heq] at hpw
        have g1 := str_ne hVB hw0b heq
        have g2 : ((strOfNums (vW k)).toList != (strOfNums (ws.getD 0 [])).toList) = true := by rw [bne, g1]; rfl
        have HP2 : Hid (parseL l = parseW (13 - (k + 1)) ((k + 1 : Nat) : Int) ws) := hP.out.trans hpw
        generalize strOfNums (ws.getD 0 []) = s0 at *
        generalize strOfNums (vW k) = s1 at *
        clear hpw hP heq
        go_quiet (fail)
        have hbq : Below w1.heap.size w1 (W3.drewN nq) := ⟨hb3.os, hb3.tape, hb3.output, hb3.size, hb3.block⟩
        go_wp2_with fail
        refine ⟨⟨k + 1, by omega, by omega, by go_num, HP2.out, hbq⟩, ?_⟩
        simp [natV]; omega
    · obtain rfl : k = 13 := by omega
      have HO : Hid (parseL l = none) := hP.out
      obtain ⟨⟨c0, c1, c2, c3, c4, c5, c6⟩, f0, f1, f2, f3, f4, f5, f6⟩ := seven_cells HZr.out
      have HS := Lib.hid (seven_set HZr.out (.int .i64 0) (.int .i64 0) (.string (ByteArray.mk #[])) (.int .i64 0) (.int .i64 0) (.int .i64 0) (.int .i64 0))
      have HBB := Lib.hid (seven_below HBr.out (b := w.heap.size) (Nat.le_refl _) (.int .i64 0) (.int .i64 0) (.string (ByteArray.mk #[])) (.int .i64 0) (.int .i64 0) (.int .i64 0) (.int .i64 0))
      clear hP
      go_wp2_with fail
      exact bodyPost_ret (results_cell_tmp (fn := Tryd.f10) (p := 2) (q := 3) (ty := 23) rfl _ _ _ _ _ _ _ rfl HS.out Tryd.underlying23 rfl info23) rfl ⟨by rw [HO.out] <;> rfl, HBB.out⟩
end Go.Proofs.YtflpblggpbgeiaaDoor

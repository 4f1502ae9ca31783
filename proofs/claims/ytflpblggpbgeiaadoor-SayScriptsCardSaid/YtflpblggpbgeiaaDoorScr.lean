/- The walk of say.Script. -/
import Derived.Test.YtflpblggpbgeiaaDoorScp
namespace Go.Proofs.YtflpblggpbgeiaaDoor
open Go Go.RowKit Go.Calli
set_option linter.unusedVariables false
set_option linter.unusedSimpArgs false
attribute [local irreducible] wpStill wpAnyH wpAnyS wpList Code.wp
def ScrP (t : List (List Int)) (w : World) (e : Ending) (w' : World) : Prop := Below w.heap.size w w' ∧ (4096 < t.length → e = .returned (.tuple #[.slice none 0 0, .int .i64 0, .int .i64 3])) ∧ (t.length ≤ 4096 → (scanL t).length < t.length → e = .returned (.tuple #[.slice none 0 0, .int .i64 ((scanL t).length : Nat), .int .i64 4])) ∧ (t.length ≤ 4096 → (scanL t).length = t.length → ∃ ao cap, e = .returned (.tuple #[.slice ao t.length cap, .int .i64 0, .int .i64 0]) ∧ t.length ≤ cap ∧ Recs vals7 7 ac0 w' ao t.length (scanL t))
set_option maxRecDepth 100000 in
set_option maxHeartbeats 8000000 in
theorem script_any (s : List Int) (hb : Byt s) (h0 : s ≠ []) (hl : s.length ≤ 1000000) (w : World) (hm : HasM w) : Calls Tryd.prog 20 #[.string (strOfNums s)] w (ScrP (cutL (spl 10 s)) w) := by
  obtain ⟨m, hmm⟩ := hm
  have hsp := split_any 10 (by omega) s hb (by omega) m w hmm
  have hwb := spl_byt 10 s hb
  have hwl := spl_len 10 s
  have hwn := spl_ne 10 s
  obtain ⟨K, hK⟩ : ∃ K, (spl 10 s).length = K + 1 := ⟨(spl 10 s).length - 1, by have := List.length_pos_iff.2 hwn; omega⟩
  rw [hK] at hsp
  have HSP : Hid (Calls Tryd.prog 24 #[.string (strOfNums s), .string (ByteArray.mk #[10])] w fun e w' => ∃ a : Addr, e = .returned (.slice (some a) (K + 1) (K + 1)) ∧ Txts w' a (K + 1) (spl 10 s) ∧ a.block < w'.heap.size ∧ Below w.heap.size w w') := hsp
  have hem := nums_empty s
  have hS0 : s.length ≠ 0 := fun e => h0 (List.eq_nil_of_length_eq_zero e)
  have hem2 : (strOfNums s).toList.isEmpty = false := by rw [hem]; simpa using hS0
  have g1 : ((strOfNums s).toList == []) = false := by rw [← hem2]; cases (strOfNums s).toList <;> rfl
  have hKl : K ≤ 1000000 := by have := hwl.1; omega
  have HWL := Lib.hid (fun x hx => Nat.le_trans (hwl.2 x hx) hl)
  have HWB := Lib.hid hwb
  generalize spl 10 s = ws at *
  generalize strOfNums s = s0 at *
  clear hsp hem hS0 hem2 hwb hwl hwn h0 hl
  go_enter Tryd.func20, Tryd.ntmps20
  go_upto_region 4 with (go_at_call 24; refine HSP.out.mono ?_; rintro e w1 ⟨a, rfl, hT, hab, hb1⟩)
  have q0 := hT.cell K (by omega)
  have hwK : IntKind.i64.wrap ((K : Int) + 1 - 1) = (K : Int) := by rw [show (K : Int) + 1 - 1 = (K : Int) by omega]; exact IntWalk.i64_in _ (by omega)
  clear HSP g1
  have hc : cutL ws = if ws.getD K [] = [] then ws.take K else ws := by unfold cutL; rw [hK]; rfl
  have hlb := nums_empty (ws.getD K [])
  generalize ws.getD K [] = L at *
  generalize hB : (strOfNums L).toList.isEmpty = B at *
  have hBL : B = true ↔ L = [] := by rw [hlb, decide_eq_true_iff, List.length_eq_zero_iff]
  clear hlb
  have HT : Hid (Txts w1 a (cutL ws).length (cutL ws) ∧ (cutL ws).length ≤ K + 1 ∧ (∀ x ∈ cutL ws, Byt x ∧ x.length ≤ 1000000) ∧ (B = true → (cutL ws).length = K) ∧ (B = false → (cutL ws).length = K + 1)) := by
    rw [hc]
    by_cases hL : L = []
    · rw [if_pos hL]
      have hB1 := hBL.2 hL
      subst hB1
      have hlt : (ws.take K).length = K := by rw [List.length_take]; omega
      refine ⟨⟨rfl, fun i hi => ?_⟩, by omega, fun x hx => ⟨HWB.out x (List.mem_of_mem_take hx), HWL.out x (List.mem_of_mem_take hx)⟩, fun _ => hlt, fun h => by cases h⟩
      rw [hlt] at hi
      have := hT.cell i (by omega)
      rwa [show (ws.take K).getD i [] = ws.getD i [] by simp [List.getD, hi]]
    · rw [if_neg hL]
      have hB0 : B = false := by cases B with | false => rfl | true => exact absurd (hBL.1 rfl) hL
      subst hB0
      exact ⟨by rw [hK]; exact hT, by omega, fun x hx => ⟨HWB.out x hx, HWL.out x hx⟩, (fun h => Bool.noConfusion h), fun _ => hK⟩
  obtain ⟨hT2, hTl, hTb, hTK1, hTK0⟩ := HT.out
  clear HT HWL HWB hT hc hBL hK
  generalize cutL ws = t at *
  obtain ⟨n, hn⟩ : ∃ n, t.length = n := ⟨_, rfl⟩
  rw [hn] at hT2 hTl hTK1 hTK0
  go_upto_if 21 with fail
  go_cut [5] (fun v5 wx => v5 = .slice (some a) n (K + 1) ∧ wx = w1)
  case first =>
    have hTK : B = true → K = n := fun h => (hTK1 h).symm
    clear hTK1 hT2 hTb hB q0
    cases B
    · have hn1 := hTK0 rfl
      clear hTK0 hTK
      subst hn1
      go_wp2_with fail
      go_meet
      exact ⟨rfl, rfl⟩
    · have hn1 := hTK rfl
      clear hTK0 hTK
      subst hn1
      go_wp2_with fail
      go_meet
      exact ⟨rfl, rfl⟩
  case rest =>
    obtain ⟨rfl, hwx⟩ := hcut
    subst hwx
    clear hTK1 hTK0 hB hwK q0
    by_cases hbig : 4096 < n
    · have g1 : decide ((4096 : Int) < (n : Int)) = true := decide_eq_true (by omega)
      go_wp2_with fail
      go_ret3
      exact ⟨hb1, fun _ => rfl, fun h => absurd h (by omega), fun h => absurd h (by omega)⟩
    · have g1 : decide ((4096 : Int) < (n : Int)) = false := decide_eq_false (by omega)
      have hm1 : HasM wc := HasM.keep0 ⟨m, hmm⟩ hb1
      have HT2 := Lib.hid hT2
      have HB1 := Lib.hid hb1
      have hsle := scan_le t
      have HAT := Lib.hid (scan_at t)
      have HST := Lib.hid (scan_stop t)
      obtain ⟨os, hos⟩ : ∃ os, os = scanL t := ⟨_, rfl⟩
      rw [← hos] at hsle HAT HST
      obtain ⟨N, hN⟩ : ∃ N, os.length = N := ⟨_, rfl⟩
      rw [hN] at hsle HAT HST
      have hnl : n ≤ 4096 := by omega
      have HN := Lib.hid hN
      have HOS := Lib.hid hos
      have HNn := Lib.hid hn
      rw [hn] at hsle HST
      go_upto_region 10 with fail
      clear g1 hbig hT2 hb1 hmm hN hos hn
      go_loopw [6, 32] (fun v6 v32 wr => ∃ j : Nat, j ≤ N ∧ v32 = .int .i64 (j : Int) ∧ wr.ownsRow wc.heap.size 23 7 v6 j ((os.take j).flatMap vals7) ∧ Below wc.heap.size wc wr) (fun _ v32 _ => n - natV v32)
      case atStart => exact ⟨0, by omega, rfl, World.ownsRow_nil _ _ _ _, Below.refl _ _⟩
      case round =>
        obtain ⟨j, hj, rfl, hO, hbr⟩ := hrel
        have hTr := HT2.out.keep0 hbr
        have hBr := HB1.out.trans (hbr.mono HB1.out.size)
        have hmr := hm1.keep0 hbr
        by_cases hjn : j < n
        · have hxc := hTr.cell j hjn
          have hxm : t.getD j [] ∈ t := by
            rw [show t.getD j [] = t[j]'(by rw [HNn.out]; exact hjn) by simp [List.getD, show j < t.length by rw [HNn.out]; exact hjn]]
            exact List.getElem_mem _
          obtain ⟨hxb, hxl⟩ := hTb _ hxm
          by_cases hjN : j < N
          · have hp := HAT.out j hjN
            have hft := flat_take os j (by rw [HN.out]; exact hjN)
            generalize os.getD j ac0 = aj at hp hft
            obtain ⟨ak, av, anm, an, am, ap, ax⟩ := aj
            have hP := parse_any (t.getD j []) hxb hxl
            rw [hp] at hP
            have PA : Hid (∀ w, HasM w → Calls Tryd.prog 10 #[.string (strOfNums (t.getD j []))] w (fun e w' => e = .returned (.tuple #[.agg #[.int .i64 ak, .int .i64 av, .string (strOfNums anm), .int .i64 an, .int .i64 am, .int .i64 ap, .int .i64 ax], .int .i64 0]) ∧ Below w.heap.size w w')) := hP
            have HV : Hid (vals7 ⟨ak, av, anm, an, am, ap, ax⟩ = [.int .i64 ak, .int .i64 av, .string (strOfNums anm), .int .i64 an, .int .i64 am, .int .i64 ap, .int .i64 ax]) := rfl
            have HFT := Lib.hid hft
            clear hp hP hxb hxl hxm hft
            generalize strOfNums (t.getD j []) = sx at *
            go_upto_region 15 with (go_at_call 10; refine (PA.out _ hmr).mono ?_; rintro e w3 ⟨rfl, hb3⟩)
            have hy4 := heap_alloc_new w3 (.cells #[.int .i64 ak, .int .i64 av, .string (strOfNums anm), .int .i64 an, .int .i64 am, .int .i64 ap, .int .i64 ax] 23)
            have hba := below_alloc w3 (.cells #[.int .i64 ak, .int .i64 av, .string (strOfNums anm), .int .i64 an, .int .i64 am, .int .i64 ap, .int .i64 ax] 23)
            have hb4 := hb3.trans (hba.mono hb3.size)
            have hO4 := own_below0 hO hb4
            have hb5 := bstep hbr hb4
            clear hO hba hb3 hxc hTr
            generalize w3.alloc (.cells #[.int .i64 ak, .int .i64 av, .string (strOfNums anm), .int .i64 an, .int .i64 am, .int .i64 ap, .int .i64 ax] 23) = W4 at *
            generalize w3.heap.size = xb at *
            obtain ⟨⟨d0, d1, d2, d3, d4, d5, d6⟩, -⟩ := seven_cells hy4
            clear hy4
            go_wp2_with (at_builtin; refine wpList_append_rec rfl (.tmp 46) (.tmp 48) 40 23 7 rfl Tryd.underlying40 infoAct rfl (by decide) wc.heap.size _ _ _ rfl hO4 (vals7 ⟨ak, av, anm, an, am, ap, ax⟩) rfl rfl (vals7_one _) ?_ ?_ ?_ ?_)
            · omega
            · unfold maxLen; omega
            · exact hb5.size
            intro v' w' hown' hk'
            have hb6 := hb5.trans (owns_below hO4 hk' hb5.size)
            rw [← HFT.out] at hown'
            clear hO4 hb4 hb5 hk' d0 d1 d2 d3 d4 d5 d6
            go_wp2_with fail
            refine ⟨⟨j + 1, by omega, by go_num, hown', hb6⟩, ?_⟩
            simp [natV]; omega
          · obtain rfl : j = N := by omega
            have hp := HST.out hjn
            have hP := parse_any (t.getD j []) hxb hxl
            rw [hp] at hP
            have PA : Hid (∀ w, HasM w → Calls Tryd.prog 10 #[.string (strOfNums (t.getD j []))] w (fun e w' => e = .returned (.tuple #[.agg #[.int .i64 0, .int .i64 0, .string (ByteArray.mk #[]), .int .i64 0, .int .i64 0, .int .i64 0, .int .i64 0], .int .i64 4]) ∧ Below w.heap.size w w')) := hP
            clear hp hP hxb hxl hxm
            generalize strOfNums (t.getD j []) = sx at *
            go_upto_region 13 with (go_at_call 10; refine (PA.out _ hmr).mono ?_; rintro e w3 ⟨rfl, hb3⟩)
            have hba := below_alloc w3 (.cells #[.int .i64 0, .int .i64 0, .string (ByteArray.mk #[]), .int .i64 0, .int .i64 0, .int .i64 0, .int .i64 0] 23)
            have hb4 := hBr.trans ((hb3.trans (hba.mono hb3.size)).mono hBr.size)
            clear hO hba hb3 hxc hTr
            generalize w3.alloc (.cells #[.int .i64 0, .int .i64 0, .string (ByteArray.mk #[]), .int .i64 0, .int .i64 0, .int .i64 0, .int .i64 0] 23) = W4 at *
            go_wp2_with fail
            go_ret3
            refine ⟨hb4, fun h => absurd h (by rw [HNn.out]; omega), fun _ _ => by (rw [← HOS.out, HN.out] <;> rfl), fun _ h => absurd h (by rw [← HOS.out, HN.out, HNn.out]; omega)⟩
        · obtain rfl : j = n := by omega
          obtain rfl : N = j := by omega
          rw [List.take_of_length_le (by rw [HN.out]; exact Nat.le_refl _)] at hO
          obtain ⟨ao, cap, rfl, hcap, hR, -⟩ := own_recs ac0 vals7_len (by decide) hO
          go_wp2_with fail
          go_ret3
          refine ⟨hBr, fun h => absurd h (by rw [HNn.out]; omega), fun _ h => absurd h (by rw [← HOS.out, HN.out, HNn.out]; omega), fun _ _ => ⟨ao, cap, by (rw [HNn.out] <;> rfl), by rw [HNn.out]; exact hcap, by rw [HNn.out, ← HOS.out]; exact hR⟩⟩
end Go.Proofs.YtflpblggpbgeiaaDoor

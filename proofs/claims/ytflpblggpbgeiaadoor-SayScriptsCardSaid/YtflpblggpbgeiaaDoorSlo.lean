/- The walk of the statement SayLong. -/
import Derived.Test.YtflpblggpbgeiaaDoorScr
import Derived.Lib.AppendStr
namespace Go.Proofs.YtflpblggpbgeiaaDoor
open Go Go.RowKit Go.Calli
set_option linter.unusedVariables false
set_option linter.unusedSimpArgs false
attribute [local irreducible] wpStill wpAnyH wpAnyS wpList Code.wp
theorem splc_none (c : Int) (h : List Int) (hn : ∀ z ∈ h, z ≠ c) : spl c h = [h] := by
  induction h with
  | nil => rfl
  | cons d r ih =>
    unfold spl
    rw [if_neg (hn d (by simp)), ih (fun z hz => hn z (by simp [hz]))]
    rfl
theorem splc_some (c : Int) (h t : List Int) (hn : ∀ z ∈ h, z ≠ c) : spl c (h ++ c :: t) = h :: spl c t := by
  induction h with
  | nil => rw [List.nil_append, spl_cons, if_pos rfl]
  | cons d r ih =>
    rw [List.cons_append, spl_cons, if_neg (hn d (by simp)), ih (fun z hz => hn z (by simp [hz]))]
    rfl
def stop6 : List Int := [115, 116, 111, 112, 32, 49]
def stopT : Nat → List Int
  | 0 => []
  | n + 1 => stopT n ++ (stop6 ++ [10])
theorem stopT_front (n : Nat) : stopT (n + 1) = stop6 ++ 10 :: stopT n := by
  induction n with
  | zero => rfl
  | succ n ih =>
    show stopT (n + 1) ++ (stop6 ++ [10]) = stop6 ++ 10 :: (stopT n ++ (stop6 ++ [10]))
    rw [ih]; simp
theorem stopT_len (n : Nat) : (stopT n).length = 7 * n := by
  induction n with
  | zero => rfl
  | succ n ih => rw [stopT, List.length_append, ih]; simp [stop6]; omega
theorem stopT_byt (n : Nat) : Byt (stopT n) := by
  induction n with
  | zero => intro z hz; simp [stopT] at hz
  | succ n ih => exact ih.app (by intro z hz; simp [stop6] at hz; omega)
theorem stopT_spl (n : Nat) : spl 10 (stopT n) = List.replicate n stop6 ++ [[]] := by
  induction n with
  | zero => rfl
  | succ n ih =>
    rw [stopT_front, splc_some 10 _ _ (by intro z hz; simp [stop6] at hz; omega), ih, List.replicate_succ]
    rfl
theorem stopT_cut (n : Nat) : cutL (spl 10 (stopT n)) = List.replicate n stop6 := by
  rw [stopT_spl]
  unfold cutL
  have hl : (List.replicate n stop6 ++ [[]]).length - 1 = n := by simp
  rw [hl, if_pos (by simp [List.getD]), List.take_left' (by simp)]
theorem parse_stop : parseL stop6 = some ⟨2, 1, [], 0, 0, 0, 0⟩ := by kernel_rfl
theorem stop_scan (n : Nat) : (scanL (List.replicate n stop6)).length = n := by
  induction n with
  | zero => rfl
  | succ n ih => rw [List.replicate_succ]; unfold scanL; rw [parse_stop]; simp [ih]
theorem stopT_cells (n : Nat) : (stopT n).map (Value.int .u8) ++ Lib.strCells (ByteArray.mk #[115, 116, 111, 112, 32, 49, 10]) = (stopT (n + 1)).map (Value.int .u8) := by
  rw [stopT, List.map_append]; rfl
theorem infoByte5 : (Tryd.prog.info? 5).map (fun i => (i.zero, i.size, i.bytes)) = some (some (.int .u8 0), 1, 1) := by kernel_rfl
set_option maxRecDepth 100000 in
set_option maxHeartbeats 8000000 in
theorem slong_any (m : Int) (w : World) (hm : HasM w) : Calls Tryd.prog 6 #[.int .i64 m] w (TrueP w) := by
  obtain ⟨i5, hi5, hz5, hs5, hb5⟩ := info_parts infoByte5
  have AW : Hid (∀ w', Below w.heap.size w w' → Calls Tryd.prog 12 #[] w' (TrueP w')) := fun w' h => awake_any w' (hm.keep0 h)
  unfold TrueP at *
  go_enter Tryd.func6, Tryd.ntmps6
  by_cases h1 : m < -6
  · have g1 : decide (m < -6) = true := decide_eq_true h1
    clear h1
    repeat (first | (go_at_call 12; refine (AW.out _ (by first | assumption | exact (Below.refl _ _) | exact (Below.refl _ _).drew)).mono ?_; rintro e w6 ⟨rfl, hb6⟩; dsimp only) | go_guarded | go_step | go_upon)
    go_ret
    exact ⟨rfl, hb6⟩
  by_cases h2 : 4 < m
  · have g1 : decide (m < -6) = false := decide_eq_false h1
    have g2 : decide (4 < m) = true := decide_eq_true h2
    clear h1 h2
    repeat (first | (go_at_call 12; refine (AW.out _ (by first | assumption | exact (Below.refl _ _) | exact (Below.refl _ _).drew)).mono ?_; rintro e w6 ⟨rfl, hb6⟩; dsimp only) | go_guarded | go_step | go_upon)
    go_ret
    exact ⟨rfl, hb6⟩
  obtain ⟨N, hN⟩ : ∃ N : Nat, (N : Int) = 4096 + m := ⟨(4096 + m).toNat, by omega⟩
  have HN := Lib.hid hN
  have g1 : decide (m < -6) = false := decide_eq_false h1
  have g2 : decide (4 < m) = false := decide_eq_false h2
  have hN1 : 4090 ≤ N := by omega
  have hN2 : N ≤ 4100 := by omega
  have hw : IntKind.i64.wrap (4096 + m) = 4096 + m := IntWalk.i64_in _ (by omega)
  clear hN
  go_upto_region 5 with fail
  go_loopw [3, 4] (fun v3 v4 wr => ∃ j : Nat, j ≤ N ∧ v4 = .int .i64 (j : Int) ∧ wr.ownsRow w.heap.size 5 1 v3 (7 * j) ((stopT j).map (Value.int .u8)) ∧ Below w.heap.size w wr) (fun _ v4 _ => N - natV v4)
  case atStart => exact ⟨0, by omega, rfl, World.ownsRow_nil _ _ _ _, Below.refl _ _⟩
  case round =>
    obtain ⟨j, hj, rfl, hO, hbr⟩ := hrel
    by_cases hjl : j < N
    · have g3 : decide ((j : Int) < 4096 + m) = true := decide_eq_true (by have := HN.out; omega)
      go_wp2_with (at_builtin; refine Lib.wpList_append_own_string _ rfl (.tmp 21) (.const (.string (ByteArray.mk #[115, 116, 111, 112, 32, 49, 10]))) 39 9 rfl w.heap.size 5 i5 Tryd.underlying39 Tryd.underlying9 hi5 hz5 hs5 hb5 _ _ _ rfl hO _ rfl ?_ ?_ ?_ ?_)
      · show 7 * j + 7 ≤ maxLen
        unfold maxLen; omega
      · show 7 * j + 7 ≤ _
        omega
      · exact hbr.size
      intro v' w' hown' hg' _
      have hk' := ((Keeps.refl (fun k => u3.ownBlock = some k) wr).grown hg' (fun k hk => .inr hk))
      have hb6 := hbr.trans (owns_below hO hk' hbr.size)
      rw [stopT_cells] at hown'
      have hown2 : w'.ownsRow w.heap.size 5 1 v' (7 * (j + 1)) ((stopT (j + 1)).map (Value.int .u8)) := hown'
      clear hO hk' hg' hown' hbr g3
      go_wp2_with fail
      refine ⟨⟨j + 1, by omega, by go_num, hown2, hb6⟩, ?_⟩
      simp [natV]; omega
    · obtain rfl : j = N := by omega
      have g3 : decide ((j : Int) < 4096 + m) = false := decide_eq_false (by have := HN.out; omega)
      obtain ⟨ao, cap, rfl, hcap, hR, hln, hun, -⟩ := own_slice hO
      have hI := hR.ints hln (wf_byt (stopT_byt j))
      have hcv := conv_ints (P := Tryd.prog) hI 39 5 9 cap Tryd.underlying39 Tryd.underlying5 Tryd.underlying9
      have hmr := hm.keep0 hbr
      have hS := script_any (stopT j) (stopT_byt j) (fun e => by have := congrArg List.length e; rw [stopT_len] at this; simp at this; omega) (by rw [stopT_len]; omega) wr hmr
      rw [stopT_cut] at hS
      unfold ScrP at hS
      simp only [stop_scan, List.length_replicate] at hS
      clear hO hR hln hun hI
      generalize strOfNums (stopT j) = sx at *
      by_cases hpos : 0 < m
      · have PS : Hid (Calls Tryd.prog 20 #[.string sx] wr (fun e w' => Below wr.heap.size wr w' ∧ e = .returned (.tuple #[.slice none 0 0, .int .i64 0, .int .i64 3]))) := hS.mono fun e w' ⟨q1, q2, _, _⟩ => ⟨q1, q2 (by have := HN.out; omega)⟩
        have g4 : decide (0 < m) = true := decide_eq_true hpos
        clear hS hpos
        repeat (first | (go_at_call 20; refine PS.out.mono ?_; rintro e w3 ⟨hb3, rfl⟩; dsimp only; have hb4 := hbr.trans (hb3.mono hbr.size)) | (go_at_call 12; refine (AW.out _ (by first | assumption | exact (Below.refl _ _) | exact (Below.refl _ _).drew)).mono ?_; rintro e w6 ⟨rfl, hb6⟩; dsimp only) | go_guarded | go_step | go_upon)
        go_ret
        exact ⟨rfl, hb4.trans (hb6.mono hb4.size)⟩
      · have g4 : decide (0 < m) = false := decide_eq_false hpos
        have PS : Hid (Calls Tryd.prog 20 #[.string sx] wr (fun e w' => Below wr.heap.size wr w' ∧ ∃ ao cap, e = .returned (.tuple #[.slice ao j cap, .int .i64 0, .int .i64 0]))) := hS.mono fun e w' ⟨q1, _, _, q4⟩ => ⟨q1, by
          obtain ⟨ao, cap, h1, _⟩ := q4 (by have := HN.out; omega) trivial
          exact ⟨ao, cap, h1⟩⟩
        clear hS hpos
        repeat (first | (go_at_call 20; refine PS.out.mono ?_; rintro e w3 ⟨hb3, ao2, cap2, rfl⟩; dsimp only; have hb4 := hbr.trans (hb3.mono hbr.size)) | (go_at_call 12; refine (AW.out _ (by first | assumption | exact (Below.refl _ _) | exact (Below.refl _ _).drew)).mono ?_; rintro e w6 ⟨rfl, hb6⟩; dsimp only) | go_guarded | go_step | go_upon)
        go_ret
        exact ⟨rfl, hb4.trans (hb6.mono hb4.size)⟩
end Go.Proofs.YtflpblggpbgeiaaDoor

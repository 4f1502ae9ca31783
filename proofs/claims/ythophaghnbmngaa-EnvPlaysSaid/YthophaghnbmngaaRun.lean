/- The walk of env's Run. -/
import Derived.Test.YthophaghnbmngaaRig
namespace Go.Proofs.Ythophaghnbmngaa
open Go.RowKit Go.Calli Go.Envp
set_option linter.unusedVariables false
theorem infoInt : (Try.prog.info? 3).map (fun i => (i.zero, i.size, i.bytes)) = some (some (.int .i64 0), 1, 8) := by kernel_rfl
theorem next_p (b : Nat) (x : Sh) (p : Int × Int) (hx : x.Ok) (hs : St p) (w : World) (h : Sx 41 w b x p) : Calls Try.prog 11 #[.pointer (some ⟨b, 0, none⟩)] w (NxtPost 41 b x p w) := by
  obtain ⟨t, L⟩ := p
  exact next_any b x t L hx hs w h
theorem level_p (b : Nat) (x : Sh) (p : Int × Int) (w : World) (h : Sx 41 w b x p) : Calls Try.prog 14 #[.pointer (some ⟨b, 0, none⟩)] w fun e w' => e = .returned (.int .i64 p.2) ∧ w = w' := by
  obtain ⟨t, L⟩ := p
  exact level_any b x t L w h
theorem vals_wf {x : Sh} (hx : x.Ok) {p : Int × Int} (hs : St p) (n : Nat) : ∀ z ∈ vals x p n, (Lit.int .i64 z).wf = true := by
  intro z hz
  obtain ⟨i, _, rfl⟩ := List.mem_map.1 hz
  have := vl_bd hx (go_st hx hs i)
  exact WalkArith.wf_i64 (by omega)
def RunPost (b : Nat) (x : Sh) (p : Int × Int) (n : Nat) (w : World) (e : Ending) (w' : World) : Prop := ∃ ao c, e = .returned (.slice ao n c) ∧ n ≤ c ∧ Ints .i64 w' ao n (vals x p n) ∧ (∀ a, ao = some a → w.heap.size ≤ a.block) ∧ Sx 41 w' b x (go x p n) ∧ Keeps (fun k => k = b) w w'
def RunRel (b : Nat) (x : Sh) (p : Int × Int) (n : Nat) (w : World) (v5 v8 : Value) (wr : World) : Prop := ∃ k : Nat, k ≤ n ∧ v8 = .int .i64 k ∧ wr.ownsRow w.heap.size 3 1 v5 k ((vals x p k).map (Value.int .i64)) ∧ Sx 41 wr b x (go x p k) ∧ Keeps (fun k => k = b) w wr
set_option maxHeartbeats 1000000 in
theorem run_any (b : Nat) (x : Sh) (p : Int × Int) (n : Nat) (hn : n ≤ 200) (hx : x.Ok) (hs : St p) (w : World) (h : Sx 41 w b x p) : Calls Try.prog 15 #[.pointer (some ⟨b, 0, none⟩), .int .i64 (n : Nat)] w (RunPost b x p n w) := by
  have hbw := lt_of_block h
  have HX := Lib.hid h
  have HO := Lib.hid hx
  have HS := Lib.hid hs
  clear h hx hs
  go_enter Try.func15, Try.ntmps15
  go_wp2_with fail
  go_loopw [5, 8] (fun v5 v8 wr => RunRel b x p n w v5 v8 wr) (fun _ v8 _ => (n - intOf v8).toNat)
  case atStart => exact ⟨0, by omega, rfl, World.ownsRow_nil _ _ _ _, HX.out, Keeps.refl _ _⟩
  case round =>
    clear HX
    obtain ⟨k, hk, rfl, hown, hX, hkp⟩ := hrel
    by_cases hlt : k < n
    · have hst := go_st HO.out HS.out k
      have HNX := Lib.hid (fun w (h : Sx 41 w b x (go x p k)) => next_p b x (go x p k) HO.out hst w h)
      have HV := Lib.hid (vals_snoc x p k)
      have hX0 := hX
      clear hst
      go_wp2_with (first | (go_at_call 11; refine (HNX.out _ hX).mono ?_; rintro e w6 ⟨rfl, hX6, hk6⟩; have hown6 := owns_kept hown hk6 (fun k hk e => by have := (hown.lt k hk).1; have e2 : k = b := e; omega); have hk66 := hkp.trans hk6) | (at_builtin; refine wpList_append_one rfl (.tmp 10) (.tmp 13) 38 3 rfl Try.underlying38 infoInt rfl w.heap.size _ _ _ rfl hown6 (.int .i64 _) rfl rfl ?_ ?_ ?_ ?_))
      case refine_1 => omega
      case refine_2 => unfold maxLen; omega
      case refine_3 => exact hk66.size
      intro v' w' hown' hka
      have hX' : Sx 41 w' b x (go x p (k + 1)) := hka.heap hX6 (fun hS => by have := (hown6.lt _ hS).1; omega)
      have hk' : Keeps (fun k => k = b) w w' := hk66.andThen hka (fun i hi hS => by have := (hown6.lt _ hS).1; omega)
      clear hown hown6 hka hk66 hX6 hX hkp hX0
      go_wp2_with fail
      go_roundw
      case rel => exact ⟨k + 1, by omega, by go_num, by rw [HV.out]; simpa using hown', hX', hk'⟩
      case measure => simp [intOf]; omega
    · obtain rfl : k = n := by omega
      obtain ⟨ao, c, rfl, hc, hrow, hl, hu, hbl⟩ := own_slice hown
      have hi := Lib.hid (hrow.ints hl (vals_wf HO.out HS.out k))
      have HBL := Lib.hid (fun a ha => (hbl a ha).1)
      clear hrow hown hbl
      go_wp2_with fail
      go_ret
      exact ⟨_, _, rfl, hc, hi.out, HBL.out, hX, hkp⟩
theorem run_neg (v : Value) (n : Int) (hn : n < 0) (w : World) : Calls Try.prog 15 #[v, .int .i64 n] w fun e w' => e = .returned (.slice none 0 0) ∧ w = w' := by
  go_enter Try.func15, Try.ntmps15
  go_wp2_with fail
  refine wp_loop_once ?_
  go_wp2_with fail
  go_ret
  exact ⟨rfl, rfl⟩
end Go.Proofs.Ythophaghnbmngaa

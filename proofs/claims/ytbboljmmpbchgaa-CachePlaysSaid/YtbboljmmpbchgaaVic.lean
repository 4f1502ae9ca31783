/- The walk of cache's victim. -/
import Derived.Test.YtbboljmmpbchgaaVms
import Derived.StillTailTactics
namespace Go.Proofs.Ytbboljmmpbchgaa
open Go Go.RowKit Go.Calli Go.Dskp Go.Maps
set_option linter.unusedVariables false
set_option linter.unusedSimpArgs false
attribute [local irreducible] wpStill wpAnyH wpAnyS wpList Code.wp
def CRow (w : World) (cb sb n : Nat) (v0 v1 v2 v3 v4 v7 : Value) (h : Nat) : Prop := w.heap[cb]? = some (.cells #[v0, v1, v2, v3, v4, .slice (some ⟨sb, 0, none⟩) n n, .int .i64 h, v7] 47 (0, 0))
def VicPost (cb sb n : Nat) (v0 v1 v2 v3 v4 v7 : Value) (r : Nat × List Slot × Nat) (w : World) (e : Ending) (w' : World) : Prop := e = .returned (.int .i64 r.1) ∧ CRow w' cb sb n v0 v1 v2 v3 v4 v7 r.2.2 ∧ Slots w' sb n r.2.1 ∧ Keeps (fun k => k = cb ∨ k = sb) w w'
theorem CRow.hand {w : World} {cb sb n : Nat} {v0 v1 v2 v3 v4 v7 : Value} {h : Nat} (hc : CRow w cb sb n v0 v1 v2 v3 v4 v7 h) (h' : Nat) : CRow (w.setCell ⟨cb, 6, none⟩ (.int .i64 h')) cb sb n v0 v1 v2 v3 v4 v7 h' := heap_setCell_same _ _ _ _ _ _ hc
theorem vic_any (cb sb n : Nat) (ss : List Slot) (h : Nat) (v0 v1 v2 v3 v4 v7 : Value) (hn : n ≤ 1024) (hh : h < n) (hne : cb ≠ sb) (w : World) (hc : CRow w cb sb n v0 v1 v2 v3 v4 v7 h) (hS : Slots w sb n ss) : Calls Try.prog 33 #[.pointer (some ⟨cb, 0, none⟩)] w (VicPost cb sb n v0 v1 v2 v3 v4 v7 (vic n (cnt ss) ss h) w) := by
  go_enter Try.func33, Try.ntmps33
  go_wp2_with fail
  go_loopw [3, 4] (fun u3 u4 wr => ∃ ss' h', h' < n ∧ Hid (vic n (cnt ss) ss h = vic n (cnt ss') ss' h') ∧ CRow wr cb sb n v0 v1 v2 v3 v4 v7 h' ∧ Slots wr sb n ss' ∧ Keeps (fun k => k = cb ∨ k = sb) w wr) (fun _ _ wr => mCnt sb n wr)
  case atStart => exact ⟨ss, h, hh, rfl, hc, hS, Keeps.refl _ _⟩
  case round =>
    obtain ⟨s', h', hh', hv, hc', hS', hK⟩ := hrel
    have hl := hS'.1
    obtain ⟨c0, c1, c2, c3, c4, c5, c6, c7⟩ := eight_cells hc'
    have cf := frozen_of_row _ _ 6 _ _ hc'
    obtain ⟨g, hg⟩ : ∃ g : Nat, g = (h' + 1) % n := ⟨_, rfl⟩
    have hgn : g < n := by rw [hg]; exact Nat.mod_lt _ (by omega)
    have hgi : ((h' : Int) + 1).tmod (n : Int) = (g : Int) := by rw [hg]; rfl
    have e1 : IntKind.i64.wrap ((h' : Int) + 1) = (h' : Int) + 1 := IntWalk.i64_in _ (by omega)
    have hn0 : (n : Int) ≠ 0 := by omega
    have hnb : ((n : Int) == 0) = false := by simpa using hn0
    have hnn : ¬ n = 0 := by omega
    have hgw : IntKind.i64.wrap (((h' : Int) + 1).tmod (n : Int)) = (g : Int) := by rw [hgi, IntWalk.i64_in]; omega
    have hne1 : ¬ (n : Int) = -1 := by omega
    go_upto_region 2 with fail
    go_still_tail 14, (by kernel_rfl)
    repeat still_step
    try refine wpStill_nil ?_
    change wpList _ _ _ _ _ wr.drew
    have hgm : ((h' : Int) + 1) % (n : Int) = (g : Int) := by rw [hg]; rfl
    have HGG := Lib.hid hg
    clear hg hgi hgw
    go_upto_region 3 with fail
    have hc1 : CRow (wr.setCell ⟨cb, 6, none⟩ (.int .i64 g)).drew cb sb n v0 v1 v2 v3 v4 v7 g := hc'.hand g
    have hk1 : Keeps (fun k => k = cb) wr (wr.setCell ⟨cb, 6, none⟩ (.int .i64 g)).drew := ((Keeps.refl (fun k => k = cb) wr).setCell (p := ⟨cb, 6, none⟩) (.inr rfl) _).drew
    have hS1 := hS'.kept hk1 (fun e => hne e.symm)
    have hK1 : Keeps (fun k => k = cb ∨ k = sb) w (wr.setCell ⟨cb, 6, none⟩ (.int .i64 g)).drew := hK.trans (hk1.mono fun k _ h => .inl h)
    have HM := Lib.hid (mCnt_eq hS')
    clear hk1 hK hS' hc' c0 c1 c2 c3 c4 c5 c6 c7 cf
    generalize (wr.setCell ⟨cb, 6, none⟩ (.int .i64 g)).drew = W1 at *
    obtain ⟨c0, c1, c2, c3, c4, c5, c6, c7⟩ := eight_cells hc1
    obtain ⟨s0, s1, s2, s3⟩ := hS1.at_ h' hh'
    have sf := frozen_of_row _ _ (h' * 4 + 1) _ _ hS1.2
    have HST := Lib.hid (fun hu => (hv.out.trans (vic_step n s' h' (by omega) hu)))
    have HEN := Lib.hid (fun hu => (hv.out.trans (vic_end n (cnt s') s' h' hu)))
    have HSU := Lib.hid (hS1.setu h' hh' false)
    have HCT := Lib.hid (cnt_set s' h' (by omega))
    have hcu : ∀ x, CRow (W1.setCell ⟨sb, h' * 4 + 1, none⟩ x) cb sb n v0 v1 v2 v3 v4 v7 g := fun x => (heap_setCell_other _ _ _ _ hne).trans hc1
    have HCU := Lib.hid hcu
    have hu0 : (s'.getD h' Slot.none).used = ((s'.getD h' Slot.none).f && (s'.getD h' Slot.none).u) := rfl
    have hdr : (s'.getD h' Slot.none).drop = { s'.getD h' Slot.none with u := false } := rfl
    rw [hu0] at HST HEN HCT
    rw [hdr] at HST HCT
    clear hcu hu0 hdr hv
    cases hf : (s'.getD h' Slot.none).f with
    | false =>
      rw [hf] at s2 HEN
      have HE := Lib.hid (HEN.out rfl)
      clear HEN HST HSU HCT hf
      go_wp2_with fail
      go_ret
      exact ⟨by rw [HE.out] <;> rfl, by rw [HE.out]; rw [← HGG.out]; exact hc1, by rw [HE.out]; exact hS1, hK1⟩
    | true =>
      rw [hf] at s2 HEN HST HCT
      cases hu : (s'.getD h' Slot.none).u with
      | false =>
        rw [hu] at s1 HEN
        have HE := Lib.hid (HEN.out rfl)
        clear HEN HST HSU HCT hf hu
        go_wp2_with fail
        go_ret
        exact ⟨by rw [HE.out] <;> rfl, by rw [HE.out]; rw [← HGG.out]; exact hc1, by rw [HE.out]; exact hS1, hK1⟩
      | true =>
        rw [hu] at s1 HST HCT
        have HE := Lib.hid (HST.out rfl)
        have HC2 := Lib.hid (HCT.out rfl)
        clear HEN HST HCT hf hu
        go_wp2_with fail
        go_roundw
        case rel => exact ⟨_, g, hgn, by rw [← HGG.out] at HE; exact HE, HCU.out _, HSU.out, hK1.setCell (.inr (.inr rfl)) _⟩
        case measure => rw [mCnt_eq HSU.out, HM.out]; have := HC2.out; omega
end Go.Proofs.Ytbboljmmpbchgaa

/- The walks of awake, and of the statements RiffChunks and RiffSplits. -/
import Derived.Test.YtpbeehfafbgphaaSpl
import Derived.Test.YtpbeehfafbgphaaCle
namespace Go.Proofs.Ytpbeehfafbgphaa
open Go Go.RowKit Go.Calli
set_option linter.unusedVariables false
set_option linter.unusedSimpArgs false
attribute [local irreducible] wpStill wpAnyH wpAnyS wpList Code.wp
def TruePost (w : World) (e : Ending) (w' : World) : Prop := e = .returned (.bool true) ∧ Below w.heap.size w w'
theorem awake_any (w : World) : Calls Try.prog 11 #[] w (TruePost w) := by
  have hb1 := below_alloc w (.cells #[.int .u8 5] 5)
  have hi : Ints .u8 (w.alloc (.cells #[.int .u8 5] 5)) (some ⟨w.heap.size, 0, none⟩) 1 [5] := Ints.new .u8 w [5] 5 (0, 0) _ rfl 1 rfl (by unfold maxLen; omega) (wf_of fun z hz => by simp at hz; omega)
  have hb2 := balloc hb1 (.cells #[.string (ByteArray.mk #[97, 98]), .slice (some ⟨w.heap.size, 0, none⟩) 1 1] 27)
  have hi2 := hi.keep0 (below_alloc (w.alloc (.cells #[.int .u8 5] 5)) (.cells #[.string (ByteArray.mk #[97, 98]), .slice (some ⟨w.heap.size, 0, none⟩) 1 1] 27))
  have hc : Chs ((w.alloc (.cells #[.int .u8 5] 5)).alloc (.cells #[.string (ByteArray.mk #[97, 98]), .slice (some ⟨w.heap.size, 0, none⟩) 1 1] 27)) (some ⟨w.heap.size + 1, 0, none⟩) 1 [⟨[97, 98], [5]⟩] := by
    have h0 := heap_alloc_new (w.alloc (.cells #[.int .u8 5] 5)) (.cells #[.string (ByteArray.mk #[97, 98]), .slice (some ⟨w.heap.size, 0, none⟩) 1 1] 27)
    rw [World.size_alloc] at h0
    obtain ⟨c0, c1⟩ := two_cells h0
    refine ⟨rfl, by unfold maxLen; omega, fun i hi0 => ?_⟩
    obtain rfl : i = 0 := by omega
    exact ⟨_, ⟨[97, 98], some ⟨w.heap.size, 0, none⟩, 1, 1⟩, rfl, c0, c1, ⟨rfl, fun z hz => by simp at hz; omega, by simp, hi2⟩⟩
  have hJ := Lib.hid (join_any _ 1 1 _ (by omega) (fun c hc => by simp at hc; subst hc; simp) _ hc)
  have hjl : joinL [⟨[97, 98], [5]⟩] = [97, 98, 32, 32, 1, 0, 0, 0, 5, 0] := by decide
  rw [hjl] at hJ
  have htl : ((strOfNums [97, 98, 32, 32, 1, 0, 0, 0, 5, 0]).toList == [97, 98, 32, 32, 1, 0, 0, 0, 5, 0]) = true := by kernel_rfl
  clear hi hi2 hc hb1 hjl
  go_enter Try.func11, Try.ntmps11
  go_wp2_with (go_at_call 9; refine hJ.out.mono ?_; rintro e w1 ⟨ro, rn, rc, rfl, hrc, _, hI, hb3⟩; have hcv := conv_ints (P := Try.prog) hI 25 5 9 rc rfl rfl rfl)
  go_ret
  exact ⟨rfl, bstep hb2 hb3⟩
theorem small_few (l : List Ch) : Small (fewL l) := by
  intro c hc
  obtain ⟨d, _, rfl⟩ := List.mem_map.1 hc
  constructor <;> simp [fewC] <;> omega
theorem join_len10 (l : List Ch) (h : l.length ≤ 10) (hs : Small l) : (joinL l).length ≤ 1000090 := Nat.le_trans (join_len hs) (by omega)
def ChkRel (l : List Ch) (n : Nat) (w : World) (v3 v4 : Value) (wr : World) : Prop := ∃ k : Nat, k ≤ n ∧ v4 = .int .i64 k ∧ v3 = .string (strOfNums (joinL (l.take k))) ∧ Below w.heap.size w wr
set_option maxRecDepth 100000 in
set_option maxHeartbeats 4000000 in
theorem chunks_any (ao : Option Addr) (n cap : Nat) (l0 : List Ch) (w : World) (h0 : Chs w ao n l0) : Calls Try.prog 3 #[.slice ao n cap] w (TruePost w) := by
  go_enter Try.func3, Try.ntmps3
  go_upto_region 2 with (go_at_call 7; refine (few_any ao n cap l0 w h0).mono ?_; rintro e w1 ⟨ro, rn, rc, rfl, hrc, hr10, hC, hb1⟩)
  have hsm := small_few l0
  generalize fewL l0 = l at hC hsm
  clear h0
  go_wp2_with fail
  go_loopw [3, 4] (fun v3 v4 wr => ChkRel l rn w1 v3 v4 wr) (fun _ v4 _ => (rn - (intOf v4).toNat))
  case atStart => exact ⟨0, by omega, rfl, rfl, Below.refl _ _⟩
  case round =>
    obtain ⟨k, hk, rfl, rfl, hb⟩ := hrel
    by_cases hlt : k < rn
    · obtain ⟨a, m, rfl, q0, q1, hm⟩ := (hC.keep0 hb).cell k hlt
      have e1 : ((a.add (k * 2)).add 1) = ⟨(a.add (k * 2)).block, (a.add (k * 2)).off + 1, none⟩ := rfl
      rw [e1] at q1
      have hsl := hsm _ (getD_mem (l := l) (k := k) (by rw [hC.hlen]; exact hlt))
      have hsn := take_snocC l k (by rw [hC.hlen]; exact hlt)
      have hjt := join_len10 (l.take k) (by rw [List.length_take, hC.hlen]; omega) (hsm.take k)
      have hj1 : Hid (strOfNums (joinL (l.take k)) ++ strOfNums (encC (l.getD k c0)) = strOfNums (joinL (l.take (k + 1)))) := by unfold Hid; rw [strOfNums_append, hsn, joinL_snoc]
      generalize l.getD k c0 = c at *
      obtain ⟨hnm, hby, hle, hdt⟩ := hm
      rw [hnm] at q0
      have hcvd := conv_ints (P := Try.prog) (hdt.keep0 (Below.refl _ _).drew) 25 5 9 m.cap rfl rfl rfl
      have hq0d : wr.drew.cell? (a.add (k * 2)) = some (.string (strOfNums c.nm)) := q0
      have hq1d : wr.drew.cell? ⟨(a.add (k * 2)).block, (a.add (k * 2)).off + 1, none⟩ = some (.slice m.ao m.n m.cap) := q1
      have HQ0 := Lib.hid hq0d
      have HQ1 := Lib.hid hq1d
      have HDT := Lib.hid (hdt.keep0 (Below.refl _ _).drew)
      have hz1 : (strOfNums (joinL (l.take k))).size = (joinL (l.take k)).length := strOfNums_size _
      have hz2 : (strOfNums (encC c)).size = (encC c).length := strOfNums_size _
      have hz3 := encC_len c
      have hz4 := padL_len c.dt.length
      have hzz : (encC c).length ≤ 100009 := by rw [hz3, hz4]; have := hsl.2; omega
      have hk0 : (0 : Int) ≤ (k : Int) := by omega
      have hk1 : (k : Int) < (rn : Int) := by omega
      have hdl : c.dt.length ≤ 4294967295 := by have := hsl.2; omega
      have HCH := Lib.hid (fun w => chunk_any c.nm c.dt hdl w)
      have hbig : ¬ 9223372036854775807 < (joinL (l.take k)).length + (encC c).length := by omega
      clear hz3 hz4 hsl hsn hdt hdl
      go_upto_region 6 with fail
      have hbd : Below wr.heap.size wr wr.drew := (Below.refl _ _).drew
      go_region_held3 (fun w' => w'.cell? (a.add (k * 2)) = some (.string (strOfNums c.nm)) ∧ w'.cell? ⟨(a.add (k * 2)).block, (a.add (k * 2)).off + 1, none⟩ = some (.slice m.ao m.n m.cap) ∧ (convert 25 9 (.slice m.ao m.n m.cap)).run Try.prog w' = .ok (.string (strOfNums c.dt)) w') (go_keep) (first | (go_at_call 8; refine (HCH.out _).mono ?_; rintro e w2 ⟨rfl, hb2⟩; have g0 := (hb2.cell (World.block_lt_of_cell? _ _ HQ0.out)).trans HQ0.out; have g1 := (hb2.cell (World.block_lt_of_cell? _ _ HQ1.out)).trans HQ1.out; have hcv2 := conv_ints (P := Try.prog) (HDT.out.keep0 hb2) 25 5 9 m.cap rfl rfl rfl))
      go_wp2_with fail
      rw [hj1.out]
      refine ⟨⟨k + 1, by omega, by go_num, rfl, bstep hb (hbd.trans hb2)⟩, ?_⟩
      simp [intOf]; omega
    · obtain rfl : k = rn := by omega
      rw [List.take_of_length_le (by rw [hC.hlen]; omega)]
      have hCk := hC.keep0 hb
      have hbw := bstep hb1 hb
      have hjl := join_len10 l (by rw [hC.hlen]; omega) hsm
      have hsl : ∀ c ∈ l, (c.dt.length : Int) < 4294967296 := fun c hc => by have := (hsm c hc).2; omega
      have HSJ := Lib.hid (split_join l (joinL l).length (Nat.le_refl _) hsl)
      have HJA := Lib.hid (join_any ro k rc l (by omega) hsm wr hCk)
      have hl := hCk.hlen
      clear hC hb hb1 hsl
      go_upto_region 8 with (go_at_call 9; refine HJA.out.mono ?_; rintro e w2 ⟨bo, bn, bc, rfl, hbc, hbm, hI, hb2⟩)
      have hC2 := hCk.keep0 hb2
      have hbl := hI.hlen
      have HSP := Lib.hid (split_any bo bn bc (joinL l) hbc hbm (by omega) w2 hI)
      rw [← hbl] at HSP
      rw [HSJ.out] at HSP
      rw [hbl] at HSP
      go_upto_region 9 with (go_at_call 10; refine HSP.out.mono ?_; rintro e w3 ⟨xo, xn, xc, rfl, hxc, _, hX, hb3⟩)
      have hX2 : Chs w3 xo xn (l.map fun c => ⟨name4 c.nm, c.dt⟩) := hX trivial
      have hxl := hX2.hlen
      rw [List.length_map] at hxl
      obtain rfl : xn = k := by omega
      have hcv := conv_ints (P := Try.prog) (hI.keep0 hb3) 25 5 9 bc rfl rfl rfl
      have hC3 := hC2.keep0 hb3
      have hbw3 := bstep (bstep hbw hb2) hb3
      clear hC2 hCk hX hb3 hb2 hbw hI HSP HJA HSJ
      go_wp2_with fail
      go_loopw [8, 9] (fun v8 v9 wr => ∃ q : Nat, q ≤ xn ∧ v8 = .int .i64 q ∧ Below w3.heap.size w3 wr) (fun v8 _ _ => (xn - (intOf v8).toNat))
      case atStart => exact ⟨0, by omega, rfl, Below.refl _ _⟩
      case round =>
        obtain ⟨q, hq, rfl, hbq⟩ := hrel
        by_cases hql : q < xn
        · obtain ⟨xa, xm, rfl, g0, g1, hgm⟩ := (hX2.keep0 hbq).cell q hql
          obtain ⟨la, lm, rfl, e0, e1, hem⟩ := (hC3.keep0 hbq).cell q hql
          have f1 : ((xa.add (q * 2)).add 1) = ⟨(xa.add (q * 2)).block, (xa.add (q * 2)).off + 1, none⟩ := rfl
          have f2 : ((la.add (q * 2)).add 1) = ⟨(la.add (q * 2)).block, (la.add (q * 2)).off + 1, none⟩ := rfl
          rw [f1] at g1
          rw [f2] at e1
          have hmap : (l.map fun c => (⟨name4 c.nm, c.dt⟩ : Ch)).getD q c0 = ⟨name4 (l.getD q c0).nm, (l.getD q c0).dt⟩ := by
            simp [List.getD, show q < l.length by omega]
          rw [hmap] at hgm
          have hsl := hsm _ (getD_mem (l := l) (k := q) (by omega))
          generalize l.getD q c0 = c at *
          obtain ⟨gn, _, _, gd⟩ := hgm
          obtain ⟨en, _, _, ed⟩ := hem
          simp only at gn gd
          rw [gn] at g0
          rw [en] at e0
          have hcg := conv_ints (P := Try.prog) gd 25 5 9 xm.cap rfl rfl rfl
          have hce := conv_ints (P := Try.prog) ed 25 5 9 lm.cap rfl rfl rfl
          have HGD := Lib.hid gd
          have HED := Lib.hid ed
          have hsz : (strOfNums c.nm).size = c.nm.length := strOfNums_size _
          have hsz4 : (ByteArray.mk #[32, 32, 32, 32]).size = 4 := rfl
          have hml : c.nm.length ≤ 1000 := hsl.1
          have hadd : strOfNums c.nm ++ ByteArray.mk #[32, 32, 32, 32] = strOfNums (c.nm ++ [32, 32, 32, 32]) := by rw [← strOfNums_append]; rfl
          have hext : (strOfNums (c.nm ++ [32, 32, 32, 32])).extract 0 4 = strOfNums (name4 c.nm) := by rw [strOfNums_extract, List.drop_zero]; rfl
          have hz5 : (strOfNums (c.nm ++ [32, 32, 32, 32])).size = c.nm.length + 4 := by rw [strOfNums_size]; simp
          have hq0 : (0 : Int) ≤ (q : Int) := by omega
          have hq1 : (q : Int) < (xn : Int) := by omega
          clear f1 f2 gn en gd ed hsl hmap
          go_upto_region 15 with fail
          have hcgd : (convert 25 9 (.slice xm.ao xm.n xm.cap)).run Try.prog wr.drew = .ok (.string (strOfNums c.dt)) wr.drew := conv_ints (P := Try.prog) (HGD.out.keep0 (Below.refl _ _).drew) 25 5 9 xm.cap rfl rfl rfl
          have hced : (convert 25 9 (.slice lm.ao lm.n lm.cap)).run Try.prog wr.drew = .ok (.string (strOfNums c.dt)) wr.drew := conv_ints (P := Try.prog) (HED.out.keep0 (Below.refl _ _).drew) 25 5 9 lm.cap rfl rfl rfl
          go_region_held3 (fun w' => w'.cell? (xa.add (q * 2)) = some (.string (strOfNums (name4 c.nm))) ∧ w'.cell? ⟨(xa.add (q * 2)).block, (xa.add (q * 2)).off + 1, none⟩ = some (.slice xm.ao xm.n xm.cap) ∧ w'.cell? ⟨(la.add (q * 2)).block, (la.add (q * 2)).off + 1, none⟩ = some (.slice lm.ao lm.n lm.cap) ∧ (convert 25 9 (.slice xm.ao xm.n xm.cap)).run Try.prog w' = .ok (.string (strOfNums c.dt)) w' ∧ (convert 25 9 (.slice lm.ao lm.n lm.cap)).run Try.prog w' = .ok (.string (strOfNums c.dt)) w') (go_keep) (fail)
          go_wp2_with fail
          refine ⟨⟨q + 1, by omega, by go_num, hbq.drew⟩, ?_⟩
          simp [intOf]; omega
        · go_wp2_with (go_at_call 11; refine (awake_any _).mono ?_; rintro e w9 ⟨rfl, hb9⟩)
          go_ret
          exact ⟨rfl, bstep (bstep hbw3 hbq) hb9⟩
end Go.Proofs.Ytpbeehfafbgphaa

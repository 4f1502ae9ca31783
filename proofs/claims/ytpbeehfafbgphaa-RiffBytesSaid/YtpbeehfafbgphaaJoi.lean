/- The walk of riff.Join. -/
import Derived.Test.YtpbeehfafbgphaaChm
namespace Go.Proofs.Ytpbeehfafbgphaa
open Go Go.RowKit Go.Calli
set_option linter.unusedVariables false
set_option linter.unusedSimpArgs false
attribute [local irreducible] wpStill wpAnyH wpAnyS wpList Code.wp
def Small (l : List Ch) : Prop := ∀ c ∈ l, c.nm.length ≤ 1000 ∧ c.dt.length ≤ 100000
theorem join_len {l : List Ch} (h : Small l) : (joinL l).length ≤ l.length * 100009 := by
  induction l with
  | nil => simp [joinL]
  | cons c l ih =>
    have h1 := h c (by simp)
    have h2 := ih fun c hc => h c (by simp [hc])
    have h3 := encC_len c
    have h4 := padL_len c.dt.length
    show (encC c ++ joinL l).length ≤ _
    rw [List.length_append, List.length_cons]; omega
theorem Small.take {l : List Ch} (h : Small l) (k : Nat) : Small (l.take k) := fun c hc => h c (List.mem_of_mem_take hc)
theorem getD_mem {l : List Ch} {k : Nat} (h : k < l.length) : l.getD k c0 ∈ l := by
  rw [show l.getD k c0 = l[k] by simp [List.getD, h]]; exact List.getElem_mem _
theorem take_snocC (l : List Ch) (k : Nat) (hk : k < l.length) : l.take (k + 1) = l.take k ++ [l.getD k c0] := by
  rw [List.take_succ_eq_append_getElem hk]; simp [List.getD, hk]
def JoinRel (l : List Ch) (n : Nat) (w : World) (v3 v9 : Value) (wr : World) : Prop := ∃ (k N : Nat), k ≤ n ∧ v9 = .int .i64 k ∧ Hid (N = (joinL (l.take k)).length) ∧ N ≤ k * 100009 ∧ wr.ownsRow w.heap.size 5 1 v3 N ((joinL (l.take k)).map (Value.int .u8)) ∧ Below w.heap.size w wr
theorem name4_byt {nm : List Int} (h : Byt nm) : Byt (name4 nm) := fun z hz => by
  have := List.mem_of_mem_take hz
  rcases List.mem_append.1 this with h1 | h1
  · exact h z h1
  · simp at h1; omega
theorem joinL_byt {l : List Ch} (h : ∀ c ∈ l, Byt c.nm ∧ Byt c.dt) : Byt (joinL l) := by
  intro z hz
  obtain ⟨c, hc, hz⟩ := List.mem_flatMap.1 hz
  obtain ⟨h1, h2⟩ := h c hc
  unfold encC at hz
  simp only [List.mem_append] at hz
  rcases hz with hz | hz | hz | hz
  · have := List.mem_of_mem_take hz
    rcases List.mem_append.1 this with h | h
    · exact h1 z h
    · simp at h; omega
  · exact lowL_byt _ _ z hz
  · exact h2 z hz
  · unfold padL at hz; split at hz
    · simp at hz; omega
    · simp at hz
set_option maxRecDepth 100000 in
set_option maxHeartbeats 4000000 in
theorem join_any (ao : Option Addr) (n cap : Nat) (l : List Ch) (hn : n ≤ 100) (hs : Small l) (w : World) (h : Chs w ao n l) : Calls Try.prog 9 #[.slice ao n cap] w fun e w' => ∃ ro rn rc, e = .returned (.slice ro rn rc) ∧ rn ≤ rc ∧ rc ≤ maxLen ∧ Ints .u8 w' ro rn (joinL l) ∧ Below w.heap.size w w' := by
  go_enter Try.func9, Try.ntmps9
  go_wp2_with fail
  go_loopw [3, 9] (fun v3 v9 wr => JoinRel l n w v3 v9 wr) (fun _ v9 _ => (n - (intOf v9).toNat))
  case atStart => exact ⟨0, 0, by omega, rfl, rfl, by omega, World.ownsRow_nil _ _ _ _, Below.refl _ _⟩
  case round =>
    obtain ⟨k, N, hk, rfl, hN, hNk, hown, hb⟩ := hrel
    by_cases hlt : k < n
    · obtain ⟨a, m, rfl, q0, q1, hm⟩ := h.cell k hlt
      have e1 : ((a.add (k * 2)).add 1) = ⟨(a.add (k * 2)).block, (a.add (k * 2)).off + 1, none⟩ := rfl
      rw [← hb.cell (World.block_lt_of_cell? w _ q0)] at q0
      rw [← hb.cell (World.block_lt_of_cell? w _ q1), e1] at q1
      have HU : Hid (m.n ≠ 0 → ∀ a, m.ao = some a → a.block < w.heap.size) := fun h0 a ha => hm.dt.under (Nat.pos_of_ne_zero h0) a ha
      replace hm := hm.keep0 hb
      have hsm := hs _ (getD_mem (l := l) (k := k) (by rw [h.hlen]; exact hlt))
      have hsn := take_snocC l k (by rw [h.hlen]; exact hlt)
      generalize l.getD k c0 = c at *
      obtain ⟨hnm, hbyt, hle, hdt⟩ := hm
      have hsz : (strOfNums m.s).size = m.s.length := strOfNums_size _
      have hsz4 : (ByteArray.mk #[32, 32, 32, 32]).size = 4 := rfl
      have hml : m.s.length ≤ 1000 := by rw [hnm]; exact hsm.1
      have hdl : c.dt.length = m.n := hdt.hlen
      have hd5 : m.n ≤ 100000 := by rw [← hdl]; exact hsm.2
      have hadd : strOfNums m.s ++ ByteArray.mk #[32, 32, 32, 32] = strOfNums (m.s ++ [32, 32, 32, 32]) := by rw [← strOfNums_append]; rfl
      have hext : (strOfNums (m.s ++ [32, 32, 32, 32])).extract 0 4 = strOfNums (name4 c.nm) := by rw [strOfNums_extract, List.drop_zero, hnm]; rfl
      have hz5 : (strOfNums (m.s ++ [32, 32, 32, 32])).size = m.s.length + 4 := by rw [strOfNums_size]; simp
      have HJ : Hid (joinL (l.take (k + 1)) = joinL (l.take k) ++ name4 c.nm ++ lowL 4 (m.n : Int) ++ c.dt ++ padL m.n) := by
        unfold Hid; rw [hsn, joinL_snoc]; unfold encC; rw [hdl]; simp
      have hown1 := own_below0 hown (below_alloc wr (.cells #[.string (strOfNums m.s), .slice m.ao m.n m.cap] 27))
      have hb1 := balloc hb (.cells #[.string (strOfNums m.s), .slice m.ao m.n m.cap] 27)
      have hdt1 := hdt.keep0 (below_alloc wr (.cells #[.string (strOfNums m.s), .slice m.ao m.n m.cap] 27))
      have hc0 : (wr.alloc (.cells #[.string (strOfNums m.s), .slice m.ao m.n m.cap] 27)).heap[wr.heap.size]? = some (.cells #[.string (strOfNums m.s), .slice m.ao m.n m.cap] 27 (0, 0)) := heap_alloc_new _ _
      have HNM := Lib.hid hnm
      have HDL := Lib.hid hdl
      clear hsn hown hb hdt hnm hsm hdl e1
      go_upto_region 6 with fail
      generalize wr.alloc (.cells #[.string (strOfNums m.s), .slice m.ao m.n m.cap] 27) = W at *
      obtain ⟨r0, r1⟩ := two_cells hc0
      clear q0 q1 hadd hext hsz hsz4
      go_wp2_with (at_builtin; refine wpList_append_str rfl (.tmp 17) (.tmp 18) 25 9 rfl w.heap.size 5 Try.underlying25 Try.underlying9 infoByte _ _ _ rfl hown1 (name4 c.nm) (name4_byt hbyt) rfl ?_ ?_ ?_)
      case refine_1 => rw [name4_len]; omega
      case refine_2 => exact hb1.size
      intro v1 w1 hown2 hk2
      rw [name4_len] at hown2
      have hdt2 := ints_far hdt1 HU.out hown1 hk2
      have hc2 := blk_far hown1 hk2 hc0 (by decide)
      have hb2 := hb1.trans (owns_below hown1 hk2 hb1.size)
      clear hk2 hown1 hdt1 hc0 hb1 r0 r1
      obtain ⟨r0, r1⟩ := two_cells hc2
      have hlow := Lib.hid (low_any m.n 4 (by omega) (by omega) (by omega) w1)
      go_wp2_with (first | (go_at_call 19; refine hlow.out.mono ?_; rintro e w2 ⟨b, rfl, hblk, hb3, hbb⟩; have hown3 := own_below0 hown2 hb3; have hb4 := bstep hb2 hb3; have hdt3 := hdt2.keep0 hb3; have hc3 := (hb3.block _ (lt_of_block hc2)).trans hc2; have hli := hblk.ints 4 (lowL_len 4 _) (by unfold maxLen; omega) (wf_of (lowL_byt 4 _))) | (at_builtin; refine wpList_append_row rfl (.tmp 20) (.tmp 25) 25 5 rfl Try.underlying25 infoByte rfl w.heap.size _ _ _ rfl hown3 (some ⟨b, 0, none⟩) 4 4 ((lowL 4 (m.n : Int)).map (Value.int .u8)) rfl hli.row (one_ints _ _) hli.nil_len ?_ ?_ ?_ ?_))
      case refine_1 => omega
      case refine_2 => unfold maxLen; omega
      case refine_3 => exact hb4.size
      intro v2 w3 hown4 hk4
      have hdt4 := ints_far hdt3 HU.out hown3 hk4
      have hc4 := blk_far hown3 hk4 hc3 (by decide)
      have hb5 := hb4.trans (owns_below hown3 hk4 hb4.size)
      clear hk4 hown3 hdt3 hc3 hb4 r0 r1 hli hblk hb3 hdt2 hc2 hb2 hown2 hlow
      obtain ⟨r0, r1⟩ := two_cells hc4
      go_upto_region 9 with (at_builtin; refine wpList_append_row rfl (.tmp 27) (.tmp 29) 25 5 rfl Try.underlying25 infoByte rfl w.heap.size _ _ _ rfl hown4 m.ao m.n m.cap (c.dt.map (Value.int .u8)) rfl hdt4.row (one_ints _ _) hdt4.nil_len ?_ ?_ ?_ ?_)
      case refine_1 => omega
      case refine_2 => unfold maxLen; omega
      case refine_3 => exact hb5.size
      intro v3 w4 hown5 hk5
      have hc5 := blk_far hown4 hk5 hc4 (by decide)
      have hb6 := hb5.trans (owns_below hown4 hk5 hb5.size)
      clear hk5 hown4 hdt4 hc4 hb5 r0 r1
      obtain ⟨r0, r1⟩ := two_cells hc5
      by_cases hodd : m.n % 2 = 1
      · have HFI : Hid ((joinL (l.take (k + 1))).map (Value.int .u8) = (joinL (l.take k)).map (Value.int .u8) ++ ((name4 c.nm).map (Value.int .u8) ++ ((lowL 4 (m.n : Int)).map (Value.int .u8) ++ (c.dt.map (Value.int .u8) ++ [Value.int .u8 0])))) := by
          unfold Hid
          rw [HJ.out]
          unfold padL
          rw [if_pos hodd]
          simp only [List.map_append, List.map_cons, List.map_nil, List.append_assoc]
        have HLN : Hid (N + 4 + 4 + m.n + 1 = (joinL (l.take (k + 1))).length) := by
          have := hN.out
          have := HDL.out
          unfold Hid
          rw [HJ.out]
          unfold padL
          rw [if_pos hodd]
          simp only [List.length_append, name4_len, lowL_len, List.length_cons, List.length_nil]; omega
        go_wp2_with (at_builtin; refine wpList_append_one rfl (.tmp 36) (.tmp 37) 25 5 rfl Try.underlying25 infoByte rfl w.heap.size _ _ _ rfl hown5 (.int .u8 0) rfl rfl ?_ ?_ ?_ ?_)
        case refine_1 => omega
        case refine_2 => unfold maxLen; omega
        case refine_3 => exact hb6.size
        intro v4 w5 hown6 hk6
        have hb7 := hb6.trans (owns_below hown5 hk6 hb6.size)
        rw [← HFI.out] at hown6
        clear hk6 hown5 hc5 hb6 r0 r1
        go_wp2_with fail
        refine ⟨⟨k + 1, _, by omega, by go_num, HLN.out, by omega, hown6, hb7⟩, ?_⟩
        simp [intOf]; omega
      · have HFI : Hid ((joinL (l.take (k + 1))).map (Value.int .u8) = (joinL (l.take k)).map (Value.int .u8) ++ ((name4 c.nm).map (Value.int .u8) ++ ((lowL 4 (m.n : Int)).map (Value.int .u8) ++ c.dt.map (Value.int .u8)))) := by
          unfold Hid
          rw [HJ.out]
          unfold padL
          rw [if_neg hodd]
          simp only [List.map_append, List.map_nil, List.append_nil, List.append_assoc]
        have HLN : Hid (N + 4 + 4 + m.n = (joinL (l.take (k + 1))).length) := by
          have := hN.out
          have := HDL.out
          unfold Hid
          rw [HJ.out]
          unfold padL
          rw [if_neg hodd]
          simp only [List.length_append, name4_len, lowL_len, List.length_nil]; omega
        rw [← HFI.out] at hown5
        go_wp2_with fail
        refine ⟨⟨k + 1, _, by omega, by go_num, HLN.out, by omega, hown5, hb6⟩, ?_⟩
        simp [intOf]; omega
    · obtain rfl : k = n := by omega
      obtain ⟨ro, rc, rfl, hrc, hrow, hrl, _, _⟩ := own_slice hown
      have hcap := own_cap hown
      rw [List.take_of_length_le (by rw [h.hlen]; exact Nat.le_refl _)] at hrow hN
      have hby : ∀ c ∈ l, Byt c.nm ∧ Byt c.dt := fun c hc => by
        obtain ⟨i, hi, rfl⟩ := List.getElem_of_mem hc
        obtain ⟨_, m, _, _, _, hm⟩ := h.cell i (by rw [← h.hlen]; exact hi)
        rw [show l.getD i c0 = l[i] by simp [List.getD, hi]] at hm
        exact ⟨hm.byt, byt_of hm.dt.wf⟩
      have hints := Lib.hid (hrow.ints hrl (wf_of (joinL_byt hby)))
      clear hrow hown hby
      go_wp2_with fail
      go_ret
      exact ⟨ro, N, rc, rfl, hrc, hcap, hints.out, hb⟩
end Go.Proofs.Ytpbeehfafbgphaa

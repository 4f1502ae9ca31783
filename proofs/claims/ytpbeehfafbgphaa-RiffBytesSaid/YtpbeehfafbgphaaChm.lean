/- Chunks in memory, and the walk of few. -/
import Derived.Test.YtpbeehfafbgphaaRif
import Derived.Test.YtpbeehfafbgphaaRec
namespace Go.Proofs.Ytpbeehfafbgphaa
open Go Go.RowKit Go.Calli
set_option linter.unusedVariables false
set_option linter.unusedSimpArgs false
attribute [local irreducible] wpStill wpAnyH wpAnyS wpList Code.wp
/-- A chunk's two values. -/
structure ChM where
  s : List Int
  ao : Option Addr
  n : Nat
  cap : Nat
def m0 : ChM := ⟨[], none, 0, 0⟩
def valsC (m : ChM) : List Value := [.string (strOfNums m.s), .slice m.ao m.n m.cap]
theorem valsC_len (m : ChM) : (valsC m).length = 2 := rfl
theorem valsC_one (m : ChM) : ∀ u ∈ valsC m, u.oneCell' = true := by
  intro u hu
  simp only [valsC, List.mem_cons, List.not_mem_nil, or_false] at hu
  rcases hu with rfl | rfl <;> rfl
/-- What it reads as. -/
structure ChM.Is (w : World) (m : ChM) (c : Ch) : Prop where
  nm : m.s = c.nm
  byt : Byt c.nm
  le : m.n ≤ m.cap
  dt : Ints .u8 w m.ao m.n c.dt
theorem ChM.Is.keep0 {w w' : World} {m : ChM} {c : Ch} (h : m.Is w c) (hb : Below w.heap.size w w') : m.Is w' c := ⟨h.nm, h.byt, h.le, h.dt.keep0 hb⟩
theorem ChM.Is.kept {S : Nat → Prop} {w w' : World} {m : ChM} {c : Ch} (h : m.Is w c) (hk : Keeps S w w') (hS : m.n ≠ 0 → ∀ a, m.ao = some a → ¬ S a.block) : m.Is w' c := ⟨h.nm, h.byt, h.le, by
  by_cases h0 : m.n = 0
  · have hd := h.dt.hlen
    rw [h0] at hd ⊢
    rw [List.eq_nil_of_length_eq_zero hd]
    exact Ints.nil _ _ _
  · exact h.dt.kept hk (hS h0)⟩
/-- A slice of chunks in memory. -/
structure Chs (w : World) (ao : Option Addr) (n : Nat) (l : List Ch) : Prop where
  hlen : l.length = n
  lim : n ≤ maxLen
  cell : ∀ i, i < n → ∃ (a : Addr) (m : ChM), ao = some a ∧ w.cell? (a.add (i * 2)) = some (.string (strOfNums m.s)) ∧ w.cell? ((a.add (i * 2)).add 1) = some (.slice m.ao m.n m.cap) ∧ m.Is w (l.getD i c0)
theorem Chs.nil (w : World) (ao : Option Addr) : Chs w ao 0 [] := ⟨rfl, by unfold maxLen; omega, fun i hi => by omega⟩
theorem Chs.keep0 {w w' : World} {ao : Option Addr} {n : Nat} {l : List Ch} (h : Chs w ao n l) (hb : Below w.heap.size w w') : Chs w' ao n l :=
  ⟨h.hlen, h.lim, fun i hi => by
    obtain ⟨a, m, ha, h1, h2, h3⟩ := h.cell i hi
    exact ⟨a, m, ha, by rw [hb.cell (World.block_lt_of_cell? w _ h1)]; exact h1, by rw [hb.cell (World.block_lt_of_cell? w _ h2)]; exact h2, h3.keep0 hb⟩⟩
/-- Chunks that a call has collected. -/
structure OwnC (w : World) (B : Nat) (v : Value) (n : Nat) (ms : List ChM) (l : List Ch) : Prop where
  own : w.ownsRow B 27 2 v n (ms.flatMap valsC)
  hlen : l.length = n
  is : ∀ i, i < n → (ms.getD i m0).Is w (l.getD i c0)
  far : ∀ i, i < n → (ms.getD i m0).n ≠ 0 → ∀ a k, (ms.getD i m0).ao = some a → v.ownBlock = some k → a.block ≠ k
theorem OwnC.mlen {w : World} {B : Nat} {v : Value} {n : Nat} {ms : List ChM} {l : List Ch} (h : OwnC w B v n ms l) : ms.length = n := by
  have := h.own.1
  rw [flat_length valsC 2 valsC_len] at this; omega
theorem OwnC.keep0 {w w' : World} {B : Nat} {v : Value} {n : Nat} {ms : List ChM} {l : List Ch} (h : OwnC w B v n ms l) (hb : Below w.heap.size w w') : OwnC w' B v n ms l :=
  ⟨own_below0 h.own hb, h.hlen, fun i hi => (h.is i hi).keep0 hb, h.far⟩
theorem OwnC.chs {w : World} {B : Nat} {v : Value} {n : Nat} {ms : List ChM} {l : List Ch} (h : OwnC w B v n ms l) : ∃ ao cap, v = .slice ao n cap ∧ n ≤ cap ∧ Chs w ao n l := by
  obtain ⟨ao, cap, rfl, hc, hr, _⟩ := own_recs m0 valsC_len (by decide) h.own
  refine ⟨ao, cap, rfl, hc, h.hlen, hr.lim, fun i hi => ?_⟩
  obtain ⟨a, ha, hcell⟩ := hr.cell i hi
  exact ⟨a, _, ha, hcell 0 _ rfl, hcell 1 _ rfl, h.is i hi⟩
theorem OwnC.nil (w : World) (B : Nat) : OwnC w B (.slice none 0 0) 0 [] [] := ⟨World.ownsRow_nil _ _ _ _, rfl, fun i hi => by omega, fun i hi => by omega⟩
/-- One more, behind an append. -/
theorem OwnC.snoc {w w' : World} {B : Nat} {v v' : Value} {n : Nat} {ms : List ChM} {l : List Ch} (h : OwnC w B v n ms l) (m : ChM) (c : Ch) (hown : w'.ownsRow B 27 2 v' (n + 1) (ms.flatMap valsC ++ valsC m)) (hk : Keeps (fun k => v.ownBlock = some k) w w') (his : m.Is w c)
    (hfar : ∀ i, i < n + 1 → ((ms ++ [m]).getD i m0).n ≠ 0 → ∀ a k, ((ms ++ [m]).getD i m0).ao = some a → v.ownBlock = some k ∨ v'.ownBlock = some k → a.block ≠ k) : OwnC w' B v' (n + 1) (ms ++ [m]) (l ++ [c]) := by
  have hml := h.mlen
  have hll := h.hlen
  refine ⟨by rw [List.flatMap_append]; simpa using hown, by rw [List.length_append, hll]; rfl, fun i hi => ?_, fun i hi h0 a k ha hk => hfar i hi h0 a k ha (Or.inr hk)⟩
  have hS : ((ms ++ [m]).getD i m0).n ≠ 0 → ∀ a, ((ms ++ [m]).getD i m0).ao = some a → ¬ v.ownBlock = some a.block := fun h0 a ha hv => hfar i hi h0 a _ ha (Or.inl hv) rfl
  by_cases hin : i < n
  · have e1 : (ms ++ [m]).getD i m0 = ms.getD i m0 := by simp [List.getD, List.getElem?_append_left, hml, hin]
    have e2 : (l ++ [c]).getD i c0 = l.getD i c0 := by simp [List.getD, List.getElem?_append_left, hll, hin]
    rw [e1] at hS ⊢
    rw [e2]
    exact (h.is i hin).kept hk hS
  · obtain rfl : i = n := by omega
    have e1 : (ms ++ [m]).getD i m0 = m := by simp [List.getD, ← hml]
    have e2 : (l ++ [c]).getD i c0 = c := by simp [List.getD, ← hll]
    rw [e1] at hS ⊢
    rw [e2]
    exact his.kept hk hS
theorem infoChunk : (Try.prog.info? 27).map (fun i => (i.zero, i.size, i.bytes)) = some (some (.agg #[.string ByteArray.empty, .slice none 0 0]), 2, 40) := by kernel_rfl
/-- At most 10 chunks, cut. -/
def fewC (c : Ch) : Ch := ⟨c.nm.take 10, c.dt.take 100⟩
def fewL (l : List Ch) : List Ch := (l.take 10).map fewC
theorem fewL_snoc (l : List Ch) (k : Nat) (hk : k < l.length) : (l.take (k + 1)).map fewC = (l.take k).map fewC ++ [fewC (l.getD k c0)] := by
  rw [List.take_succ_eq_append_getElem hk, List.map_append]
  simp [List.getD, hk]
def FewRel (w : World) (ao : Option Addr) (n : Nat) (l : List Ch) (v3 v4 : Value) (wr : World) : Prop := ∃ (k : Nat) (ms : List ChM), k ≤ n ∧ k ≤ 10 ∧ v4 = .int .i64 k ∧ OwnC wr w.heap.size v3 k ms ((l.take k).map fewC) ∧ (∀ i, i < k → (ms.getD i m0).n ≠ 0 → ∀ a, (ms.getD i m0).ao = some a → a.block < w.heap.size) ∧ Below w.heap.size w wr
theorem few_step {w wr w3 : World} {ao : Option Addr} {n k : Nat} {l : List Ch} {ms : List ChM} {v v' : Value} {o : Obj} (hlt1 : k < n) (hlt2 : k < 10) (hO : OwnC wr w.heap.size v k ms ((l.take k).map fewC)) (m c' : ChM) (c : Ch) (hm : m.Is w (fewC c)) (h2 : (l.take (k + 1)).map fewC = (l.take k).map fewC ++ [fewC c])
    (hF : ∀ i, i < k → (ms.getD i m0).n ≠ 0 → ∀ a, (ms.getD i m0).ao = some a → a.block < w.heap.size) (hU : m.n ≠ 0 → ∀ a, m.ao = some a → a.block < w.heap.size) (hb : Below w.heap.size w wr)
    (hown : w3.ownsRow w.heap.size 27 2 v' (k + 1) (ms.flatMap valsC ++ valsC m)) (hk : Keeps (fun k => v.ownBlock = some k) (wr.alloc o) w3) : FewRel w ao n l v' (.int .i64 ((k : Int) + 1)) w3 := by
  have hml := hO.mlen
  have hf2 : ∀ i, i < k + 1 → ((ms ++ [m]).getD i m0).n ≠ 0 → ∀ a, ((ms ++ [m]).getD i m0).ao = some a → a.block < w.heap.size := fun i hi => by
    by_cases hin : i < k
    · have e1 : (ms ++ [m]).getD i m0 = ms.getD i m0 := by simp [List.getD, List.getElem?_append_left, hml, hin]
      rw [e1]; exact hF i hin
    · obtain rfl : i = k := by omega
      have e1 : (ms ++ [m]).getD i m0 = m := by simp [List.getD, ← hml]
      rw [e1]; exact hU
  have hO1 := hO.keep0 (below_alloc wr o)
  refine ⟨k + 1, ms ++ [m], by omega, by omega, by go_num, ?_, hf2, ?_⟩
  · rw [h2]
    refine hO1.snoc m (fewC c) hown hk (hm.keep0 (balloc hb o)) fun i hi h0 a k ha hk => ?_
    have hlt := hf2 i hi h0 a ha
    rcases hk with hk | hk
    · have := (hO1.own.lt k hk).1; omega
    · have := (hown.lt k hk).1; omega
  · have hsz := hb.size
    exact (balloc hb o).trans (owns_below hO1.own hk (by simp; omega))
set_option maxRecDepth 100000 in
set_option maxHeartbeats 4000000 in
theorem few_any (ao : Option Addr) (n cap : Nat) (l : List Ch) (w : World) (h : Chs w ao n l) : Calls Try.prog 7 #[.slice ao n cap] w fun e w' => ∃ ro rn rc, e = .returned (.slice ro rn rc) ∧ rn ≤ rc ∧ rn ≤ 10 ∧ Chs w' ro rn (fewL l) ∧ Below w.heap.size w w' := by
  have hl := h.lim
  unfold maxLen at hl
  go_enter Try.func7, Try.ntmps7
  go_wp2_with fail
  go_loopw [3, 4] (fun v3 v4 wr => FewRel w ao n l v3 v4 wr) (fun _ v4 _ => (10 - (intOf v4).toNat))
  case atStart => exact ⟨0, [], by omega, by omega, rfl, OwnC.nil _ _, fun i hi => by omega, Below.refl _ _⟩
  case round =>
    obtain ⟨k, ms, hkn, hk10, rfl, hO, hfar, hb⟩ := hrel
    by_cases hlt : k < n ∧ k < 10
    · obtain ⟨hlt1, hlt2⟩ := hlt
      obtain ⟨a, m, rfl, q0, q1, hm⟩ := h.cell k hlt1
      have e1 : ((a.add (k * 2)).add 1) = ⟨(a.add (k * 2)).block, (a.add (k * 2)).off + 1, none⟩ := rfl
      rw [← hb.cell (World.block_lt_of_cell? w _ q0)] at q0
      rw [← hb.cell (World.block_lt_of_cell? w _ q1), e1] at q1
      have hu : m.n ≠ 0 → ∀ a, m.ao = some a → a.block < w.heap.size := fun h0 a ha => hm.dt.under (Nat.pos_of_ne_zero h0) a ha
      have hmr := hm.keep0 hb
      have hsn := fewL_snoc l k (by rw [h.hlen]; omega)
      have hO1 := hO.keep0 (below_alloc wr (.cells #[.string (strOfNums m.s), .slice m.ao m.n m.cap] 27))
      generalize l.getD k c0 = c at *
      have hs10 : (strOfNums m.s).extract 0 10 = strOfNums (m.s.take 10) := by rw [strOfNums_extract, List.drop_zero]
      have hsz : (strOfNums m.s).size = m.s.length := strOfNums_size _
      have hle := hm.le
      have hcap : m.n ≤ maxLen := hm.dt.lim
      unfold maxLen at hcap
      have hao : m.n ≠ 0 → ∃ a', m.ao = some a' := fun h0 => by
        obtain ⟨a', h1, _⟩ := hm.dt.some (Nat.pos_of_ne_zero h0)
        exact ⟨a', h1⟩
      have HIs := Lib.hid hm
      have H2 := Lib.hid hsn
      have HF := Lib.hid hfar
      have HU := Lib.hid hu
      have HO := Lib.hid hO
      clear hm hsn hfar hu e1 hmr
      by_cases hA : 10 < m.s.length <;> by_cases hB : 100 < m.n
      · obtain ⟨d, hd⟩ := hao (by omega)
        have HM : Hid (ChM.Is w ⟨m.s.take 10, (some d), 100, m.cap⟩ (fewC c)) := ⟨by simp [fewC, HIs.out.nm], fun z hz => HIs.out.byt z (List.mem_of_mem_take hz), by simp only; omega, by have := HIs.out.dt.take (n := 100) (by omega); rw [hd] at this; exact this⟩
        have hO1 := (hO.keep0 (below_alloc wr (.cells #[.string (strOfNums (m.s.take 10)), .slice (some d) 100 m.cap] 27))).own
        clear hO
        go_wp2_with (at_builtin; refine wpList_append_rec rfl (.tmp 36) (.tmp 38) 22 27 2 rfl Try.underlying22 infoChunk rfl (by decide) w.heap.size _ _ _ rfl hO1 (valsC ⟨m.s.take 10, (some d), 100, m.cap⟩) rfl (by rw [World.size_alloc] <;> rfl) (valsC_one _) ?_ ?_ ?_ ?_)
        case refine_1 => omega
        case refine_2 => unfold maxLen; omega
        case refine_3 => have := hb.size; simp; omega
        intro v' w3 hown hk3
        have HR := Lib.hid (few_step (ao := some a) hlt1 hlt2 HO.out ⟨m.s.take 10, (some d), 100, m.cap⟩ m0 c HM.out H2.out HF.out (fun h0 a ha => HU.out (by omega) a (hd.trans ha)) hb hown hk3)
        clear hown hk3 hO1
        go_wp2_with fail
        refine ⟨HR.out, ?_⟩
        simp [intOf]; omega
      · have HM : Hid (ChM.Is w ⟨m.s.take 10, m.ao, m.n, m.cap⟩ (fewC c)) := ⟨by simp [fewC, HIs.out.nm], fun z hz => HIs.out.byt z (List.mem_of_mem_take hz), by simp only; omega, by simp only [fewC]; rw [List.take_of_length_le (by rw [HIs.out.dt.hlen]; omega)]; exact HIs.out.dt⟩
        have hO1 := (hO.keep0 (below_alloc wr (.cells #[.string (strOfNums (m.s.take 10)), .slice m.ao m.n m.cap] 27))).own
        clear hO
        go_wp2_with (at_builtin; refine wpList_append_rec rfl (.tmp 36) (.tmp 38) 22 27 2 rfl Try.underlying22 infoChunk rfl (by decide) w.heap.size _ _ _ rfl hO1 (valsC ⟨m.s.take 10, m.ao, m.n, m.cap⟩) rfl (by rw [World.size_alloc] <;> rfl) (valsC_one _) ?_ ?_ ?_ ?_)
        case refine_1 => omega
        case refine_2 => unfold maxLen; omega
        case refine_3 => have := hb.size; simp; omega
        intro v' w3 hown hk3
        have HR := Lib.hid (few_step (ao := some a) hlt1 hlt2 HO.out ⟨m.s.take 10, m.ao, m.n, m.cap⟩ m0 c HM.out H2.out HF.out (fun h0 => HU.out h0) hb hown hk3)
        clear hown hk3 hO1
        go_wp2_with fail
        refine ⟨HR.out, ?_⟩
        simp [intOf]; omega
      · obtain ⟨d, hd⟩ := hao (by omega)
        have HM : Hid (ChM.Is w ⟨m.s, (some d), 100, m.cap⟩ (fewC c)) := ⟨by simp only [fewC]; rw [HIs.out.nm, List.take_of_length_le (by rw [← HIs.out.nm]; omega)], fun z hz => HIs.out.byt z (List.mem_of_mem_take hz), by simp only; omega, by have := HIs.out.dt.take (n := 100) (by omega); rw [hd] at this; exact this⟩
        have hO1 := (hO.keep0 (below_alloc wr (.cells #[.string (strOfNums (m.s)), .slice (some d) 100 m.cap] 27))).own
        clear hO
        go_wp2_with (at_builtin; refine wpList_append_rec rfl (.tmp 36) (.tmp 38) 22 27 2 rfl Try.underlying22 infoChunk rfl (by decide) w.heap.size _ _ _ rfl hO1 (valsC ⟨m.s, (some d), 100, m.cap⟩) rfl (by rw [World.size_alloc] <;> rfl) (valsC_one _) ?_ ?_ ?_ ?_)
        case refine_1 => omega
        case refine_2 => unfold maxLen; omega
        case refine_3 => have := hb.size; simp; omega
        intro v' w3 hown hk3
        have HR := Lib.hid (few_step (ao := some a) hlt1 hlt2 HO.out ⟨m.s, (some d), 100, m.cap⟩ m0 c HM.out H2.out HF.out (fun h0 a ha => HU.out (by omega) a (hd.trans ha)) hb hown hk3)
        clear hown hk3 hO1
        go_wp2_with fail
        refine ⟨HR.out, ?_⟩
        simp [intOf]; omega
      · have HM : Hid (ChM.Is w ⟨m.s, m.ao, m.n, m.cap⟩ (fewC c)) := ⟨by simp only [fewC]; rw [HIs.out.nm, List.take_of_length_le (by rw [← HIs.out.nm]; omega)], fun z hz => HIs.out.byt z (List.mem_of_mem_take hz), by simp only; omega, by simp only [fewC]; rw [List.take_of_length_le (by rw [HIs.out.dt.hlen]; omega)]; exact HIs.out.dt⟩
        have hO1 := (hO.keep0 (below_alloc wr (.cells #[.string (strOfNums (m.s)), .slice m.ao m.n m.cap] 27))).own
        clear hO
        go_wp2_with (at_builtin; refine wpList_append_rec rfl (.tmp 36) (.tmp 38) 22 27 2 rfl Try.underlying22 infoChunk rfl (by decide) w.heap.size _ _ _ rfl hO1 (valsC ⟨m.s, m.ao, m.n, m.cap⟩) rfl (by rw [World.size_alloc] <;> rfl) (valsC_one _) ?_ ?_ ?_ ?_)
        case refine_1 => omega
        case refine_2 => unfold maxLen; omega
        case refine_3 => have := hb.size; simp; omega
        intro v' w3 hown hk3
        have HR := Lib.hid (few_step (ao := some a) hlt1 hlt2 HO.out ⟨m.s, m.ao, m.n, m.cap⟩ m0 c HM.out H2.out HF.out (fun h0 => HU.out h0) hb hown hk3)
        clear hown hk3 hO1
        go_wp2_with fail
        refine ⟨HR.out, ?_⟩
        simp [intOf]; omega
    · obtain ⟨ro, rc, rfl, hrc, hC⟩ := hO.chs
      have hE : (l.take k).map fewC = fewL l := by
        unfold fewL
        congr 1
        by_cases hk : k = 10
        · rw [hk]
        · rw [List.take_of_length_le (by rw [h.hlen]; omega), List.take_of_length_le (by rw [h.hlen]; omega)]
      rw [hE] at hC
      have HC := Lib.hid hC
      clear hO hC hE
      rcases (show (k = n) ∨ (k < n ∧ k = 10) by omega) with rfl | ⟨hkn, rfl⟩
      · go_wp2_with fail
        go_ret
        exact ⟨ro, k, rc, rfl, hrc, by omega, HC.out, hb⟩
      · go_wp2_with fail
        go_ret
        exact ⟨ro, 10, rc, rfl, hrc, by omega, HC.out, hb⟩
end Go.Proofs.Ytpbeehfafbgphaa

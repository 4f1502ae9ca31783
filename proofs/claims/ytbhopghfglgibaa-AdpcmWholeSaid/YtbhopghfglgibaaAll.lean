/- The walk of adpcm.All. -/
import Derived.Test.YtbhopghfglgibaaWho
namespace Go.Proofs.Ytbhopghfglgibaa
open Go.RowKit Go.Calli
set_option linter.unusedVariables false
theorem infoByte : (Try.prog.info? 5).map (fun i => (i.zero, i.size, i.bytes)) = some (some (.int .u8 0), 1, 1) := by kernel_rfl
/-- So many samples of all. -/
def chZ (zs : List Int) (m : Nat) : List Int := (zs.drop (32 * m)).take 32
/-- The states between the blocks. -/
def cS (zs : List Int) : Nat → Int × Int
  | 0 => (0, 0)
  | m + 1 => eS (cS zs m).1 (cS zs m).2 (chZ zs m) (chZ zs m).length
def chP (zs : List Int) (m : Nat) : List Int := pbs (cS zs m).1 (cS zs m).2 (chZ zs m) (chZ zs m).length (chZ zs m).length
def allB (zs : List Int) : Nat → List Int
  | 0 => []
  | m + 1 => allB zs m ++ chP zs m
theorem allB_len (zs : List Int) (m : Nat) : (allB zs m).length = 20 * m := by
  induction m with
  | zero => rfl
  | succ m ih => simp [allB, chP, pbs_len, ih]; omega
theorem chZ_len (zs : List Int) (m : Nat) : (chZ zs m).length = min 32 (zs.length - 32 * m) := by simp [chZ]
theorem cS_right (zs : List Int) (m : Nat) : RightS (cS zs m).1 (cS zs m).2 := by
  induction m with
  | zero => unfold cS RightS; simp
  | succ m ih => exact eS_right _ ih _
theorem chP_wf (zs : List Int) (m : Nat) : ∀ z ∈ chP zs m, (Lit.int .u8 z).wf = true := pbs_wf _ (cS_right zs m) (by rw [chZ_len]; omega) _
theorem allB_wf (zs : List Int) (m : Nat) : ∀ z ∈ allB zs m, (Lit.int .u8 z).wf = true := by
  induction m with
  | zero => intro z hz; simp [allB] at hz
  | succ m ih =>
    intro z hz
    rcases List.mem_append.1 hz with hz | hz
    · exact ih z hz
    · exact chP_wf zs m z hz
theorem chZ_get (zs : List Int) (m q : Nat) (hq : q < (chZ zs m).length) : (chZ zs m).getD q 0 = zs.getD (32 * m + q) 0 := by
  rw [chZ_len] at hq
  simp [chZ, List.getD, show q < 32 by omega]
/-- The two ways of an answer of Pack. -/
def PckRes (l i : Int) (n : Nat) (zs : List Int) (w' : World) (ro : Option Addr) (rn : Nat) (L I E : Int) : Prop := (InR zs n ∧ rn = 20 ∧ L = (eS l i zs n).1 ∧ I = (eS l i zs n).2 ∧ E = 0 ∧ Ints .u8 w' ro 20 (pbs l i zs n n)) ∨ (¬ InR zs n ∧ E = 5)
theorem PckRes.keep0 {l i : Int} {n : Nat} {zs : List Int} {w w' : World} {ro : Option Addr} {rn : Nat} {L I E : Int} (h : PckRes l i n zs w ro rn L I E) (hb : Below w.heap.size w w') : PckRes l i n zs w' ro rn L I E := by
  rcases h with ⟨h1, h2, h3, h4, h5, h6⟩ | h
  · exact .inl ⟨h1, h2, h3, h4, h5, h6.keep0 hb⟩
  · exact .inr h
theorem PckRes.kept {S : Nat → Prop} {l i : Int} {n : Nat} {zs : List Int} {w w' : World} {ro : Option Addr} {rn : Nat} {L I E : Int} (h : PckRes l i n zs w ro rn L I E) (hk : Keeps S w w') (hS : ∀ a, ro = some a → ¬ S a.block) : PckRes l i n zs w' ro rn L I E := by
  rcases h with ⟨h1, h2, h3, h4, h5, h6⟩ | h
  · exact .inl ⟨h1, h2, h3, h4, h5, h6.kept hk hS⟩
  · exact .inr h
theorem pack_uni (ao : Option Addr) (n cap : Nat) (l i : Int) (zs : List Int) (hn : n ≤ 32) (hr : RightS l i) (w : World) (h : Ints .i64 w ao n zs) : Calls Try.prog 19 #[.slice ao n cap, .agg #[.int .i64 l, .int .i64 i]] w fun e w' => ∃ ro rn rc L I E, e = .returned (.tuple #[.slice ro rn rc, .agg #[.int .i64 L, .int .i64 I], .int .i64 E]) ∧ PckRes l i n zs w' ro rn L I E ∧ (∀ a, ro = some a → w.heap.size ≤ a.block) ∧ Below w.heap.size w w' := by
  refine (pack_any ao n cap l i zs hn hr w h).mono ?_
  rintro e w1 (⟨h1, b, rfl, h2, h3, h4⟩ | ⟨h1, rfl, h3⟩)
  · exact ⟨_, _, _, _, _, _, rfl, .inl ⟨h1, rfl, rfl, rfl, rfl, h2.ints 20 (pbs_len _ _ _ _ _) (by decide) (pbs_wf zs hr hn n)⟩, (fun a ha => by cases ha; exact h4), h3⟩
  · exact ⟨_, _, _, _, _, _, rfl, .inr ⟨h1, rfl⟩, (fun a ha => by cases ha), h3⟩
/-- What All answers. -/
def AllPost (zs : List Int) (n : Nat) (w : World) (e : Ending) (w' : World) : Prop :=
  (¬ InR zs n ∧ e = .returned (.tuple #[.slice none 0 0, .int .i64 5]) ∧ Below w.heap.size w w') ∨
  (InR zs n ∧ ∃ ao c, e = .returned (.tuple #[.slice ao (20 * ((n + 31) / 32)) c, .int .i64 0]) ∧ 20 * ((n + 31) / 32) ≤ c ∧ c ≤ maxLen ∧ Ints .u8 w' ao (20 * ((n + 31) / 32)) (allB zs ((n + 31) / 32)) ∧ Below w.heap.size w w')
theorem own_cap {w : World} {base e : Nat} {ao : Option Addr} {n c k : Nat} {xs : List Value} (h : w.ownsRow base e 1 (.slice ao n c) k xs) : c ≤ maxLen := by
  rcases h.2 with ⟨h1, _⟩ | ⟨g, cap, cur, h1, _, _, _, hc, _⟩
  · cases h1; unfold maxLen; omega
  · cases h1; exact hc
def AllRel (zs : List Int) (n cap : Nat) (w : World) (v0 v4 : Value) (wr : World) : Prop := ∃ (m : Nat) (ao' : Option Addr) (c' : Nat), 32 * m < n + 32 ∧ v0 = .slice ao' (n - 32 * m) c' ∧ n - 32 * m ≤ c' ∧ c' ≤ cap ∧ Ints .i64 w ao' (n - 32 * m) (zs.drop (32 * m)) ∧ wr.ownsRow w.heap.size 5 1 v4 (20 * m) ((allB zs m).map (Value.int .u8)) ∧ wr.heap[w.heap.size]? = some (.cells #[.int .i64 (cS zs m).1, .int .i64 (cS zs m).2] 23 (0, 0)) ∧ InR zs (min n (32 * m)) ∧ Below w.heap.size w wr
def AllCut (zs : List Int) (m j : Nat) (w : World) (v4 v7 v8 v9 : Value) (wx : World) : Prop := ∃ ro rn rc L I E P', v7 = .slice ro rn rc ∧ v8 = .pointer (some ⟨P', 0, none⟩) ∧ v9 = .int .i64 E ∧ w.heap.size < P' ∧ wx.heap[P']? = some (.cells #[.int .i64 L, .int .i64 I] 23 (0, 0)) ∧ PckRes (cS zs m).1 (cS zs m).2 j (chZ zs m) wx ro rn L I E ∧ wx.ownsRow w.heap.size 5 1 v4 (20 * m) ((allB zs m).map (Value.int .u8)) ∧ wx.heap[w.heap.size]? = some (.cells #[.int .i64 (cS zs m).1, .int .i64 (cS zs m).2] 23 (0, 0)) ∧ Below w.heap.size w wx
set_option maxHeartbeats 1000000 in
theorem all_any (ao : Option Addr) (n cap : Nat) (zs : List Int) (hn : n ≤ 150) (hc : n ≤ cap) (hcm : cap ≤ maxLen) (w : World) (h : Ints .i64 w ao n zs) : Calls Try.prog 22 #[.slice ao n cap] w (AllPost zs n w) := by
  unfold maxLen at hcm
  have hS : (w.alloc (.cells #[.int .i64 0, .int .i64 0] 23)).heap[w.heap.size]? = some (.cells #[.int .i64 0, .int .i64 0] 23 (0, 0)) := heap_alloc_new _ _
  go_enter Try.func22, Try.ntmps22
  go_wp2_with fail
  go_loopw [0, 4] (fun v0 v4 wr => AllRel zs n cap w v0 v4 wr) (fun v0 _ _ => lenOf v0)
  case atStart => exact ⟨0, ao, cap, by omega, rfl, by omega, by omega, h, World.ownsRow_nil _ _ _ _, hS, fun q hq => by omega, below_alloc _ _⟩
  case round =>
    clear hS
    obtain ⟨m, ao', c', hm1, rfl, hm2, hm3, hi, hown, hD, hin, hb⟩ := hrel
    by_cases hlt : 32 * m < n
    · obtain ⟨a, rfl, -⟩ := hi.some (by omega)
      have hzl := h.hlen
      have hcl : (chZ zs m).length = min 32 (n - 32 * m) := by rw [chZ_len, hzl]
      have hj : Hid ((chZ zs m).length = min 32 (n - 32 * m)) := hcl
      have hpos : 0 < n - 32 * m := by omega
      generalize hll : n - 32 * m = l at hi hpos hm2 hcl ⊢
      have HLL : Hid (n - 32 * m = l) := hll
      clear hll
      have hjl : (chZ zs m).length ≤ l := by omega
      have hj32 : (chZ zs m).length ≤ 32 := by omega
      have hj0 : 0 < (chZ zs m).length := by omega
      have hI : Ints .i64 w (some a) (chZ zs m).length (chZ zs m) := by
        have := hi.take (n := (chZ zs m).length) hjl
        have e : (zs.drop (32 * m)).take (chZ zs m).length = chZ zs m := by
          rw [hcl]
          unfold chZ
          have h2 := hi.hlen
          rcases Nat.le_total 32 l with h3 | h3
          · rw [Nat.min_eq_left h3]
          · rw [Nat.min_eq_right h3, List.take_of_length_le (by omega), List.take_of_length_le (by omega)]
        rw [e] at this
        exact this
      have hmin : Hid ((if (32 : Int) < (l : Int) then 32 else (l : Int)) = ((chZ zs m).length : Nat)) := by unfold Hid; rw [hcl]; split <;> omega
      have hdr := hi.drop hjl
      clear hcl
      generalize (chZ zs m).length = j at hjl hj32 hj0 hI hmin hj hdr
      have HD := Lib.hid hD
      obtain ⟨x0, x1, f0, f1⟩ := two_cells hD
      have hp := fun (W : World) (hW : Below w.heap.size w W) => pack_uni (some a) j c' (cS zs m).1 (cS zs m).2 (chZ zs m) hj32 (cS_right zs m) W (hI.keep0 hW)
      clear hD
      go_upto_region 5 with fail
      rw [hmin.out]
      have hji : (0 : Int) ≤ (j : Int) := by omega
      have hjc : (j : Int) ≤ (c' : Int) := by omega
      have hbD := lt_of_block HD.out
      have hnw0 := World.new_ne wr ⟨w.heap.size, 0, none⟩ x0
      have hnw1 := World.new_ne wr ⟨w.heap.size, 1, none⟩ x1
      go_cut [7, 8, 9] (fun v7 v8 v9 wx => AllCut zs m j w u4 v7 v8 v9 wx)
      case first =>
        go_region_held3 (fun w' => w'.cell? ⟨w.heap.size, 0, none⟩ = some (.int .i64 (cS zs m).1) ∧ w'.cell? ⟨w.heap.size, 1, none⟩ = some (.int .i64 (cS zs m).2)) (go_keep) (first | (go_at_call 19; refine (hp _ hb.drew).mono ?_; rintro e w2 ⟨ro, rn, rc, L, I, E, rfl, HR, HB, hb2⟩; have y0 : w2.cell? ⟨w.heap.size, 0, none⟩ = some (.int .i64 (cS zs m).1) := cell_later hb2 (by assumption); have y1 : w2.cell? ⟨w.heap.size, 1, none⟩ = some (.int .i64 (cS zs m).2) := cell_later hb2 (by assumption)) | (go_at_call 19; refine (hp _ (balloc hb _).drew).mono ?_; rintro e w2 ⟨ro, rn, rc, L, I, E, rfl, HR, HB, hb2⟩; obtain ⟨y0, y1, -⟩ := two_cells ((hb2.block w.heap.size (by simp; omega)).trans ((Below.heap_alloc wr _ _ (lt_of_block HD.out)).trans HD.out)); obtain ⟨z0, z1, g0, g1⟩ := two_cells ((hb2.block wr.heap.size (by simp)).trans (heap_alloc_new wr (.cells #[.int .i64 0, .int .i64 0] 23)))))
        · go_wp2_with fail
          go_meet
          have hb2' : Below wr.heap.size wr w2 := (Below.refl wr.heap.size wr).drew.trans hb2
          have hkk : Below wr.heap.size wr (w2.alloc (.cells #[.int .i64 L, .int .i64 I] 23)) := balloc hb2' _
          refine ⟨ro, rn, rc, L, I, E, w2.heap.size, rfl, rfl, rfl, Nat.lt_of_lt_of_le hbD hb2'.size, heap_alloc_new _ _, HR.keep0 (below_alloc _ _), owns_kept (S := fun _ => False) hown (Keeps.ofBelow hkk (Nat.le_refl _)) (fun _ _ h => h), (hkk.block _ hbD).trans HD.out, bstep hb hkk⟩
        · go_wp2_with fail
          go_meet
          have hb2' : Below wr.heap.size wr w2 := ((below_alloc wr (.cells #[.int .i64 0, .int .i64 0] 23)).drew).trans (hb2.mono (by simp))
          have hkk : Below wr.heap.size wr ((w2.setCell ⟨wr.heap.size, 0, none⟩ (.int .i64 L)).setCell ⟨wr.heap.size, 1, none⟩ (.int .i64 I)) := (hb2'.setCell (p := ⟨wr.heap.size, 0, none⟩) (Nat.le_refl _) _).setCell (p := ⟨wr.heap.size, 1, none⟩) (Nat.le_refl _) _
          have hkp : Keeps (fun b => b = wr.heap.size) w2 ((w2.setCell ⟨wr.heap.size, 0, none⟩ (.int .i64 L)).setCell ⟨wr.heap.size, 1, none⟩ (.int .i64 I)) := ((Keeps.refl (fun b => b = wr.heap.size) w2).setCell (p := ⟨wr.heap.size, 0, none⟩) (.inr rfl) _).setCell (p := ⟨wr.heap.size, 1, none⟩) (.inr rfl) _
          refine ⟨ro, rn, rc, L, I, E, wr.heap.size, rfl, rfl, rfl, hbD, two_same ((hb2.block wr.heap.size (by simp)).trans (heap_alloc_new wr _)) _ _, HR.kept hkp (fun a0 ha hS => by have := HB a0 ha; have hS' : a0.block = wr.heap.size := hS; simp at this; omega), owns_kept (S := fun _ => False) hown (Keeps.ofBelow hkk (Nat.le_refl _)) (fun _ _ h => h), (hkk.block _ hbD).trans HD.out, bstep hb hkk⟩
      case rest =>
        obtain ⟨ro, rn, rc, L, I, E, P', rfl, rfl, rfl, hP0, hPP, HR, hownX, hDX, hbX⟩ := hcut
        have hj' := hj.out
        have hinr : InR zs (min n (32 * m)) → (InR (chZ zs m) j ↔ InR zs (min n (32 * (m + 1)))) := fun hin => by
          have hjz : (chZ zs m).length = j := by rw [chZ_len, hzl]; exact hj'.symm
          constructor
          · intro hh q hq
            by_cases hq2 : q < 32 * m
            · exact hin q (by omega)
            · have := hh (q - 32 * m) (by omega)
              rw [chZ_get zs m (q - 32 * m) (by omega), show 32 * m + (q - 32 * m) = q by omega] at this
              exact this
          · intro hh q hq
            rw [chZ_get zs m q (by omega)]
            exact hh (32 * m + q) (by omega)
        have hin2 := hinr hin
        clear hinr hb hown HD x0 x1 f0 f1 hp hnw0 hnw1 hbD
        rcases HR with ⟨hok, rfl, rfl, rfl, rfl, hints⟩ | ⟨hno, rfl⟩
        · have hin3 := Lib.hid (hin2.1 hok)
          clear hin2 hok hin
          have hjz : j = (chZ zs m).length := by rw [chZ_len, hzl]; exact hj'
          have hpz : pbs (cS zs m).1 (cS zs m).2 (chZ zs m) j j = chP zs m := by rw [hjz]; rfl
          rw [hpz] at hints
          have hez : eS (cS zs m).1 (cS zs m).2 (chZ zs m) j = cS zs (m + 1) := by rw [hjz]; rfl
          rw [hez] at hPP
          have hlz : l - j = n - 32 * (m + 1) := by have := HLL.out; omega
          have hldr : (zs.drop (32 * m)).drop j = zs.drop (32 * (m + 1)) := by
            rw [List.drop_drop]
            by_cases hz : 32 ≤ n - 32 * m
            · rw [show 32 * m + j = 32 * (m + 1) by omega]
            · rw [List.drop_eq_nil_of_le (by omega), List.drop_eq_nil_of_le (by omega)]
          rw [hldr] at hdr
          have HLZ := Lib.hid hlz
          have hdr0 : c' = j → ∀ A, Ints .i64 w A (l - j) (zs.drop (32 * (m + 1))) := fun hcj A => by
            have hl0 : l - j = 0 := by omega
            have := hdr.hlen
            have e : zs.drop (32 * (m + 1)) = [] := List.eq_nil_of_length_eq_zero (by rw [this]; omega)
            rw [e, hl0]; exact Ints.nil _ _ _
          have HDR0 := Lib.hid hdr0
          clear hdr0
          have hints := hints.keep0 (Below.refl _ _).drew
          clear hpz hez hlz hldr hjz hj' hmin
          have hnil := hints.nil_len
          obtain ⟨p0, p1, pf0, pf1⟩ := two_cells hPP
          obtain ⟨d0, d1, df0, df1⟩ := two_cells hDX
          have HPP := Lib.hid hPP
          have HDX := Lib.hid hDX
          clear hPP hDX
          have hbl := hbX.size
          have HR : Hid (∀ v' w', w'.ownsRow w.heap.size 5 1 v' (20 * m + 20) ((allB zs m).map (Value.int .u8) ++ (chP zs m).map (Value.int .u8)) → Keeps (fun k => u4.ownBlock = some k) wc.drew w' → ∀ A c2, l - j ≤ c2 → c2 ≤ cap → Ints .i64 w A (l - j) (zs.drop (32 * (m + 1))) → AllRel zs n cap w (.slice A (l - j) c2) v' ((w'.setCell ⟨w.heap.size, 0, none⟩ (.int .i64 (cS zs (m + 1)).1)).setCell ⟨w.heap.size, 1, none⟩ (.int .i64 (cS zs (m + 1)).2))) := fun v' w' hown' hkp A c2 h1 h2 h3 => by
            have hD' : w'.heap[w.heap.size]? = _ := hkp.heap HDX.out (fun hS => by
              obtain ⟨cs, hcs⟩ := own_block_type hownX hS
              rw [HDX.out] at hcs; cases hcs)
            have hk2 : Keeps (fun b => b = w.heap.size) w' ((w'.setCell ⟨w.heap.size, 0, none⟩ (.int .i64 (cS zs (m + 1)).1)).setCell ⟨w.heap.size, 1, none⟩ (.int .i64 (cS zs (m + 1)).2)) := ((Keeps.refl (fun b => b = w.heap.size) w').setCell (p := ⟨w.heap.size, 0, none⟩) (.inr rfl) _).setCell (p := ⟨w.heap.size, 1, none⟩) (.inr rfl) _
            have hb' : Below w.heap.size w w' := hbX.drew.trans (owns_below (w := wc.drew) hownX hkp hbX.size)
            have hlz := HLZ.out
            refine ⟨m + 1, A, c2, by omega, by rw [← hlz], by rw [← hlz]; exact h1, h2, by rw [← hlz]; exact h3, ?_, two_same hD' _ _, hin3.out, (hb'.setCell (p := ⟨w.heap.size, 0, none⟩) (Nat.le_refl _) _).setCell (p := ⟨w.heap.size, 1, none⟩) (Nat.le_refl _) _⟩
            simp only [allB, List.map_append]
            exact owns_kept hown' hk2 (fun b hb hS => by
              obtain ⟨cs, hcs⟩ := own_block_type hown' hb
              have hS' : b = w.heap.size := hS
              rw [hS', hD'] at hcs
              cases hcs)
          have hm4 : c' - j ≤ cap := by omega
          have hm5 : l - j ≤ c' - j := by omega
          go_upto_region 8 with fail
          go_region_law (refine step_append_row rfl (.tmp 28) (.tmp 29) 33 5 rfl Try.underlying33 infoByte rfl w.heap.size u4 (20 * m) ((allB zs m).map (Value.int .u8)) (by simp [Act.eval, Act.put]) hownX ro 20 rc ((chP zs m).map (Value.int .u8)) (by simp [Act.eval, Act.put]) hints.row (one_ints _ _) hnil (by omega) (by unfold maxLen; omega) hbX.size ?_; intro v' w' hown' hkp; obtain ⟨p0, p1, -⟩ := two_cells (hkp.heap HPP.out (fun hS => by { obtain ⟨cs, hcs⟩ := own_block_type hownX hS; rw [HPP.out] at hcs; cases hcs })); obtain ⟨d0, d1, df0, df1⟩ := two_cells (hkp.heap HDX.out (fun hS => by { obtain ⟨cs, hcs⟩ := own_block_type hownX hS; rw [HDX.out] at hcs; cases hcs })))
          all_goals
            go_wp2_with fail
          all_goals
            refine ⟨⟨_, _, _, _, HR.out _ _ hown' hkp _ _ ?_ ?_ ?_, rfl, rfl, rfl, rfl⟩, ?_⟩
            all_goals first | exact hm5 | exact hm4 | exact hdr | omega | exact HDR0.out (by omega) _ | (simp [lenOf]; omega)
        · have hbad : ¬ InR zs n := fun hh => hno (hin2.2 fun q hq => hh q (by omega))
          have HN := Lib.hid hbad
          clear hbad hno hin2 hin
          go_wp2_with fail
          exact bodyPost_ret (v := .tuple #[.slice none 0 0, .int .i64 5]) (by simp [results, Try.results22, go_sem]) rfl (.inl ⟨HN.out, rfl, hbX⟩)
    · obtain ⟨a', c2, rfl, hc2, hrow, hl, _, _⟩ := own_slice hown
      have hints := hrow.ints hl (allB_wf zs m)
      obtain rfl : m = (n + 31) / 32 := by omega
      have hin2 : InR zs n := fun q hq => hin q (by omega)
      have hcap := own_cap hown
      have HI := Lib.hid hints
      have HN := Lib.hid hin2
      clear hints hrow hin2 hin
      have hz : n - 32 * ((n + 31) / 32) = 0 := by omega
      rw [hz]
      clear hz hD
      go_wp2_with fail
      exact bodyPost_ret (v := .tuple #[.slice a' (20 * ((n + 31) / 32)) c2, .int .i64 0]) (by simp [results, Try.results22, go_sem]) rfl (.inr ⟨HN.out, a', c2, rfl, hc2, hcap, HI.out, hb⟩)
end Go.Proofs.Ytbhopghfglgibaa

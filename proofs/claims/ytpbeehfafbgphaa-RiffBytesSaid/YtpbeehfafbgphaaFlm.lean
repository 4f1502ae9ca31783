/- The walk of riff.fill: two channels. -/
import Derived.Test.YtpbeehfafbgphaaFll
import Derived.Maps.AppendAt
namespace Go.Proofs.Ytpbeehfafbgphaa
open Go Go.RowKit Go.Calli
set_option linter.unusedVariables false
set_option linter.unusedSimpArgs false
attribute [local irreducible] wpStill wpAnyH wpAnyS wpList Code.wp
theorem wpList_append_own_at2 {P : Program} {w : World} {ops : Array Oper} {rest : List Oper} {o : Oper} {a : Act} {Q : Exit → Act → World → Prop} (hgd : o.guard = none) (s x : Operand) (t e : TypeId)
    (ho : o.op = .call { callee := .builtin .append, args := #[s, x], argTypes := #[t, t] }) (hu : P.underlying t = some (.slice e))
    {z : Value} {bytes : Nat} (hinfo : (P.info? e).map (fun i => (i.zero, i.size, i.bytes)) = some (some z, 1, bytes)) (hz1 : z.cells.size = 1)
    (B : Nat) (v : Value) (n : Nat) (xs : List Value) (hs : a.eval s = v) (hown : w.ownsRow B e 1 v n xs) (u : Value) (hx : a.eval x = .slice (some ⟨w.heap.size, 0, none⟩) 1 1) (h1 : u.oneCell' = true)
    (hbd : (n + 1) * bytes ≤ 140737488355328) (hn : n + 1 ≤ maxLen) (hB : B ≤ w.heap.size)
    (h : ∀ v' w', w'.ownsRow B e 1 v' (n + 1) (xs ++ [u]) → Keeps (fun k => v.ownBlock = some k) w w' → (∀ k, v'.ownBlock = some k → v.ownBlock = some k ∨ w.heap.size ≤ k) → wpList P ops Q rest (a.put o.dst v') w') : wpList P ops Q (o :: rest) a (w.alloc (.cells #[u] e)) := by
  obtain ⟨i, hi, hz, hsz, hby⟩ := info_parts hinfo
  obtain ⟨v', w', hr, h2, h3, _, h5⟩ := run_append_own_at (P := P) (w.alloc (.cells #[u] e)) B t o.type e i z 1 bytes hu hi hz hsz hby hz1 (by decide) v n xs (hown.alloc _) ⟨w.heap.size, 0, none⟩ 1 1 [u] rfl (one_new _ _ _) (one_ownCell h1) hn hbd (by simp; omega)
  refine wpList_plain hgd fun _ hK => ?_
  unfold Oper.wp execOp
  simp only [ho, resolve, invoke, builtin, Sem.run_bind, Sem.run_pure, Result.andThen_ok, List.map_toArray, List.map_cons, List.map_nil, hs, hx, hr]
  refine hK _ _ (h v' w' h2 (((Keeps.refl _ w).alloc _).grown h3 fun k hk => .inr hk) fun k hk => ?_)
  rcases h5 with h5 | h5
  · exact .inl (h5 ▸ hk)
  · rw [h5] at hk; cases hk; exact .inr (by simp)
def F2Rel (d : List Int) (w : World) (v7 : Value) (wr : World) : Prop := ∃ (i j c0 c1 : Nat) (v0 v1 : Value), Hid (i = 2 * j ∧ c0 = (j + 1) / 2 ∧ c1 = j / 2) ∧ i ≤ d.length ∧ v7 = .int .i64 i ∧ wr.heap[w.heap.size]? = some (.cells #[v0, v1] 52 (0, 0)) ∧ wr.ownsRow w.heap.size 3 1 v0 c0 ((rowF d 2 0 c0).map (Value.int .i64)) ∧ wr.ownsRow w.heap.size 3 1 v1 c1 ((rowF d 2 1 c1).map (Value.int .i64)) ∧ (∀ k, v0.ownBlock = some k → v1.ownBlock ≠ some k) ∧ Below w.heap.size w wr
set_option maxRecDepth 100000 in
set_option maxHeartbeats 4000000 in
theorem fill_two (ao : Option Addr) (len cap : Nat) (d : List Int) (w : World) (h : Ints .u8 w ao len d) (hlc : len ≤ cap) (hl2 : len ≤ 100000000) (hok : d.length % (2 * 2) = 0) : Calls Try.prog 23 #[.slice ao len cap, .int .i64 2] w (FillPost d 2 w) := by
  have hl := h.hlen
  rw [hl] at hok
  have HOK := Lib.hid hok
  have hm : (len : Int) % 4 = 0 := by omega
  have hmk := make2
  have hb0 := below_alloc w (.cells #[.slice none 0 0, .slice none 0 0] 52)
  have hz0 := heap_alloc_new w (.cells #[.slice none 0 0, .slice none 0 0] 52)
  have HL := Lib.hid hl
  clear hok
  go_enter Try.func23, Try.ntmps23
  go_wp2_with fail
  generalize w.alloc (.cells #[.slice none 0 0, .slice none 0 0] 52) = W at *
  have hR0 : F2Rel d w (.int .i64 0) W := ⟨0, 0, 0, 0, _, _, ⟨rfl, rfl, rfl⟩, Nat.zero_le _, rfl, hz0, World.ownsRow_nil _ _ _ _, World.ownsRow_nil _ _ _ _, (fun k e => by cases e), hb0⟩
  clear hz0 hb0 hmk hm
  go_loopw [7] (fun v7 wr => F2Rel d w v7 wr) (fun v7 _ => len - (intOf v7).toNat)
  case atStart => exact hR0
  case round =>
    clear hR0
    obtain ⟨i, j, c0, c1, v0, v1, hij, hi, rfl, hx, hO0, hO1, hsep, hb⟩ := hrel
    rw [HL.out] at hi
    by_cases hlt : i < len
    · have hi2 : i + 2 ≤ len := by have := hij.out; have := HOK.out; omega
      obtain ⟨a, rfl, -⟩ := h.some (by omega)
      obtain ⟨a2, hsl, hblk, hsub⟩ := slice_part (P := Try.prog) 25 5 Try.underlying25 (by kernel_rfl) a len cap i (i + 2) (i : Int) ((i : Int) + 2) rfl (by omega) (by omega) hi2 hlc
      have hI2 := hsub .u8 wr d (h.keep0 hb)
      rw [show i + 2 - i = 2 by omega, show (d.take (i + 2)).drop i = (d.drop i).take 2 by rw [List.drop_take]; congr 1; omega] at hI2
      have hN := number_any (some a2) 2 (cap - i) _ (by omega) wr hI2
      have hbd := numL_lt (byt_of hI2.wf) (k := 2) (by rw [List.length_take]; omega)
      rw [show i + 2 - i = 2 by omega] at hsl
      have hsg : sgn (numL ((d.drop i).take 2)) = if 32768 ≤ numL ((d.drop i).take 2) then numL ((d.drop i).take 2) - 65536 else numL ((d.drop i).take 2) := rfl
      have hrow : ∀ c k, i = 2 * (c * 2 + k) → Hid ((rowF d 2 k (c + 1)).map (Value.int .i64) = (rowF d 2 k c).map (Value.int .i64) ++ [Value.int .i64 (sgn (numL ((d.drop i).take 2)))]) := fun c k e => by unfold Hid; rw [rowF_succ, List.map_append, e]; simp
      generalize numL ((d.drop i).take 2) = v at *
      have HN := Lib.hid hN
      have HSG := Lib.hid hsg
      have HROW := Lib.hid hrow
      clear hI2 hsub hN hsg hblk hrow
      go_upto_if 31 with (go_at_call 20; refine HN.out.mono ?_; rintro e w2 ⟨rfl, rfl⟩)
      go_cut [8] (fun v8 wx => ∃ x, v8 = .int .i64 x ∧ Hid (x = sgnOf v) ∧ -32768 ≤ x ∧ x < 32768 ∧ wr = wx)
      case first =>
        by_cases h8 : 32768 ≤ v
        · go_wp2_with fail
          go_meet
          exact ⟨v - 65536, rfl, by unfold Hid sgnOf; rw [if_pos h8], by omega, by omega, rfl⟩
        · go_wp2_with fail
          go_meet
          exact ⟨v, rfl, by unfold Hid sgnOf; rw [if_neg (by omega)], by omega, by omega, rfl⟩
      case rest =>
        obtain ⟨x, rfl, hx8, hx0, hx1, rfl⟩ := hcut
        have hrow2 : ∀ c k, i = 2 * (c * 2 + k) → Hid ((rowF d 2 k (c + 1)).map (Value.int .i64) = (rowF d 2 k c).map (Value.int .i64) ++ [Value.int .i64 x]) := fun c k e => by
          unfold Hid; rw [(HROW.out c k e).out, hx8.out, HSG.out]; rfl
        have HROW2 := Lib.hid hrow2
        clear hx8 HROW HSG hrow2
        obtain ⟨p0, p1⟩ := two_cells hx
        rcases (show j % 2 = 0 ∨ j % 2 = 1 by omega) with hp | hp
        · have hk : ((i : Int) / 2) % 2 = 0 := by have := hij.out.1; omega
          have hc : c0 = j / 2 ∧ c1 = (j + 0) / 2 := by have := hij.out; omega
          have HC := Lib.hid hc
          have HP2 := Lib.hid hp
          clear hc hp
          go_wp2_with (at_builtin; refine wpList_append_own_at2 rfl (.tmp 43) (.tmp 45) 52 3 rfl Try.underlying52 infoInt rfl w.heap.size v0 c0 _ rfl hO0 (.int .i64 x) rfl rfl ?_ ?_ ?_ ?_)
          case refine_1 => have := hij.out; have := HC.out; omega
          case refine_2 => have := hij.out; have := HC.out; unfold maxLen; omega
          case refine_3 => exact hb.size
          intro v' w' hown hk' hnew
          obtain ⟨ao', cap', rfl, _⟩ := own_slice hown
          have hx' := hk'.heap hx (fun e => by obtain ⟨cs, hcs⟩ := own_block_type hO0 e; exact block_ne hx hcs (by decide) rfl)
          have hks : Keeps (fun k => k = w.heap.size) w' (w'.setCell ⟨w.heap.size, 0, none⟩ (.slice ao' (c0 + 1) cap')) := (Keeps.refl (fun k => k = w.heap.size) w').setCell (p := ⟨w.heap.size, 0, none⟩) (.inr rfl) _
          have hb' := hb.trans (owns_below hO0 hk' hb.size)
          have hOo : w'.ownsRow w.heap.size 3 1 v1 c1 ((rowF d 2 1 c1).map (Value.int .i64)) := owns_kept hO1 hk' (fun b e1 e2 => hsep b e2 e1)
          have HR : Hid (F2Rel d w (.int .i64 ((i : Int) + 2)) (w'.setCell ⟨w.heap.size, 0, none⟩ (.slice ao' (c0 + 1) cap'))) := by
            have hh := hij.out
            have hcc := HC.out
            have hpp := HP2.out
            refine ⟨i + 2, j + 1, c0 + 1, c1, .slice ao' (c0 + 1) cap', v1, ⟨by omega, by omega, by omega⟩, by rw [HL.out]; exact hi2, by go_num, heap_setCell_same _ _ _ _ _ _ hx', ?_, ?_, ?_, hb'.setCell (p := ⟨w.heap.size, 0, none⟩) (Nat.le_refl _) _⟩
            · rw [((HROW2.out c0 0) (by omega)).out]
              exact owns_kept hown hks (fun k hk e => by
                obtain ⟨cs, hcs⟩ := own_block_type hown hk
                exact block_ne hcs (e ▸ hx') (by decide) rfl)
            · exact owns_kept hOo hks (fun k hk e => by
                obtain ⟨cs, hcs⟩ := own_block_type hOo hk
                exact block_ne hcs (e ▸ hx') (by decide) rfl)
            · intro b e1 e2
              rcases hnew b e1 with e | e
              · exact hsep b e e2
              · have := (hO1.lt b e2).2; omega
          obtain ⟨p2, p3⟩ := two_cells hx'
          have fz : w'.frozen? ⟨w.heap.size, 0, none⟩ = false := frozen_of_row _ _ _ _ _ hx'
          clear hown hk' hO0 hO1 hOo hx' hks hnew
          go_wp2_with fail
          refine ⟨HR.out, ?_⟩
          simp [intOf] <;> omega
        · have hk : ((i : Int) / 2) % 2 = 1 := by have := hij.out.1; omega
          have hc : c1 = j / 2 ∧ c0 = (j + 1) / 2 := by have := hij.out; omega
          have HC := Lib.hid hc
          have HP2 := Lib.hid hp
          clear hc hp
          go_wp2_with (at_builtin; refine wpList_append_own_at2 rfl (.tmp 43) (.tmp 45) 52 3 rfl Try.underlying52 infoInt rfl w.heap.size v1 c1 _ rfl hO1 (.int .i64 x) rfl rfl ?_ ?_ ?_ ?_)
          case refine_1 => have := hij.out; have := HC.out; omega
          case refine_2 => have := hij.out; have := HC.out; unfold maxLen; omega
          case refine_3 => exact hb.size
          intro v' w' hown hk' hnew
          obtain ⟨ao', cap', rfl, _⟩ := own_slice hown
          have hx' := hk'.heap hx (fun e => by obtain ⟨cs, hcs⟩ := own_block_type hO1 e; exact block_ne hx hcs (by decide) rfl)
          have hks : Keeps (fun k => k = w.heap.size) w' (w'.setCell ⟨w.heap.size, 1, none⟩ (.slice ao' (c1 + 1) cap')) := (Keeps.refl (fun k => k = w.heap.size) w').setCell (p := ⟨w.heap.size, 1, none⟩) (.inr rfl) _
          have hb' := hb.trans (owns_below hO1 hk' hb.size)
          have hOo : w'.ownsRow w.heap.size 3 1 v0 c0 ((rowF d 2 0 c0).map (Value.int .i64)) := owns_kept hO0 hk' (fun b e1 e2 => hsep b e1 e2)
          have HR : Hid (F2Rel d w (.int .i64 ((i : Int) + 2)) (w'.setCell ⟨w.heap.size, 1, none⟩ (.slice ao' (c1 + 1) cap'))) := by
            have hh := hij.out
            have hcc := HC.out
            have hpp := HP2.out
            refine ⟨i + 2, j + 1, c0, c1 + 1, v0, .slice ao' (c1 + 1) cap', ⟨by omega, by omega, by omega⟩, by rw [HL.out]; exact hi2, by go_num, heap_setCell_same _ _ _ _ _ _ hx', ?_, ?_, ?_, hb'.setCell (p := ⟨w.heap.size, 1, none⟩) (Nat.le_refl _) _⟩
            · exact owns_kept hOo hks (fun k hk e => by
                obtain ⟨cs, hcs⟩ := own_block_type hOo hk
                exact block_ne hcs (e ▸ hx') (by decide) rfl)
            · rw [((HROW2.out c1 1) (by omega)).out]
              exact owns_kept hown hks (fun k hk e => by
                obtain ⟨cs, hcs⟩ := own_block_type hown hk
                exact block_ne hcs (e ▸ hx') (by decide) rfl)
            · intro b e1 e2
              rcases hnew b e2 with e | e
              · exact hsep b e1 e
              · have := (hO0.lt b e1).2; omega
          obtain ⟨p2, p3⟩ := two_cells hx'
          have fz : w'.frozen? ⟨w.heap.size, 1, none⟩ = false := frozen_of_row _ _ _ _ _ hx'
          clear hown hk' hO0 hO1 hOo hx' hks hnew
          go_wp2_with fail
          refine ⟨HR.out, ?_⟩
          simp [intOf] <;> omega
    · obtain rfl : i = len := by omega
      have hP : FillPost d 2 w (.returned (.tuple #[.slice (some ⟨w.heap.size, 0, none⟩) 2 2, .bool true])) wr := by
        have hh := hij.out
        have hhl := HL.out
        have hho := HOK.out
        refine ⟨some ⟨w.heap.size, 0, none⟩, 2, 2, true, rfl, ⟨fun _ => by rw [HL.out]; exact HOK.out, fun _ => rfl⟩, Nat.le_refl _, fun _ w2 hk2 => ?_, hb⟩
        have hO0 := owns_kept hO0 hk2 (fun k e => by have := (hO0.lt k e).1; omega)
        have hO1 := owns_kept hO1 hk2 (fun k e => by have := (hO1.lt k e).1; omega)
        have hx := hk2.heap hx (by omega)
        obtain ⟨ao0, cap0, rfl, hc0, hr0, hl0, _⟩ := own_slice hO0
        obtain ⟨ao1, cap1, rfl, hc1, hr1, hl1, _⟩ := own_slice hO1
        obtain ⟨p0, p1⟩ := two_cells hx
        refine ⟨fill_len d 2, by unfold maxLen; omega, fun q hq => ?_⟩
        have he : ∀ q, q < 2 → (fillL d 2).getD q [] = rowF d 2 q (d.length / (2 * 2)) := fun q hq => by
          unfold fillL rowF
          simp [List.getD, hq]
        rw [he q hq]
        rcases (show q = 0 ∨ q = 1 by omega) with rfl | rfl
        · rw [show d.length / (2 * 2) = c0 by omega]
          exact ⟨_, ao0, c0, cap0, rfl, p0, hc0, hr0.ints hl0 (rowF_wf (byt_of h.wf) 2 0 c0)⟩
        · rw [show d.length / (2 * 2) = c1 by omega]
          exact ⟨_, ao1, c1, cap1, rfl, p1, hc1, hr1.ints hl1 (rowF_wf (byt_of h.wf) 2 1 c1)⟩
      have HP := Lib.hid hP
      clear hP hO0 hO1
      go_wp2_with fail
      exact bodyPost_ret (v := .tuple #[.slice (some ⟨w.heap.size, 0, none⟩) 2 2, .bool true]) (by simp [results, Try.results23, go_sem]) rfl HP.out
theorem fill_any (ao : Option Addr) (len cap : Nat) (d : List Int) (n : Nat) (hn : n = 1 ∨ n = 2) (w : World) (h : Ints .u8 w ao len d) (hlc : len ≤ cap) (hl2 : len ≤ 100000000) : Calls Try.prog 23 #[.slice ao len cap, .int .i64 n] w (FillPost d n w) := by
  by_cases hok : d.length % (2 * n) = 0
  · rcases hn with rfl | rfl
    · exact fill_one ao len cap d w h hlc hl2 hok
    · exact fill_two ao len cap d w h hlc hl2 hok
  · exact fill_bad ao len cap d n hn w h hok
end Go.Proofs.Ytpbeehfafbgphaa

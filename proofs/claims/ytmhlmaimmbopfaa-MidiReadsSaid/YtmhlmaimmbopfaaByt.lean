/- The walk of midi.Bytes. -/
import Derived.Test.YtmhlmaimmbopfaaMsg
namespace Go.Proofs.Ytmhlmaimmbopfaa
open Go Go.RowKit Go.Calli
set_option linter.unusedVariables false
/-- Why no bytes: the first message that may not be, or that goes back. -/
def chk (l : List Msg) (n : Nat) (E : Int) : Prop := (E = 0 ∧ Good l n) ∨ (∃ i, i < n ∧ Good l i ∧ (((l.getD i m0).ok = false ∧ E = 1) ∨ ((l.getD i m0).ok = true ∧ (l.getD i m0).t < tm l i ∧ E = 5)))
def BytRel (l : List Msg) (n : Nat) (w : World) (v4 v5 v6 v15 : Value) (wr : World) : Prop := ∃ (k N : Nat), k ≤ n ∧ v15 = .int .i64 k ∧ v5 = .int .i64 (tm l k) ∧ v6 = .int .i64 (ss l k) ∧ Hid (N = (out l k).length) ∧ wr.ownsRow w.heap.size 5 1 v4 N ((out l k).map (Value.int .u8)) ∧ Hid (Good l k) ∧ Below w.heap.size w wr
def BytPost (l : List Msg) (n : Nat) (w : World) (e : Ending) (w' : World) : Prop := ∃ ro rn rc E, e = .returned (.tuple #[.slice ro rn rc, .int .i64 E]) ∧ rn ≤ rc ∧ Hid (chk l n E) ∧ (E ≠ 0 → rn = 0) ∧ (E = 0 → Ints .u8 w' ro rn (out l n)) ∧ Below w.heap.size w w'
theorem tm_bd {l : List Msg} {k : Nat} (h : Good l k) : 0 ≤ tm l k ∧ tm l k ≤ 268435455 := by
  cases k with
  | zero => simp [tm]
  | succ k =>
    have := (ok_iff _).1 (h k (by omega)).1
    exact ⟨this.2.1, this.2.2.1⟩
theorem ss_bd {l : List Msg} {k : Nat} (h : Good l k) : 0 ≤ ss l k ∧ ss l k ≤ 255 := by
  cases k with
  | zero => simp [ss]
  | succ k =>
    have h1 := (ok_iff _).1 (h k (by omega)).1
    have h2 := kind_of (h k (by omega)).1
    simp only [ss]; omega
theorem orKC : ∀ c, c < 16 → bits BinOp.or IntKind.i64 128 ((c : Nat) : Int) = 128 + (c : Nat) ∧ bits BinOp.or IntKind.i64 144 ((c : Nat) : Int) = 144 + (c : Nat) ∧ bits BinOp.or IntKind.i64 176 ((c : Nat) : Int) = 176 + (c : Nat) ∧ bits BinOp.or IntKind.i64 192 ((c : Nat) : Int) = 192 + (c : Nat) ∧ bits BinOp.or IntKind.i64 224 ((c : Nat) : Int) = 224 + (c : Nat) := by decide +kernel
theorem or_kc {m : Msg} (h : m.ok = true) : bits BinOp.or IntKind.i64 m.k m.c = m.k + m.c := by
  have h1 := (ok_iff m).1 h
  obtain ⟨c, hc⟩ : ∃ c : Nat, m.c = c := ⟨m.c.toNat, by omega⟩
  have h2 := orKC c (by omega)
  rw [hc]
  rcases kind_of h with e | e | e | e | e <;> rw [e]
  · exact h2.1
  · exact h2.2.1
  · exact h2.2.2.1
  · exact h2.2.2.2.1
  · exact h2.2.2.2.2
theorem five_app {w w' : World} {B n Z : Nat} {v : Value} {xs : List Value} {t k c a d : Int} (hown : w.ownsRow B 5 1 v n xs) (hk : Keeps (fun k => v.ownBlock = some k) w w') (h : Five w Z t k c a d) : Five w' Z t k c a d :=
  hk.heap h (fun hS => by
    obtain ⟨cs, hcs⟩ := own_block_type hown hS
    have h2 : w.heap[Z]? = _ := h
    rw [h2] at hcs; cases hcs)
theorem five_below {w w' : World} {Z : Nat} {t k c a d : Int} (h : Five w Z t k c a d) (hb : Below w.heap.size w w') : Five w' Z t k c a d := (hb.block _ (lt_of_block h)).trans h
theorem own_below {w w' : World} {B n : Nat} {v : Value} {xs : List Value} (h : w.ownsRow B 5 1 v n xs) (hb : Below w.heap.size w w') : w'.ownsRow B 5 1 v n xs := owns_kept (S := fun _ => False) h (Keeps.ofBelow hb (Nat.le_refl _)) (fun _ _ h => h)
set_option maxRecDepth 100000 in
set_option maxHeartbeats 4000000 in
theorem bytes_any (ao : Option Addr) (n cap : Nat) (l : List Msg) (hn : n ≤ 4096) (w : World) (h : Msgs w ao n l) : Calls Try.prog 15 #[.slice ao n cap] w (BytPost l n w) := by
  go_enter Try.func15, Try.ntmps15
  go_wp2_with fail
  go_loopw [4, 5, 6, 15] (fun v4 v5 v6 v15 wr => BytRel l n w v4 v5 v6 v15 wr) (fun _ _ _ v15 _ => (n - (intOf v15).toNat))
  case atStart => exact ⟨0, 0, by omega, rfl, rfl, rfl, rfl, World.ownsRow_nil _ _ _ _, fun i hi => by omega, Below.refl _ _⟩
  case round =>
    obtain ⟨k, N, hk, rfl, rfl, rfl, hN, hown, hg, hb⟩ := hrel
    by_cases hlt : k < n
    · obtain ⟨a, rfl, hAt⟩ := (h.keep0 hb).cell k hlt
      have htm := tm_bd hg.out
      have hss := ss_bd hg.out
      have hnext : Hid (tm l (k + 1) = (l.getD k m0).t ∧ ss l (k + 1) = (l.getD k m0).k + (l.getD k m0).c ∧ out l (k + 1) = out l k ++ enc (tm l k) (ss l k) (l.getD k m0)) := ⟨rfl, rfl, rfl⟩
      have holen : N ≤ 32768 := by have := out_len l k; have := hN.out; omega
      have HGS : Hid ((l.getD k m0).ok = true → tm l k ≤ (l.getD k m0).t → Good l (k + 1)) := fun h1 h2 i hi => by
        by_cases e : i = k
        · subst e; exact ⟨h1, h2⟩
        · exact hg.out i (by omega)
      have HCK : Hid (∀ E, (((l.getD k m0).ok = false ∧ E = 1) ∨ ((l.getD k m0).ok = true ∧ (l.getD k m0).t < tm l k ∧ E = 5)) → chk l n E) := fun E hE => .inr ⟨k, hlt, hg.out, hE⟩
      generalize l.getD k m0 = m at *
      generalize tm l k = T at *
      generalize ss l k = S at *
      obtain ⟨q0, q1, q2, q3, q4⟩ := hAt
      have hA := World.block_lt_of_cell? wr _ q0
      rw [Addr.add_block] at hA
      have hR := Lib.hid (fun w => right_any m.t m.k m.c m.a m.b w)
      have hz0 : Five (wr.alloc (.cells #[.int .i64 m.t, .int .i64 m.k, .int .i64 m.c, .int .i64 m.a, .int .i64 m.b] 23)) wr.heap.size m.t m.k m.c m.a m.b := heap_alloc_new _ _
      have hown1 := owns_kept (S := fun _ => False) hown (Keeps.ofBelow (below_alloc wr (.cells #[.int .i64 m.t, .int .i64 m.k, .int .i64 m.c, .int .i64 m.a, .int .i64 m.b] 23)) (Nat.le_refl _)) (fun _ _ h => h)
      have hb1 := balloc hb (.cells #[.int .i64 m.t, .int .i64 m.k, .int .i64 m.c, .int .i64 m.a, .int .i64 m.b] 23)
      have HZ0 := Lib.hid hz0
      clear hz0
      go_upto_region 8 with fail
      generalize wr.alloc (.cells #[.int .i64 m.t, .int .i64 m.k, .int .i64 m.c, .int .i64 m.a, .int .i64 m.b] 23) = W at *
      have hZW := lt_of_block HZ0.out
      obtain ⟨z0, z1, z2, z3, z4, -⟩ := Five.cells HZ0.out
      cases hok : m.ok with
      | false =>
        have HOK := Lib.hid (show rightB m.t m.k m.c m.a m.b = false from hok)
        have HC := Lib.hid (HCK.out 1 (.inl ⟨hok, rfl⟩))
        clear hok
        go_wp2_with (go_at_call 8; refine (hR.out _).mono ?_; rintro e w1 ⟨rfl, hb2⟩; rw [HOK.out])
        go_ret2
        exact ⟨none, 0, 0, 1, rfl, by omega, HC.out, fun _ => rfl, fun e => (by simp at e), bstep hb1 hb2⟩
      | true =>
        have HOK := Lib.hid (show rightB m.t m.k m.c m.a m.b = true from hok)
        have HMK := Lib.hid hok
        have hmr := (ok_iff m).1 hok
        obtain ⟨hmr0, hmr1, hmr2, hmr3, hmr4, hmr5, hmr6, hmr7, hmr8⟩ := hmr
        have hkk := kind_of hok
        have hor := or_kc hok
        have hkb : 128 ≤ m.k ∧ m.k ≤ 224 := by omega
        have HKK := Lib.hid hkk
        clear hmr0 hok hkk
        by_cases hback : m.t < T
        · have HC := Lib.hid (HCK.out 5 (.inr ⟨HMK.out, hback, rfl⟩))
          go_wp2_with (go_at_call 8; refine (hR.out _).mono ?_; rintro e w1 ⟨rfl, hb2⟩; rw [HOK.out]; obtain ⟨y0, y1, y2, y3, y4, -⟩ := Five.cells (five_below HZ0.out hb2))
          go_ret2
          exact ⟨none, 0, 0, 5, rfl, by omega, HC.out, fun _ => rfl, fun e => (by simp at e), bstep hb1 hb2⟩
        · have hTm : T ≤ m.t := by omega
          have HG1 := Lib.hid (HGS.out HMK.out hTm)
          obtain ⟨D, hD⟩ : ∃ D : Nat, m.t - T = D := ⟨(m.t - T).toNat, by omega⟩
          have hDl : D ≤ 268435455 := by omega
          have hnl := numL_len D
          have HEN := Lib.hid (show enc T S m = numL D ++ (if m.k + m.c = S then [] else [m.k + m.c]) ++ m.a :: (if twoB m.k = true then [m.b] else []) by unfold enc; rw [show (m.t - T).toNat = D by omega])
          go_upto_region 12 with (go_at_call 8; refine (hR.out _).mono ?_; rintro e w1 ⟨rfl, hb2⟩; rw [HOK.out]; obtain ⟨y0, y1, y2, y3, y4, -⟩ := Five.cells (five_below HZ0.out hb2))
          have HZ1 := Lib.hid (five_below HZ0.out hb2)
          have hown2 := own_below hown1 hb2
          have hb3 := bstep hb1 hb2
          clear z0 z1 z2 z3 z4 HZ0 hown1 hb1 hb2 hown hb q0 q1 q2 q3 q4
          have hn2 := Lib.hid (number_any D hDl)
          go_wp2_with (first | (go_at_call 7; refine (hn2.out _).mono ?_; rintro e w2 ⟨no, nn, nc, rfl, hnc, hni, hb4⟩; have HZ2 := Lib.hid (five_below HZ1.out hb4); have hown3 := own_below hown2 hb4; have hb5 := bstep hb3 hb4; have hnn := hni.hlen) | (at_builtin; refine wpList_append_row rfl (.tmp 28) (.tmp 33) 24 5 rfl Try.underlying24 infoByte rfl w.heap.size _ _ _ rfl hown3 no nn nc ((numL D).map (Value.int .u8)) rfl hni.row (one_ints _ _) hni.nil_len ?_ ?_ ?_ ?_))
          case refine_1 => have := hN.out; omega
          case refine_2 => have := hN.out; unfold maxLen; omega
          case refine_3 => exact hb5.size
          intro v4' w3 hown4 hk4
          have HZ3 := Lib.hid (five_app hown3 hk4 HZ2.out)
          have hb6 := hb5.trans (owns_below hown3 hk4 hb5.size)
          clear hown2 hown3 hk4 hb5 hb4 hb3 hni HZ1 HZ2 y0 y1 y2 y3 y4
          obtain ⟨y0, y1, y2, y3, y4, -⟩ := Five.cells HZ3.out
          go_upto_if 44 with fail
          go_cut [4, 6] (fun v4 v6 wx => ∃ N2 : Nat, v6 = .int .i64 (m.k + m.c) ∧ Hid (N2 = (out l k ++ numL D ++ (if m.k + m.c = S then [] else [m.k + m.c])).length) ∧ N2 ≤ N + 6 ∧ wx.ownsRow w.heap.size 5 1 v4 N2 ((out l k ++ numL D ++ (if m.k + m.c = S then [] else [m.k + m.c])).map (Value.int .u8)) ∧ Five wx wr.heap.size m.t m.k m.c m.a m.b ∧ Below w.heap.size w wx)
          case first =>
            by_cases hs : m.k + m.c = S
            · have hsb : (m.k + m.c != S) = false := by simpa using hs
              have HSS := Lib.hid hs
              clear hs
              go_wp2_with fail
              go_meet
              refine ⟨N + nn, by rw [HSS.out], ?_, by omega, ?_, HZ3.out, hb6⟩
              · have := hN.out
                unfold Hid
                rw [if_pos HSS.out]; simp; omega
              · rw [if_pos HSS.out]
                simpa using hown4
            · have hsb : (m.k + m.c != S) = true := by simpa using hs
              have HSS := Lib.hid hs
              clear hs
              go_wp2_with (at_builtin; refine wpList_append_one rfl (.tmp 45) (.tmp 48) 24 5 rfl Try.underlying24 infoByte rfl w.heap.size _ _ _ rfl hown4 (.int .u8 _) rfl rfl ?_ ?_ ?_ ?_)
              case refine_1 => have := hN.out; omega
              case refine_2 => have := hN.out; unfold maxLen; omega
              case refine_3 => exact hb6.size
              intro v5' w4 hown5 hk5
              have HZ4 := Lib.hid (five_app hown4 hk5 HZ3.out)
              have hb7 := hb6.trans (owns_below hown4 hk5 hb6.size)
              clear hown4 hk5
              go_wp2_with fail
              go_meet
              refine ⟨N + nn + 1, rfl, ?_, by omega, ?_, HZ4.out, hb7⟩
              · have := hN.out
                unfold Hid
                rw [if_neg HSS.out]; simp; omega
              · rw [if_neg HSS.out]
                simpa using hown5
          case rest =>
            obtain ⟨N2, rfl, hN2, hN26, hown5, hz4, hb7⟩ := hcut
            obtain ⟨w4, rfl⟩ : ∃ w', w' = wc := ⟨_, rfl⟩
            have HZ4 := Lib.hid hz4
            have HOUT := Lib.hid (show out l (k + 1) = (out l k ++ numL D ++ (if m.k + m.c = S then [] else [m.k + m.c])) ++ m.a :: (if twoB m.k = true then [m.b] else []) by rw [hnext.out.2.2, HEN.out]; simp)
            clear hz4 hown4 HZ3 hb6 y0 y1 y2 y3 y4 HEN
            generalize out l k ++ numL D ++ (if m.k + m.c = S then [] else [m.k + m.c]) = L2 at *
            obtain ⟨y0, y1, y2, y3, y4, -⟩ := Five.cells HZ4.out
            go_upto_region 18 with (at_builtin; refine wpList_append_one rfl (.tmp 51) (.tmp 55) 24 5 rfl Try.underlying24 infoByte rfl w.heap.size _ _ _ rfl hown5 (.int .u8 _) rfl rfl ?_ ?_ ?_ ?_)
            case refine_1 => omega
            case refine_2 => unfold maxLen; omega
            case refine_3 => exact hb7.size
            intro v6' w5 hown6 hk6
            have HZ5 := Lib.hid (five_app hown5 hk6 HZ4.out)
            have hb8 := hb7.trans (owns_below hown5 hk6 hb7.size)
            have hlen3 : Hid (N2 + 1 = (L2 ++ [m.a]).length) := by have := hN2.out; unfold Hid; simp; omega
            clear hown5 hk6 y0 y1 y2 y3 y4 HZ4 hb7
            obtain ⟨y0, y1, y2, y3, y4, -⟩ := Five.cells HZ5.out
            cases h2 : twoB m.k with
            | false =>
              have H2 := Lib.hid h2
              clear h2
              have hfin : Hid (out l (k + 1) = L2 ++ [m.a]) := by have := HOUT.out; rw [H2.out] at this; unfold Hid; simpa using this
              go_wp2_with (go_at_call 18; refine (two_any _ _).mono ?_; rintro e w' ⟨rfl, rfl⟩; rw [H2.out])
              go_roundw
              case rel => exact ⟨k + 1, N2 + 1, by omega, by go_num, by rw [hnext.out.1], by rw [hnext.out.2.1], by rw [hfin.out]; exact hlen3.out, by rw [hfin.out]; simpa using hown6, HG1.out, hb8⟩
              case measure => simp [intOf]; omega
            | true =>
              have H2 := Lib.hid h2
              clear h2
              have hfin : Hid (out l (k + 1) = L2 ++ [m.a] ++ [m.b]) := by have := HOUT.out; rw [H2.out] at this; unfold Hid; simpa using this
              go_wp2_with (first | (go_at_call 18; refine (two_any _ _).mono ?_; rintro e w' ⟨rfl, rfl⟩; rw [H2.out]) | (at_builtin; refine wpList_append_one rfl (.tmp 60) (.tmp 64) 24 5 rfl Try.underlying24 infoByte rfl w.heap.size _ _ _ rfl hown6 (.int .u8 _) rfl rfl ?_ ?_ ?_ ?_))
              case refine_1 => omega
              case refine_2 => unfold maxLen; omega
              case refine_3 => exact hb8.size
              intro v7' w6 hown7 hk7
              have hb9 := hb8.trans (owns_below hown6 hk7 hb8.size)
              clear hown6 hk7 y0 y1 y2 y3 y4 HZ5
              go_wp2_with fail
              go_roundw
              case rel => exact ⟨k + 1, N2 + 1 + 1, by omega, by go_num, by rw [hnext.out.1], by rw [hnext.out.2.1], by rw [hfin.out, List.length_append, ← hlen3.out]; rfl, by rw [hfin.out]; simpa using hown7, HG1.out, hb9⟩
              case measure => simp [intOf]; omega
    · obtain rfl : k = n := by omega
      obtain ⟨ro, rc, rfl, hrc, hrow, hrl, _, _⟩ := own_slice hown
      have hints := Lib.hid (hrow.ints hrl (out_wf l k hg.out))
      clear hrow hown
      go_wp2_with fail
      go_ret2
      exact ⟨ro, N, rc, 0, rfl, hrc, .inl ⟨rfl, hg.out⟩, fun e => absurd rfl e, fun _ => hints.out, hb⟩
end Go.Proofs.Ytmhlmaimmbopfaa

/- The walk of midi.Read. -/
import Derived.Test.YtmhlmaimmbopfaaLby
namespace Go.Proofs.Ytmhlmaimmbopfaa
open Go Go.RowKit Go.Calli
set_option linter.unusedVariables false
def MsgRes (bs : List Int) (n p : Nat) (t s : Int) (m : Msg) (E : Int) (p' t' s' : Int) : Prop :=
  (E = 0 → ∃ q : Nat, q ≤ n ∧ p' = q ∧ rdM t s (bs.drop p) = (0, m, bs.drop q) ∧ t' = m.t ∧ s' = m.k + m.c) ∧ (E ≠ 0 → (rdM t s (bs.drop p)).1 = E)
theorem msg_uni (b : Nat) (ao : Option Addr) (n cap : Nat) (bs : List Int) (p : Nat) (hp : p ≤ n) (hn : n ≤ 1000000) (t s : Int) (ht0 : 0 ≤ t) (ht1 : t ≤ 268435455) (hs : SOk s) (hab : ∀ a, ao = some a → a.block ≠ b) (w : World) (hi : Ints .u8 w ao n bs) (h : Rd w b (.slice ao n cap) p t s 0) : Calls Try.prog 21 #[.pointer (some ⟨b, 0, none⟩)] w fun e w' => ∃ (m : Msg) (E p' t' s' : Int), e = .returned (.agg #[.int .i64 m.t, .int .i64 m.k, .int .i64 m.c, .int .i64 m.a, .int .i64 m.b]) ∧ Hid (MsgRes bs n p t s m E p' t' s') ∧ Rd w' b (.slice ao n cap) p' t' s' E ∧ Keeps (fun k => k = b) w w' := by
  have hB := bytes8_drop hi p
  refine (msg_any b ao n cap bs p hp hn t s ht0 ht1 hs hab w hi h).mono ?_
  rcases hM : rdM t s (bs.drop p) with ⟨E, m, R⟩
  rintro e w1 (⟨h1, h2, rfl, h3, h4⟩ | ⟨h1, x0, x1, x2, x3, x4, rfl, p', t', s', h3, h4⟩)
  · simp only at h1 h2 h3
    subst h1
    obtain ⟨g1, g2, g3, g4, g5⟩ := rdM_back hB ht0 hs hM
    have hsf := suf hi.hlen g1 hp
    exact ⟨m, 0, _, _, _, rfl, ⟨fun _ => ⟨n - R.length, by omega, rfl, by rw [hM, ← hsf.1], rfl, rfl⟩, fun e => absurd rfl e⟩, h3, h4⟩
  · simp only at h1 h3
    exact ⟨⟨x0, x1, x2, x3, x4⟩, E, p', t', s', rfl, ⟨fun e => absurd e h1, fun _ => by rw [hM]⟩, h3, h4⟩
def ReadPost (bs : List Int) (n : Nat) (w : World) (e : Ending) (w' : World) : Prop := ∃ ro rn rc, e = .returned (.tuple #[.slice ro rn rc, .int .i64 (decL n 0 0 bs).1]) ∧ rn ≤ rc ∧ ((decL n 0 0 bs).1 ≠ 0 → rn = 0) ∧ ((decL n 0 0 bs).1 = 0 → rn ≤ n ∧ Msgs w' ro rn (decL n 0 0 bs).2) ∧ Below w.heap.size w w'
def ReadRel (ao : Option Addr) (n cap : Nat) (bs : List Int) (R : Nat) (w : World) (v5 : Value) (wr : World) : Prop := ∃ (xs : List Msg) (t s : Int) (q f N : Nat), Rd wr R (.slice ao n cap) (q : Nat) t s 0 ∧ q ≤ n ∧ 0 ≤ t ∧ t ≤ 268435455 ∧ SOk s ∧ Hid (comb xs (decL f t s (bs.drop q)) = decL n 0 0 bs) ∧ n - q ≤ f ∧ Hid (N = xs.length) ∧ N ≤ q ∧ wr.ownsRow w.heap.size 23 5 v5 N (flat xs) ∧ Below w.heap.size w wr
def posOf (w : World) (R : Nat) : Nat := match w.cell? ⟨R, 1, none⟩ with
  | some (.int _ z) => z.toNat
  | _ => 0
theorem rd_posOf {w : World} {b : Nat} {sl : Value} {p : Nat} {t s e : Int} (h : Rd w b sl p t s e) : posOf w b = p := by
  unfold posOf; rw [(rd_cells h).2.1]; simp
theorem own_below23 {w w' : World} {B n : Nat} {v : Value} {xs : List Value} (h : w.ownsRow B 23 5 v n xs) (hb : Below w.heap.size w w') : w'.ownsRow B 23 5 v n xs := owns_kept (S := fun _ => False) h (Keeps.ofBelow hb (Nat.le_refl _)) (fun _ _ h => h)
theorem own_kept23 {w w' : World} {B n R : Nat} {v : Value} {xs : List Value} {sl : Value} {p t s e : Int} (h : w.ownsRow B 23 5 v n xs) (hR : Rd w R sl p t s e) (hk : Keeps (fun k => k = R) w w') : w'.ownsRow B 23 5 v n xs := owns_kept h hk (fun k hk2 e2 => by
  obtain ⟨cs, hcs⟩ := own_block_type h hk2
  have e3 : k = R := e2
  have h2 : w.heap[R]? = _ := hR
  rw [e3, h2] at hcs; cases hcs)
theorem rd_app {w w' : World} {B n R : Nat} {v : Value} {xs : List Value} {sl : Value} {p t s e : Int} (hown : w.ownsRow B 23 5 v n xs) (hk : Keeps (fun k => v.ownBlock = some k) w w') (h : Rd w R sl p t s e) : Rd w' R sl p t s e :=
  hk.heap h (fun hS => by
    obtain ⟨cs, hcs⟩ := own_block_type hown hS
    have h2 : w.heap[R]? = _ := h
    rw [h2] at hcs; cases hcs)
theorem owns_below23 {w w' : World} {B n : Nat} {v : Value} {xs : List Value} (h : w.ownsRow B 23 5 v n xs) (hk : Keeps (fun k => v.ownBlock = some k) w w') (hB : B ≤ w.heap.size) : Below B w w' :=
  hk.toBelow hB fun k hkB hv => by have := (h.lt k hv).1; omega
theorem kept_below {b : Nat} {a w w' : World} (h : Below a.heap.size a w) (hb : a.heap.size ≤ b) (hk : Keeps (fun k => k = b) w w') : Below a.heap.size a w' :=
  h.trans (hk.toBelow h.size fun k hk e => by omega)
theorem read_zero (ao : Option Addr) (cap : Nat) (bs : List Int) (w : World) : Calls Try.prog 16 #[.slice ao 0 cap] w (ReadPost bs 0 w) := by
  have hR0 : Rd (w.alloc (.cells #[.slice ao 0 cap, .int .i64 0, .int .i64 0, .int .i64 0, .int .i64 0] 49)) w.heap.size (.slice ao 0 cap) (0 : Nat) 0 0 0 := heap_alloc_new _ _
  have hb0 := below_alloc w (.cells #[.slice ao 0 cap, .int .i64 0, .int .i64 0, .int .i64 0, .int .i64 0] 49)
  go_enter Try.func16, Try.ntmps16
  go_wp2_with fail
  refine wp_loop_once ?_
  go_wp2_with fail
  go_ret2
  exact ⟨none, 0, 0, rfl, by omega, fun _ => rfl, fun _ => ⟨by omega, Msgs.nil _ _⟩, hb0⟩
set_option maxRecDepth 100000 in
set_option maxHeartbeats 4000000 in
theorem read_any (ao : Option Addr) (n cap : Nat) (bs : List Int) (hn : n ≤ 4096) (w : World) (hi : Ints .u8 w ao n bs) : Calls Try.prog 16 #[.slice ao n cap] w (ReadPost bs n w) := by
  rcases Nat.eq_zero_or_pos n with h0 | hpos
  · subst h0
    exact read_zero ao cap bs w
  have hbl := Lib.hid hi.hlen
  have hR0 : Rd (w.alloc (.cells #[.slice ao n cap, .int .i64 0, .int .i64 0, .int .i64 0, .int .i64 0] 49)) w.heap.size (.slice ao n cap) (0 : Nat) 0 0 0 := heap_alloc_new _ _
  have hb0 := below_alloc w (.cells #[.slice ao n cap, .int .i64 0, .int .i64 0, .int .i64 0, .int .i64 0] 49)
  have hab : ∀ a, ao = some a → a.block ≠ w.heap.size := fun a ha e => by
    have := hi.under hpos a ha
    omega
  have HAB := Lib.hid hab
  have HI := Lib.hid hi
  generalize hd : decL n 0 0 bs = d
  have HD := Lib.hid hd
  clear hi hab hd
  go_enter Try.func16, Try.ntmps16
  go_wp2_with fail
  go_loopw [5, 6] (fun v5 v6 wr => ReadRel ao n cap bs w.heap.size w v5 wr) (fun _ _ wr => n - posOf wr w.heap.size)
  case atStart => exact ⟨[], 0, 0, 0, n, 0, hR0, by omega, by omega, by omega, ⟨by omega, by omega⟩, by unfold Hid; rw [comb_nil _ (decL_nil _ _ _ _)]; rfl, by omega, rfl, by omega, World.ownsRow_nil _ _ _ _, hb0⟩
  case round =>
    clear hR0 hb0
    obtain ⟨xs, t, s, q, f, N, hR, hq, ht0, ht1, hs, hcomb, hf, hN, hNq, hown, hb⟩ := hrel
    rw [HD.out] at hcomb
    obtain ⟨c0, c1, c2, c3, c4, f1, f2, f3, f4⟩ := rd_cells hR
    have HPOS := Lib.hid (rd_posOf hR)
    have HRR := Lib.hid hR
    have hRsz := lt_of_block hR
    by_cases hlt : q < n
    · have hiq := HI.out.keep0 hb
      have hmsg := Lib.hid (msg_uni w.heap.size ao n cap bs q hq (by omega) t s ht0 ht1 hs HAB.out wr hiq hR)
      obtain ⟨f, rfl⟩ : ∃ g, f = g + 1 := ⟨f - 1, by omega⟩
      have hL : bs.drop q ≠ [] := by rw [ne_eq, List.drop_eq_nil_iff, hbl.out]; omega
      have HL := Lib.hid hL
      have HS := Lib.hid hs
      clear hR hL hs hiq
      go_upto_region 5 with (go_at_call 21; refine hmsg.out.mono ?_; rintro e w1 ⟨m, E, p', t', s', rfl, hM, h1, hk1⟩)
      have hb1 := kept_below hb (Nat.le_refl _) hk1
      have hown1 := own_kept23 hown HRR.out hk1
      have hR2 := h1.keep0 (below_alloc w1 (.cells #[.int .i64 m.t, .int .i64 m.k, .int .i64 m.c, .int .i64 m.a, .int .i64 m.b] 23))
      have hown2 := own_below23 hown1 (below_alloc w1 (.cells #[.int .i64 m.t, .int .i64 m.k, .int .i64 m.c, .int .i64 m.a, .int .i64 m.b] 23))
      have hb2 := balloc hb1 (.cells #[.int .i64 m.t, .int .i64 m.k, .int .i64 m.c, .int .i64 m.a, .int .i64 m.b] 23)
      have hm0 : Five (w1.alloc (.cells #[.int .i64 m.t, .int .i64 m.k, .int .i64 m.c, .int .i64 m.a, .int .i64 m.b] 23)) w1.heap.size m.t m.k m.c m.a m.b := heap_alloc_new _ _
      clear c0 c1 c2 c3 c4 f1 f2 f3 f4 hown hb hk1 h1 hown1 hb1 hmsg
      generalize w1.alloc (.cells #[.int .i64 m.t, .int .i64 m.k, .int .i64 m.c, .int .i64 m.a, .int .i64 m.b] 23) = W at *
      obtain ⟨c0, c1, c2, c3, c4, f1, f2, f3, f4⟩ := rd_cells hR2
      obtain ⟨y0, y1, y2, y3, y4, -⟩ := hm0.cells
      have HR2 := Lib.hid hR2
      clear hm0 hR2
      by_cases hE : E = 0
      · subst hE
        obtain ⟨q', hq', rfl, hM2, rfl, rfl⟩ := hM.out.1 rfl
        have hB8 := bytes8_drop HI.out q
        have hbk := rdM_back hB8 ht0 HS.out hM2
        have hln := rdM_len hB8 ht0 HS.out hM2
        rw [List.length_drop, List.length_drop, hbl.out] at hln
        have hst := comb_step xs f t s (bs.drop q) (bs.drop q') m HL.out hM2
        rw [hcomb.out] at hst
        have HST := Lib.hid hst.symm
        have hmo := (ok_iff m).1 hbk.2.1
        have hmt0 : 0 ≤ m.t := hmo.2.1
        have hmt1 : m.t ≤ 268435455 := hmo.2.2.1
        have HSS := Lib.hid hbk.2.2.2.1
        have hN4 : ((N : Int) == 4096) = false := by simp; omega
        clear hM hM2 hB8 hbk hst hmo
        obtain ⟨xo, xc, rfl, hxc, -, -⟩ := own_msgs hown2
        go_wp2_with (at_builtin; refine wpList_append_rec rfl (.tmp 31) (.tmp 33) 29 23 5 rfl Try.underlying29 infoMsg rfl (by decide) w.heap.size _ _ _ rfl hown2 (vals5 m) rfl rfl (vals5_one m) ?_ ?_ ?_ ?_)
        case refine_1 => omega
        case refine_2 => unfold maxLen; omega
        case refine_3 => exact hb2.size
        intro v' w3 hown3 hk3
        have hR3 := rd_app hown2 hk3 HR2.out
        have hb3 := hb2.trans (owns_below23 hown2 hk3 hb2.size)
        have hlen : Hid (N + 1 = (xs ++ [m]).length) := by have := hN.out; unfold Hid; simp; omega
        have HP3 := Lib.hid (rd_posOf hR3)
        have HR3 := Lib.hid hR3
        clear hown2 hk3 hb2 c0 c1 c2 c3 c4 f1 f2 f3 f4 y0 y1 y2 y3 y4 HR2 hR3
        go_wp2_with fail
        go_roundw
        case rel => exact ⟨xs ++ [m], m.t, m.k + m.c, q', f, N + 1, HR3.out, hq', hmt0, hmt1, HSS.out, by rw [HD.out]; exact HST.out, by omega, hlen.out, by omega, by rw [flat_snoc]; exact hown3, hb3⟩
        case measure => rw [HP3.out, HPOS.out]; omega
      · have hM2 := hM.out.2 hE
        have hst := comb_err xs f t s (bs.drop q) HL.out (by rw [hM2]; exact hE)
        rw [hcomb.out, hM2] at hst
        have HST := Lib.hid hst
        have hEb : (E == 0) = false := by simpa using hE
        have HE := Lib.hid hE
        clear hM hM2 hst hE
        go_upto_region 6 with fail
        go_quiet (fail)
        go_wp2_with fail
        go_ret2
        refine ⟨none, 0, 0, ?_, by omega, fun _ => rfl, fun e => ?_, ((Keeps.ofBelow hb2 (Nat.le_refl _) : Keeps (fun _ => False) w W).drewN _).toBelow (Nat.le_refl _) (fun _ _ h => h)⟩
        · show Ending.returned (.tuple #[.slice none 0 0, .int .i64 E]) = _
          rw [HD.out, HST.out]
        · rw [HD.out, HST.out] at e; exact absurd e HE.out
    · obtain rfl : q = n := by omega
      have hL : bs.drop q = [] := by rw [List.drop_eq_nil_iff, hbl.out]; omega
      have hc := hcomb.out
      rw [hL, comb_end] at hc
      have HC := Lib.hid hc.symm
      obtain ⟨ro, rc, rfl, hrc, hms, _⟩ := own_msgs hown
      have HMS := Lib.hid hms
      clear hL hc hms hown hR
      go_wp2_with fail
      go_ret2
      refine ⟨ro, N, rc, by (show Ending.returned (.tuple #[.slice ro N rc, .int .i64 0]) = _); rw [HD.out, HC.out], hrc, fun e => ?_, fun _ => ⟨hNq, ?_⟩, hb⟩
      · rw [HD.out, HC.out] at e; exact absurd rfl e
      · rw [HD.out, HC.out]; exact HMS.out
end Go.Proofs.Ytmhlmaimmbopfaa

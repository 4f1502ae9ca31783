/- The walks of crc.Parts and of the statement CrcParts: bytes in parts. -/
import Derived.Test.YtcomagpinnbkaaaCrcState
namespace Go.Proofs.Ytcomagpinnbkaaa
open Go.RowKit Go.Calli
/-- A value that is a slice of these bytes. -/
def IsBytes (w : World) (v : Value) (bs : List Int) : Prop := ∃ ao len cap, v = .slice ao len cap ∧ len ≤ cap ∧ Ints .u8 w ao len bs
theorem IsBytes.keep {w w' : World} {v : Value} {bs : List Int} (h : IsBytes w v bs) (hb : Below w.heap.size w w') : IsBytes w' v bs := by
  obtain ⟨ao, len, cap, rfl, hl, hi⟩ := h
  exact ⟨ao, len, cap, rfl, hl, hi.keep0 hb⟩
/-- A slice of slices of bytes: the values, and what each reads as. -/
structure Many (w : World) (ao : Option Addr) (n : Nat) (L : List (Value × List Int)) : Prop where
  row : Row w ao n (L.map Prod.fst)
  each : ∀ p ∈ L, IsBytes w p.1 p.2
  lim : n ≤ maxLen
def flat (L : List (Value × List Int)) : List Int := (L.map Prod.snd).flatten
theorem flat_snoc (L : List (Value × List Int)) (p : Value × List Int) : flat (L ++ [p]) = flat L ++ p.2 := by simp [flat]
theorem Many.at {w : World} {ao : Option Addr} {n : Nat} {L : List (Value × List Int)} (h : Many w ao n L) {k : Nat} (hk : k < n) :
    ∃ a v bs, ao = some a ∧ L[k]? = some (v, bs) ∧ w.cell? (a.add k) = some v ∧ IsBytes w v bs ∧ flat (L.take (k + 1)) = flat (L.take k) ++ bs := by
  have hn : L.length = n := by have := h.row.hlen; simpa using this
  have hkl : k < L.length := by omega
  obtain ⟨a, ha, hc⟩ := h.row.cell k (L[k]).1 (by simp [hkl])
  refine ⟨a, (L[k]).1, (L[k]).2, ha, by simp [hkl], hc, h.each _ (List.getElem_mem _), ?_⟩
  rw [List.take_succ_eq_append_getElem hkl, flat_snoc]

theorem Many.wf {w : World} {ao : Option Addr} {n : Nat} {L : List (Value × List Int)} (h : Many w ao n L) (k : Nat) : ∀ c ∈ flat (L.take k), (Lit.int .u8 c).wf = true := by
  intro c hc
  simp only [flat, List.mem_flatten, List.mem_map] at hc
  obtain ⟨l, ⟨p, hp, rfl⟩, hc⟩ := hc
  obtain ⟨_, _, _, _, _, hi⟩ := h.each p (List.mem_of_mem_take hp)
  exact hi.wf c hc
theorem flat_le (L : List (Value × List Int)) (k : Nat) : (flat (L.take k)).length ≤ (flat L).length := by
  have : flat L = flat (L.take k) ++ flat (L.drop k) := by
    unfold flat; rw [← List.flatten_append, ← List.map_append, List.take_append_drop]
  rw [this, List.length_append]; omega
theorem Many.keep {w w' : World} {ao : Option Addr} {n : Nat} {L : List (Value × List Int)} (h : Many w ao n L) (hb : Below w.heap.size w w') : Many w' ao n L :=
  ⟨h.row.keep0 hb, fun p hp => (h.each p hp).keep hb, h.lim⟩
theorem Many.len {w : World} {ao : Option Addr} {n : Nat} {L : List (Value × List Int)} (h : Many w ao n L) : L.length = n := by have := h.row.hlen; simpa using this

set_option maxRecDepth 10000 in
set_option maxHeartbeats 400000 in
theorem parts_any (ao : Option Addr) (n cap : Nat) (L : List (Value × List Int)) (w : World) (h : Many w ao n L) (hbd : (flat L).length ≤ 9223372036854775807) :
    Calls Try.prog 16 #[.slice ao n cap] w fun e w' => e = .returned (.int .u32 (crcOf (flat L))) ∧ Below w.heap.size w w' := by
  have hm := h.lim
  unfold maxLen at hm
  go_enter Try.func16, Try.ntmps16
  go_wp2_with (go_at_call 15; refine (new_any _).mono ?_; rintro e w1 ⟨b, rfl, hb, hs, hb1⟩; have HS := Lib.hid hs; clear hs)
  go_loopw [9] (fun i wr => ∃ k : Nat, k ≤ n ∧ i = .int .i64 k ∧ wr.heap[b]? = some (.cells (stCells (reg (flat (L.take k))) (flat (L.take k)).length) 42 (0, 0)) ∧ Below w.heap.size w wr) (fun i _ => (n - intOf i).toNat)
  case atStart => exact ⟨0, by omega, rfl, HS.out, hb1⟩
  case round =>
    obtain ⟨k, hk, rfl, h1, hw⟩ := hrel
    by_cases hlt : k < n
    · obtain ⟨a, v, bs, rfl, hv, hc, ⟨a1, l1, c1, rfl, hl1, hi1⟩, hfl⟩ := h.at hlt
      have hc' := cell_later hw hc
      have hi1' := hi1.keep0 hw
      have hap : 0 < l1 → ∀ x, a1 = some x → x.block ≠ b := fun hp x hx e => by have := hi1.under hp x hx; omega
      have hzs := h.wf k
      have hbd' : (flat (L.take k)).length + l1 ≤ 9223372036854775807 := by
        have := flat_le L (k + 1); rw [hfl, List.length_append, hi1.hlen] at this; omega
      have H1 := Lib.hid h1
      have HV := Lib.hid hv
      have HF := Lib.hid hfl
      clear h1 hv hfl hc
      go_wp2_with (go_at_call 12; refine (write_any b a1 l1 c1 _ bs _ hi1' hzs hap H1.out hbd').mono ?_; rintro e w2 ⟨rfl, hg, hs2⟩; have HS2 := Lib.hid hs2; clear hs2)
      go_roundw
      case rel => exact ⟨k + 1, by omega, by go_num, by rw [HF.out]; exact HS2.out, hw.trans (hg.toBelow hw.size (fun k hk e => by omega))⟩
      case measure => simp [intOf]; omega
    · obtain rfl : k = n := by omega
      have hzs := h.wf k
      have H1 := Lib.hid h1
      clear h1
      go_wp2_with (go_at_call 13; refine (stsum_any b _ _ hzs H1.out).mono ?_; rintro e w2 ⟨rfl, rfl⟩)
      go_ret
      exact ⟨ret_int (by rw [List.take_of_length_le (by rw [h.len]; omega)]), hw⟩

theorem infoByte : (Try.prog.info? 5).map (fun i => (i.zero, i.size, i.bytes)) = some (some (.int .u8 0), 1, 1) := by kernel_rfl
theorem infoBytes : (Try.prog.info? 22).map (fun i => (i.zero, i.size, i.bytes)) = some (some (.slice none 0 0), 1, 24) := by kernel_rfl

/-- The statement's cut: at most 200 bytes. -/
def cutOne : Value × List Int → Value × List Int
  | (.slice a l c, bs) => if 200 < l then (.slice a 200 c, bs.take 200) else (.slice a l c, bs)
  | p => p
theorem cut_bytes {w : World} {v : Value} {bs : List Int} (h : IsBytes w v bs) : IsBytes w (cutOne (v, bs)).1 (cutOne (v, bs)).2 ∧ (cutOne (v, bs)).2.length ≤ 200 := by
  obtain ⟨ao, len, cap, rfl, hl, hi⟩ := h
  unfold cutOne
  by_cases h2 : 200 < len
  · simp only [h2, if_true]
    exact ⟨⟨ao, 200, cap, rfl, by omega, hi.take (by omega)⟩, by rw [List.length_take]; omega⟩
  · simp only [h2, if_false]
    exact ⟨⟨ao, len, cap, rfl, hl, hi⟩, by rw [hi.hlen]; omega⟩
def cuts (L : List (Value × List Int)) (k : Nat) : List (Value × List Int) := (L.take k).map cutOne
theorem cuts_len (L : List (Value × List Int)) (k : Nat) (h : k ≤ L.length) : (cuts L k).length = k := by simp [cuts]; omega
theorem cuts_snoc {L : List (Value × List Int)} {k : Nat} {p : Value × List Int} (h : L[k]? = some p) : cuts L (k + 1) = cuts L k ++ [cutOne p] := by
  obtain ⟨hk, rfl⟩ := List.getElem?_eq_some_iff.1 h
  unfold cuts; rw [List.take_succ_eq_append_getElem hk, List.map_append]; rfl
theorem Many.cuts {w : World} {ao : Option Addr} {n : Nat} {L : List (Value × List Int)} (h : Many w ao n L) (k : Nat) : ∀ p ∈ cuts L k, IsBytes w p.1 p.2 ∧ p.2.length ≤ 200 := by
  intro p hp
  simp only [Ytcomagpinnbkaaa.cuts, List.mem_map] at hp
  obtain ⟨⟨v, bs⟩, hq, rfl⟩ := hp
  exact cut_bytes (h.each _ (List.mem_of_mem_take hq))
theorem flat_short (L : List (Value × List Int)) (h : ∀ p ∈ L, p.2.length ≤ 200) : (flat L).length ≤ 200 * L.length := by
  induction L with
  | nil => simp [flat]
  | cons p r ih =>
    have h1 := ih (fun q hq => h q (by simp [hq]))
    have h2 := h p (by simp)
    simp only [flat, List.map_cons, List.flatten_cons, List.length_append, List.length_cons] at *
    omega
theorem flat_wf {w : World} (L : List (Value × List Int)) (h : ∀ p ∈ L, IsBytes w p.1 p.2) : ∀ c ∈ flat L, (Lit.int .u8 c).wf = true := by
  intro c hc
  simp only [flat, List.mem_flatten, List.mem_map] at hc
  obtain ⟨l, ⟨p, hp, rfl⟩, hc⟩ := hc
  obtain ⟨_, _, _, _, _, hi⟩ := h p hp
  exact hi.wf c hc

/-- What holds at the head of a round of the statement's loop. -/
structure PartsAt (W : World) (b : Nat) (C : List (Value × List Int)) (v4 v5 : Value) (wr : World) : Prop where
  st : wr.heap[b]? = some (.cells (stCells (reg (flat C)) (flat C).length) 42 (0, 0))
  all : wr.ownsRow W.heap.size 5 1 v4 (flat C).length ((flat C).map (Value.int .u8))
  parts : wr.ownsRow W.heap.size 22 1 v5 C.length (C.map Prod.fst)
  below : Below W.heap.size W wr

theorem PartsAt.ne4 {W : World} {b : Nat} {C : List (Value × List Int)} {v4 v5 : Value} {wr : World} (h : PartsAt W b C v4 v5 wr) : ∀ k, v4.ownBlock = some k → ¬ k = b := fun k hk => by
  obtain ⟨cs, hc⟩ := own_block_type h.all hk
  exact block_ne hc h.st (by decide)
theorem PartsAt.ne5 {W : World} {b : Nat} {C : List (Value × List Int)} {v4 v5 : Value} {wr : World} (h : PartsAt W b C v4 v5 wr) : ∀ k, v5.ownBlock = some k → ¬ k = b := fun k hk => by
  obtain ⟨cs, hc⟩ := own_block_type h.parts hk
  exact block_ne hc h.st (by decide)
theorem PartsAt.ne45 {W : World} {b : Nat} {C : List (Value × List Int)} {v4 v5 : Value} {wr : World} (h : PartsAt W b C v4 v5 wr) : v4.ownBlock = none ∨ v4.ownBlock ≠ v5.ownBlock := by
  cases h4 : v4.ownBlock with
  | none => exact .inl rfl
  | some k =>
    refine .inr fun e => ?_
    obtain ⟨cs, hc⟩ := own_block_type h.all h4
    obtain ⟨ds, hd⟩ := own_block_type h.parts e.symm
    exact block_ne hc hd (by decide) rfl
theorem owns_ne {w : World} {B e B' e' : Nat} {v v' : Value} {n n' : Nat} {xs xs' : List Value} (h : w.ownsRow B e 1 v n xs) (h' : w.ownsRow B' e' 1 v' n' xs') (he : e ≠ e') : v.ownBlock = none ∨ v.ownBlock ≠ v'.ownBlock := by
  cases h4 : v.ownBlock with
  | none => exact .inl rfl
  | some k =>
    refine .inr fun e => ?_
    obtain ⟨cs, hc⟩ := own_block_type h h4
    obtain ⟨ds, hd⟩ := own_block_type h' e.symm
    exact block_ne hc hd he rfl
theorem own_none_or {v : Value} {o : Option Nat} (h : ∀ k, v.ownBlock = some k → ¬ some k = o) : v.ownBlock = none ∨ v.ownBlock ≠ o := by
  cases hv : v.ownBlock with
  | none => exact .inl rfl
  | some k => exact .inr (h k hv)

set_option maxRecDepth 10000 in
set_option maxHeartbeats 1000000 in
theorem crcParts_any (ao : Option Addr) (n cap : Nat) (L : List (Value × List Int)) (w : World) (h : Many w ao n L) :
    Calls Try.prog 6 #[.slice ao n cap] w fun e w' => e = .returned (.bool true) ∧ Below w.heap.size w w' := by
  have hm := h.lim
  have hL := Lib.hid h.len
  unfold maxLen at hm
  obtain ⟨i5, hi5, hz5, hs5, hb5⟩ := info_parts infoByte
  obtain ⟨i22, hi22, hz22, hs22, hb22⟩ := info_parts infoBytes
  go_enter Try.func6, Try.ntmps6
  go_wp2_with (go_at_call 15; refine (new_any _).mono ?_; rintro e w1 ⟨b, rfl, hb, hs, hb1⟩; have HS := Lib.hid hs; clear hs)
  go_loopw [4, 5, 6] (fun v4 v5 i wr => ∃ k : Nat, k ≤ n ∧ k ≤ 20 ∧ i = .int .i64 k ∧ PartsAt w b (cuts L k) v4 v5 wr) (fun _ _ i _ => (n - intOf i).toNat)
  case atStart => exact ⟨0, by omega, by omega, rfl, HS.out, World.ownsRow_nil _ _ _ _, World.ownsRow_nil _ _ _ _, hb1⟩
  case round =>
    obtain ⟨k, hk, hk20, rfl, hR⟩ := hrel
    by_cases hlt : k < n ∧ k < 20
    · obtain ⟨a4, c4, rfl, -, -, -, -, -⟩ := own_slice hR.all
      obtain ⟨a5, c5, rfl, -, -, -, -, -⟩ := own_slice hR.parts
      obtain ⟨hlt, hlt20⟩ := hlt
      obtain ⟨a, v, bs, rfl, hv, hc, ⟨a1, l1, c1, rfl, hl1, hi1⟩, -⟩ := h.at hlt
      have hc' := cell_later hR.below hc
      have hC : ∃ l2 bs2, cuts L (k + 1) = cuts L k ++ [(.slice a1 l2 c1, bs2)] ∧ Ints .u8 w a1 l2 bs2 ∧ l2 ≤ 200 ∧ ((200 < l1 ∧ l2 = 200) ∨ (¬ 200 < l1 ∧ l2 = l1)) := by
        have e := cuts_snoc hv
        by_cases h2 : 200 < l1
        · exact ⟨200, bs.take 200, by rw [e]; simp [cutOne, h2], hi1.take (by omega), by omega, .inl ⟨h2, rfl⟩⟩
        · exact ⟨l1, bs, by rw [e]; simp [cutOne, h2], hi1, by omega, .inr ⟨h2, rfl⟩⟩
      obtain ⟨l2, bs2, hC, hi2, hl2, hA⟩ := hC
      have hi2' := hi2.keep0 hR.below
      have hm2 := h.cuts k
      have hm3 := h.cuts (k + 1)
      have hCl := cuts_len L k (by rw [hL.out]; omega)
      have hfl : (flat (cuts L k)).length ≤ 4000 := by have := flat_short _ (fun p hp => (hm2 p hp).2); omega
      have hCle : (cuts L k).length ≤ 20 := by omega
      have hzs := flat_wf _ (fun p hp => (hm2 p hp).1)
      have hzs3 := flat_wf _ (fun p hp => (hm3 p hp).1)
      have hap : 0 < l2 → ∀ x, a1 = some x → x.block ≠ b := fun hp x hx e => by have := hi2.under hp x hx; omega
      have hf3 : flat (cuts L (k + 1)) = flat (cuts L k) ++ bs2 := by rw [hC, flat_snoc]
      have HC := Lib.hid hC
      have HF := Lib.hid hf3
      have HLN := Lib.hid hCl
      have HR := Lib.hid hR
      clear hC hf3 hCl hv hc hR
      generalize cuts L k = C at *
      generalize hgen : cuts L (k + 1) = C' at *
      have HG := Lib.hid hgen
      clear hgen
      have hbd : (flat C).length + l2 ≤ 9223372036854775807 := by omega
      have hb2l := Lib.hid hi2.hlen
      have hcs := Lib.hid hlt
      go_upto_if 26 with (fail)
      go_cut [7] (fun v7 wx => v7 = .slice a1 l2 c1 ∧ wr = wx)
      case first =>
        rcases hA with ⟨h200, rfl⟩ | ⟨h200, rfl⟩
        all_goals
          go_wp2
          go_meet
          exact ⟨rfl, rfl⟩
      case rest =>
        obtain ⟨rfl, rfl⟩ := hcut
        go_wp2_with (first | (go_at_call 12; refine (write_any b a1 _ c1 _ bs2 _ hi2' hzs hap HR.out.st hbd).mono ?_; rintro e w2 ⟨rfl, hg, hs2⟩; have HS2 := Lib.hid hs2; clear hs2; have hown5 := owns_kept HR.out.parts hg HR.out.ne5; have hown4 := owns_kept HR.out.all hg HR.out.ne4; have hbel := HR.out.below.trans (hg.toBelow HR.out.below.size (fun k hk e => by omega))) | (at_builtin; refine wpList_append_own _ rfl (.tmp 32) (.tmp 34) 36 rfl w.heap.size 22 i22 (.slice none 0 0) 1 24 Try.underlying36 hi22 hz22 hs22 hb22 rfl (by decide) _ _ _ rfl (hown5.alloc _) ⟨w2.heap.size, 0, none⟩ 1 1 [.slice a1 _ c1] rfl rfl (one_new _ _ _) (one_ownCell rfl) ?c3 ?c4 ?c5 ?_))
        case c3 => unfold maxLen; omega
        case c4 => omega
        case c5 => have := hbel.size; simp; omega
        intro v5 w3 hown5' hg3 _
        have HS3 := Lib.hid ((hg3.block b (by have := lt_of_block HS2.out; simp; omega) (fun e => HR.out.ne5 b e.symm rfl)).trans ((Below.heap_alloc _ _ _ (lt_of_block HS2.out)).trans HS2.out))
        have hown4' := (hown4.alloc (.cells #[.slice a1 l2 c1] 22)).kept hg3 HR.out.ne45
        have hbel3 := (hbel.alloc hbel.size (.cells #[.slice a1 l2 c1] 22)).grown hg3 (by have := hbel.size; simp; omega) (fun k hk => (hown5.lt k hk).1)
        clear hown5 hown4 hg3
        have hwf4 : ∀ c ∈ flat C ++ bs2, (Lit.int .u8 c).wf = true := fun c hc => by
          rcases List.mem_append.1 hc with hc | hc
          · exact hzs c hc
          · exact hi2.wf c hc
        go_wp2
        go_loopw [4, 8] (fun v4 j wr => ∃ q : Nat, q ≤ l2 ∧ j = .int .i64 q ∧ wr.ownsRow w.heap.size 5 1 v4 ((flat C).length + q) ((flat C ++ bs2.take q).map (Value.int .u8)) ∧ wr.ownsRow w.heap.size 22 1 v5 (C.length + 1) (C.map Prod.fst ++ [.slice a1 l2 c1]) ∧ wr.heap[b]? = some (.cells (stCells (reg (flat C ++ bs2)) (flat C ++ bs2).length) 42 (0, 0)) ∧ Below w.heap.size w wr) (fun _ j _ => (l2 - intOf j).toNat)
        case atStart => exact ⟨0, by omega, rfl, by simpa using hown4', hown5', HS3.out, hbel3⟩
        case round =>
          obtain ⟨q, hq, rfl, hr4, hr5, hrs, hrb⟩ := hrel
          have HS4 := Lib.hid hrs
          clear hrs
          by_cases hql : q < l2
          · have hi3 := hi2.keep0 hrb
            obtain ⟨a, c, rfl, hcv, hc0, hc1⟩ := hi3.byte hql
            go_wp2_with (at_builtin; refine wpList_append_own _ rfl (.tmp 42) (.tmp 47) 22 rfl w.heap.size 5 i5 (.int .u8 0) 1 1 Try.underlying22 hi5 hz5 hs5 hb5 rfl (by decide) _ _ _ rfl (hr4.alloc _) ⟨wr.heap.size, 0, none⟩ 1 1 [.int .u8 c] rfl rfl (one_new _ _ _) (one_ownCell rfl) ?d3 ?d4 ?d5 ?_)
            case d3 => unfold maxLen; omega
            case d4 => omega
            case d5 => have := hrb.size; simp; omega
            intro v4 w4 hr4' hg4 _
            have hne : u4.ownBlock ≠ some b := fun e => (own_block_type hr4 e).elim fun cs hc => block_ne hc HS4.out (by decide) rfl
            have hne' := owns_ne hr5 hr4 (by decide)
            have HS5 := Lib.hid ((hg4.block b (by have := lt_of_block HS4.out; simp; omega) (fun e => hne e.symm)).trans ((Below.heap_alloc _ _ _ (lt_of_block HS4.out)).trans HS4.out))
            have hr5' := (hr5.alloc (.cells #[.int .u8 c] 5)).kept hg4 hne'
            have hrb' := (hrb.alloc hrb.size (.cells #[.int .u8 c] 5)).grown hg4 (by have := hrb.size; simp; omega) (fun k hk => (hr4.lt k hk).1)
            clear hr5 hr4 hg4
            go_wp2
            go_roundw
            case rel => exact ⟨q + 1, by omega, by go_num, by rw [take_succ_getD bs2 q (by rw [hb2l.out]; exact hql), hcv.out]; simpa [Nat.add_assoc] using hr4', hr5', HS5.out, hrb'⟩
            case measure => simp [intOf]; omega
          · obtain rfl : q = l2 := by omega
            obtain ⟨a4', c4', rfl, -, hrow, hlim, hund, -⟩ := own_slice hr4
            rw [List.take_of_length_le (by rw [hb2l.out]; omega)] at hr4 hrow
            have hints := hrow.ints hlim hwf4
            have hlen := Lib.hid (show (((flat C ++ bs2).length : Nat) : Int) = (flat C).length + q by rw [List.length_append, hb2l.out]; omega)
            go_wp2_with (first | (go_at_call 13; refine (stsum_any b _ _ hwf4 HS4.out).mono ?_; rintro e w' ⟨rfl, rfl⟩) | (go_at_call 8; refine (sumlaw_any _ _ _ _ _ hints).mono ?_; rintro e w' ⟨rfl, rfl⟩) | (go_at_call 14; refine (stlen_any b _ _ _ HS4.out).mono ?_; rintro e w' ⟨rfl, rfl⟩; rw [hlen.out]))
            go_roundw
            case rel =>
              refine ⟨k + 1, by omega, by omega, by go_num, ?_⟩
              rw [HG.out]
              have hlq : (flat C').length = (flat C).length + q := by rw [HF.out, List.length_append, hb2l.out]
              exact ⟨by rw [HF.out]; exact HS4.out, by rw [hlq, HF.out]; exact hr4, by rw [HC.out]; simpa using hr5, hrb⟩
            case measure => simp [intOf]; omega
    · obtain ⟨a4, c4, rfl, -, hr4, hl4, -, -⟩ := own_slice hR.all
      obtain ⟨a5, c5, rfl, -, hr5, hl5, -, -⟩ := own_slice hR.parts
      have hm2 := h.cuts k
      have hzs := flat_wf _ (fun p hp => (hm2 p hp).1)
      have hints := hr4.ints hl4 hzs
      have hfl : (flat (cuts L k)).length ≤ 4000 := by have := flat_short _ (fun p hp => (hm2 p hp).2); have := cuts_len L k (by rw [hL.out]; omega); omega
      have hmany : Many wr a5 (cuts L k).length (cuts L k) := ⟨hr5, fun p hp => (hm2 p hp).1.keep hR.below, hl5⟩
      have hbl := hR.below
      clear hR hm2 hr4 hr5
      generalize cuts L k = C at *
      by_cases hkn : k < n
      all_goals
        go_wp2_with (first | (go_at_call 16; refine (parts_any _ _ _ _ _ hmany (by omega)).mono ?_; rintro e w2 ⟨rfl, hb2⟩) | (go_at_call 8; refine (sumlaw_any _ _ _ _ _ (hints.keep0 hb2)).mono ?_; rintro e w' ⟨rfl, rfl⟩) | (go_at_call 9; refine (awake_any _).mono ?_; rintro e w3 ⟨rfl, hb3⟩))
        go_ret
        exact ⟨rfl, (hbl.trans (hb2.mono hbl.size)).trans (hb3.mono (Nat.le_trans hbl.size hb2.size))⟩
end Go.Proofs.Ytcomagpinnbkaaa

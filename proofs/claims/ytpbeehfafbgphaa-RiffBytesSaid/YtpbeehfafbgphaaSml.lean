/- Plain laws: a file is read as its sample; what is read has just this file. -/
import Derived.Test.YtpbeehfafbgphaaSmp
namespace Go.Proofs.Ytpbeehfafbgphaa
open Go Go.RowKit Go.Calli
set_option linter.unusedVariables false
set_option linter.unusedSimpArgs false
theorem fmt_good (n : Nat) (rate : Int) (hn : n = 1 ∨ n = 2) (h0 : 0 ≤ rate) (h1 : rate ≤ 192000) : shOk (fmtL n rate) = true ∧ shN (fmtL n rate) = n ∧ shR (fmtL n rate) = rate := by
  obtain ⟨X, hX⟩ : ∃ X, X = rate * n * 2 := ⟨_, rfl⟩
  have hXb : 0 ≤ X ∧ X ≤ 1000000 := by rcases hn with rfl | rfl <;> omega
  have e : fmtL n rate = lowL 2 1 ++ (lowL 2 n ++ (lowL 4 rate ++ (lowL 4 X ++ (lowL 2 (n * 2) ++ lowL 2 16)))) := by rw [hX]; rfl
  have eN : shN (fmtL n rate) = n := by
    rw [e]; simp only [shN, lowL, List.cons_append, List.nil_append, List.drop_succ_cons, List.drop_zero, List.take_succ_cons, List.take_zero, numL]; omega
  have eR : shR (fmtL n rate) = rate := by
    rw [e]; simp only [shR, lowL, List.cons_append, List.nil_append, List.drop_succ_cons, List.drop_zero, List.take_succ_cons, List.take_zero, numL]; omega
  refine ⟨?_, eN, eR⟩
  unfold shOk
  rw [eN, eR, ← hX]
  apply decide_eq_true
  rw [e]
  simp only [lowL, List.cons_append, List.nil_append, List.drop_succ_cons, List.drop_zero, List.take_succ_cons, List.take_zero, numL, List.length_cons, List.length_nil]
  refine ⟨trivial, by omega, by omega, by omega, by omega, by omega⟩
theorem fmt_back {f : List Int} (hb : Byt f) (h : shOk f = true) : f = fmtL (shN f).toNat (shR f) ∧ ((shN f).toNat = 1 ∨ (shN f).toNat = 2) ∧ 0 ≤ shR f := by
  unfold shOk at h
  obtain ⟨h1, h2, h3, h4, h5, h6⟩ := of_decide_eq_true h
  match f, h1 with
  | [a0, a1, a2, a3, a4, a5, a6, a7, a8, a9, b0, b1, b2, b3, b4, b5], _ =>
    have g0 := hb a0 (by simp)
    have g1 := hb a1 (by simp)
    have g2 := hb a2 (by simp)
    have g3 := hb a3 (by simp)
    have g4 := hb a4 (by simp)
    have g5 := hb a5 (by simp)
    have g6 := hb a6 (by simp)
    have g7 := hb a7 (by simp)
    have g8 := hb a8 (by simp)
    have g9 := hb a9 (by simp)
    have k0 := hb b0 (by simp)
    have k1 := hb b1 (by simp)
    have k2 := hb b2 (by simp)
    have k3 := hb b3 (by simp)
    have k4 := hb b4 (by simp)
    have k5 := hb b5 (by simp)
    obtain ⟨N, hN⟩ : ∃ N, N = shN [a0, a1, a2, a3, a4, a5, a6, a7, a8, a9, b0, b1, b2, b3, b4, b5] := ⟨_, rfl⟩
    obtain ⟨R, hR⟩ : ∃ R, R = shR [a0, a1, a2, a3, a4, a5, a6, a7, a8, a9, b0, b1, b2, b3, b4, b5] := ⟨_, rfl⟩
    rw [← hN] at h3 h4 h5 ⊢
    rw [← hR] at h4 ⊢
    obtain ⟨X, hX⟩ : ∃ X, X = R * N * 2 := ⟨_, rfl⟩
    rw [← hX] at h4
    have eX : R * ((N.toNat : Nat) : Int) * 2 = X := by rw [hX]; rcases h3 with e | e <;> rw [e] <;> rfl
    have eN : ((N.toNat : Nat) : Int) = N := by omega
    unfold fmtL
    rw [eX, eN]
    clear eX hX
    simp only [shN, shR, List.drop_succ_cons, List.drop_zero, List.take_succ_cons, List.take_zero, numL] at h2 h4 h5 h6 hN hR
    refine ⟨?_, by omega, by omega⟩
    simp only [lowL, List.cons_append, List.nil_append, List.cons.injEq, and_true]
    refine ⟨?_, ?_, ?_, ?_, ?_, ?_, ?_, ?_, ?_, ?_, ?_, ?_, ?_, ?_, ?_, ?_⟩ <;> omega
theorem nm_byt {nm : List Int} (h : nmOk nm = true) : Byt nm := fun z hz => by
  unfold nmOk at h
  have h2 := (Bool.and_eq_true_iff.1 h).2
  have := of_decide_eq_true (List.all_eq_true.1 h2 z hz)
  omega
theorem nm_len {nm : List Int} (h : nmOk nm = true) : 1 ≤ nm.length ∧ nm.length ≤ 32 := by
  unfold nmOk at h
  exact of_decide_eq_true (Bool.and_eq_true_iff.1 h).1
theorem fmtL_len (n : Nat) (rate : Int) : (fmtL n rate).length = 16 := by simp [fmtL, lowL_len]
theorem ringL_len (a b : Int) : (ringL a b).length = 8 := by simp [ringL, lowL_len]
theorem ring_num (a b : Int) (ha : 0 ≤ a) (ha2 : a < 4294967296) (hb : 0 ≤ b) (hb2 : b < 4294967296) : numL ((ringL a b).take 4) = a ∧ numL ((ringL a b).drop 4) = b := by
  unfold ringL
  rw [List.take_left' (lowL_len _ _), List.drop_left' (lowL_len _ _), num_low 4 a ha (by simpa using ha2), num_low 4 b hb (by simpa using hb2)]
  exact ⟨rfl, rfl⟩
theorem chunks_small {s : Sm} (h : Good s) : ∀ c ∈ chunksL s, c.nm.length = 4 ∧ c.dt.length ≤ 4194304 := by
  have hb := body_len s.d (lenS s)
  have hn := h.n
  have hl := h.len
  have hbl : lenS s * (s.d.length * 2) ≤ 1048576 * 4 := Nat.mul_le_mul hl.2 (by omega)
  have hnm := nm_len h.nm
  intro c hc
  unfold chunksL at hc
  rcases List.mem_cons.1 hc with rfl | hc
  · exact ⟨rfl, by simp only; rw [fmtL_len]; omega⟩
  · rcases List.mem_cons.1 hc with rfl | hc
    · exact ⟨rfl, by simp only; omega⟩
    · rcases List.mem_append.1 hc with hc | hc
      · cases hlp : s.lp with
        | true =>
          rw [hlp, if_pos rfl] at hc
          rcases List.mem_singleton.1 hc with rfl
          exact ⟨rfl, by simp only; rw [ringL_len]; omega⟩
        | false => rw [hlp, if_neg (by decide)] at hc; simp at hc
      · rcases List.mem_singleton.1 hc with rfl
        exact ⟨rfl, by simp only; rw [hb]; omega⟩
theorem chunks_names {s : Sm} (h : Good s) : (chunksL s).map (fun c => (⟨name4 c.nm, c.dt⟩ : Ch)) = chunksL s := by
  have : ∀ c ∈ chunksL s, (⟨name4 c.nm, c.dt⟩ : Ch) = c := fun c hc => by rw [name4_self (chunks_small h c hc).1]
  conv => rhs; rw [← List.map_id (chunksL s)]
  exact List.map_congr_left this
theorem joinL_len (l : List Ch) (m : Nat) (h : ∀ c ∈ l, c.dt.length ≤ m) : (joinL l).length ≤ l.length * (m + 9) := by
  induction l with
  | nil => simp [joinL]
  | cons c l ih =>
    have e : joinL (c :: l) = encC c ++ joinL l := by simp [joinL]
    have h1 := h c (by simp)
    have h2 := ih (fun c hc => h c (by simp [hc]))
    rw [e, List.length_append, encC_len, List.length_cons, Nat.add_mul, Nat.one_mul]
    have := padL_len c.dt.length
    omega
theorem chunks_count (s : Sm) : (chunksL s).length ≤ 4 := by
  unfold chunksL
  cases s.lp <;> simp
theorem inner_len {s : Sm} (h : Good s) : (joinL (chunksL s)).length ≤ 16777300 := by
  have h1 := joinL_len (chunksL s) 4194304 (fun c hc => (chunks_small h c hc).2)
  have h2 := chunks_count s
  have h3 : (chunksL s).length * (4194304 + 9) ≤ 4 * (4194304 + 9) := Nat.mul_le_mul_right _ h2
  omega
theorem readD_good {s : Sm} (h : Good s) (hc : chk s = 0) : readD s.nm s.d.length s.rate s.lp s.a s.b [⟨nData, bodyL s.d (lenS s)⟩] = (0, s) := by
  have hf := fill_body s.d (lenS s) h.n.1 h.all h.v
  have hm : (bodyL s.d (lenS s)).length % (2 * s.d.length) = 0 := by rw [body_len, Nat.mul_comm s.d.length 2]; exact Nat.mul_mod_left _ _
  unfold readD
  simp only
  rw [if_pos ⟨trivial, hm⟩, hf]
  rw [if_pos hc]
theorem readC_good {s : Sm} (h : Good s) (hc : chk s = 0) : readC (chunksL s) = (0, s) := by
  have hf := fmt_good s.d.length s.rate (by have := h.n; omega) (by have := h.rate; omega) h.rate.2
  have hlp := h.loop
  have g0 : (chunksL s).getD 0 c0 = ⟨nFmt, fmtL s.d.length s.rate⟩ := rfl
  have g1 : (chunksL s).getD 1 c0 = ⟨nName, s.nm⟩ := rfl
  have g2 : (chunksL s).drop 2 = (if s.lp then [⟨nLoop, ringL s.a s.b⟩] else []) ++ [⟨nData, bodyL s.d (lenS s)⟩] := rfl
  unfold readC
  rw [g0, g1, g2]
  simp only
  rw [if_pos ⟨trivial, hf.1, trivial⟩, hf.2.1, hf.2.2, Int.toNat_natCast]
  have hD := readD_good h hc
  cases hl : s.lp with
  | true =>
    have hr := ring_num s.a s.b hlp.1 (by omega) hlp.2.2.1 (by omega)
    rw [hl] at hD
    rw [if_pos rfl]
    unfold readR
    simp only [List.cons_append, List.nil_append, List.getD_cons_zero, List.drop_succ_cons, List.drop_zero]
    rw [if_pos trivial, if_pos (ringL_len _ _), hr.1, hr.2]
    exact hD
  | false =>
    rw [hl] at hD
    obtain ⟨ea, eb⟩ := hlp.2.2.2.2 hl
    rw [ea, eb] at hD
    rw [if_neg (by decide)]
    unfold readR
    simp only [List.nil_append, List.getD_cons_zero]
    rw [if_neg (by decide)]
    exact hD
/-- A file is read as its sample. -/
theorem read_file {s : Sm} (h : Good s) : readL (fileL s) = (0, s) := by
  have hc := (chk_zero s).2 h
  have hil := inner_len h
  have hs1 := split_join [⟨nRIFF, nWAVE ++ joinL (chunksL s)⟩] (fileL s).length (by simp [joinL, fileL]) (fun c hc => by
    rcases List.mem_singleton.1 hc with rfl
    simp only [List.length_append]
    have : nWAVE.length = 4 := rfl
    omega)
  have hs2 := split_join (chunksL s) (joinL (chunksL s)).length (Nat.le_refl _) (fun c hc => by have := (chunks_small h c hc).2; omega)
  rw [chunks_names h] at hs2
  rw [show joinL [⟨nRIFF, nWAVE ++ joinL (chunksL s)⟩] = fileL s by simp [joinL, fileL]] at hs1
  have hn : name4 nRIFF = nRIFF := by decide
  simp only [List.map_cons, List.map_nil, hn] at hs1
  unfold readL
  rw [hs1]
  simp only
  rw [if_neg (fun e => e rfl), if_pos ⟨trivial, by rw [List.length_append]; exact Nat.le_add_right _ _, rfl⟩]
  rw [show (nWAVE ++ joinL (chunksL s)).drop 4 = joinL (chunksL s) from rfl, hs2]
  simp only
  rw [if_neg (fun e => e rfl)]
  exact readC_good h hc
theorem readD_back {nm : List Int} {n : Nat} {rate : Int} {lp : Bool} {a b : Int} {l : List Ch} {s : Sm} (hn : 1 ≤ n) (hb : ∀ c ∈ l, Byt c.dt) (h : readD nm n rate lp a b l = (0, s)) : Good s ∧ s.nm = nm ∧ s.d.length = n ∧ s.rate = rate ∧ s.lp = lp ∧ s.a = a ∧ s.b = b ∧ l = [⟨nData, bodyL s.d (lenS s)⟩] := by
  unfold readD at h
  match l with
  | [] => simp at h
  | [c] =>
    simp only at h
    by_cases h1 : c.nm = nData ∧ c.dt.length % (2 * n) = 0
    · rw [if_pos h1] at h
      by_cases h2 : chk ⟨nm, rate, lp, a, b, fillL c.dt n⟩ = 0
      · rw [if_pos h2] at h
        simp only [Prod.mk.injEq, true_and] at h
        subst h
        refine ⟨(chk_zero _).1 h2, rfl, fill_len _ _, rfl, rfl, rfl, rfl, ?_⟩
        have hlen : lenS ⟨nm, rate, lp, a, b, fillL c.dt n⟩ = c.dt.length / (2 * n) := by
          unfold lenS
          apply fill_row c.dt n
          simp only [List.getD]
          rw [List.getElem?_eq_getElem (by rw [fill_len]; omega)]
          exact List.getElem_mem _
        rw [hlen]
        simp only
        rw [body_fill c.dt n hn (hb c (by simp)) h1.2, ← h1.1]
      · rw [if_neg h2] at h
        simp only [Prod.mk.injEq] at h
        exact absurd h.1 h2
    · rw [if_neg h1] at h; simp at h
  | _ :: _ :: _ => simp at h
theorem readC_back {l : List Ch} {s : Sm} (hb : ∀ c ∈ l, Byt c.dt) (h : readC l = (0, s)) : Good s ∧ l = chunksL s := by
  unfold readC at h
  by_cases h1 : (l.getD 0 c0).nm = nFmt ∧ shOk (l.getD 0 c0).dt = true ∧ (l.getD 1 c0).nm = nName
  · rw [if_pos h1] at h
    obtain ⟨e1, e2, e3⟩ := h1
    match l with
    | [] => cases e1
    | [c] => cases e3
    | x :: y :: r =>
      simp only [List.getD_cons_zero, List.getD_cons_succ, List.drop_succ_cons, List.drop_zero] at e1 e2 e3 h
      obtain ⟨f1, f2, f3⟩ := fmt_back (hb x (by simp)) e2
      have hbr : ∀ c ∈ r, Byt c.dt := fun c hc => hb c (by simp [hc])
      unfold readR at h
      have hx : x = ⟨nFmt, fmtL (shN x.dt).toNat (shR x.dt)⟩ := by rw [← f1, ← e1]
      have hy : y = ⟨nName, y.dt⟩ := by rw [← e3]
      by_cases h2 : (r.getD 0 c0).nm = nLoop
      · rw [if_pos h2] at h
        by_cases h3 : (r.getD 0 c0).dt.length = 8
        · rw [if_pos h3] at h
          match r with
          | [] => cases h2
          | z :: q =>
            simp only [List.getD_cons_zero, List.drop_succ_cons, List.drop_zero] at h2 h3 h
            obtain ⟨g1, g2, g3, g4, g5, g6, g7, g8⟩ := readD_back (by omega) (fun c hc => hbr c (by simp [hc])) h
            refine ⟨g1, ?_⟩
            have hzb := hbr z (by simp)
            have l1 := low_num (hzb.take 4)
            have l2 := low_num (hzb.drop 4)
            rw [List.length_take, show min 4 z.dt.length = 4 by omega] at l1
            rw [List.length_drop, show z.dt.length - 4 = 4 by omega] at l2
            have hz : z = ⟨nLoop, ringL s.a s.b⟩ := by
              rw [g6, g7]
              unfold ringL
              rw [l1, l2, List.take_append_drop, ← h2]
            unfold chunksL
            rw [g3, g4, g2, g5, if_pos rfl, g8]
            rw [List.singleton_append, ← hz, ← hx, ← hy]
        · rw [if_neg h3] at h; simp at h
      · rw [if_neg h2] at h
        obtain ⟨g1, g2, g3, g4, g5, g6, g7, g8⟩ := readD_back (by omega) hbr h
        refine ⟨g1, ?_⟩
        unfold chunksL
        rw [g3, g4, g2, g5, if_neg (by decide), g8, List.nil_append, ← hx, ← hy]
  · rw [if_neg h1] at h; simp at h
/-- What is read has just this file. -/
theorem file_read {b : List Int} {s : Sm} (hb : Byt b) (h : readL b = (0, s)) : Good s ∧ fileL s = b := by
  unfold readL at h
  rcases hs : splitL b.length b with ⟨E, l⟩
  rw [hs] at h
  simp only at h
  by_cases hE : E = 0
  · subst hE
    rw [if_neg (fun e => e rfl)] at h
    obtain ⟨j1, j2⟩ := join_split b.length b l (Nat.le_refl _) hb hs
    match l with
    | [] => simp at h
    | [c] =>
      simp only at h
      by_cases h1 : c.nm = nRIFF ∧ 4 ≤ c.dt.length ∧ c.dt.take 4 = nWAVE
      · rw [if_pos h1] at h
        obtain ⟨-, hcl, -, hcb⟩ := j2 c (by simp)
        rcases hs2 : splitL (c.dt.drop 4).length (c.dt.drop 4) with ⟨E2, l2⟩
        rw [hs2] at h
        simp only at h
        by_cases hE2 : E2 = 0
        · subst hE2
          rw [if_neg (fun e => e rfl)] at h
          obtain ⟨k1, k2⟩ := join_split _ _ l2 (Nat.le_refl _) (hcb.drop 4) hs2
          obtain ⟨g1, g2⟩ := readC_back (fun c hc => (k2 c hc).2.2.2) h
          refine ⟨g1, ?_⟩
          have hc : c = ⟨nRIFF, nWAVE ++ joinL (chunksL s)⟩ := by
            rw [← g2, k1, ← h1.2.2, List.take_append_drop, ← h1.1]
          unfold fileL
          rw [← hc, ← j1]
          simp [joinL]
        · rw [if_pos hE2] at h; simp only [Prod.mk.injEq] at h; exact absurd h.1 hE2
      · rw [if_neg h1] at h; simp at h
    | _ :: _ :: _ => simp at h
  · rw [if_pos hE] at h; simp only [Prod.mk.injEq] at h; exact absurd h.1 hE
end Go.Proofs.Ytpbeehfafbgphaa

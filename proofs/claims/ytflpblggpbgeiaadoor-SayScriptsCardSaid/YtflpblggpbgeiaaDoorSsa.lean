/- What the walk of the statement SayScripts needs: appends onto two slices side by side, and the texts that are read. -/
import Derived.Test.YtflpblggpbgeiaaDoorSpn
import Derived.Test.YtflpblggpbgeiaaDoorRea
namespace Go.Proofs.YtflpblggpbgeiaaDoor
open Go Go.RowKit Go.Calli
set_option linter.unusedVariables false
set_option linter.unusedSimpArgs false
attribute [local irreducible] wpStill wpAnyH wpAnyS wpList Code.wp
def Sep (u v : Value) : Prop := ∀ k, u.ownBlock = some k → ¬ v.ownBlock = some k
theorem Sep.symm {u v : Value} (h : Sep u v) : Sep v u := fun k h1 h2 => h k h2 h1
theorem Sep.step {u u' v : Value} (h : Sep u v) {w : World} {B e size n : Nat} {xs : List Value} (hown : w.ownsRow B e size v n xs) (hb : ∀ k, u'.ownBlock = some k → u.ownBlock = some k ∨ w.heap.size ≤ k) : Sep u' v := by
  intro k h1 h2
  rcases hb k h1 with h3 | h3
  · exact h k h3 h2
  · obtain ⟨cs, hcs⟩ := own_block_type hown h2
    have := lt_of_block hcs
    omega
theorem own_lt {w : World} {B e size n : Nat} {v : Value} {xs : List Value} (hown : w.ownsRow B e size v n xs) {k : Nat} (hk : v.ownBlock = some k) : k < w.heap.size := by
  obtain ⟨cs, hcs⟩ := own_block_type hown hk
  exact lt_of_block hcs
theorem wpList_append_rec_at {P : Program} {w : World} {ops : Array Oper} {rest : List Oper} {o : Oper} {a : Act} {Q : Exit → Act → World → Prop} (hgd : o.guard = none) (s x : Operand) (t e : TypeId) (size : Nat)
    (ho : o.op = .call { callee := .builtin .append, args := #[s, x], argTypes := #[t, t] }) (hu : P.underlying t = some (.slice e))
    {z : Value} {bytes : Nat} (hinfo : (P.info? e).map (fun i => (i.zero, i.size, i.bytes)) = some (some z, size, bytes)) (hz1 : z.cells.size = size) (hs0 : 0 < size)
    (B : Nat) (v : Value) (n : Nat) (xs : List Value) (hs : a.eval s = v) (hown : w.ownsRow B e size v n xs) (us : List Value) (hus : us.length = size) (hx : a.eval x = .slice (some ⟨w.heap.size, 0, none⟩) 1 1) (h1 : ∀ u ∈ us, u.oneCell' = true)
    (hbd : (n + 1) * bytes ≤ 140737488355328) (hn : n + 1 ≤ maxLen) (hB : B ≤ w.heap.size)
    (h : ∀ v' w', w'.ownsRow B e size v' (n + 1) (xs ++ us) → Keeps (fun k => v.ownBlock = some k) w w' → (∀ k, v'.ownBlock = some k → v.ownBlock = some k ∨ w.heap.size ≤ k) → wpList P ops Q rest (a.put o.dst v') w') : wpList P ops Q (o :: rest) a (w.alloc (.cells us.toArray e)) := by
  obtain ⟨v', w', hr, h2, h3, h4⟩ := run_append_rec_at (P := P) w t o.type e size hu hinfo hz1 hs0 B v n xs hown us hus h1 hbd hn hB
  refine wpList_plain hgd fun K hK => ?_
  unfold Oper.wp execOp
  simp only [ho, resolve, invoke, builtin, Sem.run_bind, Sem.run_pure, Result.andThen_ok, List.map_toArray, List.map_cons, List.map_nil, hs, hx, hr]
  exact hK _ _ (h v' w' h2 h3 h4)
theorem parse_nil : parseL [] = none := by kernel_rfl
theorem cutL_nil : cutL (spl 10 []) = [] := by kernel_rfl
theorem script_nil (w : World) : Calls Tryd.prog 20 #[.string (strOfNums [])] w (ScrP (cutL (spl 10 [])) w) := by
  rw [cutL_nil]
  have hem2 : (strOfNums []).toList.isEmpty = true := nums_empty []
  have hr : Recs vals7 7 ac0 w none 0 (scanL []) := Recs.nil _ _ _ _ _
  have HR := Lib.hid hr
  clear hr
  go_enter Tryd.func20, Tryd.ntmps20
  go_wp2_with fail
  go_ret3
  exact ⟨Below.refl _ _, fun h => absurd h (by simp), fun _ h => absurd h (by simp [scanL]), fun _ _ => ⟨none, 0, rfl, Nat.le_refl _, HR.out⟩⟩
theorem script_all (s : List Int) (hb : Byt s) (hl : s.length ≤ 1000000) (w : World) (hm : HasM w) : Calls Tryd.prog 20 #[.string (strOfNums s)] w (ScrP (cutL (spl 10 s)) w) := by
  by_cases h0 : s = []
  · subst h0; exact script_nil w
  · exact script_any s hb h0 hl w hm
/-- What the text of steps is read as. -/
theorem script_text (As : List Ac) (hok : ∀ a ∈ As, OkA a ∧ a.nm.length ≤ 200) (hn : As.length ≤ 40) (w : World) (hm : HasM w) : Calls Tryd.prog 20 #[.string (strOfNums (textL As))] w (fun e w' => Below w.heap.size w w' ∧ ∃ ax cx, e = .returned (.tuple #[.slice ax (wantL As).length cx, .int .i64 0, .int .i64 0]) ∧ Recs vals7 7 ac0 w' ax (wantL As).length (wantL As)) := by
  have hl := textL_len As hok
  have hb := textL_byt As (fun a ha => (hok a ha).1)
  have h := script_all (textL As) hb (by omega) w hm
  have h1 := text_spl [] (by simp) As (fun a ha => (hok a ha).1)
  rw [List.append_nil] at h1
  rw [h1, cut_lns, if_pos rfl] at h
  have h2 := scan_lns [] As (fun a ha => (hok a ha).1)
  rw [List.append_nil, show scanL [] = [] from rfl, List.append_nil] at h2
  have hw := want_le As
  have hlw := lns_want As
  refine h.mono ?_
  rintro e w' ⟨q1, q2, q3, q4⟩
  obtain ⟨ax, cx, r1, _, r2⟩ := q4 (by omega) (by rw [h2]; exact hlw.symm)
  rw [h2, hlw] at r2
  rw [hlw] at r1
  exact ⟨q1, ax, cx, r1, r2⟩
/-- What it is read as with one more line. -/
theorem script_more (As : List Ac) (hok : ∀ a ∈ As, OkA a ∧ a.nm.length ≤ 200) (hn : As.length ≤ 40) (O : List Int) (hO : Byt O) (hOl : O.length ≤ 200) (h10 : ∀ z ∈ O, z ≠ 10) (w : World) (hm : HasM w) : Calls Tryd.prog 20 #[.string (strOfNums (textL As ++ O))] w (fun e w' => Below w.heap.size w w' ∧
    (∀ a, parseL O = some a → ∃ ax cx, e = .returned (.tuple #[.slice ax ((wantL As).length + 1) cx, .int .i64 0, .int .i64 0])) ∧
    (O = [] → ∃ ax cx, e = .returned (.tuple #[.slice ax (wantL As).length cx, .int .i64 0, .int .i64 0])) ∧
    (O ≠ [] → parseL O = none → e = .returned (.tuple #[.slice none 0 0, .int .i64 ((wantL As).length : Nat), .int .i64 4]))) := by
  have hl := textL_len As hok
  have hb := textL_byt As (fun a ha => (hok a ha).1)
  have h := script_all (textL As ++ O) (hb.app hO) (by rw [List.length_append]; omega) w hm
  rw [text_spl O h10 As (fun a ha => (hok a ha).1), cut_lns] at h
  have hw := want_le As
  have hlw := lns_want As
  refine h.mono ?_
  rintro e w' ⟨q1, q2, q3, q4⟩
  refine ⟨q1, fun a ha => ?_, fun h0 => ?_, fun h0 hp => ?_⟩
  · have h0 : O ≠ [] := fun h => by rw [h, parse_nil] at ha; cases ha
    rw [if_neg h0] at q4
    have h2 := scan_lns [O] As (fun a ha => (hok a ha).1)
    have h3 : scanL [O] = [a] := by unfold scanL; rw [ha]; rfl
    rw [h2, h3, List.length_append, List.length_append, hlw] at q4
    obtain ⟨ax, cx, r1, _, _⟩ := q4 (by simp only [List.length_cons, List.length_nil]; omega) rfl
    exact ⟨ax, cx, r1⟩
  · rw [if_pos h0] at q4
    have h2 := scan_lns [] As (fun a ha => (hok a ha).1)
    rw [List.append_nil, show scanL [] = [] from rfl, List.append_nil] at h2
    rw [h2, hlw] at q4
    obtain ⟨ax, cx, r1, _, _⟩ := q4 (by omega) rfl
    exact ⟨ax, cx, r1⟩
  · rw [if_neg h0] at q3
    have h2 := scan_lns [O] As (fun a ha => (hok a ha).1)
    have h3 : scanL [O] = [] := by unfold scanL; rw [hp]
    rw [h2, h3, List.append_nil, List.length_append, hlw] at q3
    exact q3 (by simp only [List.length_cons, List.length_nil]; omega) (by simp only [List.length_cons, List.length_nil]; omega)
end Go.Proofs.YtflpblggpbgeiaaDoor

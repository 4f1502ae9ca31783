/- append onto a slice that is full (and whose block is not the call's own): a new block. -/
import Derived.Test.YtpbeehfafbgphaaByp
import Derived.Lib.SlBytesConst
namespace Go.Proofs.Ytpbeehfafbgphaa
open Go Go.RowKit Go.Calli
set_option linter.unusedVariables false
set_option linter.unusedSimpArgs false
theorem wpList_append_full {w : World} {ops : Array Oper} {rest : List Oper} {o : Oper} {a : Act} {Q : Exit → Act → World → Prop} (hgd : o.guard = none) (s x : Operand)
    (ho : o.op = .call { callee := .builtin .append, args := #[s, x], argTypes := #[25, 25] }) (g : Addr) (n : Nat) (olds : List Value) (hs : a.eval s = .slice (some g) n n) (hlo : olds.length = n) (holds : ∀ j v, olds[j]? = some v → w.cell? (g.add j) = some v)
    (ao : Option Addr) (m c : Nat) (news : List Value) (hx : a.eval x = .slice ao m c) (hrow : Row w ao m news) (hm : 0 < m) (hbd : n + m ≤ 1000000000)
    (h : ∀ cp w', n + m ≤ cp → Row w' (some ⟨w.heap.size, 0, none⟩) (n + m) (olds ++ news) → Below w.heap.size w w' → wpList Try.prog ops Q rest (a.put o.dst (.slice (some ⟨w.heap.size, 0, none⟩) (n + m) cp)) w') : wpList Try.prog ops Q (o :: rest) a w := by
  obtain ⟨i, hi, hz, hsz, hby⟩ := info_parts infoByte
  have hnl := hrow.hlen
  obtain ⟨ad, rfl⟩ : ∃ ad, ao = some ad := by
    obtain ⟨v, hv⟩ : ∃ v, news[0]? = some v := ⟨_, List.getElem?_eq_getElem (show 0 < news.length by omega)⟩
    obtain ⟨ad, ha, _⟩ := hrow.cell 0 v hv
    exact ⟨ad, ha⟩
  have hr := run_append_grow (P := Try.prog) w 25 o.type 5 i _ Try.underlying25 hi hz g n n olds (by rw [hsz]; omega) holds ad m c news (by rw [hsz]; omega) (fun j v hj => by
    obtain ⟨a', ha', hc⟩ := hrow.cell j v hj
    cases ha'
    exact hc) (by omega) (by omega) (growslice_fits (by omega) (by rw [hby]; omega))
  refine wpList_plain hgd fun K hK => ?_
  unfold Oper.wp execOp
  simp only [ho, resolve, invoke, builtin, Sem.run_bind, Sem.run_pure, Result.andThen_ok, List.map_toArray, List.map_cons, List.map_nil, hs, hx, hr]
  refine hK _ _ (h _ _ (grownCap_ge _ _ _ _) ⟨by simp; omega, fun j v hj => ⟨_, rfl, ?_⟩⟩ ((Below.refl _ w).drew.alloc (Nat.le_refl _) _))
  rw [add0]
  refine (cell_of_row _ _ _ _ _ _ (heap_alloc_new w.drew _)).trans ?_
  have hlt := (List.getElem?_eq_some_iff.1 hj).1
  rw [Array.getElem?_append_left (by simpa using hlt)]
  simpa using hj
end Go.Proofs.Ytpbeehfafbgphaa

/- Structs in memory: a box made and filled; a struct read where nothing turns. Conditions: sizes. -/
import Derived.Test.YtmepeolejlpehaaCtB
import Derived.Test.YtmepeolejlpehaaCtC
namespace Go.Proofs.Ytmepeolejlpehaa
open Go.RowKit
/-- A new block, filled from its head. -/
theorem box_of (W : World) (t : Nat) (Z : Array Value) (L : List Value) (hZ : Z.size = L.length) :
    ((W.alloc (.cells Z t)).setCells W.heap.size 0 L).heap[W.heap.size]? = some (.cells L.toArray t (0, 0)) ∧ FC [] W ((W.alloc (.cells Z t)).setCells W.heap.size 0 L) ∧ (W.alloc (.cells Z t)).there W.heap.size 0 L.length ∧ W.heap.size < ((W.alloc (.cells Z t)).setCells W.heap.size 0 L).heap.size := by
  have h0 : CellsF (W.alloc (.cells Z t)) W.heap.size t (fun k => Z[k]?) := CellsF.of_row (heap_alloc_new W _)
  have h1 : (W.alloc (.cells Z t)).there W.heap.size 0 L.length := fun j hj => ⟨by
    rw [h0.cell, Array.getElem?_eq_getElem (by omega)]; rfl, h0.froz _⟩
  have h2 := (h0.sets L 0 _ _ (fun j hj => by rw [Array.getElem?_eq_getElem (by omega)]; rfl)).row L.toArray (fun k => by
    by_cases hk : k < L.length
    · rw [if_pos (by omega), Nat.sub_zero, List.getElem?_toArray]
    · have h1 : Z[k]? = none := Array.getElem?_eq_none (by omega)
      have h2 : L.toArray[k]? = none := Array.getElem?_eq_none (by simp; omega)
      rw [if_neg (by omega), h1, h2])
  refine ⟨h2, FC.setCells (.inr (Nat.le_refl _)) _ _ _ ((FC.refl _ _).alloc _), h1, (Array.getElem?_eq_some_iff.1 h2).1⟩
section
variable {P : Program} {K : Act → Prop}
theorem still_load_mid {o : Oper} {a : Act} {w : World} (ty : TypeId) (x : Operand) (ho : o.op = .load ty x)
    (b k : Nat) (hx : a.eval x = .pointer (some ⟨b, k, none⟩)) (cs : List Value) (d : TypeDesc) (hc : w.rangeAt b k cs)
    (hu : P.underlying ty = some d) (hd : d.isRow = true) (hi : (P.info? ty).map (·.size) = some cs.length) (h : K (a.put o.dst (.agg cs.toArray))) : o.still P a w K := by
  unfold Oper.still execOp
  simp only [ho, hx, Instr.loadAt, Instr.sureAddr, Sem.run_bind, Sem.run_pure, Result.andThen_ok, run_loadVar_mid w b k ty cs d hc hu hd hi]
  first
    | exact h
    | exact ⟨rfl, h⟩
    | (simp; exact h)
end
end Go.Proofs.Ytmepeolejlpehaa

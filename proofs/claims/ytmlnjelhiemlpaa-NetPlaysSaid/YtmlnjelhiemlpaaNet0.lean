/- Words of the net seat's walks. -/
import Derived.Test.YtmlnjelhiemlpaaProg
import Derived.Test.YtmlnjelhiemlpaaWMore
import Derived.WalkKit
import Derived.Below
import Derived.Deep.QuietTactic
import Derived.BigQuiet
import Derived.StillTailTactics
import Derived.Deep.MidRow
import Derived.Deep.WholeRow
import Derived.Deep.LoopGhost
import Derived.RangeFuncOwn
namespace Go.Proofs.Ytmlnjelhiemlpaa
open Go.RowKit
/-- Kept away from the walk. -/
structure Aside (p : Prop) : Prop where
  out : p
/-- Nothing turns but the bag's block and its row's. -/
structure Fr (w w' : World) (H : Nat) (r : Option Nat) : Prop where
  os : w'.os = w.os
  tape : w'.tape = w.tape
  output : w'.output = w.output
  size : w.heap.size ≤ w'.heap.size
  block : ∀ k, k < w.heap.size → k ≠ H → r ≠ some k → w'.heap[k]? = w.heap[k]?
theorem setCell_one {w : World} {H t : Nat} {v : Value} (h : w.heap[H]? = some (.cells #[v] t (0, 0))) (x : Value) : (w.setCell ⟨H, 0, none⟩ x).heap[H]? = some (.cells #[x] t (0, 0)) := by
  rw [heap_setCell_same w H _ _ t _ h]; rfl
/-- Cells that lie stay as they are. -/
def KC (W W' : World) : Prop := W.heap.size ≤ W'.heap.size ∧ ∀ (k : Nat) (cs : Array Value) (t : Nat) (f : Nat × Nat), W.heap[k]? = some (.cells cs t f) → W'.heap[k]? = some (.cells cs t f)
theorem KC.refl (W : World) : KC W W := ⟨Nat.le_refl _, fun _ _ _ _ h => h⟩
theorem KC.trans {A B C : World} (h : KC A B) (k : KC B C) : KC A C := ⟨Nat.le_trans h.1 k.1, fun i cs t f hi => k.2 i cs t f (h.2 i cs t f hi)⟩
theorem KC.put (w W : World) (l : Nat) (o o' : Obj) (_ : w.heap.size ≤ l) (h : W.heap[l]? = some o) (hc : o.isCells = false) (_ : o.isWalk = false) : KC W (W.putObj l o') := by
  refine ⟨by simp, fun k cs t f hk => ?_⟩
  rw [World.putObj_heap_other (fun e => by rw [← e, hk] at h; cases h; cases hc)]
  exact hk
theorem KC.below {W W' : World} (h : Below W.heap.size W W') : KC W W' := ⟨h.size, fun k _ _ _ hk => (h.block k (Array.getElem?_eq_some_iff.1 hk).1).trans hk⟩
theorem cell_new_l (W : World) (v : Value) (t : TypeId) : (W.alloc (.cells #[v] t)).cell? ⟨W.heap.size, 0, none⟩ = some v ∧ (W.alloc (.cells #[v] t)).frozen? ⟨W.heap.size, 0, none⟩ = false :=
  ⟨by rw [cell_of_row _ _ _ _ _ _ (heap_alloc_new W _)]; rfl, frozen_of_row _ _ 0 _ _ (heap_alloc_new W _)⟩
theorem cell_alloc_l {W : World} {a : Addr} {v : Value} (o : Obj) (h : W.cell? a = some v) : (W.alloc o).cell? a = some v := Go.cell_kept h (World.grownBy_alloc W o none) (fun r e => by cases e)
theorem frozen_alloc_l {W : World} {a : Addr} {v : Value} (o : Obj) (h : W.cell? a = some v) (hf : W.frozen? a = false) : (W.alloc o).frozen? a = false := (Go.frozen_kept h (World.grownBy_alloc W o none) (fun r e => by cases e)).trans hf
theorem still_lit {P : Program} {id : Nat} {Q : Exit → Act → World → Prop} {a : Act} {w : World} {l : List Oper} (hm : P.follows .mixedOrders = true) (hB : Region.lexB .any l.toArray = true)
    (h : wpStill P l.toArray w.drew (fun a' => Q .normal a' w.drew) l a) : (Code.region id l.toArray true).wp P Q a w := wp_region_still_lit hm hB h
theorem still_tail {P : Program} {id : Nat} {Q : Exit → Act → World → Prop} {a : Act} {w : World} {l : List Oper} (n : Nat) (hm : P.follows .mixedOrders = true) (hB : Region.lexTailB .any l.toArray n = true)
    (h : wpStill P l.toArray w.drew (fun a' => wpList P l.toArray Q (l.drop n) a' w.drew) (l.take n) a) : (Code.region id l.toArray true).wp P Q a w := wp_region_still_tail n hm hB h
end Go.Proofs.Ytmlnjelhiemlpaa

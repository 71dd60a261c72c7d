/- The fingerprint's mix of a block: what it leaves of a Print in memory is a plain function of the words and the block. Conditions: the Print's block of cells, and the tables, are given. -/
import Derived.Test.YticpbhpehoolfaaDoorProg
import Derived.WalkKit
import Derived.Below
import Derived.Deep.QuietTactic
import Derived.BigQuiet
import Derived.StillTailTactics
import Derived.Deep.MidRow
import Derived.Deep.WholeRow
import Derived.Deep.LoopGhost
namespace Go.Proofs.YticpbhpehoolfaaDoor
open Go.RowKit
structure Aside (p : Prop) : Prop where
  out : p
theorem wrap64_in {x : Int} (h0 : 0 ≤ x) (h1 : x < 9223372036854775808) : IntKind.i64.wrap x = x := by simp [IntKind.wrap, IntKind.bits, IntKind.signed]; omega
def rotl (x : Int) (s : Nat) : Int := bits BinOp.or IntKind.u32 (x * 2 ^ s % 4294967296) (x / 2 ^ (32 - s))
theorem T.rot (x : Int) (k : Int) (s : Nat) (w : World) (hk : bits BinOp.and IntKind.u64 (IntKind.u64.wrap k) 31 = (s : Int)) (h0 : 0 < s) (h1 : s < 32) : Calls Tryd.prog 31 #[.int .u32 x, .int .i64 k] w fun e w' => e = .returned (.int .u32 (rotl x s)) ∧ w' = w := by
  have h2 : IntKind.u64.wrap (32 - (s : Int)) = 32 - (s : Int) := by simp [IntKind.wrap, IntKind.bits, IntKind.signed]; omega
  go_enter Tryd.func31, Tryd.ntmps31
  go_wp2
  go_ret
  exact ⟨rfl, rfl⟩
def T.cells (made : Bool) (words block : List Int) (n : Int) : Array Value := ([Value.bool made] ++ words.map (Value.int .u32) ++ block.map (Value.int .u8) ++ [Value.int .i64 n]).toArray
def T.ws (l : List Int) : Array Value := (l.map (Value.int .u32)).toArray
theorem T.block_cell {W : World} {H : Nat} {m : Bool} {wl bl : List Int} {n : Int} (h : W.heap[H]? = some (.cells (T.cells m wl bl n) 49 (0, 0))) (hw : wl.length = 4) (hb : bl.length = 64) (k : Nat) (hk : k < 64) : W.cell? ⟨H, 5 + k, none⟩ = some (.int .u8 (bl.getD k 0)) := by
  unfold World.cell?
  simp only [h]
  simp only [T.cells, List.getElem?_toArray, Option.isSome_none, Bool.false_eq_true, if_false]
  rw [List.getElem?_append_left (by simp [hw, hb]; omega), List.getElem?_append_right (by simp [hw])]
  simp only [List.length_append, List.length_map, List.length_cons, List.length_nil, hw]
  rw [show 5 + k - (0 + 1 + 4) = k from by omega, List.getElem?_map, List.getElem?_eq_getElem (by omega), List.getD_eq_getElem?_getD, List.getElem?_eq_getElem (by omega)]
  rfl
theorem T.ws_cell {W : World} {B t : Nat} {l : List Int} (h : W.heap[B]? = some (.cells (T.ws l) t (0, 0))) (k : Nat) (hk : k < l.length) : W.cell? ⟨B, k, none⟩ = some (.int .u32 (l.getD k 0)) := by
  rw [cell_of_row W B k _ _ _ h]
  simp [T.ws, List.getElem?_eq_getElem hk, List.getD_eq_getElem?_getD]
theorem T.ws_set {W : World} {B t : Nat} {l : List Int} (h : W.heap[B]? = some (.cells (T.ws l) t (0, 0))) (k : Nat) (x : Int) : (W.setCell ⟨B, k, none⟩ (.int .u32 x)).heap[B]? = some (.cells (T.ws (l.set k x)) t (0, 0)) := by
  rw [heap_setCell_same W B k _ t _ h]
  simp [T.ws, List.map_set]
theorem still_lit {P : Program} {id : Nat} {Q : Exit → Act → World → Prop} {a : Act} {w : World} {l : List Oper} (hm : P.follows .mixedOrders = true) (hB : Region.lexB .any l.toArray = true)
    (h : wpStill P l.toArray w.drew (fun a' => Q .normal a' w.drew) l a) : (Code.region id l.toArray true).wp P Q a w := wp_region_still_lit hm hB h
theorem still_tail {P : Program} {id : Nat} {Q : Exit → Act → World → Prop} {a : Act} {w : World} {l : List Oper} (n : Nat) (hm : P.follows .mixedOrders = true) (hB : Region.lexTailB .any l.toArray n = true)
    (h : wpStill P l.toArray w.drew (fun a' => wpList P l.toArray Q (l.drop n) a' w.drew) (l.take n) a) : (Code.region id l.toArray true).wp P Q a w := wp_region_still_tail n hm hB h
theorem setRow_other (w : World) (g : Nat) (cs : Array Value) (k : Nat) (h : k ≠ g) : (w.setRow g cs).heap[k]? = w.heap[k]? := by
  simp only [World.setRow, Array.getElem?_modify]
  rw [if_neg (fun e => h e.symm)]
theorem Below_setRow {B : Nat} {a w : World} (h : Below B a w) {g : Nat} (hg : B ≤ g) (cs : Array Value) : Below B a (w.setRow g cs) :=
  h.trans ⟨rfl, rfl, rfl, by simp, fun k hk => setRow_other _ _ _ _ (by omega)⟩
theorem wpList_store_row {P : Program} {ops : Array Oper} {rest : List Oper} {o : Oper} {a : Act} {w : World} {Q : Exit → Act → World → Prop} (hgd : o.guard = none) (ty : TypeId) (x y : Operand) (ho : o.op = .store ty x y)
    (g : Nat) (cells : Array Value) (hx : a.eval x = .pointer (some ⟨g, 0, none⟩)) (hy : a.eval y = .agg cells)
    (t : TypeId) (old : Array Value) (hg : w.heap[g]? = some (.cells old t (0, 0))) (hi : (P.info? ty).map (·.size) = some cells.size)
    (hold : old.size = cells.size) (h1 : cells.all (·.oneCell') = true)
    (h : wpList P ops Q rest (a.put o.dst undef) (w.setRow g cells)) : wpList P ops Q (o :: rest) a w :=
  wpList_plain hgd fun _ hK => wp_store_row ty x y ho g cells hx hy t old hg hi hold h1 (hK _ _ h)
theorem T.words_range {W : World} {H : Nat} {m : Bool} {wl bl : List Int} {n : Int} (h : W.heap[H]? = some (.cells (T.cells m wl bl n) 49 (0, 0))) : W.rangeAt H 1 (wl.map (Value.int .u32)) := by
  intro j v hv
  rw [cell_of_row W H _ _ _ _ h]
  have hj : j < (wl.map (Value.int .u32)).length := (List.getElem?_eq_some_iff.1 hv).1
  simp only [T.cells, List.getElem?_toArray]
  rw [List.getElem?_append_left (by simp at hj ⊢; omega), List.getElem?_append_left (by simp at hj ⊢; omega), List.getElem?_append_right (by simp)]
  simpa [Nat.add_sub_cancel_left] using hv
theorem gb_set {w w' : World} {g : Nat} (h : w.grownBy w' (some g)) (i : Nat) (v : Value) : w.grownBy (w'.setCell ⟨g, i, none⟩ v) (some g) :=
  ⟨h.os, h.tape, h.output, by simpa [World.setCell] using h.size, fun k hk hne => by rw [Below.heap_setCell _ _ _ _ (fun e => hne (by rw [e]))]; exact h.block k hk hne⟩
theorem gb_drew {w w' : World} {row : Option Nat} (h : w.grownBy w' row) : w.grownBy w'.drew row := ⟨h.os, h.tape, h.output, h.size, h.block⟩
theorem gb_below {w w' : World} (h : Below w.heap.size w w') (row : Option Nat) : w.grownBy w' row := ⟨h.os, h.tape, h.output, h.size, fun k hk _ => h.block k hk⟩
/-- What a step makes of three words, and which word of the block it takes. -/
def stepF (i : Nat) (b c d : Int) : Int :=
  if i < 16 then bits .or .u32 (bits .and .u32 b c) (bits .and .u32 (bits .xor .u32 IntKind.u32.max b) d)
  else if i < 32 then bits .or .u32 (bits .and .u32 d b) (bits .and .u32 (bits .xor .u32 IntKind.u32.max d) c)
  else if i < 48 then bits .xor .u32 (bits .xor .u32 b c) d
  else bits .xor .u32 c (bits .or .u32 b (bits .xor .u32 IntKind.u32.max d))
def stepG (i : Nat) : Nat := if i < 16 then i else if i < 32 then (5 * i + 1) % 16 else if i < 48 then (3 * i + 5) % 16 else 7 * i % 16
theorem tdiv16 (i q : Nat) (h : i / 16 = q) : ((i : Nat) : Int).tdiv 16 = (q : Int) := by
  rw [Int.tdiv_eq_ediv_of_nonneg (by omega)]; omega
theorem tmod16 (i : Nat) : ((i : Nat) : Int).tmod 16 = ((i % 16 : Nat) : Int) := by
  rw [Int.tmod_eq_emod_of_nonneg (by omega)]; omega
set_option maxHeartbeats 2000000 in
set_option maxRecDepth 100000 in
theorem T.step (i : Nat) (b c d : Int) (w : World) (hi : i < 64) : Calls Tryd.prog 30 #[.int .i64 i, .int .u32 b, .int .u32 c, .int .u32 d] w fun e w' => e = .returned (.tuple #[.int .u32 (stepF i b c d), .int .i64 (stepG i)]) ∧ w' = w := by
  by_cases h0 : i < 16
  · have f := tdiv16 i 0 (by omega)
    have e1 : stepF i b c d = bits .or .u32 (bits .and .u32 b c) (bits .and .u32 (bits .xor .u32 IntKind.u32.max b) d) := by unfold stepF; rw [if_pos h0]
    have e2 : stepG i = i := by unfold stepG; rw [if_pos h0]
    rw [e1, e2]
    clear e1 e2 h0
    go_enter Tryd.func30, Tryd.ntmps30
    go_wp2
    go_ret2
    exact ⟨rfl, rfl⟩
  · by_cases h1 : i < 32
    · have f := tdiv16 i 1 (by omega)
      have g1 : IntKind.i64.wrap (5 * (i : Int)) = 5 * (i : Int) := wrap64_in (by omega) (by omega)
      have g2 : IntKind.i64.wrap (5 * (i : Int) + 1) = 5 * (i : Int) + 1 := wrap64_in (by omega) (by omega)
      have g3 : (0 : Int) ≤ (5 * (i : Int) + 1) := by omega
      have e1 : stepF i b c d = bits .or .u32 (bits .and .u32 d b) (bits .and .u32 (bits .xor .u32 IntKind.u32.max d) c) := by unfold stepF; rw [if_neg h0, if_pos h1]
      have e2 : ((stepG i : Nat) : Int) = (5 * (i : Int) + 1) % 16 := by unfold stepG; rw [if_neg h0, if_pos h1]; omega
      rw [e1, e2]
      clear e1 e2 h0 h1
      go_enter Tryd.func30, Tryd.ntmps30
      go_wp2
      go_ret2
      exact ⟨rfl, rfl⟩
    · by_cases h2 : i < 48
      · have f := tdiv16 i 2 (by omega)
        have g1 : IntKind.i64.wrap (3 * (i : Int)) = 3 * (i : Int) := wrap64_in (by omega) (by omega)
        have g2 : IntKind.i64.wrap (3 * (i : Int) + 5) = 3 * (i : Int) + 5 := wrap64_in (by omega) (by omega)
        have g3 : (0 : Int) ≤ (3 * (i : Int) + 5) := by omega
        have e1 : stepF i b c d = bits .xor .u32 (bits .xor .u32 b c) d := by unfold stepF; rw [if_neg h0, if_neg h1, if_pos h2]
        have e2 : ((stepG i : Nat) : Int) = (3 * (i : Int) + 5) % 16 := by unfold stepG; rw [if_neg h0, if_neg h1, if_pos h2]; omega
        rw [e1, e2]
        clear e1 e2 h0 h1 h2
        go_enter Tryd.func30, Tryd.ntmps30
        go_wp2
        go_ret2
        exact ⟨rfl, rfl⟩
      · have f := tdiv16 i 3 (by omega)
        have g1 : IntKind.i64.wrap (7 * (i : Int)) = 7 * (i : Int) := wrap64_in (by omega) (by omega)
        have g3 : (0 : Int) ≤ (7 * (i : Int)) := by omega
        have e1 : stepF i b c d = bits .xor .u32 c (bits .or .u32 b (bits .xor .u32 IntKind.u32.max d)) := by unfold stepF; rw [if_neg h0, if_neg h1, if_neg h2]
        have e2 : ((stepG i : Nat) : Int) = (7 * (i : Int)) % 16 := by unfold stepG; rw [if_neg h0, if_neg h1, if_neg h2]; omega
        rw [e1, e2]
        clear e1 e2 h0 h1 h2
        go_enter Tryd.func30, Tryd.ntmps30
        go_wp2
        go_ret2
        exact ⟨rfl, rfl⟩
def word4 (b0 b1 b2 b3 : Int) : Int := bits BinOp.or IntKind.u32 (bits BinOp.or IntKind.u32 (bits BinOp.or IntKind.u32 (IntKind.u32.wrap b0) (IntKind.u32.wrap (IntKind.u32.wrap b1 * 256))) (IntKind.u32.wrap (IntKind.u32.wrap b2 * 65536))) (IntKind.u32.wrap (IntKind.u32.wrap b3 * 16777216))
/-- The first i words of a block. -/
def mN (bl : List Int) : Nat → List Int
  | 0 => []
  | i + 1 => mN bl i ++ [word4 (bl.getD (4 * i) 0) (bl.getD (4 * i + 1) 0) (bl.getD (4 * i + 2) 0) (bl.getD (4 * i + 3) 0)]
theorem mN_length (bl : List Int) : ∀ i, (mN bl i).length = i
  | 0 => rfl
  | i + 1 => by simp [mN, mN_length bl i]
theorem mN_set (bl : List Int) (i : Nat) (h : i < 16) : (mN bl i ++ List.replicate (16 - i) 0).set i (word4 (bl.getD (4 * i) 0) (bl.getD (4 * i + 1) 0) (bl.getD (4 * i + 2) 0) (bl.getD (4 * i + 3) 0)) = mN bl (i + 1) ++ List.replicate (16 - (i + 1)) 0 := by
  rw [List.set_append_right _ _ (by rw [mN_length]; omega), mN_length, Nat.sub_self, show 16 - i = (16 - (i + 1)) + 1 from by omega, List.replicate_succ, List.set_cons_zero]
  simp [mN]
def mix1 (w : World) (bl : List Int) (kq : Nat) (v11 : Value) (wr : World) : Prop := ∃ i : Nat, i + kq = 16 ∧ v11 = .int .i64 (i : Int) ∧ Aside (wr.heap[w.heap.size]? = some (.cells (T.ws (mN bl i ++ List.replicate (16 - i) 0)) 58 (0, 0))) ∧ Aside (Below w.heap.size w wr) ∧ Aside (wr.heap.size = w.heap.size + 1)
end Go.Proofs.YticpbhpehoolfaaDoor

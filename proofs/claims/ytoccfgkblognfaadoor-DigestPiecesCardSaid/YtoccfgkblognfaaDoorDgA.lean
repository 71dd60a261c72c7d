/- The digest's mix of a block: what it leaves of a Hash in memory is a plain function of the words and the block. Conditions: the Hash's block of cells, and the table of rounds, are given. -/
import Derived.Test.YtoccfgkblognfaaDoorProg
import Derived.WalkKit
import Derived.Below
import Derived.Deep.QuietTactic
import Derived.BigQuiet
import Derived.StillTailTactics
import Derived.Deep.MidRow
import Derived.Deep.WholeRow
import Derived.Deep.LoopGhost
namespace Go.Proofs.YtoccfgkblognfaaDoor
open Go.RowKit
structure Aside (p : Prop) : Prop where
  out : p
theorem wrap64_in {x : Int} (h0 : 0 ≤ x) (h1 : x < 9223372036854775808) : IntKind.i64.wrap x = x := by simp [IntKind.wrap, IntKind.bits, IntKind.signed]; omega
def rotl (x : Int) (s : Nat) : Int := bits BinOp.or IntKind.u32 (x * 2 ^ s % 4294967296) (x / 2 ^ (32 - s))
set_option maxHeartbeats 2000000 in
set_option maxRecDepth 100000 in
theorem T.rot (x : Int) (k : Int) (s : Nat) (w : World) (hk : bits BinOp.and IntKind.u64 (IntKind.u64.wrap k) 31 = (s : Int)) (h0 : 0 < s) (h1 : s < 32) : Calls Tryd.prog 26 #[.int .u32 x, .int .i64 k] w fun e w' => e = .returned (.int .u32 (rotl x s)) ∧ w' = w := by
  have h2 : IntKind.u64.wrap (32 - (s : Int)) = 32 - (s : Int) := by simp [IntKind.wrap, IntKind.bits, IntKind.signed]; omega
  go_enter Tryd.func26, Tryd.ntmps26
  go_wp2
  go_ret
  exact ⟨rfl, rfl⟩
theorem rk6 : bits BinOp.and IntKind.u64 (IntKind.u64.wrap (-6)) 31 = ((26 : Nat) : Int) := by decide +kernel
theorem rk11 : bits BinOp.and IntKind.u64 (IntKind.u64.wrap (-11)) 31 = ((21 : Nat) : Int) := by decide +kernel
theorem rk25 : bits BinOp.and IntKind.u64 (IntKind.u64.wrap (-25)) 31 = ((7 : Nat) : Int) := by decide +kernel
theorem rk2 : bits BinOp.and IntKind.u64 (IntKind.u64.wrap (-2)) 31 = ((30 : Nat) : Int) := by decide +kernel
theorem rk13 : bits BinOp.and IntKind.u64 (IntKind.u64.wrap (-13)) 31 = ((19 : Nat) : Int) := by decide +kernel
theorem rk22 : bits BinOp.and IntKind.u64 (IntKind.u64.wrap (-22)) 31 = ((10 : Nat) : Int) := by decide +kernel
theorem rk7 : bits BinOp.and IntKind.u64 (IntKind.u64.wrap (-7)) 31 = ((25 : Nat) : Int) := by decide +kernel
theorem rk18 : bits BinOp.and IntKind.u64 (IntKind.u64.wrap (-18)) 31 = ((14 : Nat) : Int) := by decide +kernel
theorem rk17 : bits BinOp.and IntKind.u64 (IntKind.u64.wrap (-17)) 31 = ((15 : Nat) : Int) := by decide +kernel
theorem rk19 : bits BinOp.and IntKind.u64 (IntKind.u64.wrap (-19)) 31 = ((13 : Nat) : Int) := by decide +kernel
def T.cells (made : Bool) (words block : List Int) (n : Int) : Array Value := ([Value.bool made] ++ words.map (Value.int .u32) ++ block.map (Value.int .u8) ++ [Value.int .i64 n]).toArray
def T.ws (l : List Int) : Array Value := (l.map (Value.int .u32)).toArray
theorem T.block_cell {W : World} {H : Nat} {m : Bool} {wl bl : List Int} {n : Int} (h : W.heap[H]? = some (.cells (T.cells m wl bl n) 43 (0, 0))) (hw : wl.length = 8) (hb : bl.length = 64) (k : Nat) (hk : k < 64) : W.cell? ⟨H, 9 + k, none⟩ = some (.int .u8 (bl.getD k 0)) := by
  unfold World.cell?
  simp only [h]
  simp only [T.cells, List.getElem?_toArray, Option.isSome_none, Bool.false_eq_true, if_false]
  rw [List.getElem?_append_left (by simp [hw, hb]; omega), List.getElem?_append_right (by simp [hw])]
  simp only [List.length_append, List.length_map, List.length_cons, List.length_nil, hw]
  rw [show 9 + k - (0 + 1 + 8) = k from by omega, List.getElem?_map, List.getElem?_eq_getElem (by omega), List.getD_eq_getElem?_getD, List.getElem?_eq_getElem (by omega)]
  rfl
theorem T.ws_cell {W : World} {B t : Nat} {l : List Int} (h : W.heap[B]? = some (.cells (T.ws l) t (0, 0))) (k : Nat) (hk : k < l.length) : W.cell? ⟨B, k, none⟩ = some (.int .u32 (l.getD k 0)) := by
  rw [cell_of_row W B k _ _ _ h]
  simp [T.ws, List.getElem?_eq_getElem hk, List.getD_eq_getElem?_getD]
theorem T.ws_set {W : World} {B t : Nat} {l : List Int} (h : W.heap[B]? = some (.cells (T.ws l) t (0, 0))) (k : Nat) (x : Int) : (W.setCell ⟨B, k, none⟩ (.int .u32 x)).heap[B]? = some (.cells (T.ws (l.set k x)) t (0, 0)) := by
  rw [heap_setCell_same W B k _ t _ h]
  simp [T.ws, List.map_set]
def word4 (b0 b1 b2 b3 : Int) : Int := bits BinOp.or IntKind.u32 (bits BinOp.or IntKind.u32 (bits BinOp.or IntKind.u32 (IntKind.u32.wrap (IntKind.u32.wrap b0 * 16777216)) (IntKind.u32.wrap (IntKind.u32.wrap b1 * 65536))) (IntKind.u32.wrap (IntKind.u32.wrap b2 * 256))) (IntKind.u32.wrap b3)
def nextW (bl l : List Int) (i : Nat) : Int := if i < 16 then word4 (bl.getD (4 * i) 0) (bl.getD (4 * i + 1) 0) (bl.getD (4 * i + 2) 0) (bl.getD (4 * i + 3) 0) else (l.getD (i - 16) 0 + l.getD (i - 7) 0 + bits BinOp.xor IntKind.u32 (bits BinOp.xor IntKind.u32 (rotl (l.getD (i - 15) 0) 25) (rotl (l.getD (i - 15) 0) 14)) (l.getD (i - 15) 0 / 8) + bits BinOp.xor IntKind.u32 (bits BinOp.xor IntKind.u32 (rotl (l.getD (i - 2) 0) 15) (rotl (l.getD (i - 2) 0) 13)) (l.getD (i - 2) 0 / 1024)) % 4294967296
def schedN (bl : List Int) : Nat → List Int
  | 0 => []
  | i + 1 => schedN bl i ++ [nextW bl (schedN bl i) i]
theorem schedN_length (bl : List Int) : ∀ i, (schedN bl i).length = i
  | 0 => rfl
  | i + 1 => by simp [schedN, schedN_length bl i]
theorem sched_getD (bl : List Int) (i k : Nat) (h : k < i) : (schedN bl i ++ List.replicate (64 - i) 0).getD k 0 = (schedN bl i).getD k 0 := by
  simp only [List.getD_eq_getElem?_getD]
  rw [List.getElem?_append_left (by rw [schedN_length]; exact h)]
theorem sched_set (bl : List Int) (i : Nat) (h : i < 64) : (schedN bl i ++ List.replicate (64 - i) 0).set i (nextW bl (schedN bl i) i) = schedN bl (i + 1) ++ List.replicate (64 - (i + 1)) 0 := by
  rw [List.set_append_right _ _ (by rw [schedN_length]; omega), schedN_length, Nat.sub_self, show 64 - i = (64 - (i + 1)) + 1 from by omega, List.replicate_succ, List.set_cons_zero]
  simp [schedN]
theorem still_lit {P : Program} {id : Nat} {Q : Exit → Act → World → Prop} {a : Act} {w : World} {l : List Oper} (hm : P.follows .mixedOrders = true) (hB : Region.lexB .any l.toArray = true)
    (h : wpStill P l.toArray w.drew (fun a' => Q .normal a' w.drew) l a) : (Code.region id l.toArray true).wp P Q a w := wp_region_still_lit hm hB h
theorem still_tail {P : Program} {id : Nat} {Q : Exit → Act → World → Prop} {a : Act} {w : World} {l : List Oper} (n : Nat) (hm : P.follows .mixedOrders = true) (hB : Region.lexTailB .any l.toArray n = true)
    (h : wpStill P l.toArray w.drew (fun a' => wpList P l.toArray Q (l.drop n) a' w.drew) (l.take n) a) : (Code.region id l.toArray true).wp P Q a w := wp_region_still_tail n hm hB h
def ksL : List Int := [1116352408, 1899447441, 3049323471, 3921009573, 961987163, 1508970993, 2453635748, 2870763221, 3624381080, 310598401, 607225278, 1426881987, 1925078388, 2162078206, 2614888103, 3248222580, 3835390401, 4022224774, 264347078, 604807628, 770255983, 1249150122, 1555081692, 1996064986, 2554220882, 2821834349, 2952996808, 3210313671, 3336571891, 3584528711, 113926993, 338241895, 666307205, 773529912, 1294757372, 1396182291, 1695183700, 1986661051, 2177026350, 2456956037, 2730485921, 2820302411, 3259730800, 3345764771, 3516065817, 3600352804, 4094571909, 275423344, 430227734, 506948616, 659060556, 883997877, 958139571, 1322822218, 1537002063, 1747873779, 1955562222, 2024104815, 2227730452, 2361852424, 2428436474, 2756734187, 3204031479, 3329325298]
theorem eight {l : List Int} (h : l.length = 8) : ∃ a b c d e f g k, l = [a, b, c, d, e, f, g, k] := by
  match l, h with
  | [a, b, c, d, e, f, g, k], _ => exact ⟨a, b, c, d, e, f, g, k, rfl⟩
theorem setRow_other (w : World) (g : Nat) (cs : Array Value) (k : Nat) (h : k ≠ g) : (w.setRow g cs).heap[k]? = w.heap[k]? := by
  simp only [World.setRow, Array.getElem?_modify]
  rw [if_neg (fun e => h e.symm)]
theorem Below_setRow {B : Nat} {a w : World} (h : Below B a w) {g : Nat} (hg : B ≤ g) (cs : Array Value) : Below B a (w.setRow g cs) :=
  h.trans ⟨rfl, rfl, rfl, by simp, fun k hk => setRow_other _ _ _ _ (by omega)⟩
theorem wpList_store_row {P : Program} {ops : Array Oper} {rest : List Oper} {o : Oper} {a : Act} {w : World} {Q : Exit → Act → World → Prop} (hgd : o.guard = none) (ty : TypeId) (x y : Operand) (ho : o.op = .store ty x y)
    (g : Nat) (cells : Array Value) (hx : a.eval x = .pointer (some ⟨g, 0, none⟩)) (hy : a.eval y = .agg cells)
    (t : TypeId) (old : Array Value) (hg : w.heap[g]? = some (.cells old t (0, 0))) (hi : (P.info? ty).map (·.size) = some cells.size)
    (hold : old.size = cells.size) (h1 : cells.all (·.oneCell') = true)
    (h : wpList P ops Q rest (a.put o.dst undef) (w.setRow g cells)) : wpList P ops Q (o :: rest) a w :=
  wpList_plain hgd fun _ hK => wp_store_row ty x y ho g cells hx hy t old hg hi hold h1 (hK _ _ h)
def stepV (k x : Int) : List Int → List Int
  | [a, b, c, d, e, f, g, h] => [(h + bits BinOp.xor IntKind.u32 (bits BinOp.xor IntKind.u32 (rotl e 26) (rotl e 21)) (rotl e 7) + bits BinOp.xor IntKind.u32 (bits BinOp.and IntKind.u32 e f) (bits BinOp.and IntKind.u32 (bits BinOp.xor IntKind.u32 IntKind.u32.max e) g) + k + x + (bits BinOp.xor IntKind.u32 (bits BinOp.xor IntKind.u32 (rotl a 30) (rotl a 19)) (rotl a 10) + bits BinOp.xor IntKind.u32 (bits BinOp.xor IntKind.u32 (bits BinOp.and IntKind.u32 a b) (bits BinOp.and IntKind.u32 a c)) (bits BinOp.and IntKind.u32 b c))) % 4294967296, a, b, c, (d + (h + bits BinOp.xor IntKind.u32 (bits BinOp.xor IntKind.u32 (rotl e 26) (rotl e 21)) (rotl e 7) + bits BinOp.xor IntKind.u32 (bits BinOp.and IntKind.u32 e f) (bits BinOp.and IntKind.u32 (bits BinOp.xor IntKind.u32 IntKind.u32.max e) g) + k + x)) % 4294967296, e, f, g]
  | v => v
def roundN (bl wl : List Int) : Nat → List Int
  | 0 => wl
  | i + 1 => stepV (ksL.getD i 0) ((schedN bl 64).getD i 0) (roundN bl wl i)
theorem stepV_length (k x : Int) (v : List Int) (h : v.length = 8) : (stepV k x v).length = 8 := by
  obtain ⟨a, b, c, d, e, f, g, k, rfl⟩ := eight h
  rfl
theorem roundN_length (bl wl : List Int) (h : wl.length = 8) : ∀ i, (roundN bl wl i).length = 8
  | 0 => h
  | i + 1 => stepV_length _ _ _ (roundN_length bl wl h i)
theorem T.words_range {W : World} {H : Nat} {m : Bool} {wl bl : List Int} {n : Int} (h : W.heap[H]? = some (.cells (T.cells m wl bl n) 43 (0, 0))) : W.rangeAt H 1 (wl.map (Value.int .u32)) := by
  intro j v hv
  rw [cell_of_row W H _ _ _ _ h]
  have hj : j < (wl.map (Value.int .u32)).length := (List.getElem?_eq_some_iff.1 hv).1
  simp only [T.cells, List.getElem?_toArray]
  rw [List.getElem?_append_left (by simp at hj ⊢; omega), List.getElem?_append_left (by simp at hj ⊢; omega), List.getElem?_append_right (by simp)]
  simpa [Nat.add_sub_cancel_left] using hv
def mix2 (w : World) (bl wl : List Int) (kq : Nat) (v103 : Value) (wr : World) : Prop := ∃ i : Nat, i + kq = 64 ∧ v103 = .int .i64 (i : Int) ∧ Aside (wr.heap[w.heap.size]? = some (.cells (T.ws (schedN bl 64)) 52 (0, 0))) ∧ Aside (wr.heap[w.heap.size + 1]? = some (.cells (T.ws (roundN bl wl i)) 40 (0, 0))) ∧ Aside (Below w.heap.size w wr) ∧ Aside (wr.heap.size = w.heap.size + 2)
theorem gb_set {w w' : World} {g : Nat} (h : w.grownBy w' (some g)) (i : Nat) (v : Value) : w.grownBy (w'.setCell ⟨g, i, none⟩ v) (some g) :=
  ⟨h.os, h.tape, h.output, by simpa [World.setCell] using h.size, fun k hk hne => by rw [Below.heap_setCell _ _ _ _ (fun e => hne (by rw [e]))]; exact h.block k hk hne⟩
theorem gb_drew {w w' : World} {row : Option Nat} (h : w.grownBy w' row) : w.grownBy w'.drew row := ⟨h.os, h.tape, h.output, h.size, h.block⟩
theorem gb_below {w w' : World} (h : Below w.heap.size w w') (row : Option Nat) : w.grownBy w' row := ⟨h.os, h.tape, h.output, h.size, fun k hk _ => h.block k hk⟩
theorem T.set_word {W : World} {H : Nat} {m : Bool} {wl bl : List Int} {n : Int} (h : W.heap[H]? = some (.cells (T.cells m wl bl n) 43 (0, 0))) (i : Nat) (hi : i < wl.length) (x : Int) : (W.setCell ⟨H, 1 + i, none⟩ (.int .u32 x)).heap[H]? = some (.cells (T.cells m (wl.set i x) bl n) 43 (0, 0)) := by
  rw [heap_setCell_same W H _ _ 43 _ h]
  unfold T.cells
  rw [List.setIfInBounds_toArray, List.set_append_left _ _ (by simp; omega), List.set_append_left _ _ (by simp; omega), List.set_append_right _ _ (by simp)]
  simp [List.map_set]
def addW (v : List Int) : Nat → List Int → List Int
  | 0, wl => wl
  | i + 1, wl => (addW v i wl).set i (((addW v i wl).getD i 0 + v.getD i 0) % 4294967296)
theorem addW_length (v wl : List Int) : ∀ i, (addW v i wl).length = wl.length
  | 0 => rfl
  | i + 1 => by simp [addW, addW_length v wl i]
def mixL (wl bl : List Int) : List Int := addW (roundN bl wl 64) 8 wl
def mix3 (w : World) (H : Nat) (bl wl : List Int) (n : Int) (kq : Nat) (v183 : Value) (wr : World) : Prop := ∃ i : Nat, i + kq = 8 ∧ v183 = .int .i64 (i : Int) ∧ Aside (wr.heap[H]? = some (.cells (T.cells true (addW (roundN bl wl 64) i wl) bl n) 43 (0, 0))) ∧ Aside (wr.heap[w.heap.size + 1]? = some (.cells (T.ws (roundN bl wl 64)) 40 (0, 0))) ∧ Aside (w.grownBy wr (some H))
def mix1 (w : World) (bl : List Int) (kq : Nat) (v13 : Value) (wr : World) : Prop := ∃ i : Nat, i + kq = 64 ∧ v13 = .int .i64 (i : Int) ∧ Aside (wr.heap[w.heap.size]? = some (.cells (T.ws (schedN bl i ++ List.replicate (64 - i) 0)) 52 (0, 0))) ∧ Aside (Below w.heap.size w wr) ∧ Aside (wr.heap.size = w.heap.size + 1)
set_option maxHeartbeats 2000000 in
set_option maxRecDepth 100000 in
theorem T.mix (H : Nat) (wl bl : List Int) (n : Int) (w : World) (hH : w.heap[H]? = some (.cells (T.cells true wl bl n) 43 (0, 0))) (hw : wl.length = 8) (hb : bl.length = 64) (hk : ∀ i, i < 64 → w.cell? ⟨0, i, none⟩ = some (.int .u32 (ksL.getD i 0))) : Calls Tryd.prog 25 #[.pointer (some ⟨H, 0, none⟩)] w fun e w' => e = .returned (.tuple #[]) ∧ w'.heap[H]? = some (.cells (T.cells true (mixL wl bl) bl n) 43 (0, 0)) ∧ w.grownBy w' (some H) := by
  have HH := Aside.mk hH
  have HW := Aside.mk hw
  have HB := Aside.mk hb
  have HK := Aside.mk hk
  clear hH hw hb hk
  go_enter Tryd.func25, Tryd.ntmps25
  go_wp2
  go_loopg [13] 64 (fun kq v13 wr => mix1 w bl kq v13 wr)
  case atStart => exact ⟨0, rfl, rfl, ⟨heap_alloc_new w _⟩, ⟨(Below.refl _ _).alloc (Nat.le_refl _) _⟩, ⟨by simp⟩⟩
  case round =>
    obtain ⟨i, hi, rfl, hc, hB, hS⟩ := hrel
    have HR : Aside (wr.heap[H]? = some (.cells (T.cells true wl bl n) 43 (0, 0))) := ⟨by rw [hB.out.block H (by have := (Array.getElem?_eq_some_iff.1 HH.out).1; exact this)]; exact HH.out⟩
    by_cases hlt : i < 64
    · have hst := T.ws_cell hc.out i (by simp [schedN_length]; omega)
      have hfr := frozen_of_row wr w.heap.size i _ _ hc.out
      have hix : Aside (i < 64) := ⟨hlt⟩
      by_cases h16 : i < 16
      · have c0 := T.block_cell HR.out HW.out HB.out (4 * i) (by omega)
        have c1 := T.block_cell HR.out HW.out HB.out (4 * i + 1) (by omega)
        have c2 := T.block_cell HR.out HW.out HB.out (4 * i + 2) (by omega)
        have c3 := T.block_cell HR.out HW.out HB.out (4 * i + 3) (by omega)
        have hnx : Aside (nextW bl (schedN bl i) i = word4 (bl.getD (4 * i) 0) (bl.getD (4 * i + 1) 0) (bl.getD (4 * i + 2) 0) (bl.getD (4 * i + 3) 0)) := ⟨if_pos h16⟩
        generalize bl.getD (4 * i) 0 = b0 at c0 hnx
        generalize bl.getD (4 * i + 1) 0 = b1 at c1 hnx
        generalize bl.getD (4 * i + 2) 0 = b2 at c2 hnx
        generalize bl.getD (4 * i + 3) 0 = b3 at c3 hnx
        have t0 : (4 * (i : Int)).toNat = 4 * i := by omega
        have t1 : (4 * (i : Int) + 1).toNat = 4 * i + 1 := by omega
        have t2 : (4 * (i : Int) + 2).toNat = 4 * i + 2 := by omega
        have t3 : (4 * (i : Int) + 3).toNat = 4 * i + 3 := by omega
        have l0 : 4 * (i : Int) < 64 := by omega
        have l1 : 4 * (i : Int) + 1 < 64 := by omega
        have l2 : 4 * (i : Int) + 2 < 64 := by omega
        have l3 : 4 * (i : Int) + 3 < 64 := by omega
        have g0 : 0 ≤ 4 * (i : Int) := by omega
        have g1 : 0 ≤ 4 * (i : Int) + 1 := by omega
        have g2 : 0 ≤ 4 * (i : Int) + 2 := by omega
        have g3 : 0 ≤ 4 * (i : Int) + 3 := by omega
        have f0 : IntKind.i64.wrap (4 * (i : Int)) = 4 * (i : Int) := wrap64_in (by omega) (by omega)
        have f1 : IntKind.i64.wrap (4 * (i : Int) + 1) = 4 * (i : Int) + 1 := wrap64_in (by omega) (by omega)
        have f2 : IntKind.i64.wrap (4 * (i : Int) + 2) = 4 * (i : Int) + 2 := wrap64_in (by omega) (by omega)
        have f3 : IntKind.i64.wrap (4 * (i : Int) + 3) = 4 * (i : Int) + 3 := wrap64_in (by omega) (by omega)
        go_wp2
        go_still_tail 43, (by kernel_rfl)
        change wpList _ _ _ _ _ wr.drew
        clear f0 f1 f2 f3 t0 t1 t2 t3 g0 g1 g2 g3 l0 l1 l2 l3 c0 c1 c2 c3
        go_wp2
        go_roundg (gk - 1)
        case measure => omega
        case rel =>
          refine ⟨i + 1, by omega, by go_num, ⟨?_⟩, ⟨hB.out.drew.setCell (p := ⟨w.heap.size, i, none⟩) (Nat.le_refl _) _⟩, ⟨by simpa using hS.out⟩⟩
          rw [← sched_set bl i hix.out, hnx.out]
          exact T.ws_set (W := wr.drew) hc.out i _
      · have cp := T.ws_cell hc.out (i - 16) (by simp [schedN_length]; omega)
        have cq := T.ws_cell hc.out (i - 7) (by simp [schedN_length]; omega)
        have cx := T.ws_cell hc.out (i - 15) (by simp [schedN_length]; omega)
        have cy := T.ws_cell hc.out (i - 2) (by simp [schedN_length]; omega)
        rw [sched_getD _ _ _ (by omega)] at cp cq cx cy
        have hnx := Aside.mk (show nextW bl (schedN bl i) i = _ from if_neg h16)
        generalize (schedN bl i).getD (i - 16) 0 = xp at cp hnx
        generalize (schedN bl i).getD (i - 7) 0 = xq at cq hnx
        generalize (schedN bl i).getD (i - 15) 0 = xx at cx hnx
        generalize (schedN bl i).getD (i - 2) 0 = xy at cy hnx
        have t0 : ((i : Int) - 16).toNat = i - 16 := by omega
        have t1 : ((i : Int) - 7).toNat = i - 7 := by omega
        have t2 : ((i : Int) - 15).toNat = i - 15 := by omega
        have t3 : ((i : Int) - 2).toNat = i - 2 := by omega
        have l0 : (i : Int) - 16 < 64 := by omega
        have l1 : (i : Int) - 7 < 64 := by omega
        have l2 : (i : Int) - 15 < 64 := by omega
        have l3 : (i : Int) - 2 < 64 := by omega
        have g0 : 0 ≤ (i : Int) - 16 := by omega
        have g1 : 0 ≤ (i : Int) - 7 := by omega
        have g2 : 0 ≤ (i : Int) - 15 := by omega
        have g3 : 0 ≤ (i : Int) - 2 := by omega
        have m0 : (16 : Int) ≤ (i : Int) := by omega
        have m1 : (7 : Int) ≤ (i : Int) := by omega
        have m2 : (15 : Int) ≤ (i : Int) := by omega
        have m3 : (2 : Int) ≤ (i : Int) := by omega
        have f0 : IntKind.i64.wrap ((i : Int) - 16) = (i : Int) - 16 := wrap64_in (by omega) (by omega)
        have f1 : IntKind.i64.wrap ((i : Int) - 7) = (i : Int) - 7 := wrap64_in (by omega) (by omega)
        have f2 : IntKind.i64.wrap ((i : Int) - 15) = (i : Int) - 15 := wrap64_in (by omega) (by omega)
        have f3 : IntKind.i64.wrap ((i : Int) - 2) = (i : Int) - 2 := wrap64_in (by omega) (by omega)
        go_wp2
        go_quiet (fail)
        go_wp2
        generalize hwq : wr.drewN nq = wq
        have hQ := Aside.mk hwq
        clear hwq
        have cp' : wq.cell? ⟨w.heap.size, i - 16, none⟩ = some (.int .u32 xp) := by rw [← hQ.out]; exact cp
        have cq' : wq.cell? ⟨w.heap.size, i - 7, none⟩ = some (.int .u32 xq) := by rw [← hQ.out]; exact cq
        obtain ⟨oldv, hst'⟩ : ∃ v, wq.cell? ⟨w.heap.size, i, none⟩ = some v := ⟨_, by rw [← hQ.out]; exact hst⟩
        have hfr' := show wq.frozen? ⟨w.heap.size, i, none⟩ = false from by rw [← hQ.out]; exact hfr
        clear cp cq cx cy hst hfr
        refine wp_region_still_tail 29 (by kernel_rfl) (by kernel_rfl) ?_
        simp only [List.take_succ_cons, List.take_zero, List.drop_succ_cons, List.drop_zero]
        repeat still_step
        still_call (T.rot xx (-7) 25 _ rk7 (by decide) (by decide))
        repeat still_step
        still_call (T.rot xx (-18) 14 _ rk18 (by decide) (by decide))
        repeat still_step
        still_call (T.rot xy (-17) 15 _ rk17 (by decide) (by decide))
        repeat still_step
        still_call (T.rot xy (-19) 13 _ rk19 (by decide) (by decide))
        repeat still_step
        try refine wpStill_nil ?_
        change wpList _ _ _ _ _ wq.drew
        clear f0 f1 f2 f3 t0 t1 t2 t3 g0 g1 g2 g3 l0 l1 l2 l3 cp' cq'
        go_wp2
        go_roundg (gk - 1)
        case measure => omega
        case rel =>
          have hq := hQ.out
          subst hq
          refine ⟨i + 1, by omega, by go_num, ⟨?_⟩, ⟨(Below.trans hB.out ⟨rfl, rfl, rfl, Nat.le_refl _, fun _ _ => rfl⟩ : Below w.heap.size w (wr.drewN nq).drew).setCell (p := ⟨w.heap.size, i, none⟩) (Nat.le_refl _) _⟩, ⟨by simpa using hS.out⟩⟩
          rw [← sched_set bl i hix.out, hnx.out]
          exact T.ws_set (W := wr.drewN nq) hc.out i _
    · have hiq : i = 64 := by omega
      subst hiq
      have hc64 : Aside (wr.heap[w.heap.size]? = some (.cells (T.ws (schedN bl 64)) 52 (0, 0))) := ⟨by have := hc.out; simpa using this⟩
      clear hc hlt hi
      have hrg := Aside.mk (T.words_range HR.out)
      have hs := hS.out
      have hi40 : Aside ((Tryd.prog.info? 40).map (·.size) = some 8) := ⟨by kernel_rfl⟩
      have hml : Aside ((wl.map (Value.int .u32)).length = 8) := ⟨by rw [List.length_map, HW.out]⟩
      have hsz : Aside ((wl.map (Value.int .u32)).toArray.size = 8) := ⟨by rw [List.size_toArray, hml.out]⟩
      have hone : Aside ((wl.map (Value.int .u32)).toArray.all (·.oneCell') = true) := ⟨all_oneCell_toArray (fun v hv => by obtain ⟨x, _, rfl⟩ := List.mem_map.1 hv; rfl)⟩
      go_wp2_with (first | (with_reducible refine wpList_load_mid rfl 40 (.tmp 101) rfl H 1 rfl (wl.map (Value.int .u32)) _ hrg.out Tryd.underlying40 rfl (by rw [hml.out]; exact hi40.out) ?_) | ((with_reducible refine wpList_store_row rfl 40 (.tmp 6) (.tmp 102) rfl (w.heap.size + 1) (wl.map (Value.int .u32)).toArray rfl rfl 40 #[.int .u32 0, .int .u32 0, .int .u32 0, .int .u32 0, .int .u32 0, .int .u32 0, .int .u32 0, .int .u32 0] ?hg ?hi ?hold hone.out ?_); (case hg => rw [← hS.out]; exact heap_alloc_new wr _); (case hi => rw [hsz.out]; exact hi40.out); (case hold => exact hsz.out.symm)))
      go_loopg [103] 64 (fun kq v103 wr => mix2 w bl wl kq v103 wr)
      case atStart =>
        refine ⟨0, rfl, rfl, ⟨?_⟩, ⟨?_⟩, ⟨?_⟩, ⟨?_⟩⟩
        · rw [setRow_other _ _ _ _ (by omega), Below.heap_alloc _ _ _ (by omega)]
          exact hc64.out
        · exact setRow_heap _ _ _ _ _ _ (by rw [← hs]; exact heap_alloc_new wr _)
        · exact Below_setRow (hB.out.alloc (by omega) _) (by omega) _
        · simp [hs]
      case round =>
        clear hB hS HR hc64 hrg hs hml hsz hone
        obtain ⟨i, hi, rfl, hsc, hv, hB, hS⟩ := hrel
        have HR : Aside (wr.heap[H]? = some (.cells (T.cells true wl bl n) 43 (0, 0))) := ⟨by rw [hB.out.block H (by have := (Array.getElem?_eq_some_iff.1 HH.out).1; exact this)]; exact HH.out⟩
        by_cases hlt : i < 64
        · obtain ⟨xa, xb, xc, xd, xe, xf, xg, xh, hrn⟩ := eight (roundN_length bl wl HW.out i)
          have hvr : Aside (wr.heap[w.heap.size + 1]? = some (.cells (T.ws [xa, xb, xc, xd, xe, xf, xg, xh]) 40 (0, 0))) := ⟨by rw [← hrn]; exact hv.out⟩
          have hrn' := Aside.mk hrn
          clear hrn hv
          have v0 := T.ws_cell hvr.out 0 (by simp)
          have v1 := T.ws_cell hvr.out 1 (by simp)
          have v2 := T.ws_cell hvr.out 2 (by simp)
          have v3 := T.ws_cell hvr.out 3 (by simp)
          have v4 := T.ws_cell hvr.out 4 (by simp)
          have v5 := T.ws_cell hvr.out 5 (by simp)
          have v6 := T.ws_cell hvr.out 6 (by simp)
          have v7 := T.ws_cell hvr.out 7 (by simp)
          have cw := T.ws_cell hsc.out i (by rw [schedN_length]; exact hlt)
          have ck := (hB.out.cell (p := ⟨0, i, none⟩) (show 0 < w.heap.size from block_lt_of_cell (HK.out 0 (by decide)))).trans (HK.out i hlt)
          have hnx := Aside.mk (show roundN bl wl (i + 1) = stepV (ksL.getD i 0) ((schedN bl 64).getD i 0) (roundN bl wl i) from rfl)
          generalize ksL.getD i 0 = xk at ck hnx
          generalize (schedN bl 64).getD i 0 = xw at cw hnx
          simp only [List.getD_cons_zero, List.getD_cons_succ] at v0 v1 v2 v3 v4 v5 v6 v7
          go_wp2
          refine still_lit (by kernel_rfl) (by kernel_rfl) ?_
          repeat still_step
          refine wpStill_nil ?_
          go_wp2
          refine still_lit (by kernel_rfl) (by kernel_rfl) ?_
          repeat still_step
          still_call (T.rot xe (-6) 26 _ rk6 (by decide) (by decide))
          repeat still_step
          still_call (T.rot xe (-11) 21 _ rk11 (by decide) (by decide))
          repeat still_step
          still_call (T.rot xe (-25) 7 _ rk25 (by decide) (by decide))
          repeat still_step
          refine wpStill_nil ?_
          go_wp2
          refine still_lit (by kernel_rfl) (by kernel_rfl) ?_
          repeat still_step
          still_call (T.rot xa (-2) 30 _ rk2 (by decide) (by decide))
          repeat still_step
          still_call (T.rot xa (-13) 19 _ rk13 (by decide) (by decide))
          repeat still_step
          still_call (T.rot xa (-22) 10 _ rk22 (by decide) (by decide))
          repeat still_step
          refine wpStill_nil ?_
          go_wp2_with ((with_reducible refine wpList_store_row rfl 40 (.tmp 6) (.tmp 181) rfl (w.heap.size + 1) _ rfl rfl 40 (T.ws [xa, xb, xc, xd, xe, xf, xg, xh]) ?hg ?hi ?hold ?hone ?_); (case hg => exact hvr.out); (case hi => kernel_rfl); (case hold => rfl); (case hone => simp [Value.oneCell']))
          clear v0 v1 v2 v3 v4 v5 v6 v7 cw ck
          go_wp2
          go_roundg (gk - 1)
          case measure => omega
          case rel =>
            refine ⟨i + 1, by omega, by go_num, ⟨?_⟩, ⟨?_⟩, ⟨?_⟩, ⟨?_⟩⟩
            · rw [setRow_other _ _ _ _ (by omega)]
              exact hsc.out
            · rw [hnx.out, hrn'.out]
              exact setRow_heap _ _ _ _ _ _ hvr.out
            · exact Below_setRow hB.out.drew.drew.drew (by omega) _
            · simpa using hS.out
        · have hiq : i = 64 := by omega
          subst hiq
          clear hlt hi
          go_wp2
          go_loopg [183] 8 (fun kq v183 wr => mix3 w H bl wl n kq v183 wr)
          case atStart => exact ⟨0, rfl, rfl, HR, hv, ⟨gb_below hB.out _⟩⟩
          case round =>
            clear HR hv hsc hB hS
            obtain ⟨i, hi, rfl, hR, hv, hG⟩ := hrel
            by_cases hlt : i < 8
            · have hHlt : H < w.heap.size := (Array.getElem?_eq_some_iff.1 HH.out).1
              have hrl := Aside.mk (show (roundN bl wl 64).length = 8 from roundN_length bl wl HW.out 64)
              have hal := Aside.mk (show (addW (roundN bl wl 64) i wl).length = 8 from (addW_length _ _ _).trans HW.out)
              have cv := T.ws_cell hv.out i (by rw [hrl.out]; exact hlt)
              have cw : wr.cell? ⟨H, 1 + i, none⟩ = some (.int .u32 ((addW (roundN bl wl 64) i wl).getD i 0)) := T.words_range hR.out i _ (by
                rw [List.getElem?_map, List.getElem?_eq_getElem (by rw [hal.out]; exact hlt), List.getD_eq_getElem?_getD, List.getElem?_eq_getElem (by rw [hal.out]; exact hlt)]; rfl)
              have hfr := frozen_of_row wr H (1 + i) _ _ hR.out
              have hnx := Aside.mk (show addW (roundN bl wl 64) (i + 1) wl = (addW (roundN bl wl 64) i wl).set i (((addW (roundN bl wl 64) i wl).getD i 0 + (roundN bl wl 64).getD i 0) % 4294967296) from rfl)
              generalize (addW (roundN bl wl 64) i wl).getD i 0 = xw at cw hnx
              generalize (roundN bl wl 64).getD i 0 = xv at cv hnx
              have hlt' := Aside.mk hlt
              go_wp2
              refine still_tail 13 (by kernel_rfl) (by kernel_rfl) ?_
              simp only [List.take_succ_cons, List.take_zero, List.drop_succ_cons, List.drop_zero]
              repeat still_step
              refine wpStill_nil ?_
              go_wp2
              go_roundg (gk - 1)
              case measure => omega
              case rel =>
                refine ⟨i + 1, by omega, by go_num, ⟨?_⟩, ⟨?_⟩, ⟨?_⟩⟩
                · rw [hnx.out]
                  exact T.set_word hR.out i (by rw [hal.out]; exact hlt'.out) _
                · exact (Below.heap_setCell _ _ _ _ (by simp; omega)).trans hv.out
                · exact gb_drew (gb_set hG.out _ _)
            · have hiq : i = 8 := by omega
              subst hiq
              clear hlt hi
              go_wp2
              go_end0
              exact ⟨rfl, hR.out, hG.out⟩
end Go.Proofs.YtoccfgkblognfaaDoor

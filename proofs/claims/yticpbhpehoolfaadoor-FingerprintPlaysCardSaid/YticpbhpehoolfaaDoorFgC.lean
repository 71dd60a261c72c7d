/- What a Print in memory has: the words behind the whole blocks of the bytes that it was given, and what is left of them in its block. Plain law, no call. -/
import Derived.Test.YticpbhpehoolfaaDoorFgB
namespace Go.Proofs.YticpbhpehoolfaaDoor
open Go.RowKit
theorem mixL_length (wl bl : List Int) : (mixL wl bl).length = 4 := rfl
/-- The words behind q whole blocks of these bytes. -/
def foldQ (wl all : List Int) : Nat → List Int
  | 0 => wl
  | q + 1 => mixL (foldQ wl all q) ((all.drop (64 * q)).take 64)
def foldW (wl all : List Int) : List Int := foldQ wl all (all.length / 64)
theorem foldQ_length (wl all : List Int) (h : wl.length = 4) : ∀ q, (foldQ wl all q).length = 4
  | 0 => h
  | _ + 1 => mixL_length _ _
theorem foldQ_append (wl all more : List Int) : ∀ q, 64 * q ≤ all.length → foldQ wl (all ++ more) q = foldQ wl all q
  | 0, _ => rfl
  | q + 1, h => by
    simp only [foldQ]
    rw [foldQ_append wl all more q (by omega), List.drop_append_of_le_length (by omega), List.take_append_of_le_length (by simp; omega)]
theorem foldW_stay (wl all more : List Int) (h : (all ++ more).length / 64 = all.length / 64) : foldW wl (all ++ more) = foldW wl all := by
  unfold foldW
  rw [h, foldQ_append _ _ _ _ (by omega)]
theorem foldW_full (wl all more bl : List Int) (h : (all ++ more).length = 64 * (all.length / 64) + 64) (hb : bl = (all ++ more).drop (all.length / 64 * 64)) : foldW wl (all ++ more) = mixL (foldW wl all) bl := by
  unfold foldW
  rw [show (all ++ more).length / 64 = all.length / 64 + 1 from by omega]
  simp only [foldQ]
  rw [foldQ_append _ _ _ _ (by omega), hb, Nat.mul_comm (all.length / 64) 64]
  congr 1
  exact List.take_of_length_le (by rw [List.length_drop]; omega)
def h0L : List Int := [1732584193, 4023233417, 2562383102, 271733878]
/-- The Hash at block H has been given these bytes. -/
def Hashes (W : World) (H : Nat) (all : List Int) : Prop := ∃ bl : List Int, bl.length = 64 ∧ W.heap[H]? = some (.cells (T.cells true (foldW h0L all) bl all.length) 49 (0, 0)) ∧ bl.take (all.length % 64) = all.drop (all.length / 64 * 64)
theorem Hashes.of_block {W W' : World} {H : Nat} {all : List Int} (h : Hashes W H all) (e : W'.heap[H]? = W.heap[H]?) : Hashes W' H all := by
  obtain ⟨bl, h1, h2, h3⟩ := h
  exact ⟨bl, h1, e.trans h2, h3⟩
theorem foldW_h0_length (all : List Int) : (foldW h0L all).length = 4 := foldQ_length _ _ rfl _
/-- Bytes laid into the block behind what is there. -/
def putB (bl : List Int) (r : Nat) (xs : List Int) : List Int := bl.take r ++ (xs ++ bl.drop (r + xs.length))
theorem putB_length {bl : List Int} {r : Nat} {xs : List Int} (h : r + xs.length ≤ bl.length) : (putB bl r xs).length = bl.length := by
  simp [putB]; omega
theorem putB_take {bl : List Int} {r : Nat} {xs : List Int} (h : r ≤ bl.length) : (putB bl r xs).take (r + xs.length) = bl.take r ++ xs := by
  unfold putB
  rw [← List.append_assoc, List.take_append_of_le_length (by simp; omega)]
  exact List.take_of_length_le (by simp; omega)
theorem drop_tail {all xs : List Int} {q : Nat} (h : 64 * q ≤ all.length) : (all ++ xs).drop (q * 64) = all.drop (q * 64) ++ xs := List.drop_append_of_le_length (by omega)
/-- Bytes that do not fill the block. -/
theorem put_part {W : World} {H : Nat} {all xs bl : List Int} (hb : bl.length = 64) (ht : bl.take (all.length % 64) = all.drop (all.length / 64 * 64)) (h : all.length % 64 + xs.length < 64)
    (hW : W.heap[H]? = some (.cells (T.cells true (foldW h0L all) (putB bl (all.length % 64) xs) (all ++ xs).length) 49 (0, 0))) : Hashes W H (all ++ xs) := by
  have e : (all ++ xs).length / 64 = all.length / 64 := by simp; omega
  refine ⟨_, (putB_length (bl := bl) (r := all.length % 64) (xs := xs) (by omega)).trans hb, by rw [foldW_stay _ _ _ e]; exact hW, ?_⟩
  have e2 : (all ++ xs).length % 64 = all.length % 64 + xs.length := by simp; omega
  rw [e2, putB_take (by omega), e, drop_tail (by omega), ht]
/-- Bytes that fill it, and the block is mixed in. -/
theorem put_full {W : World} {H : Nat} {all xs bl : List Int} (hb : bl.length = 64) (ht : bl.take (all.length % 64) = all.drop (all.length / 64 * 64)) (h : all.length % 64 + xs.length = 64)
    (hW : W.heap[H]? = some (.cells (T.cells true (mixL (foldW h0L all) (putB bl (all.length % 64) xs)) (putB bl (all.length % 64) xs) (all ++ xs).length) 49 (0, 0))) : Hashes W H (all ++ xs) := by
  have hl : (putB bl (all.length % 64) xs).length = 64 := (putB_length (by omega)).trans hb
  have e : putB bl (all.length % 64) xs = (all ++ xs).drop (all.length / 64 * 64) := by
    have h1 := putB_take (bl := bl) (r := all.length % 64) (xs := xs) (by omega)
    rw [h, List.take_of_length_le (by omega)] at h1
    rw [h1, ht, drop_tail (by omega)]
  refine ⟨_, hl, by rw [foldW_full h0L all xs _ (by simp; omega) e]; exact hW, ?_⟩
  have e2 : (all ++ xs).length % 64 = 0 := by simp; omega
  rw [e2, List.take_zero, List.drop_eq_nil_of_le (by omega)]
theorem T.n_cell {W : World} {H : Nat} {m : Bool} {wl bl : List Int} {n : Int} (h : W.heap[H]? = some (.cells (T.cells m wl bl n) 49 (0, 0))) (hw : wl.length = 4) (hb : bl.length = 64) : W.cell? ⟨H, 69, none⟩ = some (.int .i64 n) := by
  rw [cell_of_row W H 69 _ _ _ h]
  simp only [T.cells, List.getElem?_toArray]
  rw [List.getElem?_append_right (by simp [hw, hb])]
  simp [hw, hb]
theorem T.made_cell {W : World} {H : Nat} {m : Bool} {wl bl : List Int} {n : Int} (h : W.heap[H]? = some (.cells (T.cells m wl bl n) 49 (0, 0))) : W.cell? ⟨H, 0, none⟩ = some (.bool m) := by
  rw [cell_of_row W H 0 _ _ _ h]
  simp [T.cells]
theorem T.set_n {W : World} {H : Nat} {m : Bool} {wl bl : List Int} {n : Int} (h : W.heap[H]? = some (.cells (T.cells m wl bl n) 49 (0, 0))) (hw : wl.length = 4) (hb : bl.length = 64) (x : Int) : (W.setCell ⟨H, 69, none⟩ (.int .i64 x)).heap[H]? = some (.cells (T.cells m wl bl x) 49 (0, 0)) := by
  rw [heap_setCell_same W H _ _ 49 _ h]
  unfold T.cells
  rw [List.setIfInBounds_toArray, List.set_append_right _ _ (by simp [hw, hb])]
  simp [hw, hb]
theorem T.put_cells {m : Bool} {wl bl : List Int} {n : Int} (hw : wl.length = 4) (hb : bl.length = 64) (r : Nat) (xs : List Int) (h : r + xs.length ≤ 64) :
    ((T.cells m wl bl n).toList.take (5 + r) ++ (xs.map (Value.int .u8) ++ (T.cells m wl bl n).toList.drop (5 + r + (xs.map (Value.int .u8)).length))).toArray = T.cells m wl (putB bl r xs) n := by
  unfold T.cells
  congr 1
  have hA : ([Value.bool m] ++ wl.map (Value.int .u32)).length = 5 := by simp [hw]
  generalize ([Value.bool m] ++ wl.map (Value.int .u32)) = A at hA
  rw [List.append_assoc A, List.take_append, List.drop_append, hA]
  rw [List.take_of_length_le (by omega), List.drop_eq_nil_of_le (by omega), List.nil_append]
  simp only [putB, List.map_append, List.append_assoc, List.map_take, List.map_drop]
  rw [show 5 + r - 5 = r from by omega, List.take_append_of_le_length (by simp; omega), show 5 + r + (xs.map (Value.int .u8)).length - 5 = r + xs.length from by simp; omega, List.drop_append_of_le_length (by simp; omega)]
theorem putB_one (bl : List Int) (r : Nat) (x : Int) (h : r < bl.length) : putB bl r [x] = bl.set r x := by
  unfold putB
  apply List.ext_getElem?
  intro i
  rw [List.getElem?_set]
  by_cases h1 : i < r
  · rw [List.getElem?_append_left (by simp; omega), List.getElem?_take, if_pos h1, if_neg (by omega)]
  · rw [List.getElem?_append_right (by simp; omega)]
    by_cases h2 : i = r
    · subst h2
      simp [Nat.min_eq_left (Nat.le_of_lt h), h]
    · rw [if_neg (by omega), List.getElem?_append_right (by simp; omega), List.getElem?_drop]
      congr 1
      simp
      omega
theorem T.set_byte {W : World} {H : Nat} {m : Bool} {wl bl : List Int} {n : Int} (h : W.heap[H]? = some (.cells (T.cells m wl bl n) 49 (0, 0))) (hw : wl.length = 4) (i : Nat) (hi : i < bl.length) (x : Int) : (W.setCell ⟨H, 5 + i, none⟩ (.int .u8 x)).heap[H]? = some (.cells (T.cells m wl (bl.set i x) n) 49 (0, 0)) := by
  rw [heap_setCell_same W H _ _ 49 _ h]
  unfold T.cells
  rw [List.setIfInBounds_toArray, List.set_append_left _ _ (by simp; omega), List.set_append_right _ _ (by simp; omega)]
  simp [List.map_set, hw]
end Go.Proofs.YticpbhpehoolfaaDoor

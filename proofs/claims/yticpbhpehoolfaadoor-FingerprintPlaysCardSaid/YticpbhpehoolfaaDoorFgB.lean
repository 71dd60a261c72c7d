/- The fingerprint's mix of a block: what it leaves of a Print in memory is a plain function of the words and the block. Conditions: the Print's block of cells, and the tables, are given. -/
import Derived.Test.YticpbhpehoolfaaDoorFgA
namespace Go.Proofs.YticpbhpehoolfaaDoor
open Go.RowKit
def sinesL : List Int := [3614090360, 3905402710, 606105819, 3250441966, 4118548399, 1200080426, 2821735955, 4249261313, 1770035416, 2336552879, 4294925233, 2304563134, 1804603682, 4254626195, 2792965006, 1236535329, 4129170786, 3225465664, 643717713, 3921069994, 3593408605, 38016083, 3634488961, 3889429448, 568446438, 3275163606, 4107603335, 1163531501, 2850285829, 4243563512, 1735328473, 2368359562, 4294588738, 2272392833, 1839030562, 4259657740, 2763975236, 1272893353, 4139469664, 3200236656, 681279174, 3936430074, 3572445317, 76029189, 3654602809, 3873151461, 530742520, 3299628645, 4096336452, 1126891415, 2878612391, 4237533241, 1700485571, 2399980690, 4293915773, 2240044497, 1873313359, 4264355552, 2734768916, 1309151649, 4149444226, 3174756917, 718787259, 3951481745]
def turnsL : List Nat := [7, 12, 17, 22, 5, 9, 14, 20, 4, 11, 16, 23, 6, 10, 15, 21]
def Tabs (w : World) : Prop := (∀ i, i < 64 → w.cell? ⟨0, i, none⟩ = some (.int .u32 (sinesL.getD i 0))) ∧ (∀ i, i < 16 → w.cell? ⟨1, i, none⟩ = some (.int .i64 (turnsL.getD i 0 : Nat)))
def turnN (i : Nat) : Nat := turnsL.getD (i / 16 * 4 + i % 4) 0
theorem turnN_ok : ∀ i, i < 64 → bits BinOp.and IntKind.u64 (IntKind.u64.wrap (turnN i : Nat)) 31 = ((turnN i : Nat) : Int) ∧ 0 < turnN i ∧ turnN i < 32 := by decide
theorem stepG_lt (i : Nat) (_ : i < 64) : stepG i < 16 := by unfold stepG; split <;> (try split) <;> (try split) <;> omega
/-- One step. -/
def stepV (i : Nat) (k x : Int) (v : Int × Int × Int × Int) : Int × Int × Int × Int := (v.2.2.2, (v.2.1 + rotl ((((stepF i v.2.1 v.2.2.1 v.2.2.2 + v.1) % 4294967296 + k) % 4294967296 + x) % 4294967296) (turnN i)) % 4294967296, v.2.1, v.2.2.1)
/-- i steps. -/
def roundN (bl : List Int) (v : Int × Int × Int × Int) : Nat → Int × Int × Int × Int
  | 0 => v
  | i + 1 => stepV i (sinesL.getD i 0) ((mN bl 16).getD (stepG i) 0) (roundN bl v i)
def add4 (v u : Int × Int × Int × Int) : Int × Int × Int × Int := ((v.1 + u.1) % 4294967296, (v.2.1 + u.2.1) % 4294967296, (v.2.2.1 + u.2.2.1) % 4294967296, (v.2.2.2 + u.2.2.2) % 4294967296)
def toL (v : Int × Int × Int × Int) : List Int := [v.1, v.2.1, v.2.2.1, v.2.2.2]
def ofL (l : List Int) : Int × Int × Int × Int := (l.getD 0 0, l.getD 1 0, l.getD 2 0, l.getD 3 0)
/-- The words behind a block. -/
def mixL (wl bl : List Int) : List Int := toL (add4 (ofL wl) (roundN bl (ofL wl) 64))
theorem T.set_word {W : World} {H : Nat} {m : Bool} {wl bl : List Int} {n : Int} (h : W.heap[H]? = some (.cells (T.cells m wl bl n) 49 (0, 0))) (i : Nat) (hi : i < wl.length) (x : Int) : (W.setCell ⟨H, 1 + i, none⟩ (.int .u32 x)).heap[H]? = some (.cells (T.cells m (wl.set i x) bl n) 49 (0, 0)) := by
  rw [heap_setCell_same W H _ _ 49 _ h]
  unfold T.cells
  rw [List.setIfInBounds_toArray, List.set_append_left _ _ (by simp; omega), List.set_append_left _ _ (by simp; omega), List.set_append_right _ _ (by simp)]
  simp [List.map_set]
def mix2 (w : World) (bl : List Int) (v : Int × Int × Int × Int) (kq : Nat) (v4 v5 v6 v7 v78 : Value) (wr : World) : Prop := ∃ (i : Nat) (a b c d : Int), i + kq = 64 ∧ v4 = .int .u32 a ∧ v5 = .int .u32 b ∧ v6 = .int .u32 c ∧ v7 = .int .u32 d ∧ v78 = .int .i64 (i : Int) ∧ Aside (roundN bl v i = (a, b, c, d)) ∧ Aside (wr.heap[w.heap.size]? = some (.cells (T.ws (mN bl 16)) 58 (0, 0))) ∧ Aside (Below w.heap.size w wr) ∧ Aside (wr.heap.size = w.heap.size + 1)
set_option maxHeartbeats 16000000 in
set_option maxRecDepth 100000 in
theorem T.mix (H : Nat) (wl bl : List Int) (n : Int) (w : World) (hH : w.heap[H]? = some (.cells (T.cells true wl bl n) 49 (0, 0))) (hw : wl.length = 4) (hb : bl.length = 64) (hk : Tabs w) : Calls Tryd.prog 28 #[.pointer (some ⟨H, 0, none⟩)] w fun e w' => e = .returned (.tuple #[]) ∧ w'.heap[H]? = some (.cells (T.cells true (mixL wl bl) bl n) 49 (0, 0)) ∧ w.grownBy w' (some H) := by
  have HH := Aside.mk hH
  have HW := Aside.mk hw
  have HB := Aside.mk hb
  have HK := Aside.mk hk
  clear hH hw hb hk
  go_enter Tryd.func28, Tryd.ntmps28
  go_wp2
  go_loopg [3, 11] 16 (fun kq _ v11 wr => mix1 w bl kq v11 wr)
  case atStart => exact ⟨0, rfl, rfl, ⟨heap_alloc_new w _⟩, ⟨(Below.refl _ _).alloc (Nat.le_refl _) _⟩, ⟨by simp⟩⟩
  case round =>
    obtain ⟨i, hi, rfl, hc, hB, hS⟩ := hrel
    have HR : Aside (wr.heap[H]? = some (.cells (T.cells true wl bl n) 49 (0, 0))) := ⟨by rw [hB.out.block H (by have := (Array.getElem?_eq_some_iff.1 HH.out).1; exact this)]; exact HH.out⟩
    by_cases hlt : i < 16
    · have hst := T.ws_cell hc.out i (by simp [mN_length]; omega)
      have hfr := frozen_of_row wr w.heap.size i _ _ hc.out
      have hix : Aside (i < 16) := ⟨hlt⟩
      have c0 := T.block_cell HR.out HW.out HB.out (4 * i) (by omega)
      have c1 := T.block_cell HR.out HW.out HB.out (4 * i + 1) (by omega)
      have c2 := T.block_cell HR.out HW.out HB.out (4 * i + 2) (by omega)
      have c3 := T.block_cell HR.out HW.out HB.out (4 * i + 3) (by omega)
      have hnx := Aside.mk (mN_set bl i hlt)
      generalize bl.getD (4 * i) 0 = b0 at c0 hnx
      generalize bl.getD (4 * i + 1) 0 = b1 at c1 hnx
      generalize bl.getD (4 * i + 2) 0 = b2 at c2 hnx
      generalize bl.getD (4 * i + 3) 0 = b3 at c3 hnx
      have t0 : (4 * (i : Int)).toNat = 4 * i := by omega
      have t1 : (4 * (i : Int) + 1).toNat = 4 * i + 1 := by omega
      have t2 : (4 * (i : Int) + 2).toNat = 4 * i + 2 := by omega
      have t3 : (4 * (i : Int) + 3).toNat = 4 * i + 3 := by omega
      have l0 : 4 * (i : Int) < 64 := by omega
      have l1 : 4 * (i : Int) + 1 < 64 := by omega
      have l2 : 4 * (i : Int) + 2 < 64 := by omega
      have l3 : 4 * (i : Int) + 3 < 64 := by omega
      have g0 : 0 ≤ 4 * (i : Int) := by omega
      have g1 : 0 ≤ 4 * (i : Int) + 1 := by omega
      have g2 : 0 ≤ 4 * (i : Int) + 2 := by omega
      have g3 : 0 ≤ 4 * (i : Int) + 3 := by omega
      have f0 : IntKind.i64.wrap (4 * (i : Int)) = 4 * (i : Int) := wrap64_in (by omega) (by omega)
      have f1 : IntKind.i64.wrap (4 * (i : Int) + 1) = 4 * (i : Int) + 1 := wrap64_in (by omega) (by omega)
      have f2 : IntKind.i64.wrap (4 * (i : Int) + 2) = 4 * (i : Int) + 2 := wrap64_in (by omega) (by omega)
      have f3 : IntKind.i64.wrap (4 * (i : Int) + 3) = 4 * (i : Int) + 3 := wrap64_in (by omega) (by omega)
      go_wp2
      go_still_tail 42, (by kernel_rfl)
      change wpList _ _ _ _ _ wr.drew
      clear f0 f1 f2 f3 t0 t1 t2 t3 g0 g1 g2 g3 l0 l1 l2 l3 c0 c1 c2 c3
      go_wp2
      go_roundg (gk - 1)
      case measure => omega
      case rel =>
        refine ⟨i + 1, by omega, by go_num, ⟨?_⟩, ⟨hB.out.drew.setCell (p := ⟨w.heap.size, i, none⟩) (Nat.le_refl _) _⟩, ⟨by simpa using hS.out⟩⟩
        rw [← hnx.out]
        exact T.ws_set hc.out i _
    · have hiq : i = 16 := by omega
      subst hiq
      clear hlt hi
      obtain ⟨wa, wb, wc, wd, hwl⟩ : ∃ a b c d, wl = [a, b, c, d] := by
        match wl, HW.out with
        | [a, b, c, d], _ => exact ⟨a, b, c, d, rfl⟩
      subst hwl
      have hwr := T.words_range HR.out
      have c0 : wr.cell? ⟨H, 1, none⟩ = some (.int .u32 wa) := hwr 0 _ rfl
      have c1 : wr.cell? ⟨H, 2, none⟩ = some (.int .u32 wb) := hwr 1 _ rfl
      have c2 : wr.cell? ⟨H, 3, none⟩ = some (.int .u32 wc) := hwr 2 _ rfl
      have c3 : wr.cell? ⟨H, 4, none⟩ = some (.int .u32 wd) := hwr 3 _ rfl
      clear hwr
      go_wp2
      refine still_lit (by kernel_rfl) (by kernel_rfl) ?_
      repeat still_step
      refine wpStill_nil ?_
      go_wp2
      go_loopg [4, 5, 6, 7, 78] 64 (fun kq v4 v5 v6 v7 v78 wr => mix2 w bl (wa, wb, wc, wd) kq v4 v5 v6 v7 v78 wr)
      case atStart => exact ⟨0, wa, wb, wc, wd, rfl, rfl, rfl, rfl, rfl, rfl, ⟨rfl⟩, ⟨by have := hc.out; simp at this; exact this⟩, ⟨hB.out.drew⟩, hS⟩
      case round =>
        clear hB hS HR c0 c1 c2 c3 hc
        obtain ⟨i, a, b, c, d, hi, rfl, rfl, rfl, rfl, rfl, hR, hc, hB, hS⟩ := hrel
        have HR : Aside (wr.heap[H]? = some (.cells (T.cells true [wa, wb, wc, wd] bl n) 49 (0, 0))) := ⟨by rw [hB.out.block H (by have := (Array.getElem?_eq_some_iff.1 HH.out).1; exact this)]; exact HH.out⟩
        by_cases hlt : i < 64
        · obtain ⟨tk, t0, t32⟩ := turnN_ok i hlt
          have hst := fun W => T.step i b c d W hlt
          have cg := T.ws_cell hc.out (stepG i) (by rw [mN_length]; exact stepG_lt i hlt)
          have hg16 := stepG_lt i hlt
          have b0 : 0 < w.heap.size := block_lt_of_cell (HK.out.1 0 (by decide))
          have b1 : 1 < w.heap.size := block_lt_of_cell (HK.out.2 0 (by decide))
          have cs := (hB.out.cell (p := ⟨0, i, none⟩) b0).trans (HK.out.1 i hlt)
          have ct := (hB.out.cell (p := ⟨1, i / 16 * 4 + i % 4, none⟩) b1).trans (HK.out.2 (i / 16 * 4 + i % 4) (by omega))
          have ct : wr.cell? ⟨1, i / 16 * 4 + i % 4, none⟩ = some (.int .i64 (turnN i)) := ct
          have hnx := Aside.mk (show roundN bl (wa, wb, wc, wd) (i + 1) = (d, (b + rotl ((((stepF i b c d + a) % 4294967296 + sinesL.getD i 0) % 4294967296 + (mN bl 16).getD (stepG i) 0) % 4294967296) (turnN i)) % 4294967296, b, c) from by
            show stepV i (sinesL.getD i 0) ((mN bl 16).getD (stepG i) 0) (roundN bl (wa, wb, wc, wd) i) = _
            rw [hR.out]
            exact rfl)
          generalize stepF i b c d = f at hst hnx
          generalize stepG i = g at hst hg16 cg hnx
          generalize sinesL.getD i 0 = xs at cs hnx
          generalize (mN bl 16).getD g 0 = xm at cg hnx
          generalize turnN i = t at ct hnx tk t0 t32
          have hrot := fun x W => T.rot x (t : Int) t W tk t0 t32
          have HT := Aside.mk tk
          clear tk t0 t32 b0 b1
          obtain ⟨q, hq⟩ : ∃ q, q = i / 16 := ⟨_, rfl⟩
          obtain ⟨s, hs⟩ : ∃ s, s = i % 4 := ⟨_, rfl⟩
          rw [← hq, ← hs] at ct
          have hq4 : q < 4 := by omega
          have hs4 : s < 4 := by omega
          have dq : (i : Int).tdiv 16 = (q : Int) := by rw [Int.tdiv_eq_ediv_of_nonneg (by omega)]; omega
          have ds : (i : Int).tmod 4 = (s : Int) := by rw [Int.tmod_eq_emod_of_nonneg (by omega)]; omega
          clear hq hs
          have hgI : (g : Int) < 16 := by omega
          have hqI : (q : Int) < 4 := by omega
          have hwq : IntKind.i64.wrap (q : Int) = (q : Int) := wrap64_in (by omega) (by omega)
          have hws : IntKind.i64.wrap (s : Int) = (s : Int) := wrap64_in (by omega) (by omega)
          have hsI : (s : Int) < 4 := by omega
          have hlt' := Aside.mk hlt
          go_wp2_with (go_at_call 30; refine (hst _).mono ?_; rintro e w' ⟨rfl, rfl⟩)
          refine still_lit (by kernel_rfl) (by kernel_rfl) ?_
          repeat still_step
          still_call (hrot _ _)
          repeat still_step
          refine wpStill_nil ?_
          go_wp2
          go_roundg (gk - 1)
          case measure => omega
          case rel => exact ⟨i + 1, _, _, _, _, by have := hlt'.out; omega, rfl, rfl, rfl, rfl, by go_num, hnx, hc, ⟨hB.out.drew⟩, ⟨by simpa using hS.out⟩⟩
        · have hiq : i = 64 := by omega
          subst hiq
          have hwr := T.words_range HR.out
          have c0 : wr.cell? ⟨H, 1, none⟩ = some (.int .u32 wa) := hwr 0 _ rfl
          have c1 : wr.cell? ⟨H, 2, none⟩ = some (.int .u32 wb) := hwr 1 _ rfl
          have c2 : wr.cell? ⟨H, 3, none⟩ = some (.int .u32 wc) := hwr 2 _ rfl
          have c3 : wr.cell? ⟨H, 4, none⟩ = some (.int .u32 wd) := hwr 3 _ rfl
          have f1 := frozen_of_row wr H 1 _ _ HR.out
          have f2 := frozen_of_row wr H 2 _ _ HR.out
          have f3 := frozen_of_row wr H 3 _ _ HR.out
          have f4 := frozen_of_row wr H 4 _ _ HR.out
          clear hwr hlt hi
          go_wp2
          refine still_tail 32 (by kernel_rfl) (by kernel_rfl) ?_
          simp only [List.take_succ_cons, List.take_zero, List.drop_succ_cons, List.drop_zero]
          repeat still_step
          refine wpStill_nil ?_
          go_wp2
          go_end0
          refine ⟨rfl, ?_, ?_⟩
          · have h1 := T.set_word HR.out 0 (by simp) ((wa + a) % 4294967296)
            have h2 := T.set_word h1 1 (by simp) ((wb + b) % 4294967296)
            have h3 := T.set_word h2 2 (by simp) ((wc + c) % 4294967296)
            have h4 := T.set_word h3 3 (by simp) ((wd + d) % 4294967296)
            have e : mixL [wa, wb, wc, wd] bl = [(wa + a) % 4294967296, (wb + b) % 4294967296, (wc + c) % 4294967296, (wd + d) % 4294967296] := by
              show toL (add4 (wa, wb, wc, wd) (roundN bl (wa, wb, wc, wd) 64)) = _
              rw [hR.out]; exact rfl
            rw [e]
            exact h4
          · exact gb_drew (gb_set (gb_set (gb_set (gb_set (gb_below hB.out _) _ _) _ _) _ _) _ _)
end Go.Proofs.YticpbhpehoolfaaDoor

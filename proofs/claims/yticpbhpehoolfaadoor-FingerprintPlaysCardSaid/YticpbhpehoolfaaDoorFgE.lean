/- The contract of the fingerprint's Write: the Print has these bytes behind those that it had; nothing else in memory turns. Conditions: where the Print and the bytes lie, the tables, sizes. -/
import Derived.Test.YticpbhpehoolfaaDoorFgD
namespace Go.Proofs.YticpbhpehoolfaaDoor
open Go.RowKit
/-- These bytes lie at this address. -/
def Src (w : World) (A : Option Addr) (bs : List Int) : Prop := ∀ i x, bs[i]? = some x → ∃ b o, A = some ⟨b, o, none⟩ ∧ w.cell? ⟨b, o + i, none⟩ = some (.int .u8 x)
theorem Src.of_kept {w w' : World} {A : Option Addr} {bs : List Int} (h : Src w A bs) (hk : ∀ a, A = some a → w'.heap[a.block]? = w.heap[a.block]?) : Src w' A bs := fun i x hx => by
  obtain ⟨b, o, rfl, hc⟩ := h i x hx
  exact ⟨b, o, rfl, by rw [← hc]; exact World.cell?_of_block (a := ⟨b, o + i, none⟩) (hk ⟨b, o, none⟩ rfl)⟩
theorem Tabs.of_block {w w' : World} (h : Tabs w) (e0 : w'.heap[0]? = w.heap[0]?) (e1 : w'.heap[1]? = w.heap[1]?) : Tabs w' :=
  ⟨fun i hi => by rw [← h.1 i hi]; exact World.cell?_of_block e0, fun i hi => by rw [← h.2 i hi]; exact World.cell?_of_block e1⟩
theorem Tabs.lt {w : World} (h : Tabs w) : 1 < w.heap.size := block_lt_of_cell (h.2 0 (by decide))
theorem Hashes.ne0 {w : World} {H : Nat} {all : List Int} (h : Hashes w H all) (hk : Tabs w) : H ≠ 0 := by
  rintro rfl
  have h1 := h.made
  rw [hk.1 0 (by decide)] at h1
  exact absurd h1 (by simp)
theorem Hashes.ne1 {w : World} {H : Nat} {all : List Int} (h : Hashes w H all) (hk : Tabs w) : H ≠ 1 := by
  rintro rfl
  have h1 := h.made
  rw [hk.2 0 (by decide)] at h1
  exact absurd h1 (by simp)
theorem Tabs.grown {w w' : World} {H : Nat} {all : List Int} (h : Tabs w) (hs : Hashes w H all) (g : w.grownBy w' (some H)) : Tabs w' :=
  h.of_block (g.block 0 (by have := h.lt; omega) (fun e => hs.ne0 h (by simpa using e.symm))) (g.block 1 h.lt (fun e => hs.ne1 h (by simpa using e.symm)))
theorem gb_trans {a b c : World} {row : Option Nat} (h : a.grownBy b row) (k : b.grownBy c row) : a.grownBy c row :=
  ⟨k.os.trans h.os, k.tape.trans h.tape, k.output.trans h.output, Nat.le_trans h.size k.size, fun i hi hne => (k.block i (Nat.lt_of_lt_of_le hi h.size) hne).trans (h.block i hi hne)⟩
def wrRel (w : World) (H : Nat) (all bs : List Int) (kq : Nat) (v11 : Value) (wr : World) : Prop :=
  ∃ j : Nat, j + kq = bs.length ∧ v11 = .int .i64 (j : Int) ∧ Aside (Hashes wr H (all ++ bs.take j)) ∧ Aside (w.grownBy wr (some H))
set_option maxHeartbeats 4000000 in
set_option maxRecDepth 100000 in
theorem T.Write (H : Nat) (all bs : List Int) (A : Option Addr) (cap : Nat) (w : World) (hst : Hashes w H all) (hsrc : Src w A bs) (hne : ∀ a, A = some a → a.block ≠ H) (hlen : all.length + bs.length ≤ 4611686018427387904) (hk : Tabs w) :
    Calls Tryd.prog 15 #[.pointer (some ⟨H, 0, none⟩), .slice A bs.length cap] w fun e w' => e = .returned (.int .i64 0) ∧ Hashes w' H (all ++ bs) ∧ w.grownBy w' (some H) := by
  have h0 := hst.made
  have HS := Aside.mk hst
  have HSRC := Aside.mk hsrc
  have HNE := Aside.mk hne
  have HLEN := Aside.mk hlen
  have HK := Aside.mk hk
  clear hst hsrc hne hlen hk
  go_enter Tryd.func15, Tryd.ntmps15
  go_wp2_with (go_at_call 27; refine (T.none_at _ _ _ h0).mono ?_; rintro e w' ⟨rfl, hw⟩; subst w')
  clear h0
  go_loopg [11] bs.length (fun kq v11 wr => wrRel w H all bs kq v11 wr)
  case atStart => exact ⟨0, by omega, rfl, ⟨by simpa using HS.out⟩, ⟨World.grownBy.refl _ _⟩⟩
  case round =>
    obtain ⟨j, hj, rfl, hH, hG⟩ := hrel
    have hbb := HLEN.out
    have hbL : bs.length ≤ 4611686018427387904 := by omega
    have HBL' := Aside.mk hbL
    clear hbb
    by_cases hlt : j < bs.length
    · have hxj : bs[j]? = some bs[j] := List.getElem?_eq_getElem hlt
      obtain ⟨x, hx⟩ : ∃ x, x = bs[j] := ⟨_, rfl⟩
      rw [← hx] at hxj
      obtain ⟨b, o, rfl, hcl⟩ := HSRC.out j x hxj
      have hcw : wr.cell? ⟨b, o + j, none⟩ = some (.int .u8 x) := by
        rw [← hcl]
        exact World.cell?_of_block (a := ⟨b, o + j, none⟩) (hG.out.block b (block_lt_of_cell hcl) (fun e => HNE.out _ rfl (by simpa using e)))
      obtain ⟨bl, hbl, hW, htk⟩ := hH.out
      obtain ⟨n, hn⟩ : ∃ n, n = (all ++ bs.take j).length := ⟨_, rfl⟩
      rw [← hn] at hW htk
      have hwl := foldW_h0_length (all ++ bs.take j)
      have hn' : n = all.length + j := by rw [hn]; simp; omega
      have hnb : n < 4611686018427387904 := by have := HLEN.out; omega
      obtain ⟨r, hr⟩ : ∃ r, r = n % 64 := ⟨_, rfl⟩
      have hr64 : r < 64 := by omega
      have hm : (n : Int).tmod 64 = (r : Int) := by rw [Int.tmod_eq_emod_of_nonneg (by omega)]; omega
      have c69 := T.n_cell hW hwl hbl
      have c5 := T.block_cell hW hwl hbl r hr64
      have f5 := frozen_of_row wr H (5 + r) _ _ hW
      have f69 := frozen_of_row wr H 69 _ _ hW
      have hW2 := Aside.mk (T.set_byte hW hwl r (by omega) x)
      have hbl2 : (bl.set r x).length = 64 := by simpa using hbl
      have hW3 := Aside.mk (T.set_n hW2.out hwl hbl2 ((n : Int) + 1))
      have hq := Aside.mk (show (all ++ bs.take j) ++ [x] = all ++ bs.take (j + 1) from by
        rw [List.append_assoc, List.take_succ_eq_append_getElem hlt, hx])
      have hnk := Aside.mk (show (((all ++ bs.take j) ++ [x]).length : Int) = (n : Int) + 1 from by rw [List.length_append, ← hn]; simp)
      have hfin := Aside.mk (show ∀ W : World, r + 1 = 64 → W.heap[H]? = some (.cells (T.cells true (mixL (foldW h0L (all ++ bs.take j)) (bl.set r x)) (bl.set r x) ((n : Int) + 1)) 49 (0, 0)) → Hashes W H (all ++ bs.take (j + 1)) from fun W h1 h2 => by
        rw [← hq.out]
        refine put_full (bl := bl) hbl (by rw [← hn]; exact htk) (by rw [← hn, ← hr]; exact h1) ?_
        rw [← hn, ← hr, hnk.out, putB_one _ _ _ (by omega)]; exact h2)
      have hpart := Aside.mk (show ∀ W : World, r + 1 < 64 → W.heap[H]? = some (.cells (T.cells true (foldW h0L (all ++ bs.take j)) (bl.set r x) ((n : Int) + 1)) 49 (0, 0)) → Hashes W H (all ++ bs.take (j + 1)) from fun W h1 h2 => by
        rw [← hq.out]
        refine put_part (bl := bl) hbl (by rw [← hn]; exact htk) (by rw [← hn, ← hr]; exact h1) ?_
        rw [← hn, ← hr, hnk.out, putB_one _ _ _ (by omega)]; exact h2)
      have hG3 := Aside.mk (gb_drew (gb_set (gb_set hG.out (5 + r) (.int .u8 x)) 69 (.int .i64 ((n : Int) + 1))))
      have hwk : IntKind.i64.wrap ((n : Int) + 1) = (n : Int) + 1 := wrap64_in (by omega) (by omega)
      obtain ⟨q, hq2⟩ : ∃ q, q = (n + 1) % 64 := ⟨_, rfl⟩
      have hm2 : ((n : Int) + 1).tmod 64 = (q : Int) := by rw [Int.tmod_eq_emod_of_nonneg (by omega)]; omega
      have hrk := Aside.mk (show r + 1 < 64 → q ≠ 0 from fun h => by omega)
      have hrk2 := Aside.mk (show r + 1 = 64 → q = 0 from fun h => by omega)
      have hrI : (r : Int) < 64 := by omega
      have HWL := Aside.mk hwl
      have HB2 := Aside.mk hbl2
      have HJ := Aside.mk hj
      have HR := Aside.mk hr64
      have hlt' := Aside.mk hlt
      clear hn hbl htk hW hn' hr hwl hbl2 hj hq2 hx hxj hcl hr64
      go_wp2
      refine still_tail 10 (by kernel_rfl) (by kernel_rfl) ?_
      simp only [List.take_succ_cons, List.take_zero, List.drop_succ_cons, List.drop_zero]
      repeat still_step
      refine wpStill_nil ?_
      have hW3d := Aside.mk (show ((wr.setCell ⟨H, 5 + r, none⟩ (.int .u8 x)).setCell ⟨H, 69, none⟩ (.int .i64 ((n : Int) + 1))).drew.heap[H]? = _ from hW3.out)
      have hK3 := Aside.mk (HK.out.grown HS.out hG3.out)
      by_cases hfull : r + 1 = 64
      · have hq0 : q = 0 := hrk2.out hfull
        subst hq0
        have hfull' := Aside.mk hfull
        clear hfull
        go_wp2_with (go_at_call 28; refine (T.mix H _ _ _ _ hW3d.out HWL.out HB2.out hK3.out).mono ?_; rintro e w4 ⟨rfl, hm4, hG4⟩)
        go_roundg (gk - 1)
        case measure => have := HJ.out; have := hlt'.out; omega
        case rel => exact ⟨j + 1, by have := HJ.out; have := hlt'.out; omega, by go_num, ⟨hfin.out _ hfull'.out hm4⟩, ⟨gb_trans hG3.out hG4⟩⟩
      · have hlt64 := Aside.mk (show r + 1 < 64 from by have := HR.out; omega)
        have hq0 : ((q : Int) == 0) = false := by have := hrk.out hlt64.out; simp; omega
        clear hfull
        go_wp2_with (go_at_call 28; refine (T.mix H _ _ _ _ hW3d.out HWL.out HB2.out hK3.out).mono ?_; rintro e w4 ⟨rfl, hm4, hG4⟩)
        go_roundg (gk - 1)
        case measure => have := HJ.out; have := hlt'.out; omega
        case rel => exact ⟨j + 1, by have := HJ.out; have := hlt'.out; omega, by go_num, ⟨hpart.out _ hlt64.out hW3.out⟩, hG3⟩
    · have hje : j = bs.length := by omega
      subst hje
      have hH' := Aside.mk (show Hashes wr H (all ++ bs) from by have := hH.out; rwa [List.take_of_length_le (by omega)] at this)
      clear hH
      go_wp2
      go_ret
      exact ⟨rfl, hH'.out, hG.out⟩
end Go.Proofs.YticpbhpehoolfaaDoor

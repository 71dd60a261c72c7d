/- The contract of the digest's Write: the Hash has these bytes behind those that it had; nothing else in memory turns. Conditions: where the Hash and the bytes lie, the table of rounds, sizes. -/
import Derived.Test.YtoccfgkblognfaaDoorDgC
namespace Go.Proofs.YtoccfgkblognfaaDoor
open Go.RowKit
theorem arr_at {P : Program} (t e n : Nat) (ht : P.underlying t = some (.array n e)) (hz : ∀ w, (sizeOf e).run P w = .ok 1 w) (H o : Nat) (l : Nat) (h1 : l < n) :
    ∀ W : World, (Instr.sliceAt t (.pointer (some ⟨H, o, none⟩)) (some (.int .i64 (l : Int))) none none).run P W = .ok (.slice (some ⟨H, o + l, none⟩) (n - l) (n - l)) W := by
  intro W
  have hn : P.arrayLen t = n := by simp [Program.arrayLen, ht]
  have hel : P.elem t = e := by simp [Program.elem, ht]
  rw [run_sliceAt_array_l W t _ (by rw [hn, hel]; exact ht) .i64 l (by omega) (by rw [hn]; omega), hel, hz, hn]
  have h2 : n ≠ l := by omega
  simp only [Result.andThen, slicedAt, Int.toNat_natCast, if_neg h2, Nat.mul_one]
  rw [show (⟨H, o, none⟩ : Addr).add l = ⟨H, o + l, none⟩ from by unfold Addr.add; split <;> simp_all]
/-- These bytes lie at this address. -/
def Src (w : World) (A : Option Addr) (bs : List Int) : Prop := ∀ i x, bs[i]? = some x → ∃ b o, A = some ⟨b, o, none⟩ ∧ w.cell? ⟨b, o + i, none⟩ = some (.int .u8 x)
theorem Src.of_kept {w w' : World} {A : Option Addr} {bs : List Int} (h : Src w A bs) (hk : ∀ a, A = some a → w'.heap[a.block]? = w.heap[a.block]?) : Src w' A bs := fun i x hx => by
  obtain ⟨b, o, rfl, hc⟩ := h i x hx
  exact ⟨b, o, rfl, by rw [← hc]; exact World.cell?_of_block (a := ⟨b, o + i, none⟩) (hk ⟨b, o, none⟩ rfl)⟩
def K64 (w : World) : Prop := ∀ i, i < 64 → w.cell? ⟨0, i, none⟩ = some (.int .u32 (ksL.getD i 0))
theorem K64.of_block {w w' : World} (h : K64 w) (e : w'.heap[0]? = w.heap[0]?) : K64 w' := fun i hi => by rw [← h i hi]; exact World.cell?_of_block e
theorem Hashes.ne0 {w : World} {H : Nat} {all : List Int} (h : Hashes w H all) (hk : K64 w) : H ≠ 0 := by
  rintro rfl
  have h1 := h.made
  rw [hk 0 (by decide)] at h1
  exact absurd h1 (by simp)
theorem gb_trans {a b c : World} {row : Option Nat} (h : a.grownBy b row) (k : b.grownBy c row) : a.grownBy c row :=
  ⟨k.os.trans h.os, k.tape.trans h.tape, k.output.trans h.output, Nat.le_trans h.size k.size, fun i hi hne => (k.block i (Nat.lt_of_lt_of_le hi h.size) hne).trans (h.block i hi hne)⟩
theorem gb_undrew {a b : World} {row : Option Nat} (h : a.drew.grownBy b row) : a.grownBy b row := ⟨h.os, h.tape, h.output, h.size, h.block⟩
/-- 'copy' into a row that is known whole: the world behind it is a variable. -/
theorem wpList_copy_in {P : Program} {w : World} {ops : Array Oper} {rest : List Oper} {o : Oper} {a : Act} {Q : Exit → Act → World → Prop} (hgd : o.guard = none) (d s : Operand) (dT sT : TypeId)
    (ho : o.op = .call { callee := .builtin .copy, args := #[d, s], argTypes := #[dT, sT] }) (elem : TypeId) (hu : P.underlying dT = some (.slice elem)) (hsz : (P.info? elem).map (·.size) = some 1)
    (g off dLen dCap : Nat) (ad : Addr) (sLen sCap : Nat) (hd : a.eval d = .slice (some ⟨g, off, none⟩) dLen dCap) (hs : a.eval s = .slice (some ad) sLen sCap)
    (cur : Array Value) (t : TypeId) (hg : w.heap[g]? = some (.cells cur t (0, 0))) (cs : List Value) (hn : cs.length = Nat.min sLen dLen)
    (hsrc : ∀ j v, cs[j]? = some v → w.cell? (ad.add j) = some v) (hfit : off + cs.length ≤ cur.size) (h1 : ∀ v ∈ cs, v.oneCell' = true) (new : Array Value) (m : Nat) (hnew : (cur.toList.take off ++ (cs ++ cur.toList.drop (off + cs.length))).toArray = new) (hm : cs.length = m)
    (h : ∀ w', Aside (w'.heap[g]? = some (.cells new t (0, 0))) → Aside (w.grownBy w' (some g)) → wpList P ops Q rest (a.put o.dst (goInt m)) w') : wpList P ops Q (o :: rest) a w := by
  refine wpList_copy_own hgd d s dT sT ho elem hu hsz g off dLen dCap ad sLen sCap hd hs cur t hg cs hn hsrc hfit h1 ?_
  subst hm
  rw [hnew]
  exact h _ ⟨setRow_heap w g _ _ t _ hg⟩ ⟨⟨rfl, rfl, rfl, by simp, fun k hk hne => setRow_other _ _ _ _ (fun e => hne (by rw [e]))⟩⟩
def wrRel (w : World) (H : Nat) (A : Option Addr) (all bs : List Int) (kq : Nat) (v1 : Value) (wr : World) : Prop :=
  ∃ (j c : Nat) (A' : Option Addr), j + kq = bs.length ∧ v1 = .slice A' (bs.length - j) c ∧ bs.length - j ≤ c ∧ Aside (j < bs.length → ∃ b o, A = some ⟨b, o, none⟩ ∧ A' = some ⟨b, o + j, none⟩) ∧ Aside (Hashes wr H (all ++ bs.take j)) ∧ Aside (w.grownBy wr (some H))
set_option maxHeartbeats 4000000 in
set_option maxRecDepth 100000 in
theorem T.Write (H : Nat) (all bs : List Int) (A : Option Addr) (cap : Nat) (w : World) (hst : Hashes w H all) (hsrc : Src w A bs) (hne : ∀ a, A = some a → a.block ≠ H) (hcap : bs.length ≤ cap) (hlen : all.length + bs.length ≤ 4611686018427387904) (hk : K64 w) :
    Calls Tryd.prog 16 #[.pointer (some ⟨H, 0, none⟩), .slice A bs.length cap] w fun e w' => e = .returned (.int .i64 0) ∧ Hashes w' H (all ++ bs) ∧ w.grownBy w' (some H) := by
  have h0 := hst.made
  have HS := Aside.mk hst
  have HSRC := Aside.mk hsrc
  have HNE := Aside.mk hne
  have HCAP := Aside.mk hcap
  have HLEN := Aside.mk hlen
  have HK := Aside.mk hk
  clear hst hsrc hne hlen hk
  go_enter Tryd.func16, Tryd.ntmps16
  go_wp2_with (go_at_call 24; refine (T.none_at _ _ _ h0).mono ?_; rintro e w' ⟨rfl, hw⟩; subst w')
  clear h0
  go_loopg [1] bs.length (fun kq v1 wr => wrRel w H A all bs kq v1 wr)
  case atStart =>
    refine ⟨0, cap, A, by omega, rfl, by omega, ⟨fun hj => ?_⟩, ⟨by simpa using HS.out⟩, ⟨World.grownBy.refl _ _⟩⟩
    obtain ⟨b, o, h1, _⟩ := HSRC.out 0 _ (List.getElem?_eq_getElem hj)
    exact ⟨b, o, h1, by rw [h1]; simp⟩
  case round =>
    obtain ⟨j, c, A', hj, rfl, hc, hA, hH, hG⟩ := hrel
    by_cases hlt : j < bs.length
    · obtain ⟨b, o, rfl, rfl⟩ := hA.out hlt
      obtain ⟨bl, hbl, hW, htk⟩ := hH.out
      obtain ⟨n, hn⟩ : ∃ n, n = (all ++ bs.take j).length := ⟨_, rfl⟩
      rw [← hn] at hW htk
      have hwl := foldW_h0_length (all ++ bs.take j)
      have hn' : n = all.length + j := by rw [hn]; simp; omega
      have hnb : n < 4611686018427387904 := by have := HLEN.out; omega
      obtain ⟨r, hr⟩ : ∃ r, r = n % 64 := ⟨_, rfl⟩
      have hr64 : r < 64 := by omega
      have hsl := arr_at (P := Tryd.prog) 41 5 64 Tryd.underlying41 Tryd.sizeOf5 H 9 r hr64
      have hm : (n : Int).tmod 64 = (r : Int) := by rw [Int.tmod_eq_emod_of_nonneg (by omega)]; omega
      obtain ⟨k, hkm⟩ : ∃ k, k = min (bs.length - j) (64 - r) := ⟨_, rfl⟩
      obtain ⟨xs, hxs⟩ : ∃ xs, xs = (bs.drop j).take k := ⟨_, rfl⟩
      have hk : k = xs.length := by rw [hxs]; simp; omega
      have c73 := T.n_cell hW hwl hbl
      have hk0 : 0 < k := by omega
      have hkj : k ≤ bs.length - j := by omega
      have hkc : k ≤ c := by omega
      have hq := Aside.mk (show (all ++ bs.take j) ++ xs = all ++ bs.take (j + k) from by
        rw [List.append_assoc, hxs, List.take_add])
      have hput := Aside.mk (T.put_cells (m := true) (n := (n : Int)) hwl hbl r xs (by omega))
      have hfit := Aside.mk (show 9 + r + (xs.map (Value.int .u8)).length ≤ (T.cells true (foldW h0L (all ++ bs.take j)) bl n).size from by simp [T.cells, hwl, hbl]; omega)
      have hsrc := Aside.mk (show ∀ (i : Nat) (v : Value), (xs.map (Value.int .u8))[i]? = some v → wr.drew.cell? ((⟨b, o + j, none⟩ : Addr).add i) = some v from fun i v hv => by
        rw [List.getElem?_map] at hv
        obtain ⟨x, hx, rfl⟩ := Option.map_eq_some_iff.1 hv
        have hi : i < xs.length := (List.getElem?_eq_some_iff.1 hx).1
        have hx2 : bs[j + i]? = some x := by
          rw [hxs, List.getElem?_take, if_pos (by omega), List.getElem?_drop] at hx
          exact hx
        obtain ⟨b', o', he, hcl⟩ := HSRC.out _ _ hx2
        simp only [Option.some.injEq, Addr.mk.injEq] at he
        obtain ⟨rfl, rfl, _⟩ := he
        rw [show (⟨b, o + j, none⟩ : Addr).add i = ⟨b, o + (j + i), none⟩ from by rw [Addr.add_mid, Nat.add_assoc]]
        rw [← hcl]
        exact World.cell?_of_block (a := ⟨b, o + (j + i), none⟩) (hG.out.block b (block_lt_of_cell hcl) (fun e => HNE.out _ rfl (by simpa using e))))
      have HBL := Aside.mk hbl
      have HTK := Aside.mk htk
      have HW := Aside.mk hW
      have HN := Aside.mk hn
      have HN' := Aside.mk hn'
      have HR := Aside.mk hr
      have HX := Aside.mk hxs
      have HKX := Aside.mk hk
      have HKM := Aside.mk hkm
      have HWL := Aside.mk hwl
      have HJ := Aside.mk hj
      have hlt' := Aside.mk hlt
      have hpos : 0 < bs.length - j := by omega
      have hwk : IntKind.i64.wrap ((n : Int) + (k : Int)) = (n : Int) + (k : Int) := wrap64_in (by omega) (by omega)
      obtain ⟨q, hq2⟩ : ∃ q, q = (n + k) % 64 := ⟨_, rfl⟩
      have hm2 : ((n : Int) + (k : Int)).tmod 64 = (q : Int) := by rw [Int.tmod_eq_emod_of_nonneg (by omega)]; omega
      have HQ2 := Aside.mk hq2
      clear hn hbl htk hW hn' hr hxs hk hkm hwl hj hq2 hlt
      go_wp2
      refine still_tail 10 (by kernel_rfl) (by kernel_rfl) ?_
      simp only [List.take_succ_cons, List.take_zero, List.drop_succ_cons, List.drop_zero]
      repeat still_step
      refine wpStill_nil ?_
      clear c73 hm hsl
      refine wpList_copy_in rfl (.tmp 19) (.tmp 20) 22 22 rfl 5 Tryd.underlying22 (by kernel_rfl) H (9 + r) (64 - r) (64 - r) ⟨b, o + j, none⟩ (bs.length - j) c rfl rfl _ 43 HW.out (xs.map (.int .u8)) (by rw [List.length_map, ← HKX.out]; exact HKM.out) hsrc.out hfit.out (fun v hv => by obtain ⟨x, _, rfl⟩ := List.mem_map.1 hv; rfl) _ k hput.out (by rw [List.length_map]; exact HKX.out.symm) ?_
      intro w2 hW2 hG2
      have HBL2 := Aside.mk ((putB_length (bl := bl) (r := r) (xs := xs) (by have := HBL.out; have := HKX.out; have := HKM.out; omega)).trans HBL.out)
      have c73 := T.n_cell hW2.out HWL.out HBL2.out
      have f73 := frozen_of_row w2 H 73 _ _ hW2.out
      have hW3 := Aside.mk (T.set_n hW2.out HWL.out HBL2.out ((n : Int) + (k : Int)))
      have hG3 := Aside.mk (gb_set hG2.out 73 (.int .i64 ((n : Int) + (k : Int))))
      have hGw := Aside.mk (gb_trans hG.out (gb_undrew hG2.out))
      have hGw3 := Aside.mk (gb_trans hGw.out (gb_set (World.grownBy.refl w2 (some H)) 73 (.int .i64 ((n : Int) + (k : Int)))))
      have hK3 := Aside.mk (HK.out.of_block (hGw3.out.block 0 (block_lt_of_cell (HK.out 0 (by decide))) (fun e => HS.out.ne0 HK.out (by simpa using e.symm))))
      have hnk := Aside.mk (show (((all ++ bs.take j) ++ xs).length : Int) = (n : Int) + (k : Int) from by rw [List.length_append, ← HN.out, ← HKX.out]; simp)
      have hfin := Aside.mk (show ∀ W : World, r + k = 64 → W.heap[H]? = some (.cells (T.cells true (mixL (foldW h0L (all ++ bs.take j)) (putB bl r xs)) (putB bl r xs) ((n : Int) + (k : Int))) 43 (0, 0)) → Hashes W H (all ++ bs.take (j + k)) from fun W h1 h2 => by
        rw [← hq.out]
        have e1 := HN.out; have e2 := HR.out; have e3 := HKX.out
        refine put_full (bl := bl) HBL.out (by rw [← e1]; exact HTK.out) (by rw [← e1, ← e2, ← e3]; exact h1) ?_
        rw [← e1, ← e2, hnk.out]; exact h2)
      have hpart := Aside.mk (show ∀ W : World, r + k < 64 → W.heap[H]? = some (.cells (T.cells true (foldW h0L (all ++ bs.take j)) (putB bl r xs) ((n : Int) + (k : Int))) 43 (0, 0)) → Hashes W H (all ++ bs.take (j + k)) from fun W h1 h2 => by
        rw [← hq.out]
        have e1 := HN.out; have e2 := HR.out; have e3 := HKX.out
        refine put_part (bl := bl) HBL.out (by rw [← e1]; exact HTK.out) (by rw [← e1, ← e2, ← e3]; exact h1) ?_
        rw [← e1, ← e2, hnk.out]; exact h2)
      have hrk := Aside.mk (show r + k < 64 → q ≠ 0 from fun h => by have := HQ2.out; have := HR.out; omega)
      have hrk2 := Aside.mk (show r + k = 64 → q = 0 from fun h => by have := HQ2.out; have := HR.out; omega)
      have hrk3 := Aside.mk (show r + k ≤ 64 from by have := HKM.out; omega)
      by_cases hck : k = c
      · subst hck
        have hend := Aside.mk (show bs.length - j - k = 0 from by have := HKM.out; omega)
        by_cases hfull : r + k = 64
        · have hq0 : q = 0 := hrk2.out hfull
          subst hq0
          have hfull' := Aside.mk hfull
          clear hfull
          go_wp2_with (go_at_call 25; refine (T.mix H _ _ _ _ hW3.out HWL.out HBL2.out hK3.out).mono ?_; rintro e w4 ⟨rfl, hm4, hG4⟩)
          go_roundg (gk - k)
          case measure => have := HJ.out; omega
          case rel => exact ⟨j + k, 0, _, by have := HJ.out; omega, by congr 1; have := hend.out; omega, by have := hend.out; omega, ⟨fun hlt => absurd hlt (by have := hend.out; omega)⟩, ⟨hfin.out _ hfull'.out hm4⟩, ⟨gb_trans hGw3.out hG4⟩⟩
        · have hlt64 := Aside.mk (show r + k < 64 from by have := hrk3.out; omega)
          have hq0 : ((q : Int) == 0) = false := by have := hrk.out hlt64.out; simp; omega
          clear hfull
          go_wp2_with (go_at_call 25; refine (T.mix H _ _ _ _ hW3.out HWL.out HBL2.out hK3.out).mono ?_; rintro e w4 ⟨rfl, hm4, hG4⟩)
          go_roundg (gk - k)
          case measure => have := HJ.out; omega
          case rel => exact ⟨j + k, 0, _, by have := HJ.out; omega, by congr 1; have := hend.out; omega, by have := hend.out; omega, ⟨fun hlt => absurd hlt (by have := hend.out; omega)⟩, ⟨hpart.out _ hlt64.out hW3.out⟩, hGw3⟩
      · have hkc2 : k < c := by omega
        by_cases hfull : r + k = 64
        · have hq0 : q = 0 := hrk2.out hfull
          subst hq0
          have hfull' := Aside.mk hfull
          clear hfull
          go_wp2_with (go_at_call 25; refine (T.mix H _ _ _ _ hW3.out HWL.out HBL2.out hK3.out).mono ?_; rintro e w4 ⟨rfl, hm4, hG4⟩)
          go_roundg (gk - k)
          case measure => have := HJ.out; omega
          case rel => exact ⟨j + k, c - k, _, by have := HJ.out; omega, by congr 1; omega, by omega, ⟨fun _ => ⟨b, o, rfl, by rw [Nat.add_assoc]⟩⟩, ⟨hfin.out _ hfull'.out hm4⟩, ⟨gb_trans hGw3.out hG4⟩⟩
        · have hlt64 := Aside.mk (show r + k < 64 from by have := hrk3.out; omega)
          have hq0 : ((q : Int) == 0) = false := by have := hrk.out hlt64.out; simp; omega
          clear hfull
          go_wp2_with (go_at_call 25; refine (T.mix H _ _ _ _ hW3.out HWL.out HBL2.out hK3.out).mono ?_; rintro e w4 ⟨rfl, hm4, hG4⟩)
          go_roundg (gk - k)
          case measure => have := HJ.out; omega
          case rel => exact ⟨j + k, c - k, _, by have := HJ.out; omega, by congr 1; omega, by omega, ⟨fun _ => ⟨b, o, rfl, by rw [Nat.add_assoc]⟩⟩, ⟨hpart.out _ hlt64.out hW3.out⟩, hGw3⟩
    · have hje : bs.length - j = 0 := by omega
      have hH' := Aside.mk (show Hashes wr H (all ++ bs) from by have := hH.out; rwa [List.take_of_length_le (by omega)] at this)
      clear hH
      go_wp2
      go_ret
      exact ⟨rfl, hH'.out, hG.out⟩
end Go.Proofs.YtoccfgkblognfaaDoor

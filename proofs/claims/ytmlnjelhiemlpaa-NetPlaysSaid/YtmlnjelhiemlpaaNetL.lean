/- The statement NetKeeps: the call returns true and turns nothing that was there. Conditions: where the lists lie; numbers of 64 bits. -/
import Derived.Test.YtmlnjelhiemlpaaNetK
import Derived.ProofKit
import Derived.OpenShut
import Derived.ChangeOld
import Derived.SizedLaws
namespace Go.Proofs.Ytmlnjelhiemlpaa
open Go.ChangeShapes Go.WideShapes Go.ChangeAt Go.Maps Go.RowKit Go.Proofs.YtmlnjelhiemlpaaW.PrintWords Go.Proofs.YtmlnjelhiemlpaaW.PrintLast Go.Proofs.YtmlnjelhiemlpaaW.PrintMore
attribute [local go_sem] max2_int min2_int max_two min_two
/-- 'ints_in', each number well formed. -/
theorem ints_in2 {H : Type} {enc : TypeId × Value → H} {W : World} {a : Option Addr} {len cap : Nat} {d : DataW H} {p : List MemPlace} (h : ∃ fuel, DataW.trod enc Try.prog W 0 (fun _ => true) true fuel 25 (Value.slice a len cap).cells.toList = some (d, p)) :
    ∃ l : List Int, len = l.length ∧ Kd.C (Kd.int .i64) W a l.length l ∧ l.length ≤ cap ∧ (l.length ≤ maxLen ∧ ∀ x ∈ l, (Lit.int .i64 x).wf = true) := by
  obtain ⟨fuel, hf⟩ := h
  rcases open_ints Try.underlying25 Try.underlying3 (by kernel_rfl) hf with ⟨hcs, _⟩ | ⟨x, l, c, zs, hcs, _, hl, hm, hz, _, hcell, hwz⟩
  · simp [Value.cells] at hcs
    obtain ⟨rfl, rfl, rfl⟩ := hcs
    exact ⟨[], rfl, ⟨rfl, by simp, fun h => by simp at h⟩, Nat.le_refl _, by simp, by simp⟩
  · simp [Value.cells] at hcs
    obtain ⟨rfl, rfl, rfl⟩ := hcs
    have hz' : zs.length = cap := by simpa using hz
    have hlen : (zs.take len).length = len := by rw [List.length_take]; omega
    have hm' : len ≤ maxLen := by omega
    refine ⟨zs.take len, hlen.symm, ⟨rfl, by rw [hlen]; unfold maxLen at hm; omega, fun h0 => ⟨x, rfl, fun j q hq => ⟨[.int .i64 q], rfl, rfl, fun i u hu => ?_⟩⟩⟩, by rw [hlen]; exact hl, by rw [hlen]; exact hm', fun y hy => hwz y (List.mem_of_mem_take hy)⟩
    match i, hu with
    | 0, hu =>
        simp at hu; subst hu
        have hj : j < len := by have := (List.getElem?_eq_some_iff.1 hq).1; omega
        rw [List.getElem?_take, if_pos hj] at hq
        have hjz : j < zs.length := (List.getElem?_eq_some_iff.1 hq).1
        show W.cell? (x.add (j * 1 + 0)) = _
        rw [Nat.mul_one, Nat.add_zero, hcell j hjz, List.getD_eq_getElem?_getD, hq]
        rfl
theorem T.count2 (A : Option Addr) (n c : Nat) (l : List Int) (w : World) (hn : l.length = n) (hS : SrcA w A l) (hw : ∀ x ∈ l, (Lit.int .i64 x).wf = true) (hl : n ≤ 1000) :
    Calls Try.prog 12 #[.slice A n c] w fun e w' => e = .returned (.map (some w.heap.size)) ∧ MapF w' w.heap.size n (cntF l) ∧ Below w.heap.size w w' := by
  subst hn
  exact T.count A c l w hS hw hl
theorem MapF.run {w : World} {b n : Nat} {f : Int → Int} (h : MapF w b n f) (k : Int) (hk : (Lit.int .i64 k).wf = true) (v : Int) (hv : f k = v) : (Instr.lookup 29 (.map (some b)) (.int .i64 k) false).run Try.prog w = .ok (.int .i64 v) w := by
  subst hv
  obtain ⟨D, hD, hf⟩ := h
  obtain ⟨c, hrun, hc, _⟩ := hD.lookup_int lawI Try.underlying29 Try.underlying3 (zeroI w) (keyOf_int_mk Try.underlying3 hk)
  rw [hf k hk] at hc
  have : f k = c := by simpa using hc
  rw [this]; exact hrun
theorem MapF.move {w w' : World} {b n : Nat} {f : Int → Int} (h : MapF w b n f) (hb : w'.heap[b]? = w.heap[b]?) : MapF w' b n f := by
  obtain ⟨D, ⟨es, cl, h1, h2⟩, hf⟩ := h
  exact ⟨D, ⟨es, cl, hb.trans h1, h2⟩, hf⟩
theorem MapF.lt {w : World} {b n : Nat} {f : Int → Int} (h : MapF w b n f) : b < w.heap.size := by
  obtain ⟨D, hD, _⟩ := h
  exact hD.lt
theorem cntF_out (M : List Int) (j : Nat) (x : Int) (hx : M[j]? = some x) : setF (cntF M) x (cntF M x - 1) = cntF (M.eraseIdx j) ∧ 1 ≤ cntF M x ∧ cntF M x ≤ M.length := by
  have hj := (List.getElem?_eq_some_iff.1 hx).1
  have hM : M = M.take j ++ x :: M.drop (j + 1) := by
    have h1 := List.take_append_drop j M
    rw [List.drop_eq_getElem_cons hj] at h1
    rw [List.getElem?_eq_getElem hj] at hx
    rw [Option.some.inj hx] at h1
    exact h1.symm
  have hc : ∀ y, (M.count y : Int) = (M.take j).count y + ((M.drop (j + 1)).count y + if x = y then 1 else 0) := fun y => by
    have := congrArg (List.count y) hM
    rw [List.count_append, List.count_cons] at this
    rw [this]
    by_cases e : x = y <;> simp [e]
  refine ⟨?_, ?_, ?_⟩
  · funext y
    unfold setF cntF
    rw [List.eraseIdx_eq_take_drop_succ, List.count_append, hc y, hc x]
    split
    · rename_i e; subst e; simp; omega
    · rename_i hne
      have : ¬ x = y := fun e => hne e.symm
      simp [this]
  · unfold cntF
    rw [hc x]
    simp; omega
  · unfold cntF
    have := List.count_le_length (a := x) (l := M)
    omega
/-- What stands while NetKeeps works: the bag at H, the map at B. -/
structure KJ (w : World) (H B : Nat) (v : Value) (M : List Int) (n : Nat) (f : Int → Int) (wr : World) : Prop where
  below : Below w.heap.size w wr
  bag : BagI wr H (H + 1) v M
  map : MapF wr B n f
  hH : w.heap.size ≤ H
  hB : w.heap.size ≤ B
  ne : H ≠ B
  own : v.ownBlock ≠ some B
theorem KJ.take {w wr : World} {H B n : Nat} {v : Value} {M : List Int} {f : Int → Int} (h : KJ w H B v M n f wr) (j : Nat) (x : Int) (hx : M[j]? = some x) (hM : M.length ≤ 900000) :
    Calls Try.prog 14 #[.pointer (some ⟨H, 0, none⟩), .int .i64 (j : Int)] wr fun e w' => e = .returned (.tuple #[.int .i64 x, .bool true]) ∧ ∃ v', KJ w H B v' (M.eraseIdx j) n f w' := by
  refine (T.TakeInI H (H + 1) v M j x wr (by omega) h.bag hx).mono ?_
  rintro e w' ⟨rfl, v', g1, g2, g3⟩
  have := h.hH
  refine ⟨rfl, v', below_fr h.below g2 (fun k e => by have := (RowI.lt h.bag.2.1 k e).1; omega) h.hH (Nat.le_refl _), g1, h.map.move (g2.block B h.map.lt (fun e => h.ne e.symm) h.own), h.hH, h.hB, h.ne, by rw [g3]; exact h.own⟩
theorem KJ.turn {w wr w' : World} {H B n n' : Nat} {v : Value} {M : List Int} {f f' : Int → Int} (h : KJ w H B v M n f wr) (hm : MapF w' B n' f') (hg : wr.grownBy w' (some B)) : KJ w H B v M n' f' w' := by
  refine ⟨h.below.grown hg h.below.size (fun k e => by have := Option.some.inj e; have := h.hB; omega), ⟨?_, own_move h.bag.2.1 (fun k hk => ?_), Nat.le_trans h.bag.2.2 hg.size⟩, hm, h.hH, h.hB, h.ne, h.own⟩
  · rw [hg.block H h.bag.lt (fun e => h.ne (Option.some.inj e))]; exact h.bag.1
  · exact hg.block k (RowI.lt h.bag.2.1 k hk).2 (fun e => h.own (by rw [hk, ← e]))
theorem KJ.to {w wr w' : World} {H B n : Nat} {v : Value} {M : List Int} {f : Int → Int} (h : KJ w H B v M n f wr) (hb : Below wr.heap.size wr w') : KJ w H B v M n f w' :=
  ⟨h.below.trans (hb.mono h.below.size), h.bag.below hb, h.map.move (hb.block _ h.map.lt), h.hH, h.hB, h.ne, h.own⟩
def kA (w : World) (H B m : Nat) (kq : Nat) (v7 : Value) (wr : World) : Prop := ∃ (i : Nat) (M : List Int) (v : Value), i + kq = m ∧ M.length = kq ∧ v7 = .int .i64 (i : Int) ∧ Aside (KJ w H B v M (m + i) (cntF M) wr) ∧ Aside (∀ x ∈ M, (Lit.int .i64 x).wf = true)
set_option maxHeartbeats 16000000 in
set_option maxRecDepth 100000 in
theorem walk_keeps (w : World) (A0 : Option Addr) (c0 : Nat) (l0 : List Int) (hC0 : Kd.C (Kd.int .i64) w A0 l0.length l0) (hc0 : l0.length ≤ c0) (hm0 : l0.length ≤ maxLen ∧ ∀ x ∈ l0, (Lit.int .i64 x).wf = true)
    (A1 : Option Addr) (c1 : Nat) (l1 : List Int) (hC1 : Kd.C (Kd.int .i64) w A1 l1.length l1) (_hc1 : l1.length ≤ c1) (hm1 : l1.length ≤ maxLen ∧ ∀ x ∈ l1, (Lit.int .i64 x).wf = true) :
    Calls Try.prog 4 #[.slice A0 l0.length c0, .slice A1 l1.length c1] w fun e w' => e = .returned (.bool true) ∧ Below w.heap.size w w' := by
  obtain ⟨m, hm⟩ : ∃ m, m = min l0.length 80 := ⟨_, rfl⟩
  have hS0 := Aside.mk (show SrcA w A0 (l0.take m) from fun i x hx => src_of_C hC0 i x (by
    rw [List.getElem?_take] at hx
    split at hx
    · exact hx
    · cases hx))
  have hS1 := Aside.mk (show SrcA w A1 l1 from fun i x hx => src_of_C hC1 i x hx)
  have HWF := Aside.mk (show ∀ x ∈ l0.take m, (Lit.int .i64 x).wf = true from fun x hx => hm0.2 x (List.mem_of_mem_take hx))
  have hlm0 : l0.length ≤ 9223372036854775807 := hm0.1
  have hlm1 : l1.length ≤ 9223372036854775807 := hm1.1
  have hmn : (if (80 : Int) < (l0.length : Int) then 80 else (l0.length : Int)) = (m : Int) := by split <;> omega
  have hm80 : m ≤ 80 := by omega
  have hml : m ≤ l0.length := by omega
  have hmc : m ≤ c0 := by omega
  have HML := Aside.mk (show (l0.take m).length = m from by rw [List.length_take]; omega)
  have hz27 : ∀ W, (zeroValue 27).run Try.prog W = .ok (.agg #[.slice none 0 0]) W := fun W => by
    have hi : (Try.prog.info? 27).map (·.zero) = some (some (.agg #[.slice none 0 0])) := by kernel_rfl
    obtain ⟨i, h1, h2⟩ := Option.map_eq_some_iff.1 hi
    simp [zeroValue, typeInfo, h1, h2]
  have hAt := Aside.mk (fun n k (hk : k ≤ 1000) W => T.At n (k : Nat) W (by omega))
  clear hC0 hC1 hm hc0 hm0 hm1
  have hP := Aside.mk (show Calls Try.prog 11 #[.pointer (some ⟨w.heap.size, 0, none⟩), .slice A0 m c0] (w.alloc (.cells #[.slice none 0 0] 27)) (fun e w' => e = .returned (.tuple #[]) ∧ ∃ v', BagI w' w.heap.size (w.heap.size + 1) v' (l0.take m) ∧ Below w.heap.size w w') from by
    have hb0 : Below w.heap.size w (w.alloc (.cells #[.slice none 0 0] 27)) := (Below.refl _ _).alloc (Nat.le_refl _) _
    refine (T.PutC w.heap.size (w.heap.size + 1) (.slice none 0 0) [] (l0.take m) A0 m c0 _ ⟨heap_alloc_new w _, RowI.nil _ _, by simp⟩ (hS0.out.below hb0) HML.out (by simp; omega)).mono ?_
    rintro e w' ⟨rfl, v', g1, g2, _⟩
    rw [List.nil_append] at g1
    exact ⟨rfl, v', g1, below_fr hb0 g2 (fun k e => by simp [Value.ownBlock] at e)⟩)
  go_enter Try.func4, Try.ntmps4
  go_wp2_with (first | (go_at_call 11; refine hP.out.mono ?_; rintro e w1 ⟨rfl, v1, hb1, hw1⟩; have HB1 := Aside.mk hb1; have HW1 := Aside.mk hw1; have hCn := Aside.mk (T.count2 A0 m c0 (l0.take m) w1 HML.out (hS0.out.below hw1) HWF.out (by omega)); clear hb1 hw1) | (go_at_call 12; refine hCn.out.mono ?_; rintro e w2 ⟨rfl, hm2, hb2⟩; have HM2 := Aside.mk hm2; have HB2 := Aside.mk hb2; clear hm2 hb2))
  have hKJ := Aside.mk (show KJ w w.heap.size w1.heap.size v1 (l0.take m) (m + 0) (cntF (l0.take m)) w2 from
    ⟨HW1.out.trans (HB2.out.mono HW1.out.size), HB1.out.below HB2.out, HM2.out, Nat.le_refl _, HW1.out.size, fun e => by have := HB1.out.lt; omega, fun e => by have := (RowI.lt HB1.out.2.1 _ e).2; omega⟩)
  obtain ⟨B, hBe⟩ : ∃ B, B = w1.heap.size := ⟨_, rfl⟩
  obtain ⟨H, hHe⟩ : ∃ H, H = w.heap.size := ⟨_, rfl⟩
  rw [← hBe] at hKJ ⊢
  have hfix := Aside.mk hHe
  clear hP hCn HB1 HW1 HM2 HB2 hBe hHe
  go_loopg [7, 8, 9, 10, 11] m (fun kq v7 _ _ _ _ wr => kA w w.heap.size B m kq v7 wr)
  case atStart => exact ⟨0, _, _, by omega, HML.out, rfl, hKJ, HWF⟩
  case round =>
    clear hKJ
    obtain ⟨i, M, v, hi, hML, rfl, hK, hW⟩ := hrel
    have HI := Aside.mk hi
    have hLen := Aside.mk (T.LenI w.heap.size (w.heap.size + 1) v M wr hK.out.bag)
    rw [hML] at hLen
    have hi80 : i ≤ 80 := by omega
    have hg80 : gk ≤ 80 := by omega
    clear hi
    by_cases h0 : 0 < gk
    · by_cases hp : i < l1.length
      · obtain ⟨x1, hx1⟩ : ∃ x1, l1[i]? = some x1 := ⟨_, List.getElem?_eq_getElem hp⟩
        obtain ⟨a1, rfl, hcx⟩ := (hS1.out.below hK.out.below) i x1 hx1
        clear hx1
        obtain ⟨j, hj⟩ : ∃ j : Nat, atF x1 (gk : Nat) = (j : Int) := ⟨(atF x1 (gk : Nat)).toNat, by have := atF_in x1 (gk : Nat) (by omega); omega⟩
        have hjg : j < gk := by have := atF_in x1 (gk : Nat) (by omega); omega
        have hA := Aside.mk (hAt.out x1 gk (by omega) wr)
        rw [hj] at hA
        obtain ⟨x, hx⟩ : ∃ x, M[j]? = some x := ⟨_, List.getElem?_eq_getElem (by omega)⟩
        have hT := Aside.mk (hK.out.take j x hx (by omega))
        obtain ⟨cv, hcv⟩ : ∃ cv, cntF M x = cv := ⟨_, rfl⟩
        obtain ⟨hset, hc1, hc2⟩ := cntF_out M j x hx
        rw [hcv] at hset hc1 hc2
        have hc2' : cv ≤ 80 := by omega
        have HCV := Aside.mk hcv
        have HSET := Aside.mk hset
        have hxw := Aside.mk (hW.out x (List.mem_of_getElem? hx))
        have hwf := Aside.mk (wf_of_small (n := cv - 1) (by omega) (by omega))
        have HEL := Aside.mk (show ((M.eraseIdx j).length : Int) = (gk : Int) - 1 from by rw [List.length_eraseIdx, hML, if_pos hjg]; omega)
        have hw1 : IntKind.i64.wrap ((gk : Int) - 1) = (gk : Int) - 1 := by simp [IntKind.wrap, IntKind.bits, IntKind.signed]; omega
        have hw2 : IntKind.i64.wrap (cv - 1) = cv - 1 := by simp [IntKind.wrap, IntKind.bits, IntKind.signed]; omega
        have hgm : gk ≤ 9223372036854775807 := by omega
        clear hx hcv hset hc2 hML hj
        go_wp2_with (first | (go_at_call 13; refine hLen.out.mono ?_; rintro e w' ⟨rfl, hw⟩; subst w') | (go_at_call 13; refine hLen3.out.mono ?_; rintro e w' ⟨rfl, hw⟩; subst w') | (go_at_call 8; refine hA.out.mono ?_; rintro e w' ⟨rfl, hw⟩; subst w') | (go_at_call 14; refine hT.out.mono ?_; rintro e w3 ⟨rfl, v3, h3⟩; have hlk := h3.map.run x hxw.out cv HCV.out; have hLen3 := Aside.mk (T.LenI w.heap.size (w.heap.size + 1) v3 (M.eraseIdx j) w3 h3.bag); rw [HEL.out] at hLen3; have K3 := Aside.mk h3; clear h3) | (at_mapUpdate; refine K3.out.map.put rfl _ _ _ rfl x (cv - 1) rfl rfl rfl hxw.out hwf.out (by omega) ?_; intro w4 h4 hg4; rw [HSET.out] at h4; have K4 := Aside.mk (K3.out.turn h4 hg4); clear h4 hg4))
        go_roundg (gk - 1)
        case measure => omega
        case rel => exact ⟨i + 1, M.eraseIdx j, v3, by have := HI.out; omega, by have := HEL.out; omega, by go_num, K4, ⟨fun y hy => hW.out y (List.mem_of_mem_eraseIdx hy)⟩⟩
      · have hp' : l1.length ≤ i := by omega
        clear hp
        obtain ⟨j, hj⟩ : ∃ j : Nat, atF (i : Nat) (gk : Nat) = (j : Int) := ⟨(atF (i : Nat) (gk : Nat)).toNat, by have := atF_in (i : Nat) (gk : Nat) (by omega); omega⟩
        have hjg : j < gk := by have := atF_in (i : Nat) (gk : Nat) (by omega); omega
        have hA := Aside.mk (hAt.out (i : Nat) gk (by omega) wr)
        rw [hj] at hA
        obtain ⟨x, hx⟩ : ∃ x, M[j]? = some x := ⟨_, List.getElem?_eq_getElem (by omega)⟩
        have hT := Aside.mk (hK.out.take j x hx (by omega))
        obtain ⟨cv, hcv⟩ : ∃ cv, cntF M x = cv := ⟨_, rfl⟩
        obtain ⟨hset, hc1, hc2⟩ := cntF_out M j x hx
        rw [hcv] at hset hc1 hc2
        have hc2' : cv ≤ 80 := by omega
        have HCV := Aside.mk hcv
        have HSET := Aside.mk hset
        have hxw := Aside.mk (hW.out x (List.mem_of_getElem? hx))
        have hwf := Aside.mk (wf_of_small (n := cv - 1) (by omega) (by omega))
        have HEL := Aside.mk (show ((M.eraseIdx j).length : Int) = (gk : Int) - 1 from by rw [List.length_eraseIdx, hML, if_pos hjg]; omega)
        have hw1 : IntKind.i64.wrap ((gk : Int) - 1) = (gk : Int) - 1 := by simp [IntKind.wrap, IntKind.bits, IntKind.signed]; omega
        have hw2 : IntKind.i64.wrap (cv - 1) = cv - 1 := by simp [IntKind.wrap, IntKind.bits, IntKind.signed]; omega
        have hgm : gk ≤ 9223372036854775807 := by omega
        clear hx hcv hset hc2 hML hj
        go_wp2_with (first | (go_at_call 13; refine hLen.out.mono ?_; rintro e w' ⟨rfl, hw⟩; subst w') | (go_at_call 13; refine hLen3.out.mono ?_; rintro e w' ⟨rfl, hw⟩; subst w') | (go_at_call 8; refine hA.out.mono ?_; rintro e w' ⟨rfl, hw⟩; subst w') | (go_at_call 14; refine hT.out.mono ?_; rintro e w3 ⟨rfl, v3, h3⟩; have hlk := h3.map.run x hxw.out cv HCV.out; have hLen3 := Aside.mk (T.LenI w.heap.size (w.heap.size + 1) v3 (M.eraseIdx j) w3 h3.bag); rw [HEL.out] at hLen3; have K3 := Aside.mk h3; clear h3) | (at_mapUpdate; refine K3.out.map.put rfl _ _ _ rfl x (cv - 1) rfl rfl rfl hxw.out hwf.out (by omega) ?_; intro w4 h4 hg4; rw [HSET.out] at h4; have K4 := Aside.mk (K3.out.turn h4 hg4); clear h4 hg4))
        go_roundg (gk - 1)
        case measure => omega
        case rel => exact ⟨i + 1, M.eraseIdx j, v3, by have := HI.out; omega, by have := HEL.out; omega, by go_num, K4, ⟨fun y hy => hW.out y (List.mem_of_mem_eraseIdx hy)⟩⟩
    · have hg0 : gk = 0 := by omega
      have hM0 : M = [] := List.eq_nil_of_length_eq_zero (by omega)
      subst hM0
      subst hg0
      clear hML h0 hg80
      go_wp2_with (go_at_call 13; refine hLen.out.mono ?_; rintro e w' ⟨rfl, hw⟩; subst w')
      go_loopg [13, 66] m (fun kq _ v66 wr2 => ∃ k : Nat, k + kq = m ∧ v66 = .int .i64 (k : Int) ∧ Aside (KJ w w.heap.size B v [] (m + i) (cntF []) wr2))
      case atStart => exact ⟨0, by omega, rfl, hK⟩
      case round =>
        obtain ⟨k, hk, rfl, hK2⟩ := hrel
        have HK := Aside.mk hk
        have hkm : k ≤ 80 := by omega
        by_cases hlt : k < m
        · obtain ⟨x, hx⟩ : ∃ x, (l0.take m)[k]? = some x := ⟨_, List.getElem?_eq_getElem (by rw [HML.out]; exact hlt)⟩
          obtain ⟨a2, rfl, hcx⟩ := (hS0.out.below hK2.out.below) k x hx
          have hxw := Aside.mk (HWF.out x (List.mem_of_getElem? hx))
          have hlt' := Aside.mk hlt
          clear hx hk
          go_wp2_with (at_lookup; refine hK2.out.map.look rfl _ _ rfl x rfl rfl hxw.out 0 rfl ?_)
          go_roundg (gk - 1)
          case measure => have := HK.out; have := hlt'.out; omega
          case rel => exact ⟨k + 1, by have := HK.out; have := hlt'.out; omega, by go_num, hK2⟩
        · have hke : k = m := by omega
          clear hlt hk
          subst hke
          go_wp2_with (first | (go_at_call 14; refine (T.TakeOutI (some ⟨w.heap.size, 0, none⟩) (w.heap.size + 1) v [] 0 _ (by simp) (.inr ⟨_, rfl, hK2.out.bag⟩) rfl).mono ?_; rintro e w3 ⟨rfl, hb3⟩; have B3 := Aside.mk (hK2.out.below.trans (hb3.mono hK2.out.below.size)); clear hb3) | (go_at_call 10; refine (T.works _).mono ?_; rintro e w4 ⟨rfl, hb4⟩; have B4 := Aside.mk (B3.out.trans (hb4.mono B3.out.size)); clear hb4))
          go_ret
          exact ⟨rfl, B4.out⟩
end Go.Proofs.Ytmlnjelhiemlpaa

/- The law's all and alike: what a bag has, one by one; two lists that are alike. Conditions: where they lie. -/
import Derived.Test.YtmlnjelhiemlpaaNetF
namespace Go.Proofs.Ytmlnjelhiemlpaa
open Go.RowKit Go.Proofs.YtmlnjelhiemlpaaW.PrintWords Go.Proofs.YtmlnjelhiemlpaaW.PrintLast Go.Proofs.YtmlnjelhiemlpaaW.PrintMore
/-- What stands while all goes through a bag. -/
def AJ (n0 : Nat) (w0 : World) (L : List Int) (k : Nat) (W : World) : Prop := W.heap[n0 + 1 + 1]? = some (.cells #[.bool true] 4 (0, 0)) ∧ (∃ v, W.heap[n0 + 1]? = some (.cells #[v] 25 (0, 0)) ∧ RowI W (n0 + 3) v (L.take k)) ∧ n0 + 3 ≤ W.heap.size ∧ Below n0 w0 W
def AOwn (n0 : Nat) (W : World) (g : Nat) : Prop := g = n0 + 1 ∨ g = n0 + 1 + 1 ∨ ∃ v, W.heap[n0 + 1]? = some (.cells #[v] 25 (0, 0)) ∧ v.ownBlock = some g
theorem one_cell {W : World} {B t : Nat} {v : Value} (h : W.heap[B]? = some (.cells #[v] t (0, 0))) : W.cell? ⟨B, 0, none⟩ = some v := by
  rw [cell_of_row _ _ _ _ _ _ h]; rfl
set_option maxHeartbeats 4000000 in
set_option maxRecDepth 100000 in
theorem T.all1 (n0 : Nat) (w0 : World) (hn0 : n0 ≤ w0.heap.size) (L : List Int) (hL : L.length ≤ 900000) (k : Nat) (x : Int) (W : World) (h : AJ n0 w0 L k W) (hx : L[k]? = some x) :
    Calls Try.prog 35 #[.int .i64 (k : Nat), .int .i64 x, .pointer (some ⟨n0 + 1 + 1, 0, none⟩), .pointer (some ⟨n0 + 1, 0, none⟩)] W fun e W' =>
      (e = .returned (.bool true) ∧ AJ n0 w0 L (k + 1) W') ∧ W.heap.size ≤ W'.heap.size ∧ (∀ g, g < W.heap.size → ¬ AOwn n0 W g → W'.heap[g]? = W.heap[g]?) ∧ ∀ g, AOwn n0 W' g → AOwn n0 W g ∨ W.heap.size ≤ g := by
  obtain ⟨hR, ⟨v, hv, hrow⟩, hsz, hB⟩ := h
  have hk : k < L.length := (List.getElem?_eq_some_iff.1 hx).1
  obtain ⟨A, nn, c, rfl, hnn⟩ := hrow.shape
  have hnk : nn = k := by rw [hnn, List.length_take]; omega
  subst hnk
  have c1 := one_cell hv
  have c2 := one_cell hR
  have f1 := frozen_of_row W (n0 + 1) 0 _ _ hv
  have f2 := frozen_of_row W (n0 + 1 + 1) 0 _ _ hR
  have HR := Aside.mk hR
  have HV := Aside.mk hv
  have HROW := Aside.mk hrow
  have HSZ := Aside.mk hsz
  have HB := Aside.mk hB
  have HL := Aside.mk hL
  have HX := Aside.mk hx
  have HK := Aside.mk hk
  have hkm : nn ≤ 9223372036854775807 := by omega
  clear hR hv hrow hsz hB hL hx hnn hn0 hk
  have hvo : ∀ b, (Value.slice A nn c).ownBlock = some b → n0 + 3 ≤ b := fun b hb => (World.ownsRow.lt HROW.out b hb).1
  have HVO := Aside.mk hvo
  have hA0 : Below (n0 + 1) W ((W.setCell ⟨n0 + 1 + 1, 0, none⟩ (.bool true)).alloc (.cells #[.int .i64 x] 3)) := ((Below.refl _ _).setCell (by simp) _).alloc (by have := HSZ.out; simp [World.setCell]; omega) _
  have hAr := Aside.mk (show RowI ((W.setCell ⟨n0 + 1 + 1, 0, none⟩ (.bool true)).alloc (.cells #[.int .i64 x] 3)) (n0 + 3) (.slice A nn c) (L.take nn) from by
    have h1 : RowI (W.setCell ⟨n0 + 1 + 1, 0, none⟩ (.bool true)) (n0 + 3) (.slice A nn c) (L.take nn) := HROW.out.kept (row := some (n0 + 1 + 1)) ⟨rfl, rfl, rfl, by simp [World.setCell], fun k _ hne => Below.heap_setCell _ _ _ _ (fun e => hne (congrArg some e))⟩ (by
      rcases h : (Value.slice A nn c).ownBlock with _ | b
      · exact .inl rfl
      · exact .inr (fun e => by have := hvo b h; have := Option.some.inj e; omega))
    exact h1.below ((Below.refl _ _).alloc (Nat.le_refl _) _))
  have hAh : ∀ g, g < W.heap.size → g ≠ n0 + 1 + 1 → ((W.setCell ⟨n0 + 1 + 1, 0, none⟩ (.bool true)).alloc (.cells #[.int .i64 x] 3)).heap[g]? = W.heap[g]? := fun g hg hne => by
    rw [Below.heap_alloc _ _ _ (by simpa [World.setCell] using hg), Below.heap_setCell _ _ _ _ (fun e => hne e)]
  have HAH := Aside.mk hAh
  have hAs : ((W.setCell ⟨n0 + 1 + 1, 0, none⟩ (.bool true)).alloc (.cells #[.int .i64 x] 3)).heap.size = W.heap.size + 1 := by simp [World.setCell]
  have HAS := Aside.mk hAs
  have hSx := Aside.mk (show SrcI ((W.setCell ⟨n0 + 1 + 1, 0, none⟩ (.bool true)).alloc (.cells #[.int .i64 x] 3)) (some ⟨W.heap.size, 0, none⟩) [x] from fun j y hy => by
    match j, hy with
    | 0, hy =>
      simp at hy; subst hy
      refine ⟨W.heap.size, 0, rfl, ?_⟩
      have := heap_alloc_new (W.setCell ⟨n0 + 1 + 1, 0, none⟩ (.bool true)) (.cells #[.int .i64 x] 3)
      rw [show (W.setCell ⟨n0 + 1 + 1, 0, none⟩ (.bool true)).heap.size = W.heap.size from by simp [World.setCell]] at this
      rw [cell_of_row _ _ _ _ _ _ this]; rfl)
  have hRA := Aside.mk (show ((W.setCell ⟨n0 + 1 + 1, 0, none⟩ (.bool true)).alloc (.cells #[.int .i64 x] 3)).heap[n0 + 1 + 1]? = some (.cells #[.bool true] 4 (0, 0)) from by
    rw [Below.heap_alloc _ _ _ (by have := HSZ.out; simp [World.setCell]; omega)]
    exact setCell_one HR.out _)
  have hlt := Aside.mk (show (L.take nn).length = nn from by rw [List.length_take]; have := HK.out; omega)
  clear hvo hA0 hAh hAs
  go_enter Try.func35, Try.ntmps35
  go_wp2_with ((with_reducible refine wpList_appendI rfl (.tmp 14) (.tmp 16) rfl (n0 + 3) (.slice A nn c) (L.take nn) [x] (some ⟨W.heap.size, 0, none⟩) 1 1 rfl rfl rfl ?ho ?hr ?hb ?hl ?_); (case ho => exact hAr.out); (case hr => exact hSx.out); (case hb => rw [HAS.out]; have := HSZ.out; omega); (case hl => rw [hlt.out]; have := HK.out; have := HL.out; omega); intro v1 w1 h1 hg hw; obtain ⟨A1, n1, c1', rfl, hn1⟩ := h1.shape; have HN1 := Aside.mk hn1; clear hn1; have H1 := Aside.mk h1; have HG := Aside.mk hg; have HW := Aside.mk hw; have hk := (hg.block (n0 + 1) (by rw [HAS.out]; have := HSZ.out; omega) (fun e => by have := HVO.out _ e.symm; omega)).trans ((HAH.out (n0 + 1) (by have := HSZ.out; omega) (by omega)).trans HV.out); have hfr := frozen_of_row w1 (n0 + 1) 0 _ _ hk; have hcc := one_cell hk; have HKK := Aside.mk hk; clear hk h1 hg hw)
  go_ret
  have hs1 : W.heap.size + 1 ≤ w1.heap.size := by rw [← HAS.out]; exact HG.out.size
  have hown1 : ∀ b, (Value.slice A1 n1 c1').ownBlock = some b → n0 + 3 ≤ b := fun b hb => (World.ownsRow.lt H1.out b hb).1
  have hfr2 : ∀ g, g < W.heap.size → g ≠ n0 + 1 → g ≠ n0 + 1 + 1 → (Value.slice A nn c).ownBlock ≠ some g → (w1.setCell ⟨n0 + 1, 0, none⟩ (.slice A1 n1 c1')).heap[g]? = W.heap[g]? := fun g hg h1 h2 h3 => by
    rw [Below.heap_setCell _ _ _ _ (fun e => h1 e), HG.out.block g (by rw [HAS.out]; omega) (fun e => h3 e.symm), HAH.out g hg h2]
  refine ⟨⟨rfl, ?_, ⟨_, setCell_one HKK.out _, ?_⟩, ?_, ?_⟩, ?_, ?_, ?_⟩
  · rw [Below.heap_setCell _ _ _ _ (fun e => by have : n0 + 1 + 1 = n0 + 1 := e; omega), HG.out.block _ (by rw [HAS.out]; have := HSZ.out; omega) (fun e => by have := HVO.out _ e.symm; omega)]
    exact hRA.out
  · have ht : L.take nn ++ [x] = L.take (nn + 1) := by
      rw [List.take_succ_eq_append_getElem HK.out]
      congr 2
      have := HX.out
      rw [List.getElem?_eq_getElem HK.out] at this
      exact (Option.some.inj this).symm
    rw [← ht]
    refine H1.out.kept (row := some (n0 + 1)) ⟨rfl, rfl, rfl, by simp [World.setCell], fun k _ hne => Below.heap_setCell _ _ _ _ (fun e => hne (congrArg some e))⟩ ?_
    rcases h : (Value.slice A1 n1 c1').ownBlock with _ | b
    · exact .inl rfl
    · exact .inr (fun e => by have := hown1 b h; have := Option.some.inj e; omega)
  · have := HSZ.out; simp [World.setCell]; omega
  · refine HB.out.trans ⟨HG.out.os, HG.out.tape, HG.out.output, by simp [World.setCell]; omega, fun g hg => hfr2 g (by have := HSZ.out; omega) (by omega) (by omega) (fun e => by have := HVO.out g e; omega)⟩
  · simp [World.setCell]; omega
  · intro g hg hno
    exact hfr2 g hg (fun e => hno (.inl e)) (fun e => hno (.inr (.inl e))) (fun e => hno (.inr (.inr ⟨_, HV.out, e⟩)))
  · rintro g (h | h | ⟨v', h1, h2⟩)
    · exact .inl (.inl h)
    · exact .inl (.inr (.inl h))
    · rw [setCell_one HKK.out] at h1
      have hv' : v' = .slice A1 n1 c1' := by simpa using h1.symm
      subst hv'
      rcases HW.out with h3 | ⟨b, h3, h4⟩
      · exact .inl (.inr (.inr ⟨_, HV.out, by rw [← h3]; exact h2⟩))
      · rw [h3] at h2
        have := Option.some.inj h2
        rw [HAS.out] at h4
        exact .inr (by omega)
set_option maxHeartbeats 4000000 in
set_option maxRecDepth 100000 in
theorem T.all (H base : Nat) (v : Value) (L : List Int) (w : World) (hL : L.length ≤ 900000) (hB : BagI w H base v L) :
    Calls Try.prog 16 #[.pointer (some ⟨H, 0, none⟩)] w fun e w' => ∃ r, e = .returned (.tuple #[r, .bool true]) ∧ RowI w' w.heap.size r L ∧ Below w.heap.size w w' := by
  have HB := Aside.mk hB
  have HL := Aside.mk hL
  clear hB hL
  have hnf : ∀ (caps : Array Value) (W : World), (binOp .eql 40 (.func (.func 36) #[] caps) .nilFunc).run Try.prog W = .ok (.bool false) W := fun caps W => by kernel_rfl
  go_enter Try.func16, Try.ntmps16
  go_wp2_with (go_at_call 18; refine (T.AllI _ _).mono ?_; rintro e w' ⟨rfl, rfl⟩)
  have hb1 : Below w.heap.size w (((w.alloc (.cells #[.pointer (some ⟨H, 0, none⟩)] 38)).alloc (.cells #[.slice none 0 0] 25)).alloc (.cells #[.bool true] 4)) := (((Below.refl _ _).alloc (Nat.le_refl _) _).alloc (by simp) _).alloc (by simp; omega) _
  have hs3 : (((w.alloc (.cells #[.pointer (some ⟨H, 0, none⟩)] 38)).alloc (.cells #[.slice none 0 0] 25)).alloc (.cells #[.bool true] 4)).heap.size = w.heap.size + 3 := by simp
  have e1 : (((w.alloc (.cells #[.pointer (some ⟨H, 0, none⟩)] 38)).alloc (.cells #[.slice none 0 0] 25)).alloc (.cells #[.bool true] 4)).heap[w.heap.size + 1]? = some (.cells #[.slice none 0 0] 25 (0, 0)) := by
    have := heap_alloc2_old (w.alloc (.cells #[.pointer (some ⟨H, 0, none⟩)] 38)) (.cells #[.slice none 0 0] 25) (.cells #[.bool true] 4)
    simpa using this
  have e2 : (((w.alloc (.cells #[.pointer (some ⟨H, 0, none⟩)] 38)).alloc (.cells #[.slice none 0 0] 25)).alloc (.cells #[.bool true] 4)).heap[w.heap.size + 1 + 1]? = some (.cells #[.bool true] 4 (0, 0)) := by
    have := heap_alloc2_new (w.alloc (.cells #[.pointer (some ⟨H, 0, none⟩)] 38)) (.cells #[.slice none 0 0] 25) (.cells #[.bool true] 4)
    simpa using this
  have e0 : (((w.alloc (.cells #[.pointer (some ⟨H, 0, none⟩)] 38)).alloc (.cells #[.slice none 0 0] 25)).alloc (.cells #[.bool true] 4)).cell? ⟨w.heap.size, 0, none⟩ = some (.pointer (some ⟨H, 0, none⟩)) := by
    refine one_cell (t := 38) ?_
    rw [Below.heap_alloc _ _ _ (by simp; omega), Below.heap_alloc _ _ _ (by simp)]
    exact heap_alloc_new w _
  generalize (((w.alloc (.cells #[.pointer (some ⟨H, 0, none⟩)] 38)).alloc (.cells #[.slice none 0 0] 25)).alloc (.cells #[.bool true] 4)) = W1 at hb1 hs3 e1 e2 e0 ⊢
  refine (AllFn 35 #[.pointer (some ⟨w.heap.size + 1 + 1, 0, none⟩), .pointer (some ⟨w.heap.size + 1, 0, none⟩)] w.heap.size H base v L (by have := HL.out; omega) (enters_of Try.func35 (by kernel_rfl) rfl) (AJ w.heap.size w L) (fun _ _ => False) (AOwn w.heap.size) W1 (fun k x W2 hJ hx => ?_) (fun W' hb => ?_) e0 (HB.out.below hb1)).mono ?_
  · refine (T.all1 w.heap.size w (Nat.le_refl _) L HL.out k x W2 hJ hx).mono ?_
    rintro e W' ⟨h1, h2, h3, h4⟩
    exact ⟨.inl h1, h2, h3, h4⟩
  · have g1 := (hb.block (w.heap.size + 1) (by omega)).trans e1
    refine ⟨⟨(hb.block _ (by omega)).trans e2, ⟨_, g1, by rw [List.take_zero]; exact RowI.nil _ _⟩, by have := hb.size; omega, hb1.trans (hb.mono (by omega))⟩, ?_⟩
    rintro g (h | h | ⟨v', h1, h2⟩)
    · omega
    · omega
    · rw [g1] at h1
      have hv' : v' = .slice none 0 0 := by simpa using h1.symm
      subst hv'
      simp [Value.ownBlock] at h2
  · rintro e W3 ⟨rfl, hJ | ⟨_, _, _, hf⟩⟩
    · obtain ⟨hR, ⟨r, hv, hrow⟩, hsz, hB3⟩ := hJ
      rw [List.take_length] at hrow
      have c1 := one_cell hv
      have c2 := one_cell hR
      have HROW := Aside.mk hrow
      have HB3 := Aside.mk hB3
      clear hR hv hrow hsz hB3 hb1 hs3 e1 e2 e0
      go_wp2
      refine still_lit (by kernel_rfl) (by kernel_rfl) ?_
      repeat still_step
      refine wpStill_nil ?_
      go_wp2
      go_ret2
      exact ⟨r, rfl, own_weaken HROW.out (by omega), HB3.out.drew⟩
    · exact hf.elim
set_option maxHeartbeats 4000000 in
set_option maxRecDepth 100000 in
theorem T.alike (A B : Option Addr) (c d : Nat) (L : List Int) (w : World) (hA : SrcI w A L) (hB : SrcI w B L) (hL : L.length ≤ 900000) :
    Calls Try.prog 17 #[.slice A L.length c, .slice B L.length d] w fun e w' => e = .returned (.bool true) ∧ Below w.heap.size w w' := by
  have HA := Aside.mk hA
  have HB := Aside.mk hB
  have hlm : L.length ≤ 9223372036854775807 := by omega
  clear hA hB hL
  go_enter Try.func17, Try.ntmps17
  go_wp2
  go_loopg [13] L.length (fun kq v13 wr => ∃ k : Nat, k + kq = L.length ∧ v13 = .int .i64 (k : Int) ∧ Aside (Below w.heap.size w wr))
  case atStart => exact ⟨0, by omega, rfl, ⟨Below.refl _ _⟩⟩
  case round =>
    obtain ⟨k, hk, rfl, hb⟩ := hrel
    have HK := Aside.mk hk
    by_cases hlt : k < L.length
    · obtain ⟨x, hx⟩ : ∃ x, L[k]? = some x := ⟨_, List.getElem?_eq_getElem hlt⟩
      obtain ⟨b1, o1, rfl, h1⟩ := HA.out k x hx
      obtain ⟨b2, o2, rfl, h2⟩ := HB.out k x hx
      have c1 := (hb.out.cell (p := ⟨b1, o1 + k, none⟩) (block_lt_of_cell h1)).trans h1
      have c2 := (hb.out.cell (p := ⟨b2, o2 + k, none⟩) (block_lt_of_cell h2)).trans h2
      have hlt' := Aside.mk hlt
      clear h1 h2 hx hk
      go_wp2
      refine still_lit (by kernel_rfl) (by kernel_rfl) ?_
      repeat still_step
      refine wpStill_nil ?_
      go_wp2
      go_roundg (gk - 1)
      case measure => have := HK.out; have := hlt'.out; omega
      case rel => exact ⟨k + 1, by have := HK.out; have := hlt'.out; omega, by go_num, ⟨hb.out.drew⟩⟩
    · have hke : k = L.length := by omega
      clear hlt hk
      subst hke
      go_wp2
      go_ret
      exact ⟨rfl, hb.out⟩
end Go.Proofs.Ytmlnjelhiemlpaa

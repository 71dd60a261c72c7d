/- The statement NetStops: the call returns true and turns nothing that was there. Conditions: where the list lies; a number of 64 bits. -/
import Derived.Test.YtmlnjelhiemlpaaNetS
namespace Go.Proofs.Ytmlnjelhiemlpaa
open Go.RowKit Go.Proofs.YtmlnjelhiemlpaaW.PrintWords Go.Proofs.YtmlnjelhiemlpaaW.PrintLast Go.Proofs.YtmlnjelhiemlpaaW.PrintMore
attribute [local go_sem] max2_int min2_int max_two min_two
set_option maxHeartbeats 4000000 in
set_option maxRecDepth 100000 in
theorem T.PutC (H base : Nat) (v : Value) (l xs : List Int) (A : Option Addr) (m c : Nat) (w : World) (h : BagI w H base v l) (hS : SrcA w A xs) (hm : xs.length = m) (hl : l.length + m ≤ 1000000) :
    Calls Try.prog 11 #[.pointer (some ⟨H, 0, none⟩), .slice A m c] w fun e w' => e = .returned (.tuple #[]) ∧ ∃ v', BagI w' H base v' (l ++ xs) ∧ Fr w w' H v.ownBlock ∧ (v'.ownBlock = v.ownBlock ∨ ∃ b, v'.ownBlock = some b ∧ w.heap.size ≤ b) := by
  have hc := h.cell
  have HB := Aside.mk h
  have HS := Aside.mk hS
  have hap := Aside.mk h.apart
  clear h hS
  go_enter Try.func11, Try.ntmps11
  go_wp2_with ((with_reducible refine wpList_appendC rfl (.tmp 10) (.tmp 11) rfl base v l xs A m c rfl rfl hm ?ho ?hr ?hb hl ?_); (case ho => exact HB.out.2.1); (case hr => exact HS.out); (case hb => exact HB.out.2.2); intro v1 w1 h1 hg hw; obtain ⟨A1, n1, c1, rfl, hn1⟩ := h1.shape; have HN1 := Aside.mk hn1; clear hn1; have H1 := Aside.mk h1; have HG := Aside.mk hg; have HW := Aside.mk hw; have hk := (hg.block H HB.out.lt (fun e => hap.out e.symm)).trans HB.out.1; have hfr := frozen_of_row w1 H 0 _ _ hk; have hcc : w1.cell? ⟨H, 0, none⟩ = some v := (by rw [cell_of_row _ _ _ _ _ _ hk]; rfl); have HK := Aside.mk hk; clear hk h1 hg hw)
  go_end0
  refine ⟨rfl, .slice A1 n1 c1, ⟨setCell_one HK.out _, ?_, ?_⟩, ⟨HG.out.os, HG.out.tape, HG.out.output, ?_, ?_⟩, HW.out⟩
  · refine H1.out.kept (row := some H) ⟨rfl, rfl, rfl, by simp [World.setCell], fun k _ hne => Below.heap_setCell _ _ _ _ (fun e => hne (congrArg some e))⟩ ?_
    rcases h : (Value.slice A1 n1 c1).ownBlock with _ | k
    · exact .inl rfl
    · refine .inr (fun e => ?_)
      obtain rfl := Option.some.inj e
      rcases HW.out with h2 | ⟨b, h2, h3⟩
      · exact hap.out (by rw [← h2, h])
      · rw [h] at h2
        have := HB.out.lt
        obtain rfl := Option.some.inj h2
        omega
  · have := HG.out.size; have := HB.out.2.2; simp [World.setCell]; omega
  · simpa [World.setCell] using HG.out.size
  · intro k hk hne hr
    rw [Below.heap_setCell _ _ _ _ (fun e => hne e)]
    exact HG.out.block k hk (fun e => hr e.symm)
theorem SJ.keep {w W W' : World} {s m c0 N k : Nat} {A0 : Option Addr} {cut : Int} (h : SJ w w.heap.size s A0 m c0 cut N k W) (hb : Below W.heap.size W W') (hs : w.heap.size + 3 ≤ s) : SJ w w.heap.size s A0 m c0 cut N k W' := by
  obtain ⟨h1, h2, h3, h4, ⟨v, M, h5, h6, h7⟩, h8, h9⟩ := h
  exact ⟨(hb.block _ (by omega)).trans h1, (hb.block _ (by omega)).trans h2, (hb.block _ (by omega)).trans h3, (hb.block _ (by omega)).trans h4, ⟨v, M, h5.below hb, h6, h7⟩, Nat.le_trans h8 hb.size, h9.trans (hb.mono h9.size)⟩
theorem SJ.own {w W W' : World} {s m c0 N k : Nat} {A0 : Option Addr} {cut : Int} (h : SJ w w.heap.size s A0 m c0 cut N k W) (hb : Below W.heap.size W W') (hs : w.heap.size + 3 ≤ s) : ∀ g, SOwn w.heap.size s W' g → g < W.heap.size := by
  obtain ⟨h1, h2, h3, h4, ⟨v, M, h5, h6, h7⟩, h8, h9⟩ := h
  rintro g (h | h | h | ⟨v', h, he⟩)
  · omega
  · omega
  · omega
  · rw [hb.block _ (by omega), h5.1] at h
    have hv' : v' = v := by simpa using h.symm
    subst hv'
    exact (RowI.lt h5.2.1 g he).2
set_option maxHeartbeats 16000000 in
set_option maxRecDepth 100000 in
theorem walk_stops (w : World) (A0 : Option Addr) (c0 : Nat) (l0 : List Int) (hC0 : Kd.C (Kd.int .i64) w A0 l0.length l0) (hc0 : l0.length ≤ c0) (hm0 : l0.length ≤ maxLen)
    (cut : Int) (_hcut : (Lit.int .i64 cut).wf = true) :
    Calls Try.prog 6 #[.slice A0 l0.length c0, .int .i64 cut] w fun e w' => e = .returned (.bool true) ∧ Below w.heap.size w w' := by
  obtain ⟨m, hm⟩ : ∃ m, m = min l0.length 60 := ⟨_, rfl⟩
  have hS0 := Aside.mk (show SrcA w A0 (l0.take m) from fun i x hx => src_of_C hC0 i x (by
    rw [List.getElem?_take] at hx
    split at hx
    · exact hx
    · cases hx))
  have hlm0 : l0.length ≤ 9223372036854775807 := hm0
  have hmn : (if (60 : Int) < (l0.length : Int) then 60 else (l0.length : Int)) = (m : Int) := by split <;> omega
  have hm60 : m ≤ 60 := by omega
  have hml : m ≤ l0.length := by omega
  have hmc : m ≤ c0 := by omega
  have HML := Aside.mk (show (l0.take m).length = m from by rw [List.length_take]; omega)
  have hz27 : ∀ W, (zeroValue 27).run Try.prog W = .ok (.agg #[.slice none 0 0]) W := fun W => by
    have hi : (Try.prog.info? 27).map (·.zero) = some (some (.agg #[.slice none 0 0])) := by kernel_rfl
    obtain ⟨i, h1, h2⟩ := Option.map_eq_some_iff.1 hi
    simp [zeroValue, typeInfo, h1, h2]
  have hnf : ∀ (caps : Array Value) (W : World), (binOp .eql 40 (.func (.func 36) #[] caps) .nilFunc).run Try.prog W = .ok (.bool false) W := fun caps W => by kernel_rfl
  obtain ⟨q, hq⟩ : ∃ q, atF cut 70 = q := ⟨_, rfl⟩
  have hq01 := atF_in cut 70 (by omega)
  rw [hq] at hq01
  obtain ⟨hq0, hq1⟩ := hq01
  have hAt := Aside.mk (fun W => T.At cut 70 W (by omega))
  rw [hq] at hAt
  clear hC0 hm hc0 hm0 hq
  have hP := Aside.mk (show Calls Try.prog 11 #[.pointer (some ⟨w.heap.size + 1 + 1, 0, none⟩), .slice A0 m c0] (((w.alloc (.cells #[.slice A0 m c0] 25)).alloc (.cells #[.int .i64 cut] 3)).alloc (.cells #[.slice none 0 0] 27)) (fun e w' => e = .returned (.tuple #[]) ∧ ∃ v', BagI w' (w.heap.size + 2) (w.heap.size + 3) v' (l0.take m) ∧ w'.heap[w.heap.size]? = some (.cells #[.slice A0 m c0] 25 (0, 0)) ∧ w'.heap[w.heap.size + 1]? = some (.cells #[.int .i64 cut] 3 (0, 0)) ∧ Below w.heap.size w w') from by
    have hb0 : Below w.heap.size w (((w.alloc (.cells #[.slice A0 m c0] 25)).alloc (.cells #[.int .i64 cut] 3)).alloc (.cells #[.slice none 0 0] 27)) := (((Below.refl _ _).alloc (Nat.le_refl _) _).alloc (by simp) _).alloc (by simp; omega) _
    have hs3 : (((w.alloc (.cells #[.slice A0 m c0] 25)).alloc (.cells #[.int .i64 cut] 3)).alloc (.cells #[.slice none 0 0] 27)).heap.size = w.heap.size + 3 := by simp
    have e0 : (((w.alloc (.cells #[.slice A0 m c0] 25)).alloc (.cells #[.int .i64 cut] 3)).alloc (.cells #[.slice none 0 0] 27)).heap[w.heap.size]? = some (.cells #[.slice A0 m c0] 25 (0, 0)) := by
      rw [Below.heap_alloc _ _ _ (by simp; omega), Below.heap_alloc _ _ _ (by simp)]
      exact heap_alloc_new w _
    have e1 : (((w.alloc (.cells #[.slice A0 m c0] 25)).alloc (.cells #[.int .i64 cut] 3)).alloc (.cells #[.slice none 0 0] 27)).heap[w.heap.size + 1]? = some (.cells #[.int .i64 cut] 3 (0, 0)) := by
      have := heap_alloc2_old (w.alloc (.cells #[.slice A0 m c0] 25)) (.cells #[.int .i64 cut] 3) (.cells #[.slice none 0 0] 27)
      simpa using this
    have e2 : (((w.alloc (.cells #[.slice A0 m c0] 25)).alloc (.cells #[.int .i64 cut] 3)).alloc (.cells #[.slice none 0 0] 27)).heap[w.heap.size + 2]? = some (.cells #[.slice none 0 0] 27 (0, 0)) := by
      have := heap_alloc2_new (w.alloc (.cells #[.slice A0 m c0] 25)) (.cells #[.int .i64 cut] 3) (.cells #[.slice none 0 0] 27)
      simpa using this
    have hS1 := hS0.out.below hb0
    generalize (((w.alloc (.cells #[.slice A0 m c0] 25)).alloc (.cells #[.int .i64 cut] 3)).alloc (.cells #[.slice none 0 0] 27)) = W1 at hb0 hs3 e0 e1 e2 hS1 ⊢
    refine (T.PutC (w.heap.size + 2) (w.heap.size + 3) (.slice none 0 0) [] (l0.take m) A0 m c0 W1 ⟨e2, RowI.nil _ _, by omega⟩ hS1 HML.out (by simp; omega)).mono ?_
    rintro e w' ⟨rfl, v', g1, g2, _⟩
    rw [List.nil_append] at g1
    refine ⟨rfl, v', g1, ?_, ?_, below_fr hb0 g2 (fun k e => by simp [Value.ownBlock] at e)⟩
    · rw [g2.block _ (by omega) (by omega) (by simp [Value.ownBlock])]; exact e0
    · rw [g2.block _ (by omega) (by omega) (by simp [Value.ownBlock])]; exact e1)
  go_enter Try.func6, Try.ntmps6
  go_wp2_with (first | (go_at_call 11; refine hP.out.mono ?_; rintro e w1 ⟨rfl, v1, hb1, hl1, hc1, hw1⟩; have c1 := one_cell hl1; have c2 := one_cell hc1; have f2 := frozen_of_row w1 (w.heap.size + 1) 0 _ _ hc1; have HB1 := Aside.mk hb1; have HL1 := Aside.mk hl1; have HC1 := Aside.mk hc1; have HW1 := Aside.mk hw1; clear hb1 hl1 hc1 hw1) | (go_at_call 8; refine (hAt.out _).mono ?_; rintro e w2 ⟨rfl, hw⟩; subst w2) | (go_at_call 18; refine (T.AllI _ _).mono ?_; rintro e w' ⟨rfl, rfl⟩))
  have hs := Aside.mk (show w.heap.size + 3 ≤ w1.heap.size from HB1.out.2.2)
  have hB9 := Aside.mk (show BagI ((((w1.setCell ⟨w.heap.size + 1, 0, none⟩ (.int .i64 q)).alloc (.cells #[.int .i64 0] 3)).alloc (.cells #[.pointer (some ⟨w.heap.size + 1 + 1, 0, none⟩)] 38)).alloc (.cells #[.bool true] 4)) (w.heap.size + 2) (w.heap.size + 3) v1 (l0.take m) ∧ SJ w w.heap.size w1.heap.size A0 m c0 q m 0 ((((w1.setCell ⟨w.heap.size + 1, 0, none⟩ (.int .i64 q)).alloc (.cells #[.int .i64 0] 3)).alloc (.cells #[.pointer (some ⟨w.heap.size + 1 + 1, 0, none⟩)] 38)).alloc (.cells #[.bool true] 4)) ∧ ((((w1.setCell ⟨w.heap.size + 1, 0, none⟩ (.int .i64 q)).alloc (.cells #[.int .i64 0] 3)).alloc (.cells #[.pointer (some ⟨w.heap.size + 1 + 1, 0, none⟩)] 38)).alloc (.cells #[.bool true] 4)).cell? ⟨w1.heap.size + 1, 0, none⟩ = some (.pointer (some ⟨w.heap.size + 2, 0, none⟩)) from by
    have hs := hs.out
    have hB1 := HB1.out
    have hL1 := HL1.out
    have hW1 : Below w.heap.size w (w1.setCell ⟨w.heap.size + 1, 0, none⟩ (.int .i64 q)) := HW1.out.setCell (by simp) _
    have hsq : (w1.setCell ⟨w.heap.size + 1, 0, none⟩ (.int .i64 q)).heap.size = w1.heap.size := by simp [World.setCell]
    have hq := setCell_one HC1.out (.int .i64 q)
    have hold : ∀ g, g ≠ w.heap.size + 1 → (w1.setCell ⟨w.heap.size + 1, 0, none⟩ (.int .i64 q)).heap[g]? = w1.heap[g]? := fun g hg => Below.heap_setCell _ _ _ _ (fun e => hg e)
    generalize (w1.setCell ⟨w.heap.size + 1, 0, none⟩ (.int .i64 q)) = wq at hW1 hsq hq hold ⊢
    rw [← hsq] at hs ⊢
    have hB2 : BagI wq (w.heap.size + 2) (w.heap.size + 3) v1 (l0.take m) := ⟨(hold _ (by omega)).trans hB1.1, own_move hB1.2.1 (fun k hk => hold k (by have := (RowI.lt hB1.2.1 k hk).1; omega)), by omega⟩
    have hL2 := (hold w.heap.size (by omega)).trans hL1
    have hb9 : Below wq.heap.size wq (((wq.alloc (.cells #[.int .i64 0] 3)).alloc (.cells #[.pointer (some ⟨w.heap.size + 1 + 1, 0, none⟩)] 38)).alloc (.cells #[.bool true] 4)) := (((Below.refl _ _).alloc (Nat.le_refl _) _).alloc (by simp) _).alloc (by simp; omega) _
    have hs9 : (((wq.alloc (.cells #[.int .i64 0] 3)).alloc (.cells #[.pointer (some ⟨w.heap.size + 1 + 1, 0, none⟩)] 38)).alloc (.cells #[.bool true] 4)).heap.size = wq.heap.size + 3 := by simp
    have e0 : (((wq.alloc (.cells #[.int .i64 0] 3)).alloc (.cells #[.pointer (some ⟨w.heap.size + 1 + 1, 0, none⟩)] 38)).alloc (.cells #[.bool true] 4)).heap[wq.heap.size]? = some (.cells #[.int .i64 0] 3 (0, 0)) := by
      rw [Below.heap_alloc _ _ _ (by simp; omega), Below.heap_alloc _ _ _ (by simp)]
      exact heap_alloc_new wq _
    have e1 : (((wq.alloc (.cells #[.int .i64 0] 3)).alloc (.cells #[.pointer (some ⟨w.heap.size + 1 + 1, 0, none⟩)] 38)).alloc (.cells #[.bool true] 4)).heap[wq.heap.size + 1]? = some (.cells #[.pointer (some ⟨w.heap.size + 1 + 1, 0, none⟩)] 38 (0, 0)) := by
      have := heap_alloc2_old (wq.alloc (.cells #[.int .i64 0] 3)) (.cells #[.pointer (some ⟨w.heap.size + 1 + 1, 0, none⟩)] 38) (.cells #[.bool true] 4)
      simpa using this
    have e2 : (((wq.alloc (.cells #[.int .i64 0] 3)).alloc (.cells #[.pointer (some ⟨w.heap.size + 1 + 1, 0, none⟩)] 38)).alloc (.cells #[.bool true] 4)).heap[wq.heap.size + 2]? = some (.cells #[.bool true] 4 (0, 0)) := by
      have := heap_alloc2_new (wq.alloc (.cells #[.int .i64 0] 3)) (.cells #[.pointer (some ⟨w.heap.size + 1 + 1, 0, none⟩)] 38) (.cells #[.bool true] 4)
      simpa using this
    generalize (((wq.alloc (.cells #[.int .i64 0] 3)).alloc (.cells #[.pointer (some ⟨w.heap.size + 1 + 1, 0, none⟩)] 38)).alloc (.cells #[.bool true] 4)) = W9 at hb9 hs9 e0 e1 e2 ⊢
    exact ⟨hB2.below hb9, ⟨e2, e0, (hb9.block _ (by omega)).trans hL2, (hb9.block _ (by omega)).trans hq, ⟨v1, _, hB2.below hb9, HML.out, fun g hg => .inl (RowI.lt hB2.2.1 g hg).2⟩, by omega, hW1.trans (hb9.mono hW1.size)⟩, one_cell e1⟩)
  clear hP HB1 HL1 HC1 HW1 c1 c2 f2 hlm0 hmn hml
  generalize ((((w1.setCell ⟨w.heap.size + 1, 0, none⟩ (.int .i64 q)).alloc (.cells #[.int .i64 0] 3)).alloc (.cells #[.pointer (some ⟨w.heap.size + 1 + 1, 0, none⟩)] 38)).alloc (.cells #[.bool true] 4)) = W9 at hB9 ⊢
  obtain ⟨s, hse⟩ : ∃ s, s = w1.heap.size := ⟨_, rfl⟩
  rw [← hse] at hB9 hs ⊢
  clear hse
  refine (AllFn 19 #[.pointer (some ⟨s + 2, 0, none⟩), .pointer (some ⟨s, 0, none⟩), .pointer (some ⟨w.heap.size, 0, none⟩), .pointer (some ⟨w.heap.size + 2, 0, none⟩), .pointer (some ⟨w.heap.size + 1, 0, none⟩)] (s + 1) (w.heap.size + 2) (w.heap.size + 3) v1 (l0.take m) (by have := HML.out; omega) (enters_of Try.func19 (by kernel_rfl) rfl) (fun k W => SJ w w.heap.size s A0 m c0 q m k W ∧ (k = 0 ∨ (k : Int) < q)) (fun k W => SJ w w.heap.size s A0 m c0 q m k W ∧ ¬ (k : Int) < q ∧ (k = 1 ∨ (k : Int) ≤ q)) (SOwn w.heap.size s) W9 (fun k x W2 hJ hx => ?_) (fun W' hb => ⟨⟨hB9.out.2.1.keep hb hs.out, .inl rfl⟩, hB9.out.2.1.own hb hs.out⟩) hB9.out.2.2 hB9.out.1).mono ?_
  · obtain ⟨a0, rfl, _⟩ := hS0.out k x hx
    refine (T.stops1 w s a0 m c0 q (l0.take m) HML.out hm60 hS0.out hs.out k x W2 hJ.1 hx).mono ?_
    rintro e W' ⟨⟨rfl, h1⟩, h2, h3, h4⟩
    refine ⟨?_, h2, h3, h4⟩
    by_cases hd : ((k + 1 : Nat) : Int) < q
    · exact .inl ⟨by rw [decide_eq_true hd], h1, .inr hd⟩
    · exact .inr ⟨by rw [decide_eq_false hd], h1, hd, by rcases hJ.2 with h | h <;> omega⟩
  · rintro e W3 ⟨rfl, hJ⟩
    obtain ⟨n, hSJ, hn⟩ : ∃ n : Nat, SJ w w.heap.size s A0 m c0 q m n W3 ∧ ((n = m ∧ (n = 0 ∨ (n : Int) < q)) ∨ (1 ≤ n ∧ n ≤ m ∧ ¬ (n : Int) < q ∧ (n = 1 ∨ (n : Int) ≤ q))) := by
      rcases hJ with ⟨h1, h2⟩ | ⟨k, h0, h1, h2, h3, h4⟩
      · rw [HML.out] at h1 h2; exact ⟨m, h1, .inl ⟨rfl, h2⟩⟩
      · rw [HML.out] at h1; exact ⟨k, h2, .inr ⟨h0, h1, h3, h4⟩⟩
    have c1 := one_cell hSJ.ok
    have c2 := one_cell hSJ.nb
    have c3 := one_cell hSJ.lb
    have c4 := one_cell hSJ.cb
    have HSJ := Aside.mk hSJ.below
    have hmm : m ≤ 9223372036854775807 := by omega
    clear hJ hSJ hB9 hS0 hAt
    go_wp2_with (go_at_call 10; refine (T.works W3).mono ?_; rintro e w2 ⟨rfl, h2⟩; have H2 := Aside.mk h2; clear h2)
    all_goals (go_ret; exact ⟨rfl, HSJ.out.trans (H2.out.mono HSJ.out.size)⟩)
end Go.Proofs.Ytmlnjelhiemlpaa

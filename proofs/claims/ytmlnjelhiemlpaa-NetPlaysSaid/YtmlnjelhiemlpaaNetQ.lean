/- The plain reading's bag (package ref): Get, Take, Double. Conditions: where the bag and its row lie. -/
import Derived.Test.YtmlnjelhiemlpaaNetR
import Derived.Deep.RegionHeld3
import Derived.Deep.RegionWith
import Derived.Deep.RegionLaw
namespace Go.Proofs.Ytmlnjelhiemlpaa
open Go.RowKit Go.Proofs.YtmlnjelhiemlpaaW.PrintWords Go.Proofs.YtmlnjelhiemlpaaW.PrintLast Go.Proofs.YtmlnjelhiemlpaaW.PrintMore
set_option maxHeartbeats 4000000 in
set_option maxRecDepth 100000 in
theorem T.refGetIn (H base : Nat) (v : Value) (l : List Int) (k : Nat) (x : Int) (w : World) (h : BagR w H base v l) (hl : l.length ≤ 900000) (hx : l[k]? = some x) :
    Calls Try.prog 27 #[.pointer (some ⟨H, 0, none⟩), .int .i64 (k : Int)] w fun e w' => e = .returned (.tuple #[.int .i64 x, .bool true]) ∧ w' = w := by
  obtain ⟨A, n, c, rfl, hn⟩ := h.2.1.shape
  have hc := one_cell h.1
  have hk : k < n := by rw [hn]; exact (List.getElem?_eq_some_iff.1 hx).1
  obtain ⟨b, o, rfl, hcx⟩ := h.2.1.src.2.2 k x hx
  have hnm : n ≤ 900000 := by omega
  clear h hn hl hx
  go_enter Try.func27, Try.ntmps27
  go_wp2
  go_ret2
  exact ⟨rfl, rfl⟩
set_option maxHeartbeats 4000000 in
set_option maxRecDepth 100000 in
theorem T.refGetOut (H base : Nat) (v : Value) (l : List Int) (i : Int) (w : World) (h : BagR w H base v l) (hl : l.length ≤ 900000) (hi : i < 0 ∨ (l.length : Int) ≤ i) :
    Calls Try.prog 27 #[.pointer (some ⟨H, 0, none⟩), .int .i64 i] w fun e w' => e = .returned (.tuple #[.int .i64 0, .bool false]) ∧ w' = w := by
  obtain ⟨A, n, c, rfl, hn⟩ := h.2.1.shape
  have hc := one_cell h.1
  rw [← hn] at hi
  have hnm : n ≤ 900000 := by omega
  clear h hn hl
  rcases hi with hi | hi
  · go_enter Try.func27, Try.ntmps27
    go_wp2
    go_ret2
    exact ⟨rfl, rfl⟩
  · have hi0 : ¬ i < 0 := by omega
    go_enter Try.func27, Try.ntmps27
    go_wp2
    go_ret2
    exact ⟨rfl, rfl⟩
set_option maxHeartbeats 4000000 in
set_option maxRecDepth 100000 in
theorem T.refTakeOut (H base : Nat) (v : Value) (l : List Int) (i : Int) (w : World) (h : BagR w H base v l) (hl : l.length ≤ 900000) (hi : i < 0 ∨ (l.length : Int) ≤ i) :
    Calls Try.prog 21 #[.pointer (some ⟨H, 0, none⟩), .int .i64 i] w fun e w' => e = .returned (.tuple #[.int .i64 0, .bool false]) ∧ w' = w := by
  have hG := Aside.mk (T.refGetOut H base v l i w h hl hi)
  clear h hl hi
  go_enter Try.func21, Try.ntmps21
  go_wp2_with (go_at_call 27; refine hG.out.mono ?_; rintro e w' ⟨rfl, hw⟩; subst w')
  go_ret2
  exact ⟨rfl, rfl⟩
set_option maxHeartbeats 4000000 in
set_option maxRecDepth 100000 in
theorem T.refDoubleOut (H base : Nat) (v : Value) (l : List Int) (i : Int) (w : World) (h : BagR w H base v l) (hl : l.length ≤ 900000) (hi : i < 0 ∨ (l.length : Int) ≤ i) :
    Calls Try.prog 22 #[.pointer (some ⟨H, 0, none⟩), .int .i64 i] w fun e w' => e = .returned (.bool false) ∧ w' = w := by
  have hG := Aside.mk (T.refGetOut H base v l i w h hl hi)
  clear h hl hi
  go_enter Try.func22, Try.ntmps22
  go_wp2_with (go_at_call 27; refine hG.out.mono ?_; rintro e w' ⟨rfl, hw⟩; subst w')
  go_ret
  exact ⟨rfl, rfl⟩
set_option maxHeartbeats 4000000 in
set_option maxRecDepth 100000 in
theorem T.refDoubleIn (H base : Nat) (v : Value) (l : List Int) (k : Nat) (x : Int) (w : World) (h : BagR w H base v l) (hl : l.length ≤ 900000) (hx : l[k]? = some x) :
    Calls Try.prog 22 #[.pointer (some ⟨H, 0, none⟩), .int .i64 (k : Int)] w fun e w' => e = .returned (.bool true) ∧ ∃ v', BagR w' H base v' (l ++ [x]) ∧ Fr w w' H none ∧ ∃ b, v'.ownBlock = some b ∧ w.heap.size ≤ b := by
  have hG := Aside.mk (T.refGetIn H base v l k x w h hl hx)
  have hP := Aside.mk (T.refPut H base v l x w h hl)
  clear h hl hx
  go_enter Try.func22, Try.ntmps22
  go_wp2_with (first | (go_at_call 27; refine hG.out.mono ?_; rintro e w' ⟨rfl, hw⟩; subst w') | (go_at_call 20; refine hP.out.mono ?_; rintro e w1 ⟨rfl, h1⟩; have H1 := Aside.mk h1; clear h1))
  go_ret
  exact ⟨rfl, H1.out⟩
set_option maxHeartbeats 8000000 in
set_option maxRecDepth 100000 in
theorem T.refTakeIn (H base : Nat) (v : Value) (l : List Int) (k : Nat) (x : Int) (w : World) (h : BagR w H base v l) (hl : l.length ≤ 900000) (hx : l[k]? = some x) :
    Calls Try.prog 21 #[.pointer (some ⟨H, 0, none⟩), .int .i64 (k : Int)] w fun e w' => e = .returned (.tuple #[.int .i64 x, .bool true]) ∧ ∃ v', BagR w' H base v' (l.eraseIdx k) ∧ Fr w w' H none ∧ ∃ b, v'.ownBlock = some b ∧ w.heap.size ≤ b := by
  have hG := Aside.mk (T.refGetIn H base v l k x w h hl hx)
  obtain ⟨A, n, c, rfl, hn⟩ := h.2.1.shape
  have hncap := h.2.1.src.2.1
  have hc := one_cell h.1
  have hc1 := cell_alloc_l (.cells #[] 3) hc
  have hk : k < n := by rw [hn]; exact (List.getElem?_eq_some_iff.1 hx).1
  obtain ⟨b, o, rfl, _⟩ := h.2.1.src.2.2 k x hx
  have hnm : n ≤ 900000 := by omega
  have HN := Aside.mk hn
  have HB := Aside.mk h
  have hkc : k ≤ c := by omega
  have hkc1 : k + 1 ≤ c := by omega
  have hkn1 : 0 ≤ (k : Int) + 1 ∧ (k : Int) + 1 ≤ (n : Int) := by omega
  have hwr : IntKind.i64.wrap ((k : Int) + 1) = (k : Int) + 1 := by simp [IntKind.wrap, IntKind.bits, IntKind.signed]; omega
  obtain ⟨ao, hao⟩ : ∃ ao, (if c = k + 1 then some (⟨b, o, none⟩ : Addr) else some ⟨b, o + (k + 1), none⟩) = ao := ⟨_, rfl⟩
  clear h hl hx hn hncap
  have hDR := Aside.mk (fun (W : World) (hW : SrcA W (some ⟨b, o, none⟩) l) => show SrcA W ao (l.drop (k + 1)) from by
    intro j z hz
    rw [List.getElem?_drop] at hz
    have hj := (List.getElem?_eq_some_iff.1 hz).1
    have := HN.out
    have := HB.out.2.1.src.2.1
    rw [if_neg (by omega)] at hao
    obtain ⟨a2, e2, h2⟩ := hW _ z hz
    cases e2
    refine ⟨_, hao.symm, ?_⟩
    rw [Addr.add_lit] at h2 ⊢
    rw [Nat.add_assoc]
    exact h2)
  have HSL := Aside.mk HB.out.2.1.srcA
  have hbe := Aside.mk (Below.drew ((Below.refl w.heap.size w).alloc (Nat.le_refl _) (.cells #[] 3)))
  have hS2 := Aside.mk (show SrcA (w.alloc (.cells #[] 3)).drew (some ⟨b, o, none⟩) (l.take k) from fun j z hz => (HSL.out.below hbe.out) j z (by rw [List.getElem?_take] at hz; split at hz; exact hz; cases hz))
  have HKN := Aside.mk (show (l.take k).length = k from by rw [List.length_take]; have := HN.out; omega)
  have HDL := Aside.mk (show (l.drop (k + 1)).length = n - (k + 1) from by rw [List.length_drop]; have := HN.out; omega)
  have HEE := Aside.mk (show l.take k ++ l.drop (k + 1) = l.eraseIdx k from by rw [List.eraseIdx_eq_take_drop_succ])
  have hRE := Aside.mk ((RowI.empty w base HB.out.2.2).below (Below.drew (Below.refl _ _)))
  have hsz2 := Aside.mk (show base ≤ (w.alloc (.cells #[] 3)).drew.heap.size from by have := hbe.out.size; have := HB.out.2.2; omega)
  go_enter Try.func21, Try.ntmps21
  go_wp2_with (go_at_call 27; refine hG.out.mono ?_; rintro e w' ⟨rfl, hw⟩; subst w')
  go_region_law (first | (refine step_appendC rfl (.tmp 16) (.tmp 22) rfl base (.slice (some ⟨w.heap.size, 0, none⟩) 0 0) [] (l.take k) (some ⟨b, o, none⟩) k c rfl rfl HKN.out hRE.out hS2.out hsz2.out (by simp; omega) ?_; intro v1 w3 h3 hg3 hw3; rw [List.nil_append] at h3; obtain ⟨A1, n1, c1, rfl, hn1⟩ := h3.shape; have hB3 : Below w.heap.size w w3 := hbe.out.grown hg3 hbe.out.size (fun k' e => by simp [Value.ownBlock] at e; omega); have hcc3 := one_cell ((hB3.block H HB.out.lt).trans HB.out.1); have HN1 := Aside.mk hn1; have H3 := Aside.mk h3; have HW3 := Aside.mk hw3; have HB3 := Aside.mk hB3; have HS3 := Aside.mk (HSL.out.below hB3); clear hn1 h3 hg3 hw3 hB3) | (refine step_appendC rfl (.tmp 23) (.tmp 30) rfl base (.slice A1 n1 c1) (l.take k) (l.drop (k + 1)) ao (n - (k + 1)) (c - (k + 1)) rfl rfl HDL.out H3.out (hDR.out w3 HS3.out) (by have := HB3.out.size; have := HB.out.2.2; omega) (by have := HKN.out; omega) ?_; intro v4 w4 h4 hg4 hw4; rw [HEE.out] at h4; obtain ⟨A3, n3, c3, rfl, hn3⟩ := h4.shape; have hw1 : ∃ b, (Value.slice A1 n1 c1).ownBlock = some b ∧ w.heap.size ≤ b := (by rcases HW3.out with h | ⟨b, h, h1⟩; exact ⟨_, h.trans rfl, Nat.le_refl _⟩; exact ⟨b, h, Nat.le_trans hbe.out.size h1⟩); have hB4 : Below w.heap.size w w4 := HB3.out.grown hg4 HB3.out.size (fun k' e => by obtain ⟨b, h, h1⟩ := hw1; rw [h] at e; have := Option.some.inj e; omega); have hk4 := (hB4.block H HB.out.lt).trans HB.out.1; have hf4 := frozen_of_row w4 H 0 _ _ hk4; have hcc4 := one_cell hk4; have HK4 := Aside.mk hk4; have HW4 := Aside.mk (show ∃ b, (Value.slice A3 n3 c3).ownBlock = some b ∧ w.heap.size ≤ b from (by rcases hw4 with h | ⟨b, h, h1⟩; (obtain ⟨b, h2, h3⟩ := hw1; exact ⟨b, h.trans h2, h3⟩); exact ⟨b, h, Nat.le_trans HB3.out.size h1⟩)); have H4 := Aside.mk h4; have HB4 := Aside.mk hB4; clear hk4 hn3 h4 hg4 hw4 hB4 hw1))
  all_goals (
    clear HN hDR HSL hbe hS2 HKN HDL HEE hRE hsz2 hG HB3 HS3 H3 HW3
    go_wp2
    go_ret2
    have hlt := HB.out.lt
    obtain ⟨b, e1, e2⟩ := HW4.out
    refine ⟨rfl, .slice A3 n3 c3, ⟨setCell_one HK4.out _, ?_, ?_⟩, ⟨HB4.out.os, HB4.out.tape, HB4.out.output, ?_, fun k hk hne _ => ?_⟩, b, e1, e2⟩
    · refine H4.out.kept (row := some H) ⟨rfl, rfl, rfl, by simp [World.setCell], fun k _ hne => Below.heap_setCell _ _ _ _ (fun e => hne (congrArg some e))⟩ (.inr (fun e => by rw [e1] at e; have := Option.some.inj e; omega))
    · have := HB.out.2.2; have := HB4.out.size; simp [World.setCell]; omega
    · have := HB4.out.size; simp [World.setCell]; omega
    · rw [Below.heap_setCell _ _ _ _ (fun e => hne e)]
      exact HB4.out.block k hk)
end Go.Proofs.Ytmlnjelhiemlpaa

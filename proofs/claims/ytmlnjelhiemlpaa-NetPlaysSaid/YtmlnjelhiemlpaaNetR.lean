/- The plain reading's bag (package ref): Put, Get. Conditions: where the bag and its row lie. -/
import Derived.Test.YtmlnjelhiemlpaaNetL

namespace Go.Proofs.Ytmlnjelhiemlpaa
open Go.RowKit Go.Proofs.YtmlnjelhiemlpaaW.PrintWords Go.Proofs.YtmlnjelhiemlpaaW.PrintLast Go.Proofs.YtmlnjelhiemlpaaW.PrintMore
/-- The plain reading's bag at H has the numbers l, in a row of its own. -/
def BagR (w : World) (H base : Nat) (v : Value) (l : List Int) : Prop := w.heap[H]? = some (.cells #[v] 46 (0, 0)) ∧ RowI w base v l ∧ base ≤ w.heap.size
theorem BagR.lt {w : World} {H base : Nat} {v : Value} {l : List Int} (h : BagR w H base v l) : H < w.heap.size := (Array.getElem?_eq_some_iff.1 h.1).1
theorem BagR.apart {w : World} {H base : Nat} {v : Value} {l : List Int} (h : BagR w H base v l) : v.ownBlock ≠ some H := by
  rcases h.2.1.slice with ⟨rfl, _⟩ | ⟨g, c, cur, rfl, _, _, _, hh, _⟩
  · simp [Value.ownBlock]
  · intro e
    obtain rfl : g = H := by simpa [Value.ownBlock] using e
    rw [h.1] at hh
    simp at hh
theorem BagR.below {w w' : World} {H base : Nat} {v : Value} {l : List Int} (h : BagR w H base v l) (hb : Below w.heap.size w w') : BagR w' H base v l :=
  ⟨(hb.block H h.lt).trans h.1, h.2.1.below hb, Nat.le_trans h.2.2 hb.size⟩
theorem RowI.srcA {w : World} {base n c : Nat} {A : Option Addr} {L : List Int} (h : RowI w base (.slice A n c) L) : SrcA w A L := fun i x hx => by
  obtain ⟨b, o, rfl, hc⟩ := h.src.2.2 i x hx
  exact ⟨_, rfl, by rw [Addr.add_lit]; exact hc⟩
set_option maxHeartbeats 4000000 in
set_option maxRecDepth 100000 in
theorem T.refPut (H base : Nat) (v : Value) (l : List Int) (x : Int) (w : World) (h : BagR w H base v l) (hl : l.length ≤ 900000) :
    Calls Try.prog 20 #[.pointer (some ⟨H, 0, none⟩), .int .i64 x] w fun e w' => e = .returned (.tuple #[]) ∧ ∃ v', BagR w' H base v' (l ++ [x]) ∧ Fr w w' H none ∧ ∃ b, v'.ownBlock = some b ∧ w.heap.size ≤ b := by
  obtain ⟨A, n, c, rfl, hn⟩ := h.2.1.shape
  have hc := one_cell h.1
  have HN := Aside.mk hn
  have HB := Aside.mk h
  have hnm : n ≤ 900000 := by omega
  clear h hn
  have hc1 := cell_alloc_l (.cells #[] 3) hc
  have hRE := Aside.mk (RowI.empty w base HB.out.2.2)
  have hS1 := Aside.mk (HB.out.2.1.srcA.below ((Below.refl w.heap.size w).alloc (Nat.le_refl _) (.cells #[] 3)))
  go_enter Try.func20, Try.ntmps20
  go_wp2_with (first | ((with_reducible refine wpList_appendC rfl (.tmp 5) (.tmp 9) rfl base (.slice (some ⟨w.heap.size, 0, none⟩) 0 0) [] l A n c rfl rfl HN.out.symm ?ho ?hr ?hb ?hl ?_); (case ho => exact hRE.out); (case hr => exact hS1.out); (case hb => have := HB.out.2.2; simp; omega); (case hl => simp; omega); intro v1 w1 h1 hg1 hw1; rw [List.nil_append] at h1; obtain ⟨A1, n1, c1, rfl, hn1⟩ := h1.shape; have HN1 := Aside.mk hn1; have H1 := Aside.mk h1; have hB1 : Below w.heap.size w w1 := ((Below.refl w.heap.size w).alloc (Nat.le_refl _) (.cells #[] 3)).grown hg1 (by simp) (fun k e => by simp [Value.ownBlock] at e; omega); have HBB1 := Aside.mk hB1; have hW1 : ∃ b, (Value.slice A1 n1 c1).ownBlock = some b ∧ w.heap.size ≤ b := (by rcases hw1 with h | ⟨b, h, hle⟩; exact ⟨_, h.trans rfl, Nat.le_refl _⟩; exact ⟨b, h, by simp at hle; omega⟩); have HW1 := Aside.mk hW1; clear hn1 h1 hg1 hw1 hB1 hW1) | ((with_reducible refine wpList_appendC rfl (.tmp 10) (.tmp 12) rfl base (.slice A1 n1 c1) l [x] (some ⟨w1.heap.size, 0, none⟩) 1 1 rfl rfl ?hm ?ho ?hr ?hb ?hl ?_); (case hm => rfl); (case ho => exact H1.out.below ((Below.refl _ _).alloc (Nat.le_refl _) _)); (case hr => exact SrcA.one w1 x); (case hb => have := HB.out.2.2; have := HBB1.out.size; simp; omega); (case hl => have := HN.out; omega); intro v2 w2 h2 hg2 hw2; have H2 := Aside.mk h2; have hB2 : Below w.heap.size w w2 := ((HBB1.out.alloc HBB1.out.size (.cells #[.int .i64 x] 3)).grown hg2 (by have := HBB1.out.size; simp; omega) (fun k e => by obtain ⟨b, h, hle⟩ := HW1.out; rw [h] at e; have := Option.some.inj e; omega)); have HBB2 := Aside.mk hB2; have hW2 : ∃ b, v2.ownBlock = some b ∧ w.heap.size ≤ b := (by rcases hw2 with h | ⟨b, h, hle⟩; (obtain ⟨b, h3, h4⟩ := HW1.out; exact ⟨b, h.trans h3, h4⟩); exact ⟨b, h, by have := HBB1.out.size; simp at hle; omega⟩); have HW2 := Aside.mk hW2; have hk := (hB2.block H HB.out.lt).trans HB.out.1; have hfr := frozen_of_row w2 H 0 _ _ hk; have hcc := one_cell hk; have HKK := Aside.mk hk; obtain ⟨A2, n2, c2, rfl, hn2⟩ := h2.shape; clear hk hn2 h2 hg2 hw2 hB2 hW2))
  go_end0
  obtain ⟨b, e1, e2⟩ := HW2.out
  have hlt := HB.out.lt
  refine ⟨rfl, .slice A2 n2 c2, ⟨setCell_one HKK.out _, ?_, ?_⟩, ⟨HBB2.out.os, HBB2.out.tape, HBB2.out.output, ?_, fun k hk hne _ => ?_⟩, b, e1, e2⟩
  · refine H2.out.kept (row := some H) ⟨rfl, rfl, rfl, by simp [World.setCell], fun k _ hne => Below.heap_setCell _ _ _ _ (fun e => hne (congrArg some e))⟩ (.inr (fun e => by rw [e1] at e; have := Option.some.inj e; omega))
  · have := HB.out.2.2; have := HBB2.out.size; simp [World.setCell]; omega
  · have := HBB2.out.size; simp [World.setCell]; omega
  · rw [Below.heap_setCell _ _ _ _ (fun e => hne e)]
    exact HBB2.out.block k hk
end Go.Proofs.Ytmlnjelhiemlpaa

/- Contracts of Take and Double. Conditions: where the bag lies, sizes. -/
import Derived.Test.YtmlnjelhiemlpaaNetD
namespace Go.Proofs.Ytmlnjelhiemlpaa
open Go.RowKit Go.Proofs.YtmlnjelhiemlpaaW.PrintWords Go.Proofs.YtmlnjelhiemlpaaW.PrintLast Go.Proofs.YtmlnjelhiemlpaaW.PrintMore
theorem getV_inI {L : List Int} {i : Nat} {x : Int} (h : L[i]? = some x) : getVI L (i : Int) = (x, true) := by
  unfold getVI
  rw [if_pos (by omega), Int.toNat_natCast, h]
set_option maxHeartbeats 2000000 in
set_option maxRecDepth 100000 in
/-- Take, where nothing is at the place. -/
theorem T.TakeOutI (p : Option Addr) (base : Nat) (v : Value) (L : List Int) (i : Int) (w : World) (hL : L.length ≤ 1000000) (hB : PBagI w p base v L) (h : getVI L i = (0, false)) :
    Calls Try.prog 14 #[.pointer p, .int .i64 i] w fun e w' => e = .returned (.tuple #[.int .i64 0, .bool false]) ∧ Below w.heap.size w w' := by
  have HG := T.GetI p base v L i w hL hB
  rw [h] at HG
  have HG := Aside.mk HG
  clear hB h
  go_enter Try.func14, Try.ntmps14
  go_wp2_with (go_at_call 26; refine HG.out.mono ?_; rintro e w1 ⟨rfl, h1⟩; have H1 := Aside.mk h1; clear h1)
  go_ret2
  exact ⟨rfl, H1.out⟩
set_option maxHeartbeats 2000000 in
set_option maxRecDepth 100000 in
/-- Take, where something is at the place. -/
theorem T.TakeInI (H base : Nat) (v : Value) (L : List Int) (i : Nat) (x : Int) (w : World) (hL : L.length ≤ 1000000) (hB : BagI w H base v L) (hx : L[i]? = some x) :
    Calls Try.prog 14 #[.pointer (some ⟨H, 0, none⟩), .int .i64 (i : Int)] w fun e w' => e = .returned (.tuple #[(Value.int .i64) x, .bool true]) ∧ ∃ v', BagI w' H base v' (L.eraseIdx i) ∧ Fr w w' H v.ownBlock ∧ v'.ownBlock = v.ownBlock := by
  have HG := T.GetI (some ⟨H, 0, none⟩) base v L i w hL (.inr ⟨H, rfl, hB⟩)
  rw [getV_inI hx] at HG
  have HG := Aside.mk HG
  have hi : i < L.length := (List.getElem?_eq_some_iff.1 hx).1
  have hw1 : IntKind.i64.wrap ((i : Int) + 1) = ((i + 1 : Nat) : Int) := by simp [IntKind.wrap, IntKind.bits, IntKind.signed]; omega
  rcases hB.2.1.slice with ⟨_, h2⟩ | ⟨g, c, cur, rfl, _⟩
  · rw [h2] at hi; exact absurd hi (by simp)
  · have HB := Aside.mk hB
    have HI := Aside.mk hi
    have hgH := Aside.mk (show g ≠ H from fun e => hB.apart (by simp [Value.ownBlock, e]))
    clear hB hx hi
    go_enter Try.func14, Try.ntmps14
    go_wp2_with (first | (go_at_call 26; refine HG.out.mono ?_; rintro e w1 ⟨rfl, h1⟩; have H1 := Aside.mk h1; have hB1 := HB.out.below h1; have hc1 := hB1.cell; have HB1 := Aside.mk hB1; clear h1 hB1) | (go_at_call 34; refine (DelI g base c i L w1 HB1.out.2.1 HI.out).mono ?_; rintro e w2 ⟨rfl, hr2, hg2⟩; have HR2 := Aside.mk hr2; have HG2 := Aside.mk hg2; have hk := (hg2.block H HB1.out.lt (fun e => hgH.out (by cases e; rfl))).trans HB1.out.1; have hfr := frozen_of_row w2 H 0 _ _ hk; have hcc : w2.cell? ⟨H, 0, none⟩ = some (.slice (some ⟨g, 0, none⟩) L.length c) := (by rw [cell_of_row _ _ _ _ _ _ hk]; rfl); have HK := Aside.mk hk; clear hk hr2 hg2))
    go_ret2
    have hlt : g ≠ H := hgH.out
    refine ⟨rfl, .slice (some ⟨g, 0, none⟩) (L.length - 1) c, ⟨setCell_one HK.out _, ?_, ?_⟩, Fr.of_below H1.out ⟨HG2.out.os, HG2.out.tape, HG2.out.output, by simpa [World.setCell] using HG2.out.size, fun k hk h1 h2 => ?_⟩, rfl⟩
    · exact HR2.out.kept (row := some H) ⟨rfl, rfl, rfl, by simp [World.setCell], fun k _ hne => Below.heap_setCell _ _ _ _ (fun e => hne (congrArg some e))⟩ (.inr (by simp [Value.ownBlock, hlt]))
    · have := HG2.out.size; have := HB1.out.2.2; simp [World.setCell]; omega
    · rw [Below.heap_setCell _ _ _ _ (fun e => h1 e)]
      exact HG2.out.block k hk (fun e => h2 (by rw [e]; rfl))
set_option maxHeartbeats 2000000 in
set_option maxRecDepth 100000 in
theorem T.DoubleOutI (p : Option Addr) (base : Nat) (v : Value) (L : List Int) (i : Int) (w : World) (hL : L.length ≤ 1000000) (hB : PBagI w p base v L) (h : getVI L i = (0, false)) :
    Calls Try.prog 15 #[.pointer p, .int .i64 i] w fun e w' => e = .returned (.bool false) ∧ Below w.heap.size w w' := by
  have HG := T.GetI p base v L i w hL hB
  rw [h] at HG
  have HG := Aside.mk HG
  clear hB h
  go_enter Try.func15, Try.ntmps15
  go_wp2_with (go_at_call 26; refine HG.out.mono ?_; rintro e w1 ⟨rfl, h1⟩; have H1 := Aside.mk h1; clear h1)
  go_ret
  exact ⟨rfl, H1.out⟩
set_option maxHeartbeats 2000000 in
set_option maxRecDepth 100000 in
theorem T.DoubleInI (H base : Nat) (v : Value) (L : List Int) (i : Nat) (x : Int) (w : World) (hL : L.length ≤ 999999) (hB : BagI w H base v L) (hx : L[i]? = some x) :
    Calls Try.prog 15 #[.pointer (some ⟨H, 0, none⟩), .int .i64 (i : Int)] w fun e w' => e = .returned (.bool true) ∧ ∃ v', BagI w' H base v' (L ++ [x]) ∧ Fr w w' H v.ownBlock ∧ (v'.ownBlock = v.ownBlock ∨ ∃ b, v'.ownBlock = some b ∧ w.heap.size ≤ b) := by
  have HG := T.GetI (some ⟨H, 0, none⟩) base v L i w (by omega) (.inr ⟨H, rfl, hB⟩)
  rw [getV_inI hx] at HG
  have HG := Aside.mk HG
  have HB := Aside.mk hB
  have HL := Aside.mk hL
  have HP := Aside.mk (show ∀ w1 : World, Below w.heap.size w w1 → Calls Try.prog 11 #[.pointer (some ⟨H, 0, none⟩), .slice (some ⟨w1.heap.size, 0, none⟩) 1 1] (w1.alloc (.cells #[(Value.int .i64) x] 3)) fun e w' => e = .returned (.tuple #[]) ∧ ∃ v', BagI w' H base v' (L ++ [x]) ∧ Fr w w' H v.ownBlock ∧ (v'.ownBlock = v.ownBlock ∨ ∃ b, v'.ownBlock = some b ∧ w.heap.size ≤ b) from fun w1 h1 => by
    have hb2 : Below w.heap.size w (w1.alloc (.cells #[(Value.int .i64) x] 3)) := h1.alloc h1.size _
    refine (T.PutI H base v L [x] (some ⟨w1.heap.size, 0, none⟩) 1 1 _ (hB.below hb2) (fun j y hy => ?_) rfl (by omega)).mono ?_
    · match j, hy with
      | 0, hy =>
        simp at hy; subst hy
        exact ⟨w1.heap.size, 0, rfl, by rw [cell_of_row _ _ _ _ _ _ (heap_alloc_new w1 _)]; rfl⟩
    · rintro e w' ⟨rfl, v', g1, g2, g3⟩
      refine ⟨rfl, v', g1, Fr.of_below hb2 g2, ?_⟩
      rcases g3 with g3 | ⟨b, g3, g4⟩
      · exact .inl g3
      · exact .inr ⟨b, g3, Nat.le_trans hb2.size g4⟩)
  clear hB hx
  go_enter Try.func15, Try.ntmps15
  go_wp2_with (first | (go_at_call 26; refine HG.out.mono ?_; rintro e w1 ⟨rfl, h1⟩; have H1 := Aside.mk h1; clear h1) | (go_at_call 11; refine (HP.out _ H1.out).mono ?_; rintro e w2 ⟨rfl, h2⟩; have H2 := Aside.mk h2; clear h2))
  go_ret
  exact ⟨rfl, H2.out⟩
end Go.Proofs.Ytmlnjelhiemlpaa

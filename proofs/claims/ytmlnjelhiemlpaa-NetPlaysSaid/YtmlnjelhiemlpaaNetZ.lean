/- The law's closures, Drop, and what a nil bag does. Conditions: where the bag lies. -/
import Derived.Test.YtmlnjelhiemlpaaNetY
namespace Go.Proofs.Ytmlnjelhiemlpaa
open Go.RowKit Go.Proofs.YtmlnjelhiemlpaaW.PrintWords Go.Proofs.YtmlnjelhiemlpaaW.PrintLast Go.Proofs.YtmlnjelhiemlpaaW.PrintMore
set_option maxHeartbeats 4000000 in
set_option maxRecDepth 100000 in
theorem T.clo24 (B : Nat) (n x : Int) (W : World) (h : W.cell? ⟨B, 0, none⟩ = some (.int .i64 n)) : Calls Try.prog 24 #[.int .i64 x, .pointer (some ⟨B, 0, none⟩)] W fun e W' => e = .returned (.bool (decide (atF x 3 = n))) ∧ W.cell? ⟨B, 0, none⟩ = some (.int .i64 n) ∧ Below W.heap.size W W' := by
  have HC := Aside.mk h
  have HA := Aside.mk (fun W => T.At x 3 W (by omega))
  go_enter Try.func24, Try.ntmps24
  go_wp2
  refine still_lit (by kernel_rfl) (by kernel_rfl) ?_
  still_step
  still_call (HA.out _)
  repeat still_step
  refine wpStill_nil ?_
  go_wp2
  go_ret
  exact ⟨rfl, HC.out, (Below.refl _ _).drew⟩
set_option maxHeartbeats 4000000 in
set_option maxRecDepth 100000 in
/-- Drop at a bag, with a closure that reads. -/
theorem T.DropI (fn : Nat) (caps : Array Value) (p : Int → Bool) (eg : ∀ args w, (callFunc fn args).run Try.prog w = .ok (.enter fn args) w) (J : World → Prop)
    (hY : ∀ x W, J W → Calls Try.prog fn (#[.int .i64 x] ++ caps) W fun e W' => e = .returned (.bool (p x)) ∧ J W' ∧ Below W.heap.size W W')
    (H base : Nat) (v : Value) (l : List Int) (w : World) (h : BagI w H base v l) (hl : l.length ≤ 900000) (hJ : J w) (hJr : ∀ W W', J W → W.grownBy W' v.ownBlock → J W') :
    Calls Try.prog 23 #[.pointer (some ⟨H, 0, none⟩), .func (.func fn) #[] caps] w fun e w' => e = .returned (.int .i64 ((l.length : Int) - ((l.filter (fun x => !p x)).length : Int))) ∧ ∃ v', BagI w' H base v' (l.filter (fun x => !p x)) ∧ Fr w w' H v.ownBlock ∧ v'.ownBlock = v.ownBlock := by
  have hc := h.cell
  have hD := Aside.mk (T.DelFn fn caps p eg J hY base v l w h.2.1 hl hJ hJr)
  have HB := Aside.mk h
  obtain ⟨A, n, c, rfl, hn⟩ := h.2.1.shape
  have hnm : n ≤ 900000 := by omega
  rw [← hn]
  have hle := Aside.mk (show (l.filter (fun x => !p x)).length ≤ n from by rw [hn]; exact List.length_filter_le _ _)
  clear h hn hl hY hJ hJr
  generalize l.filter (fun x => !p x) = l2 at *
  go_enter Try.func23, Try.ntmps23
  go_wp2_with (go_at_call 38; refine hD.out.mono ?_; rintro e w1 ⟨v1, rfl, hr1, hg1, ho1, _⟩; have hk := (hg1.block H HB.out.lt (fun e => HB.out.apart e.symm)).trans HB.out.1; obtain ⟨A1, n1, c1, rfl, hn1⟩ := hr1.shape; have hfr := frozen_of_row w1 H 0 _ _ hk; have hcc : w1.cell? ⟨H, 0, none⟩ = some (.slice A n c) := (by rw [cell_of_row _ _ _ _ _ _ hk]; rfl); have hwr : IntKind.i64.wrap ((n : Int) - (n1 : Int)) = (n : Int) - (n1 : Int) := (by have := hle.out; simp [IntKind.wrap, IntKind.bits, IntKind.signed]; omega); have HN1 := Aside.mk hn1; have HK := Aside.mk hk; have HR1 := Aside.mk hr1; have HG1 := Aside.mk hg1; have HO1 := Aside.mk ho1; clear hn1 hk hr1 hg1 ho1)
  go_ret
  have hlt := HB.out.lt
  have hap := HB.out.apart
  refine ⟨by rw [← HN1.out]; rfl, .slice A1 n1 c1, ⟨setCell_one HK.out _, ?_, ?_⟩, ⟨HG1.out.os, HG1.out.tape, HG1.out.output, ?_, fun k hk hne hr => ?_⟩, HO1.out⟩
  · refine HR1.out.kept (row := some H) ⟨rfl, rfl, rfl, by simp [World.setCell], fun k _ hne => Below.heap_setCell _ _ _ _ (fun e => hne (congrArg some e))⟩ (.inr (fun e => hap (by rw [← HO1.out, e])))
  · have := HB.out.2.2; have := HG1.out.size; simp [World.setCell]; omega
  · have := HG1.out.size; simp [World.setCell]; omega
  · rw [Below.heap_setCell _ _ _ _ (fun e => hne e)]
    exact HG1.out.block k hk (fun e => hr e.symm)
set_option maxHeartbeats 4000000 in
set_option maxRecDepth 100000 in
theorem T.DropNil (f : Value) (w : World) : Calls Try.prog 23 #[.pointer none, f] w fun e w' => e = .returned (.int .i64 0) ∧ w' = w := by
  go_enter Try.func23, Try.ntmps23
  go_wp2
  go_ret
  exact ⟨rfl, rfl⟩
set_option maxHeartbeats 4000000 in
set_option maxRecDepth 100000 in
theorem T.All1Nil (f : Value) (Bn : Nat) (w : World) (h : w.cell? ⟨Bn, 0, none⟩ = some (.pointer none)) : Calls Try.prog 36 #[f, .pointer (some ⟨Bn, 0, none⟩)] w fun e w' => e = .returned (.tuple #[]) ∧ w' = w := by
  go_enter Try.func36, Try.ntmps36
  go_wp2
  refine bodyPost_ret (results_none rfl _ _ _) rfl ?_
  exact ⟨rfl, rfl⟩
set_option maxHeartbeats 4000000 in
set_option maxRecDepth 100000 in
theorem T.allNil (w : World) :
    Calls Try.prog 16 #[.pointer none] w fun e w' => e = .returned (.tuple #[.slice none 0 0, .bool true]) ∧ Below w.heap.size w w' := by
  have hnf : ∀ (caps : Array Value) (W : World), (binOp .eql 40 (.func (.func 36) #[] caps) .nilFunc).run Try.prog W = .ok (.bool false) W := fun caps W => by kernel_rfl
  go_enter Try.func16, Try.ntmps16
  go_wp2_with (go_at_call 18; refine (T.AllI _ _).mono ?_; rintro e w' ⟨rfl, rfl⟩)
  have hb1 : Below w.heap.size w (((w.alloc (.cells #[.pointer none] 38)).alloc (.cells #[.slice none 0 0] 25)).alloc (.cells #[.bool true] 4)) := (((Below.refl _ _).alloc (Nat.le_refl _) _).alloc (by simp) _).alloc (by simp; omega) _
  have e1 : (((w.alloc (.cells #[.pointer none] 38)).alloc (.cells #[.slice none 0 0] 25)).alloc (.cells #[.bool true] 4)).heap[w.heap.size + 1]? = some (.cells #[.slice none 0 0] 25 (0, 0)) := by
    have := heap_alloc2_old (w.alloc (.cells #[.pointer none] 38)) (.cells #[.slice none 0 0] 25) (.cells #[.bool true] 4)
    simpa using this
  have e2 : (((w.alloc (.cells #[.pointer none] 38)).alloc (.cells #[.slice none 0 0] 25)).alloc (.cells #[.bool true] 4)).heap[w.heap.size + 1 + 1]? = some (.cells #[.bool true] 4 (0, 0)) := by
    have := heap_alloc2_new (w.alloc (.cells #[.pointer none] 38)) (.cells #[.slice none 0 0] 25) (.cells #[.bool true] 4)
    simpa using this
  have e0 : (((w.alloc (.cells #[.pointer none] 38)).alloc (.cells #[.slice none 0 0] 25)).alloc (.cells #[.bool true] 4)).cell? ⟨w.heap.size, 0, none⟩ = some (.pointer none) := by
    refine one_cell (t := 38) ?_
    rw [Below.heap_alloc _ _ _ (by simp; omega), Below.heap_alloc _ _ _ (by simp)]
    exact heap_alloc_new w _
  generalize (((w.alloc (.cells #[.pointer none] 38)).alloc (.cells #[.slice none 0 0] 25)).alloc (.cells #[.bool true] 4)) = W1 at hb1 e1 e2 e0 ⊢
  refine (T.All1Nil _ w.heap.size W1 e0).mono ?_
  rintro e W3 ⟨rfl, rfl⟩
  have c1 := one_cell e1
  have c2 := one_cell e2
  have HB1 := Aside.mk hb1
  clear e0 e1 e2 hb1
  go_wp2
  refine still_lit (by kernel_rfl) (by kernel_rfl) ?_
  repeat still_step
  refine wpStill_nil ?_
  go_wp2
  go_ret2
  exact ⟨rfl, HB1.out.drew⟩
end Go.Proofs.Ytmlnjelhiemlpaa

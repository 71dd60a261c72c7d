/- Contracts of New, none, Len, Copy, Write of the digest's Hash. Conditions: where the Hash and the bytes lie in memory. -/
import Derived.Test.YticpbhpehoolfaaDoorFgC
namespace Go.Proofs.YticpbhpehoolfaaDoor
open Go.RowKit
set_option maxHeartbeats 2000000 in
set_option maxRecDepth 100000 in
theorem T.New (w : World) : Calls Tryd.prog 14 #[] w fun e w' => e = .returned (.pointer (some ⟨w.heap.size, 0, none⟩)) ∧ w' = w.alloc (.cells (T.cells true h0L (List.replicate 64 0) 0) 49) := by
  have hb := fun W => run_build (P := Tryd.prog) W 49 #[(0, .bool true), (1, .agg #[.int .u32 1732584193, .int .u32 4023233417, .int .u32 2562383102, .int .u32 271733878])] (T.cells true h0L (List.replicate 64 0) 0) (by kernel_rfl)
  have hz : ∀ W, (zeroValue 49).run Tryd.prog W = .ok (.agg (T.cells false (List.replicate 4 0) (List.replicate 64 0) 0)) W := fun W => by
    have hi : (Tryd.prog.info? 49).map (·.zero) = some (some (.agg (T.cells false (List.replicate 4 0) (List.replicate 64 0) 0))) := by kernel_rfl
    obtain ⟨i, h1, h2⟩ := Option.map_eq_some_iff.1 hi
    simp [zeroValue, typeInfo, h1, h2]
  go_enter Tryd.func14, Tryd.ntmps14
  go_wp2
  go_ret
  exact ⟨rfl, rfl⟩
theorem T.New_has (w : World) : Calls Tryd.prog 14 #[] w fun e w' => e = .returned (.pointer (some ⟨w.heap.size, 0, none⟩)) ∧ Hashes w' w.heap.size [] ∧ Below w.heap.size w w' ∧ w'.heap.size = w.heap.size + 1 := by
  refine (T.New w).mono ?_
  rintro e w' ⟨rfl, rfl⟩
  exact ⟨rfl, ⟨_, by simp, heap_alloc_new w _, rfl⟩, (Below.refl _ _).alloc (Nat.le_refl _) _, by simp⟩
set_option maxHeartbeats 2000000 in
set_option maxRecDepth 100000 in
theorem T.none_nil (w : World) : Calls Tryd.prog 27 #[.pointer none] w fun e w' => e = .returned (.bool true) ∧ w' = w := by
  go_enter Tryd.func27, Tryd.ntmps27
  go_wp2
  go_ret
  exact ⟨rfl, rfl⟩
set_option maxHeartbeats 2000000 in
set_option maxRecDepth 100000 in
theorem T.none_at (b : Nat) (m : Bool) (w : World) (h : w.cell? ⟨b, 0, none⟩ = some (.bool m)) : Calls Tryd.prog 27 #[.pointer (some ⟨b, 0, none⟩)] w fun e w' => e = .returned (.bool (!m)) ∧ w' = w := by
  go_enter Tryd.func27, Tryd.ntmps27
  go_wp2
  go_ret
  exact ⟨rfl, rfl⟩
theorem Hashes.made {W : World} {H : Nat} {all : List Int} (h : Hashes W H all) : W.cell? ⟨H, 0, none⟩ = some (.bool true) := by
  obtain ⟨_, _, h2, _⟩ := h
  exact T.made_cell h2
set_option maxHeartbeats 2000000 in
set_option maxRecDepth 100000 in
theorem T.Len_nil (w : World) : Calls Tryd.prog 21 #[.pointer none] w fun e w' => e = .returned (.int .i64 0) ∧ w' = w := by
  go_enter Tryd.func21, Tryd.ntmps21
  go_wp2_with (go_at_call 27; refine (T.none_nil _).mono ?_; rintro e w' ⟨rfl, rfl⟩)
  go_ret
  exact ⟨rfl, rfl⟩
set_option maxHeartbeats 2000000 in
set_option maxRecDepth 100000 in
theorem T.Len_bad (b : Nat) (w : World) (h : w.cell? ⟨b, 0, none⟩ = some (.bool false)) : Calls Tryd.prog 21 #[.pointer (some ⟨b, 0, none⟩)] w fun e w' => e = .returned (.int .i64 0) ∧ w' = w := by
  go_enter Tryd.func21, Tryd.ntmps21
  go_wp2_with (go_at_call 27; refine (T.none_at _ _ _ h).mono ?_; rintro e w' ⟨rfl, rfl⟩)
  go_ret
  exact ⟨rfl, rfl⟩
set_option maxHeartbeats 2000000 in
set_option maxRecDepth 100000 in
theorem T.Len (H : Nat) (all : List Int) (w : World) (h : Hashes w H all) : Calls Tryd.prog 21 #[.pointer (some ⟨H, 0, none⟩)] w fun e w' => e = .returned (.int .i64 all.length) ∧ w' = w := by
  have h0 := h.made
  obtain ⟨bl, h1, h2, _⟩ := h
  have h73 := T.n_cell h2 (foldW_h0_length _) h1
  clear h1 h2
  go_enter Tryd.func21, Tryd.ntmps21
  go_wp2_with (go_at_call 27; refine (T.none_at _ _ _ h0).mono ?_; rintro e w' ⟨rfl, rfl⟩)
  go_ret
  exact ⟨rfl, rfl⟩
end Go.Proofs.YticpbhpehoolfaaDoor

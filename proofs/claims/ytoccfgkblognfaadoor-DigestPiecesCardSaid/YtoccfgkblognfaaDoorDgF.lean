/- Contracts of Of of the digest, and of Write and Sum of what New did not make. Conditions: where the bytes lie, the table of rounds, sizes. -/
import Derived.Test.YtoccfgkblognfaaDoorDgE
namespace Go.Proofs.YtoccfgkblognfaaDoor
open Go.RowKit
set_option maxHeartbeats 2000000 in
set_option maxRecDepth 100000 in
theorem T.Write_nil (v : Value) (w : World) : Calls Tryd.prog 16 #[.pointer none, v] w fun e w' => e = .returned (.int .i64 1) ∧ w' = w := by
  go_enter Tryd.func16, Tryd.ntmps16
  go_wp2_with (go_at_call 24; refine (T.none_nil _).mono ?_; rintro e w' ⟨rfl, hw⟩; subst w')
  go_ret
  exact ⟨rfl, rfl⟩
set_option maxHeartbeats 2000000 in
set_option maxRecDepth 100000 in
theorem T.Write_bad (b : Nat) (v : Value) (w : World) (h : w.cell? ⟨b, 0, none⟩ = some (.bool false)) : Calls Tryd.prog 16 #[.pointer (some ⟨b, 0, none⟩), v] w fun e w' => e = .returned (.int .i64 1) ∧ w' = w := by
  go_enter Tryd.func16, Tryd.ntmps16
  go_wp2_with (go_at_call 24; refine (T.none_at _ _ _ h).mono ?_; rintro e w' ⟨rfl, hw⟩; subst w')
  go_ret
  exact ⟨rfl, rfl⟩
theorem z32_size : T.z32.size = 32 := rfl
set_option maxHeartbeats 2000000 in
set_option maxRecDepth 100000 in
theorem T.Sum_none (p : Option Addr) (w : World) (h : p = none ∨ ∃ b, p = some ⟨b, 0, none⟩ ∧ w.cell? ⟨b, 0, none⟩ = some (.bool false)) : Calls Tryd.prog 17 #[.pointer p] w fun e w' => e = .returned (.agg T.z32) ∧ Below w.heap.size w w' := by
  have hz : ∀ W, (zeroValue 24).run Tryd.prog W = .ok (.agg T.z32) W := fun W => by
    have hi : (Tryd.prog.info? 24).map (·.zero) = some (some (.agg T.z32)) := by kernel_rfl
    obtain ⟨i, h1, h2⟩ := Option.map_eq_some_iff.1 hi
    simp [zeroValue, typeInfo, h1, h2]
  have hi24 : Aside ((Tryd.prog.info? 24).map (·.size) = some T.z32.size) := ⟨by kernel_rfl⟩
  have hB : Below w.heap.size w ((w.alloc (.cells T.z32 24)).alloc (.cells T.z32 24)) := ((Below.refl _ _).alloc (Nat.le_refl _) _).alloc (by simp) _
  have hC := Aside.mk (show Calls Tryd.prog 19 #[.pointer p] ((w.alloc (.cells T.z32 24)).alloc (.cells T.z32 24)) fun e w' => e = .returned (.pointer none) ∧ w' = ((w.alloc (.cells T.z32 24)).alloc (.cells T.z32 24)) from by
    rcases h with rfl | ⟨b, rfl, hc⟩
    · exact T.Copy_nil _
    · exact T.Copy_bad b _ (by rw [hB.cell (p := ⟨b, 0, none⟩) (show b < w.heap.size from block_lt_of_cell hc)]; exact hc))
  have HB := Aside.mk hB
  have hz1 : Aside (T.z32.all (·.oneCell') = true) := ⟨T.bs_one _⟩
  have h1 := Aside.mk (heap_alloc2_new w (.cells T.z32 24) (.cells T.z32 24))
  have h0 := Aside.mk (heap_alloc2_old w (.cells T.z32 24) (.cells T.z32 24))
  clear h hB
  go_enter Tryd.func17, Tryd.ntmps17
  go_wp2_with (first | (go_at_call 19; refine hC.out.mono ?_; rintro e w' ⟨rfl, hw⟩; subst w') | (with_reducible refine wpList_load_row rfl 24 (.tmp 3) rfl (w.heap.size + 1) rfl 24 T.z32 (0, 0) _ h1.out Tryd.underlying24 rfl hi24.out ?_) | ((with_reducible refine wpList_store_row rfl 24 (.tmp 2) (.tmp 13) rfl w.heap.size T.z32 rfl rfl 24 T.z32 h0.out hi24.out rfl hz1.out ?_)))
  exact bodyPost_ret (results_cell_row rfl _ _ w.heap.size 24 T.z32 (0, 0) _ rfl (setRow_heap _ _ _ _ _ _ h0.out) Tryd.underlying24 rfl hi24.out) rfl ⟨rfl, Below_setRow HB.out (Nat.le_refl _) _⟩
theorem digestL_length (all : List Int) : (digestL all).length = 32 := by
  unfold digestL; rw [flat_len, foldW_h0_length]
set_option maxHeartbeats 4000000 in
set_option maxRecDepth 100000 in
theorem T.Of (bs : List Int) (A : Option Addr) (cap : Nat) (w : World) (hsrc : Src w A bs) (hA : ∀ a, A = some a → a.block < w.heap.size) (hcap : bs.length ≤ cap) (hlen : bs.length ≤ 1152921504606846976) (hk : K64 w) :
    Calls Tryd.prog 10 #[.slice A bs.length cap] w fun e w' => e = .returned (.agg (T.bs (digestL bs))) ∧ Below w.heap.size w w' := by
  have hz : ∀ W, (zeroValue 24).run Tryd.prog W = .ok (.agg T.z32) W := fun W => by
    have hi : (Tryd.prog.info? 24).map (·.zero) = some (some (.agg T.z32)) := by kernel_rfl
    obtain ⟨i, h1, h2⟩ := Option.map_eq_some_iff.1 hi
    simp [zeroValue, typeInfo, h1, h2]
  have hi24 : Aside ((Tryd.prog.info? 24).map (·.size) = some 32) := ⟨by kernel_rfl⟩
  have hdl := Aside.mk (show (T.bs (digestL bs)).size = 32 from by simp only [T.bs, List.size_toArray, List.length_map]; exact digestL_length bs)
  have HSRC := Aside.mk hsrc
  have HA := Aside.mk hA
  have HK := Aside.mk hk
  have h00 := Aside.mk (show 0 < w.heap.size from block_lt_of_cell (hk 0 (by decide)))
  have HL := Aside.mk hlen
  have HC := Aside.mk hcap
  clear hsrc hA hk hlen hcap
  have hst := Aside.mk (show Calls Tryd.prog 15 #[] (w.alloc (.cells T.z32 24)) fun e w' => e = .returned (.pointer (some ⟨w.heap.size + 1, 0, none⟩)) ∧ Hashes w' (w.heap.size + 1) [] ∧ Below w.heap.size w w' ∧ w'.heap[w.heap.size]? = some (.cells T.z32 24 (0, 0)) ∧ w'.heap.size = w.heap.size + 1 + 1 from by
    refine (T.New_has _).mono ?_
    have hs : (w.alloc (.cells T.z32 24)).heap.size = w.heap.size + 1 := by simp
    rw [hs]
    rintro e w' ⟨rfl, h1, h2, h3⟩
    exact ⟨rfl, h1, ((Below.refl _ _).alloc (Nat.le_refl _) _).trans (h2.mono (by omega)), by rw [h2.block _ (by omega)]; exact heap_alloc_new w _, h3⟩)
  have hwr := Aside.mk (show ∀ w1 : World, Hashes w1 (w.heap.size + 1) [] → Below w.heap.size w w1 → w1.heap[w.heap.size]? = some (.cells T.z32 24 (0, 0)) → w1.heap.size = w.heap.size + 1 + 1 →
      Calls Tryd.prog 16 #[.pointer (some ⟨w.heap.size + 1, 0, none⟩), .slice A bs.length cap] w1 fun e w' => e = .returned (.int .i64 0) ∧ Hashes w' (w.heap.size + 1) bs ∧ Below w.heap.size w w' ∧ w'.heap[w.heap.size]? = some (.cells T.z32 24 (0, 0)) ∧ w.heap.size < w'.heap.size from fun w1 h1 h2 h3 h4 => by
    refine (T.Write _ [] bs A cap w1 h1 (HSRC.out.of_kept fun a ha => h2.block _ (HA.out a ha)) (fun a ha => by have := HA.out a ha; omega) HC.out (by have := HL.out; simp; omega) (HK.out.of_block (h2.block 0 h00.out))).mono ?_
    rintro e w' ⟨rfl, g1, g2⟩
    exact ⟨rfl, by simpa using g1, h2.trans ⟨g2.os, g2.tape, g2.output, g2.size, fun k hk => g2.block k (by omega) (by simp; omega)⟩, by rw [g2.block _ (by omega) (by simp)]; exact h3, by have := g2.size; omega⟩)
  go_enter Tryd.func10, Tryd.ntmps10
  go_wp2_with (first | (go_at_call 15; refine hst.out.mono ?_; rintro e w1 ⟨rfl, h1, h2, h3, h4⟩; have H1 := Aside.mk h1; have H2 := Aside.mk h2; have H3 := Aside.mk h3; have H4 := Aside.mk h4; clear h1 h2 h3 h4) | (go_at_call 16; refine (hwr.out _ H1.out H2.out H3.out H4.out).mono ?_; rintro e w2 ⟨rfl, g1, g2, g3, g4⟩; have G1 := Aside.mk g1; have G2 := Aside.mk g2; have G3 := Aside.mk g3; have G4 := Aside.mk g4; clear g1 g2 g3 g4) | (go_at_call 17; refine (T.Sum _ bs _ G1.out (HK.out.of_block (G2.out.block 0 h00.out)) HL.out).mono ?_; rintro e w3 ⟨rfl, f1⟩; have F1 := Aside.mk f1; clear f1; have F0 := Aside.mk ((F1.out.block _ G4.out).trans G3.out)) | ((with_reducible refine wpList_store_row rfl 24 (.tmp 2) (.tmp 9) rfl w.heap.size (T.bs (digestL bs)) rfl rfl 24 T.z32 ?hg ?hi ?hold (T.bs_one _) ?_); (case hg => exact F0.out); (case hi => rw [hdl.out]; exact hi24.out); (case hold => rw [hdl.out]; rfl)))
  exact bodyPost_ret (results_cell_row rfl _ _ w.heap.size 24 (T.bs (digestL bs)) (0, 0) _ rfl (setRow_heap _ _ _ _ _ _ F0.out) Tryd.underlying24 rfl (by rw [hdl.out]; exact hi24.out)) rfl ⟨rfl, Below_setRow (G2.out.trans (F1.out.mono (Nat.le_of_lt G4.out))) (Nat.le_refl _) _⟩
end Go.Proofs.YtoccfgkblognfaaDoor

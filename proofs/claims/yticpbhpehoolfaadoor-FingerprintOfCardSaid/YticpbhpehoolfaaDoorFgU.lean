/- The statement FingerprintOf: the call returns true and turns nothing that was there. Conditions: where the bytes lie, the tables. -/
import Derived.Test.YticpbhpehoolfaaDoorFgT
import Derived.Deep.RegionWith
namespace Go.Proofs.YticpbhpehoolfaaDoor
open Go.RowKit Go.Proofs.YticpbhpehoolfaaDoor.PA Go.Proofs.YticpbhpehoolfaaDoorW.PrintWords Go.Proofs.YticpbhpehoolfaaDoorW.PrintLast Go.Proofs.YticpbhpehoolfaaDoorW.PrintMore
set_option maxHeartbeats 8000000 in
set_option maxRecDepth 100000 in
theorem walk_of (w : World) (A1 : Option Addr) (c1 : Nat) (l1 : List Int) (hC1 : Kd.C (Kd.int .u8) w A1 l1.length l1) (hc1 : l1.length ≤ c1) (_h1 : ∀ n ∈ l1, 0 ≤ n ∧ n < 256) (hk : Tabs w) :
    Calls Tryd.prog 3 #[.slice A1 l1.length c1] w fun e w' => e = .returned (.bool true) ∧ Below w.heap.size w w' := by
  have h00 := Aside.mk hk.lt
  have HK := Aside.mk hk
  have hz : ∀ W, (zeroValue 24).run Tryd.prog W = .ok (.agg T.z16) W := fun W => by
    have hi : (Tryd.prog.info? 24).map (·.zero) = some (some (.agg T.z16)) := by kernel_rfl
    obtain ⟨i, h1, h2⟩ := Option.map_eq_some_iff.1 hi
    simp [zeroValue, typeInfo, h1, h2]
  obtain ⟨b1, hb1⟩ : ∃ b1, b1 = l1.take 2000 := ⟨_, rfl⟩
  have hl1 := Aside.mk (show b1.length ≤ 2000 from by rw [hb1, List.length_take]; omega)
  have hr1 := Aside.mk (show ∀ n ∈ b1, 0 ≤ n ∧ n < 256 from fun n hn => _h1 n (by rw [hb1] at hn; exact List.mem_of_mem_take hn))
  have hF1 := Aside.mk (T.few A1 c1 l1 w hC1 hc1)
  rw [← hb1] at hF1
  clear hk hC1 hb1 _h1
  have hdl := Aside.mk (show (T.bs (digestL b1)).size = 16 from by simp only [T.bs, List.size_toArray, List.length_map]; exact digestL_length b1)
  have hi24 : Aside ((Tryd.prog.info? 24).map (·.size) = some 16) := ⟨by kernel_rfl⟩
  go_enter Tryd.func3, Tryd.ntmps3
  go_wp2_with fail
  refine hF1.out.mono ?_
  rintro e w1 ⟨v1, rfl, hv1, hB1⟩
  obtain ⟨A3, c3, rfl, hc3, hS3, hA3⟩ := hv1.slice
  have HV1 := Aside.mk hv1
  have HB1 := Aside.mk hB1
  clear hv1 hB1 hS3 hA3 hF1
  have HK1 := Aside.mk (HK.out.from HB1.out h00.out)
  go_wp2_with fail
  refine (OfB HV1.out (by have := hl1.out; omega) HK1.out).mono ?_
  rintro e w2 ⟨rfl, hB2⟩
  have HB2 := Aside.mk (HB1.out.trans (hB2.mono HB1.out.size))
  have HV2 := Aside.mk (HV1.out.below hB2)
  have HK2 := Aside.mk (HK.out.from HB2.out h00.out)
  clear hB2 HV1 HK1
  go_wp2_with ((with_reducible refine wpList_store_row rfl 24 (.tmp 3) (.tmp 7) rfl w2.heap.size (T.bs (digestL b1)) rfl rfl 24 T.z16 ?hg ?hi ?hold (T.bs_one _) ?_); (case hg => exact heap_alloc_new w2 _); (case hi => rw [hdl.out]; exact hi24.out); (case hold => rw [hdl.out]; rfl))
  generalize hw4 : (w2.alloc (.cells T.z16 24)).setRow w2.heap.size (T.bs (digestL b1)) = w4
  have hD4 := Aside.mk (show w4.heap[w2.heap.size]? = some (.cells (T.bs (digestL b1)) 24 (0, 0)) from by rw [← hw4]; exact setRow_heap _ _ _ _ _ _ (heap_alloc_new w2 _))
  have hB4 : Below w2.heap.size w2 w4 := by rw [← hw4]; exact Below_setRow ((Below.refl _ _).alloc (Nat.le_refl _) _) (Nat.le_refl _) _
  have HB4 := Aside.mk (HB2.out.trans (hB4.mono HB2.out.size))
  have HV4 := Aside.mk (HV2.out.below hB4)
  clear hw4 hB4 HV2 HK2 hz
  have hRO := Aside.mk (show ∀ W, Kp w4 W → Calls Tryd.prog 10 #[.slice A3 b1.length c3] W fun e w' => ∃ v, e = .returned v ∧ Bytes w' W.heap.size v (digestL b1) ∧ Below W.heap.size W w' from fun W hW =>
    refOfB (HV4.out.below hW) (by have := hl1.out; omega) hr1.out)
  have hRT := Aside.mk (show ∀ W, Kp w4 W → Calls Tryd.prog 12 #[.slice A3 b1.length c3] W fun e w' => e = .returned (.string (strOfNums (hexL (digestL b1)))) ∧ Below W.heap.size W w' from fun W hW =>
    refHexB (HV4.out.below hW) (by have := hl1.out; omega) hr1.out)
  have hTok := Aside.mk (show ∀ W, Kp w4 W → Calls Tryd.prog 11 #[.slice A3 b1.length c3] W fun e w' => e = .returned (.string (strOfNums (hexL (digestL b1)))) ∧ Below W.heap.size W w' from fun W hW =>
    HexB (HV4.out.below hW) (by have := hl1.out; omega) (HK.out.from (HB4.out.trans (hW.mono HB4.out.size)) h00.out))
  have hWorks := Aside.mk (show ∀ W, Kp w4 W → Calls Tryd.prog 13 #[] W fun e w' => e = .returned (.bool true) ∧ Below W.heap.size W w' from fun W hW =>
    T.works W (HK.out.from (HB4.out.trans (hW.mono HB4.out.size)) h00.out))
  have hd16 := Aside.mk (digestL_length b1)
  generalize strOfNums (hexL (digestL b1)) = st at *
  generalize digestL b1 = d at *
  have hst := Aside.mk (show (convert 22 9 (.slice (some ⟨w2.heap.size, 0, none⟩) 16 16)).run Tryd.prog w4.drew = .ok (.string (strOfNums d)) w4.drew ∧ w4.drew.heap[w2.heap.size]? = some (.cells (T.bs d) 24 (0, 0)) ∧ Kp w4 w4.drew from ⟨conv_row (W := w4.drew) hD4.out hd16.out, hD4.out, Kp.refl w4⟩)
  have hF0 := hst.out
  have hcv0 := hF0.1
  go_region_with (first | (go_at_call 10; (with_reducible refine (hRO.out _ (And.right (And.right (by assumption)))).mono ?_); rintro e W' ⟨v, rfl, hv, hb⟩; obtain ⟨g2, cp2, rfl, hcr⟩ := conv_own hv (by rw [hd16.out]; decide); have hF := keepC hd16.out (by assumption) hb; have hcv := hF.1; clear hv hb) | (go_at_call 11; (with_reducible refine (hTok.out _ (And.right (And.right (by assumption)))).mono ?_); rintro e W' ⟨rfl, hb⟩; have hF := keepC hd16.out (by assumption) hb; have hcv := hF.1; clear hb) | (go_at_call 12; (with_reducible refine (hRT.out _ (And.right (And.right (by assumption)))).mono ?_); rintro e W' ⟨rfl, hb⟩; have hF := keepC hd16.out (by assumption) hb; have hcv := hF.1; clear hb) | (go_at_call 13; (with_reducible refine (hWorks.out _ (And.right (And.right (by assumption)))).mono ?_); rintro e W' ⟨rfl, hb⟩; have hF := keepC hd16.out (by assumption) hb; have hcv := hF.1; clear hb))
  all_goals
   have hfin : Kp w4 W' := And.right (And.right (by assumption))
   go_wp2
   go_ret
   exact ⟨rfl, HB4.out.trans (Below.mono hfin HB4.out.size)⟩
end Go.Proofs.YticpbhpehoolfaaDoor

/- The statement DigestAlone: the call returns true and turns nothing that was there. Conditions: where the bytes lie, the table of rounds. -/
import Derived.Test.YtoccfgkblognfaaDoorDgI
namespace Go.Proofs.YtoccfgkblognfaaDoor
open Go.RowKit Go.Proofs.YtoccfgkblognfaaDoorW.PrintWords Go.Proofs.YtoccfgkblognfaaDoorW.PrintLast Go.Proofs.YtoccfgkblognfaaDoorW.PrintMore
/-- Below the blocks of w0 all is as it was. -/
def Kp (w0 w : World) : Prop := Below w0.heap.size w0 w
theorem Kp.refl (w : World) : Kp w w.drew := (Below.refl _ _).drew
theorem Kp.step {w0 w w' : World} (h : Kp w0 w) (hb : Below w.heap.size w w') : Kp w0 w' := Below.trans h (hb.mono h.size)
theorem Src.below {w w' : World} {A : Option Addr} {bs : List Int} (h : Src w A bs) (hA : ∀ a, A = some a → a.block < w.heap.size) (hb : Below w.heap.size w w') : Src w' A bs := h.of_kept fun a ha => hb.block _ (hA a ha)
theorem Bytes.src {w : World} {base c n : Nat} {A : Option Addr} {l : List Int} (h : Bytes w base (.slice A n c) l) : n = l.length ∧ l.length ≤ c ∧ Src w A l ∧ (∀ a, A = some a → base ≤ a.block ∧ a.block < w.heap.size) := by
  obtain ⟨A', c', he, h1, h2, h3⟩ := h.slice
  obtain ⟨rfl, rfl, rfl⟩ : A = A' ∧ n = l.length ∧ c = c' := by simpa using he
  exact ⟨rfl, h1, h2, h3⟩
theorem Src.pre {w : World} {A : Option Addr} {l xs : List Int} (h : Src w A (l ++ xs)) : Src w A l := fun i x hx => h i x (by
  rw [List.getElem?_append_left (List.getElem?_eq_some_iff.1 hx).1]; exact hx)
theorem OfB {w : World} {base c : Nat} {A : Option Addr} {bs : List Int} (h : Bytes w base (.slice A bs.length c) bs) (hl : bs.length ≤ 100000) (hk : K64 w) :
    Calls Tryd.prog 10 #[.slice A bs.length c] w fun e w' => e = .returned (.agg (T.bs (digestL bs))) ∧ Below w.heap.size w w' := by
  obtain ⟨_, h1, h2, h3⟩ := h.src
  exact T.Of bs A c w h2 (fun a ha => (h3 a ha).2) h1 (by omega) hk
theorem TokenB {w : World} {base c : Nat} {A : Option Addr} {bs : List Int} (h : Bytes w base (.slice A bs.length c) bs) (hl : bs.length ≤ 100000) (hk : K64 w) :
    Calls Tryd.prog 12 #[.slice A bs.length c] w fun e w' => e = .returned (.string (strOfNums (tokenL bs))) ∧ Below w.heap.size w w' := by
  obtain ⟨_, h1, h2, h3⟩ := h.src
  exact T.Token bs A c w h2 (fun a ha => (h3 a ha).2) h1 (by omega) hk
theorem Bytes.empty (w : World) (base : Nat) (hb : base ≤ w.heap.size) : Bytes (w.alloc (.cells #[] 5)) base (.slice (some ⟨w.heap.size, 0, none⟩) 0 0) [] :=
  ⟨by simp, .inr ⟨w.heap.size, 0, #[], rfl, hb, heap_alloc_new w _, Nat.le_refl _, by decide, rfl, rfl⟩⟩
theorem range_bs {W : World} {B t : Nat} {l : List Int} {fr : Nat × Nat} (h : W.heap[B]? = some (.cells (T.bs l) t fr)) : W.rangeAt B 0 (l.map (Value.int .u8)) := by
  intro j v hv
  rw [cell_of_row _ _ _ _ _ _ h, Nat.zero_add]
  simpa [T.bs] using hv
theorem keepS {w0 W W' : World} {B : Nat} {l : List Value} (h : W.rangeAt B 0 l ∧ Kp w0 W) (hb : Below W.heap.size W W') : W'.rangeAt B 0 l ∧ Kp w0 W' :=
  ⟨fun j v hv => by
    have h1 := h.1 j v hv
    rw [hb.cell (p := ⟨B, 0 + j, none⟩) (block_lt_of_cell h1)]; exact h1, h.2.step hb⟩
set_option maxHeartbeats 8000000 in
set_option maxRecDepth 100000 in
theorem law_alone (A1 A2 : Option Addr) (c1 c2 : Nat) (l1 l2 : List Int) (w : World) (hC1 : Kd.C (Kd.int .u8) w A1 l1.length l1) (hC2 : Kd.C (Kd.int .u8) w A2 l2.length l2) (hc1 : l1.length ≤ c1) (hc2 : l2.length ≤ c2) (hk : K64 w) :
    Calls Tryd.prog 6 #[.slice A1 l1.length c1, .slice A2 l2.length c2] w fun e w' => e = .returned (.bool true) ∧ Below w.heap.size w w' := by
  have h00 := Aside.mk (show 0 < w.heap.size from block_lt_of_cell (hk 0 (by decide)))
  have HK := Aside.mk hk
  have HC1 := Aside.mk hC1
  have HC2 := Aside.mk hC2
  have hz : ∀ W, (zeroValue 24).run Tryd.prog W = .ok (.agg T.z32) W := fun W => by
    have hi : (Tryd.prog.info? 24).map (·.zero) = some (some (.agg T.z32)) := by kernel_rfl
    obtain ⟨i, h1, h2⟩ := Option.map_eq_some_iff.1 hi
    simp [zeroValue, typeInfo, h1, h2]
  obtain ⟨b1, hb1⟩ : ∃ b1, b1 = l1.take 2000 := ⟨_, rfl⟩
  obtain ⟨b2, hb2⟩ : ∃ b2, b2 = l2.take 2000 := ⟨_, rfl⟩
  have hl1 := Aside.mk (show b1.length ≤ 2000 from by rw [hb1, List.length_take]; omega)
  have hl2 := Aside.mk (show b2.length ≤ 2000 from by rw [hb2, List.length_take]; omega)
  have hF1 := Aside.mk (T.few A1 c1 l1 w hC1 hc1)
  rw [← hb1] at hF1
  have hF2 := Aside.mk (show ∀ w1, Below w.heap.size w w1 → Calls Tryd.prog 9 #[.slice A2 l2.length c2] w1 fun e w' => ∃ v, e = .returned v ∧ Bytes w' w1.heap.size v b2 ∧ Below w1.heap.size w1 w' from fun w1 h1 => by
    rw [hb2]; exact T.few A2 c2 l2 w1 (hC2.imp_ h1 (fun _ _ hp => hp)) hc2)
  clear hk hC1 hC2 hb1 hb2
  go_enter Tryd.func6, Tryd.ntmps6
  go_wp2_with fail
  refine hF1.out.mono ?_
  rintro e w1 ⟨v1, rfl, hv1, hB1⟩
  obtain ⟨A3, c3, rfl, hc3, hS3, hA3⟩ := hv1.slice
  have HV1 := Aside.mk hv1
  have HB1 := Aside.mk hB1
  clear hv1 hB1 hS3 hA3 hF1
  go_wp2_with fail
  refine (hF2.out w1 HB1.out).mono ?_
  rintro e w2 ⟨v2, rfl, hv2, hB2⟩
  obtain ⟨A4, c4, rfl, hc4, hS4, hA4⟩ := hv2.slice
  have HV2 := Aside.mk hv2
  have HV1' := Aside.mk (HV1.out.below hB2)
  have HB2 := Aside.mk (HB1.out.trans (hB2.mono HB1.out.size))
  have HK2 := Aside.mk (HK.out.of_block (HB2.out.block 0 h00.out))
  clear hv2 hB2 hS4 hA4 hF2 HV1
  go_wp2_with fail
  refine (OfB HV1'.out (by have := hl1.out; omega) HK2.out).mono ?_
  rintro e w3 ⟨rfl, hB3⟩
  have HB3 := Aside.mk (HB2.out.trans (hB3.mono HB2.out.size))
  have HV1 := Aside.mk (HV1'.out.below hB3)
  have HV2' := Aside.mk (HV2.out.below hB3)
  have HK3 := Aside.mk (HK.out.of_block (HB3.out.block 0 h00.out))
  clear hB3 HV1' HV2 HK2
  have hdl := Aside.mk (show (T.bs (digestL b1)).size = 32 from by simp only [T.bs, List.size_toArray, List.length_map]; exact digestL_length b1)
  have hi24 : Aside ((Tryd.prog.info? 24).map (·.size) = some 32) := ⟨by kernel_rfl⟩
  go_wp2_with ((with_reducible refine wpList_store_row rfl 24 (.tmp 5) (.tmp 12) rfl w3.heap.size (T.bs (digestL b1)) rfl rfl 24 T.z32 ?hg ?hi ?hold (T.bs_one _) ?_); (case hg => exact heap_alloc_new w3 _); (case hi => rw [hdl.out]; exact hi24.out); (case hold => rw [hdl.out]; rfl))
  generalize hw4 : (w3.alloc (.cells T.z32 24)).setRow w3.heap.size (T.bs (digestL b1)) = w4
  have hD4 := Aside.mk (show w4.heap[w3.heap.size]? = some (.cells (T.bs (digestL b1)) 24 (0, 0)) from by rw [← hw4]; exact setRow_heap _ _ _ _ _ _ (heap_alloc_new w3 _))
  have hB4 : Below w3.heap.size w3 w4 := by rw [← hw4]; exact Below_setRow ((Below.refl _ _).alloc (Nat.le_refl _) _) (Nat.le_refl _) _
  have HB4 := Aside.mk (HB3.out.trans (hB4.mono HB3.out.size))
  have HV1' := Aside.mk (HV1.out.below hB4)
  have HV2 := Aside.mk (HV2'.out.below hB4)
  have HK4 := Aside.mk (HK.out.of_block (HB4.out.block 0 h00.out))
  have hs4 := Aside.mk (block_lt_of_cell ((cell_of_row w4 w3.heap.size 0 _ _ _ hD4.out).trans (Array.getElem?_eq_getElem (by rw [hdl.out]; decide))))
  clear hw4 hB4 HV1 HV2' HK3 HB3
  refine (OfB HV2.out (by have := hl2.out; omega) HK4.out).mono ?_
  rintro e w5 ⟨rfl, hB5⟩
  have HB5 := Aside.mk (HB4.out.trans (hB5.mono HB4.out.size))
  have HV1 := Aside.mk (HV1'.out.below hB5)
  have HV2' := Aside.mk (HV2.out.below hB5)
  have HK5 := Aside.mk (HK.out.of_block (HB5.out.block 0 h00.out))
  have hD5 := Aside.mk ((hB5.block _ hs4.out).trans hD4.out)
  have hs5 := Aside.mk (Nat.lt_of_lt_of_le hs4.out hB5.size)
  clear hB5 HV1' HV2 HK4 hD4 hs4 HB4
  have hsr1 := Aside.mk (show Src (w5.alloc (.cells #[] 5)) A3 b1 from (HV1.out.below ((Below.refl _ _).alloc (Nat.le_refl _) _)).src.2.2.1)
  have hb5 := Aside.mk ((Below.refl w5.heap.size w5).alloc (Nat.le_refl _) (.cells #[] 5))
  go_wp2_with (first | ((with_reducible refine wpList_append_bytes rfl (.tmp 15) (.tmp 16) rfl (w5.heap.size) _ [] b1 A3 b1.length c3 rfl rfl rfl ?ho ?hr ?hb ?hl ?_); (case ho => exact Bytes.empty w5 _ (Nat.le_refl _)); (case hr => exact hsr1.out); (case hb => simp); (case hl => have := hl1.out; simp; omega); intro v6 w6 h6 hg6; have H6 := Aside.mk h6; have HB6 := Aside.mk (hb5.out.grown hg6 (by simp) (fun k e => Nat.le_of_eq (Option.some.inj e))); clear h6 hg6) | ((with_reducible refine wpList_append_bytes rfl (.tmp 17) (.tmp 18) rfl (w5.heap.size) v6 ([] ++ b1) b2 A4 b2.length c4 rfl rfl rfl ?ho ?hr ?hb ?hl ?_); (case ho => exact H6.out); (case hr => exact (HV2'.out.below HB6.out).src.2.2.1); (case hb => exact HB6.out.size); (case hl => have := hl1.out; have := hl2.out; simp; omega); intro v7 w7 h7 hg7; have H7 := Aside.mk h7; have HB7 := Aside.mk (HB6.out.grown hg7 HB6.out.size (fun k e => (H6.out.lt k e).1)); clear h7 hg7))
  obtain ⟨A7, c7, rfl, hc7, _, _⟩ := H7.out.slice
  have hp7 := Aside.mk H7.out.src.2.2.1
  have ha7 := Aside.mk H7.out.src.2.2.2
  have hB75 := Aside.mk (HB5.out.trans (HB7.out.mono HB5.out.size))
  have hOfA := Aside.mk (show ∀ W, Kp w7 W → Calls Tryd.prog 10 #[.slice A7 b1.length c7] W fun e w' => e = .returned (.agg (T.bs (digestL b1))) ∧ Below W.heap.size W w' from fun W hW => by
    refine T.Of b1 A7 c7 W (Src.below (show Src w7 A7 b1 from by have := hp7.out; rw [List.nil_append] at this; exact this.pre) (fun a ha => (ha7.out a ha).2) hW) (fun a ha => Nat.lt_of_lt_of_le (ha7.out a ha).2 hW.size) (by simp at hc7; omega) (by have := hl1.out; omega) (HK.out.of_block ((hB75.out.trans (hW.mono hB75.out.size)).block 0 h00.out))
    )
  have hTokA := Aside.mk (show ∀ W, Kp w7 W → Calls Tryd.prog 12 #[.slice A7 b1.length c7] W fun e w' => e = .returned (.string (strOfNums (tokenL b1))) ∧ Below W.heap.size W w' from fun W hW => by
    refine T.Token b1 A7 c7 W (Src.below (show Src w7 A7 b1 from by have := hp7.out; rw [List.nil_append] at this; exact this.pre) (fun a ha => (ha7.out a ha).2) hW) (fun a ha => Nat.lt_of_lt_of_le (ha7.out a ha).2 hW.size) (by simp at hc7; omega) (by have := hl1.out; omega) (HK.out.of_block ((hB75.out.trans (hW.mono hB75.out.size)).block 0 h00.out)))
  have hV17 := Aside.mk (HV1.out.below HB7.out)
  have hTokB := Aside.mk (show ∀ W, Kp w7 W → Calls Tryd.prog 12 #[.slice A3 b1.length c3] W fun e w' => e = .returned (.string (strOfNums (tokenL b1))) ∧ Below W.heap.size W w' from fun W hW =>
    TokenB (hV17.out.below hW) (by have := hl1.out; omega) (HK.out.of_block ((hB75.out.trans (hW.mono hB75.out.size)).block 0 h00.out)))
  have hWorks := Aside.mk (show ∀ W, Kp w7 W → Calls Tryd.prog 14 #[] W fun e w' => e = .returned (.bool true) ∧ Below W.heap.size W w' from fun W hW =>
    T.works W (HK.out.of_block ((hB75.out.trans (hW.mono hB75.out.size)).block 0 h00.out)))
  have hrg := Aside.mk (range_bs ((HB7.out.block _ hs5.out).trans hD5.out))
  have hg24 := guard24
  have heq : ∀ W : World, (binOp .eql 24 (.agg (T.bs (digestL b1))) (.agg ((digestL b1).map (Value.int .u8)).toArray)).run Tryd.prog W = .ok (.bool true) W := eq24 _ (digestL_length b1)
  have hu24 := Tryd.underlying24
  have hi24' : (Tryd.prog.info? 24).map (·.size) = some ((digestL b1).map (Value.int .u8)).length := by rw [List.length_map, digestL_length]; kernel_rfl
  have hc7' : b1.length ≤ c7 := by simp at hc7; omega
  have hc77 : b1.length ≤ ([] ++ b1 ++ b2).length := by simp
  generalize hn7 : ([] ++ b1 ++ b2).length = n7 at *
  have hst := Aside.mk (⟨hrg.out, Kp.refl w7⟩ : w7.drew.rangeAt w3.heap.size 0 ((digestL b1).map (Value.int .u8)) ∧ Kp w7 w7.drew)
  clear hz hn7
  go_region_held3 (fun W => W.rangeAt w3.heap.size 0 ((digestL b1).map (Value.int .u8)) ∧ Kp w7 W) (first | exact hst.out | exact keepS (by assumption) (by assumption) | assumption) (first | (go_at_call 10; (with_reducible refine (hOfA.out _ (And.right (by assumption))).mono ?_); rintro e W' ⟨rfl, hb⟩) | (go_at_call 12; first | ((with_reducible refine (hTokA.out _ (And.right (by assumption))).mono ?_); rintro e W' ⟨rfl, hb⟩) | ((with_reducible refine (hTokB.out _ (And.right (by assumption))).mono ?_); rintro e W' ⟨rfl, hb⟩)) | (go_at_call 14; (with_reducible refine (hWorks.out _ (And.right (by assumption))).mono ?_); rintro e W' ⟨rfl, hb⟩))
  have hfin : Kp w7 W' := And.right (by assumption)
  go_wp2
  go_ret
  exact ⟨rfl, hB75.out.trans (Below.mono hfin hB75.out.size)⟩
theorem walk_alone (w : World) (A1 : Option Addr) (c1 : Nat) (l1 : List Int) (hC1 : Kd.C (Kd.int .u8) w A1 l1.length l1) (hc1 : l1.length ≤ c1) (_h1 : ∀ n ∈ l1, 0 ≤ n ∧ n < 256) (A2 : Option Addr) (c2 : Nat) (l2 : List Int) (hC2 : Kd.C (Kd.int .u8) w A2 l2.length l2) (hc2 : l2.length ≤ c2) (_h2 : ∀ n ∈ l2, 0 ≤ n ∧ n < 256) (hk : K64 w) :
    Calls Tryd.prog 6 #[.slice A1 l1.length c1, .slice A2 l2.length c2] w fun e w' => e = .returned (.bool true) ∧ Below w.heap.size w w' := law_alone A1 A2 c1 c2 l1 l2 w hC1 hC2 hc1 hc2 hk
end Go.Proofs.YtoccfgkblognfaaDoor

/- Bytes in a row of the call's own; the contracts of few and of works (the chapter's example). Conditions: where the bytes lie, the table of rounds. -/
import Derived.Test.YticpbhpehoolfaaDoorFgG
import Derived.Test.YticpbhpehoolfaaDoorFgHx
import Derived.Test.YticpbhpehoolfaaDoorPAx1
import Derived.Lib.SlBytesConst
namespace Go.Proofs.YticpbhpehoolfaaDoor
open Go.RowKit Go.Proofs.YticpbhpehoolfaaDoor.PA Go.Proofs.YticpbhpehoolfaaDoorW.PrintWords Go.Proofs.YticpbhpehoolfaaDoorW.PrintLast Go.Proofs.YticpbhpehoolfaaDoorW.PrintMore
/-- These bytes are a row that was made from block 'base' on. -/
def Bytes (w : World) (base : Nat) (v : Value) (l : List Int) : Prop := w.ownsRow base 5 1 v l.length (l.map (Value.int .u8))
theorem Bytes.slice {w : World} {base : Nat} {v : Value} {l : List Int} (h : Bytes w base v l) : ∃ A c, v = .slice A l.length c ∧ l.length ≤ c ∧ Src w A l ∧ (∀ a, A = some a → base ≤ a.block ∧ a.block < w.heap.size) := by
  rcases h.2 with ⟨h1, h2⟩ | ⟨g, cap, cur, hv, hg, hh, hn, _⟩
  · refine ⟨none, 0, by rw [h1, h2], by omega, fun i x hx => ?_, fun a ha => by cases ha⟩
    have : i < l.length := (List.getElem?_eq_some_iff.1 hx).1
    omega
  · refine ⟨some ⟨g, 0, none⟩, cap, hv, hn, fun i x hx => ⟨g, 0, rfl, ?_⟩, fun a ha => ?_⟩
    · have := h.cells (g := g) (by rw [hv]; rfl) i (.int .u8 x) (by rw [List.getElem?_map, hx]; rfl)
      rwa [Addr.add_mid] at this
    · obtain rfl := Option.some.inj ha
      exact ⟨hg, (Array.getElem?_eq_some_iff.1 hh).1⟩
theorem Bytes.below {w w' : World} {base : Nat} {v : Value} {l : List Int} (h : Bytes w base v l) (hb : Below w.heap.size w w') : Bytes w' base v l :=
  World.ownsRow.kept h (row := none) ⟨hb.os, hb.tape, hb.output, hb.size, fun k hk _ => hb.block k hk⟩ (by cases hv : v.ownBlock <;> simp)
theorem Bytes.far {w w' : World} {base : Nat} {v : Value} {l : List Int} {row : Option Nat} (h : Bytes w base v l) (hg : w.grownBy w' row) (hr : ∀ k, row = some k → k < base) : Bytes w' base v l := by
  refine World.ownsRow.kept h hg ?_
  cases hv : v.ownBlock with
  | none => exact .inl rfl
  | some k =>
    refine .inr fun e => ?_
    have := hr k e.symm
    have := (h.lt k hv).1
    omega
theorem few_eq (l : List Int) : PA.racewaylaw23_few.f l = some (l.take 2000) := by
  unfold PA.racewaylaw23_few.f
  simp only [Option.bind_some, List.nil_append, List.length_nil]
  have h1 : mn (l.length : Int) 2000 = ((min l.length 2000 : Nat) : Int) := by unfold mn; split <;> omega
  rw [h1, if_pos (by omega), if_pos (by omega), Int.toNat_natCast, if_pos (by rw [List.length_take]; omega)]
  congr 1
  rcases Nat.le_total l.length 2000 with h | h
  · rw [Nat.min_eq_left h, List.take_of_length_le (Nat.le_refl _), List.take_of_length_le h]
  · rw [Nat.min_eq_right h]
theorem T.few (A : Option Addr) (cap : Nat) (l : List Int) (w : World) (hC : Kd.C (Kd.int .u8) w A l.length l) (hcap : l.length ≤ cap) :
    Calls Tryd.prog 8 #[.slice A l.length cap] w fun e w' => ∃ v, e = .returned v ∧ Bytes w' w.heap.size v (l.take 2000) ∧ Below w.heap.size w w' := by
  refine (PA.racewaylaw23_few.calls A cap l _ w hC hcap (few_eq l)).mono ?_
  rintro e w' ⟨v, rfl, hR, hB⟩
  exact ⟨v, rfl, Kd.own_of_R hR, hB⟩
theorem Src.C {w : World} {A : Option Addr} {l : List Int} (h : Src w A l) (hl : l.length ≤ 140737488355328) : Kd.C (Kd.int .u8) w A l.length l := by
  refine ⟨rfl, by omega, fun h0 => ?_⟩
  obtain ⟨b, o, rfl, _⟩ := h 0 _ (List.getElem?_eq_getElem h0)
  refine ⟨_, rfl, fun j p hp => ⟨[.int .u8 p], rfl, rfl, fun i u hu => ?_⟩⟩
  obtain ⟨b', o', hA, hc⟩ := h j p hp
  simp only [Option.some.injEq, Addr.mk.injEq] at hA
  obtain ⟨rfl, rfl, _⟩ := hA
  match i, hu with
  | 0, hu =>
    simp at hu; subst hu
    rw [Addr.add_mid, ← hc]
    show w.cell? ⟨b, o + (j * 1 + 0), none⟩ = _
    rw [Nat.mul_one]; rfl
theorem digestL_byts (l : List Int) : Byts (digestL l) := by
  intro x hx
  unfold digestL at hx
  obtain ⟨y, _, h2⟩ := List.mem_flatMap.1 hx
  simp only [le4, List.mem_cons, List.not_mem_nil, or_false] at h2
  rcases h2 with rfl | rfl | rfl | rfl <;> omega
theorem hexdig (l : List Int) : ∃ k, basic_Hex.f k (digestL l) = some (strOfNums (hexL (digestL l))) := by
  obtain ⟨K, h⟩ := Hex_ev (digestL_byts l) (by rw [digestL_length]; omega)
  exact ⟨K, h K (Nat.le_refl _)⟩
set_option maxHeartbeats 4000000 in
set_option maxRecDepth 100000 in
theorem T.Hex (bs : List Int) (A : Option Addr) (cap : Nat) (w : World) (hsrc : Src w A bs) (hA : ∀ a, A = some a → a.block < w.heap.size) (hlen : bs.length ≤ 1152921504606846976) (hk : Tabs w) :
    Calls Tryd.prog 11 #[.slice A bs.length cap] w fun e w' => e = .returned (.string (strOfNums (hexL (digestL bs)))) ∧ Below w.heap.size w w' := by
  have hz : ∀ W, (zeroValue 24).run Tryd.prog W = .ok (.agg T.z16) W := fun W => by
    have hi : (Tryd.prog.info? 24).map (·.zero) = some (some (.agg T.z16)) := by kernel_rfl
    obtain ⟨i, h1, h2⟩ := Option.map_eq_some_iff.1 hi
    simp [zeroValue, typeInfo, h1, h2]
  have hi24 : Aside ((Tryd.prog.info? 24).map (·.size) = some 16) := ⟨by kernel_rfl⟩
  have hdl := Aside.mk (show (T.bs (digestL bs)).size = 16 from by simp only [T.bs, List.size_toArray, List.length_map]; exact digestL_length bs)
  have hdn := Aside.mk (digestL_length bs)
  have hOf := Aside.mk (T.Of bs A cap w hsrc hA hlen hk)
  have hHx := Aside.mk (show ∀ (W : World) (g : Nat), W.heap[g]? = some (.cells (T.bs (digestL bs)) 24 (0, 0)) → Calls Tryd.prog 25 #[.slice (some ⟨g, 0, none⟩) 16 16] W fun e w' => e = .returned (.string (strOfNums (hexL (digestL bs)))) ∧ Below W.heap.size W w' from fun W g hg => by
    obtain ⟨k, h⟩ := hexdig bs
    have hC : Kd.C (Kd.int .u8) W (some ⟨g, 0, none⟩) (digestL bs).length (digestL bs) := Src.C (fun i x hx => ⟨g, 0, rfl, by
      have h1 := T.bs_cell hg i (List.getElem?_eq_some_iff.1 hx).1
      rw [List.getD_eq_getElem?_getD, hx] at h1
      rw [Nat.zero_add]; exact h1⟩) (by rw [digestL_length]; decide)
    have := basic_Hex.calls k (some ⟨g, 0, none⟩) 16 (digestL bs) _ W hC (by rw [digestL_length]; exact Nat.le_refl _) h
    rwa [digestL_length] at this)
  clear hsrc hA hlen hk
  generalize digestL bs = d at *
  go_enter Tryd.func11, Tryd.ntmps11
  go_wp2_with (first | (go_at_call 9; refine hOf.out.mono ?_; rintro e w1 ⟨rfl, h1⟩; have H1 := Aside.mk h1; clear h1) | ((with_reducible refine wpList_store_row rfl 24 (.tmp 3) (.tmp 5) rfl w1.heap.size (T.bs d) rfl rfl 24 T.z16 ?hg ?hi ?hold (T.bs_one _) ?_); (case hg => exact heap_alloc_new w1 _); (case hi => rw [hdl.out]; exact hi24.out); (case hold => rw [hdl.out]; rfl)) | (go_at_call 25; refine (hHx.out _ _ (setRow_heap _ _ _ _ _ _ (heap_alloc_new w1 _))).mono ?_; rintro e w2 ⟨rfl, h2⟩; have H2 := Aside.mk h2; clear h2))
  go_ret
  exact ⟨rfl, (Below_setRow (H1.out.alloc H1.out.size _) H1.out.size _).trans (H2.out.mono (by have := H1.out.size; simp; omega))⟩
theorem hex_abc : strOfNums (hexL (digestL [97, 98, 99])) = ⟨#[57, 48, 48, 49, 53, 48, 57, 56, 51, 99, 100, 50, 52, 102, 98, 48, 100, 54, 57, 54, 51, 102, 55, 100, 50, 56, 101, 49, 55, 102, 55, 50]⟩ := by decide +kernel
set_option maxHeartbeats 4000000 in
set_option maxRecDepth 100000 in
theorem T.works (w : World) (hk : Tabs w) : Calls Tryd.prog 13 #[] w fun e w' => e = .returned (.bool true) ∧ Below w.heap.size w w' := by
  have HT := Aside.mk (show ∀ w1 : World, Hashes w1 w.heap.size [] → Below w.heap.size w w1 → Calls Tryd.prog 18 #[.pointer (some ⟨w.heap.size, 0, none⟩), .string ⟨#[97]⟩] w1 fun e w' => e = .returned (.int .i64 0) ∧ Hashes w' w.heap.size [0, 0, 0, 1, 97] ∧ Below w.heap.size w w' from fun w1 h1 hb => by
    refine (T.Text w.heap.size [] ⟨#[97]⟩ w1 h1 (by simp) (hk.of_block (hb.block 0 (by have := hk.lt; omega)) (hb.block 1 hk.lt)) (by decide)).mono ?_
    rintro e w' ⟨rfl, g1, g2⟩
    exact ⟨rfl, g1, hb.trans ⟨g2.os, g2.tape, g2.output, g2.size, fun k hk2 => g2.block k (by have := hb.size; omega) (by simp; omega)⟩⟩)
  have HX := Aside.mk (show ∀ w2 : World, Below w.heap.size w w2 → Calls Tryd.prog 11 #[.slice (some ⟨w2.heap.size, 0, none⟩) 3 3] (w2.alloc (.cells #[.int .u8 97, .int .u8 98, .int .u8 99] 5 (3, 4))) fun e w' => e = .returned (.string ⟨#[57, 48, 48, 49, 53, 48, 57, 56, 51, 99, 100, 50, 52, 102, 98, 48, 100, 54, 57, 54, 51, 102, 55, 100, 50, 56, 101, 49, 55, 102, 55, 50]⟩) ∧ Below w.heap.size w w' from fun w2 hb => by
    have hB : Below w2.heap.size w2 (w2.alloc (.cells #[.int .u8 97, .int .u8 98, .int .u8 99] 5 (3, 4))) := (Below.refl _ _).alloc (Nat.le_refl _) _
    have hB2 := hb.trans (hB.mono hb.size)
    have hT := T.Hex [97, 98, 99] (some ⟨w2.heap.size, 0, none⟩) 3 (w2.alloc (.cells #[.int .u8 97, .int .u8 98, .int .u8 99] 5 (3, 4))) (fun i x hx => ⟨w2.heap.size, 0, rfl, by
      rw [cell_of_row _ _ _ _ _ _ (heap_alloc_new w2 _), Nat.zero_add]
      match i, hx with
      | 0, hx => simp at hx; subst hx; rfl
      | 1, hx => simp at hx; subst hx; rfl
      | 2, hx => simp at hx; subst hx; rfl⟩) (fun a ha => by obtain rfl := Option.some.inj ha; simp) (by simp) (hk.of_block (hB2.block 0 (by have := hk.lt; omega)) (hB2.block 1 hk.lt))
    rw [hex_abc] at hT
    refine hT.mono ?_
    rintro e w' ⟨rfl, g⟩
    exact ⟨rfl, hB2.trans (g.mono (by have := hb.size; simp; omega))⟩)
  clear hk
  have kc := fun (W : World) (C : Array Value) (n c : Nat) => Lib.run_convert_bytes_const (P := Tryd.prog) W 22 5 C n c Tryd.underlying22 Tryd.underlying5
  go_enter Tryd.func13, Tryd.ntmps13
  go_wp2_with (first | (go_at_call 14; refine (T.New_has w).mono ?_; rintro e w1 ⟨rfl, h1, h2, _⟩; have H1 := Aside.mk h1; have H2 := Aside.mk h2; clear h1 h2) | (go_at_call 18; refine (HT.out _ H1.out H2.out).mono ?_; rintro e w2 ⟨rfl, h1, h2⟩; have H3 := Aside.mk h1; have H4 := Aside.mk h2; clear h1 h2) | (go_at_call 21; refine (T.Len _ _ _ H3.out).mono ?_; rintro e w' ⟨rfl, hw⟩; subst w') | (go_at_call 11; refine (HX.out _ H4.out).mono ?_; rintro e w5 ⟨rfl, h1⟩; have H5 := Aside.mk h1; clear h1))
  go_ret
  exact ⟨rfl, H5.out⟩
end Go.Proofs.YticpbhpehoolfaaDoor

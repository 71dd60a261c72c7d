/- Contracts of Number, Text and Of of the fingerprint, and of what New did not make. Conditions: where the Print and the bytes lie, the tables, sizes. -/
import Derived.Test.YticpbhpehoolfaaDoorFgF
import Derived.Lib.ConvBytes
namespace Go.Proofs.YticpbhpehoolfaaDoor
open Go.RowKit
set_option maxHeartbeats 2000000 in
set_option maxRecDepth 100000 in
theorem T.Write_nil (v : Value) (w : World) : Calls Tryd.prog 15 #[.pointer none, v] w fun e w' => e = .returned (.int .i64 1) ∧ w' = w := by
  go_enter Tryd.func15, Tryd.ntmps15
  go_wp2_with (go_at_call 27; refine (T.none_nil _).mono ?_; rintro e w' ⟨rfl, hw⟩; subst w')
  go_ret
  exact ⟨rfl, rfl⟩
set_option maxHeartbeats 2000000 in
set_option maxRecDepth 100000 in
theorem T.Write_bad (b : Nat) (v : Value) (w : World) (h : w.cell? ⟨b, 0, none⟩ = some (.bool false)) : Calls Tryd.prog 15 #[.pointer (some ⟨b, 0, none⟩), v] w fun e w' => e = .returned (.int .i64 1) ∧ w' = w := by
  go_enter Tryd.func15, Tryd.ntmps15
  go_wp2_with (go_at_call 27; refine (T.none_at _ _ _ h).mono ?_; rintro e w' ⟨rfl, hw⟩; subst w')
  go_ret
  exact ⟨rfl, rfl⟩
set_option maxHeartbeats 2000000 in
set_option maxRecDepth 100000 in
theorem T.Number_nil (n : Int) (w : World) : Calls Tryd.prog 16 #[.pointer none, .int .i64 n] w fun e w' => e = .returned (.int .i64 1) ∧ w' = w := by
  go_enter Tryd.func16, Tryd.ntmps16
  go_wp2_with (go_at_call 27; refine (T.none_nil _).mono ?_; rintro e w' ⟨rfl, hw⟩; subst w')
  go_ret
  exact ⟨rfl, rfl⟩
set_option maxHeartbeats 2000000 in
set_option maxRecDepth 100000 in
theorem T.Number_bad (b : Nat) (n : Int) (w : World) (h : w.cell? ⟨b, 0, none⟩ = some (.bool false)) : Calls Tryd.prog 16 #[.pointer (some ⟨b, 0, none⟩), .int .i64 n] w fun e w' => e = .returned (.int .i64 1) ∧ w' = w := by
  go_enter Tryd.func16, Tryd.ntmps16
  go_wp2_with (go_at_call 27; refine (T.none_at _ _ _ h).mono ?_; rintro e w' ⟨rfl, hw⟩; subst w')
  go_ret
  exact ⟨rfl, rfl⟩
set_option maxHeartbeats 2000000 in
set_option maxRecDepth 100000 in
theorem T.Text_nil (s : ByteArray) (w : World) : Calls Tryd.prog 18 #[.pointer none, .string s] w fun e w' => e = .returned (.int .i64 1) ∧ w' = w := by
  go_enter Tryd.func18, Tryd.ntmps18
  go_wp2_with (go_at_call 16; refine (T.Number_nil _ _).mono ?_; rintro e w' ⟨rfl, hw⟩; subst w')
  go_ret
  exact ⟨rfl, rfl⟩
set_option maxHeartbeats 2000000 in
set_option maxRecDepth 100000 in
theorem T.Text_bad (b : Nat) (s : ByteArray) (w : World) (h : w.cell? ⟨b, 0, none⟩ = some (.bool false)) : Calls Tryd.prog 18 #[.pointer (some ⟨b, 0, none⟩), .string s] w fun e w' => e = .returned (.int .i64 1) ∧ w' = w := by
  go_enter Tryd.func18, Tryd.ntmps18
  go_wp2_with (go_at_call 16; refine (T.Number_bad _ _ _ h).mono ?_; rintro e w' ⟨rfl, hw⟩; subst w')
  go_ret
  exact ⟨rfl, rfl⟩
set_option maxHeartbeats 2000000 in
set_option maxRecDepth 100000 in
/-- A number out of range. -/
theorem T.Number_out (b : Nat) (n : Int) (w : World) (h : w.cell? ⟨b, 0, none⟩ = some (.bool true)) (hn : n < 0 ∨ 4294967295 < n) : Calls Tryd.prog 16 #[.pointer (some ⟨b, 0, none⟩), .int .i64 n] w fun e w' => e = .returned (.int .i64 2) ∧ w' = w := by
  by_cases h0 : n < 0
  · clear hn
    go_enter Tryd.func16, Tryd.ntmps16
    go_wp2_with (go_at_call 27; refine (T.none_at _ _ _ h).mono ?_; rintro e w' ⟨rfl, hw⟩; subst w')
    go_ret
    exact ⟨rfl, rfl⟩
  · have h1 : 4294967295 < n := by omega
    clear hn
    go_enter Tryd.func16, Tryd.ntmps16
    go_wp2_with (go_at_call 27; refine (T.none_at _ _ _ h).mono ?_; rintro e w' ⟨rfl, hw⟩; subst w')
    go_ret
    exact ⟨rfl, rfl⟩
/-- A number's four bytes. -/
def num4 (n : Int) : List Int := [n / 16777216 % 256, n / 65536 % 256, n / 256 % 256, n % 256]
/-- Bytes just built lie behind a Print. -/
theorem T.WriteL (H : Nat) (all bs : List Int) (c : Nat) (w : World) (hst : Hashes w H all) (hlen : all.length + bs.length ≤ 4611686018427387904) (hk : Tabs w) (hc : c = bs.length) :
    Calls Tryd.prog 15 #[.pointer (some ⟨H, 0, none⟩), .slice (some ⟨w.heap.size, 0, none⟩) c c] (w.alloc (.cells (T.bs bs) 5)) fun e w' => e = .returned (.int .i64 0) ∧ Hashes w' H (all ++ bs) ∧ w.grownBy w' (some H) := by
  subst hc
  have hB : Below w.heap.size w (w.alloc (.cells (T.bs bs) 5)) := (Below.refl _ _).alloc (Nat.le_refl _) _
  have hH : H < w.heap.size := block_lt_of_cell hst.made
  refine (T.Write H all bs (some ⟨w.heap.size, 0, none⟩) bs.length _ (hst.of_block (hB.block _ hH)) ?_ ?_ hlen (hk.of_block (hB.block 0 (by have := hk.lt; omega)) (hB.block 1 hk.lt))).mono ?_
  · intro i x hx
    refine ⟨w.heap.size, 0, rfl, ?_⟩
    have h1 := T.bs_cell (heap_alloc_new w (.cells (T.bs bs) 5)) i (List.getElem?_eq_some_iff.1 hx).1
    rw [List.getD_eq_getElem?_getD, hx] at h1
    rw [Nat.zero_add]
    exact h1
  · rintro a ha
    obtain rfl := Option.some.inj ha
    exact Nat.ne_of_gt hH
  · rintro e w' ⟨rfl, g1, g2⟩
    exact ⟨rfl, g1, gb_trans (gb_below hB _) g2⟩
set_option maxHeartbeats 2000000 in
set_option maxRecDepth 100000 in
theorem T.Number (H : Nat) (all : List Int) (n : Int) (w : World) (hst : Hashes w H all) (hlen : all.length + 4 ≤ 4611686018427387904) (hk : Tabs w) (h0 : 0 ≤ n) (h1 : n ≤ 4294967295) :
    Calls Tryd.prog 16 #[.pointer (some ⟨H, 0, none⟩), .int .i64 n] w fun e w' => e = .returned (.int .i64 0) ∧ Hashes w' H (all ++ num4 n) ∧ w.grownBy w' (some H) := by
  have hm := hst.made
  have en : num4 n = [n / 16777216, n / 65536 % 256, n / 256 % 256, n % 256] := by unfold num4; congr 1; omega
  have HC := Aside.mk (T.WriteL H all [n / 16777216, n / 65536 % 256, n / 256 % 256, n % 256] 4 w hst hlen hk rfl)
  rw [← en] at HC
  have HC : Aside (Calls Tryd.prog 15 #[.pointer (some ⟨H, 0, none⟩), .slice (some ⟨w.heap.size, 0, none⟩) 4 4] (w.alloc (.cells #[.int .u8 (n / 16777216), .int .u8 (n / 65536 % 256), .int .u8 (n / 256 % 256), .int .u8 (n % 256)] 5)) fun e w' => e = .returned (.int .i64 0) ∧ Hashes w' H (all ++ num4 n) ∧ w.grownBy w' (some H)) := ⟨by have := HC.out; rw [en] at this ⊢; exact this⟩
  clear en
  clear hst hlen hk
  go_enter Tryd.func16, Tryd.ntmps16
  go_wp2_with (first | (go_at_call 27; refine (T.none_at _ _ _ hm).mono ?_; rintro e w' ⟨rfl, hw⟩; subst w') | (go_at_call 15; refine HC.out.mono ?_; rintro e w2 ⟨rfl, g1, g2⟩; have G1 := Aside.mk g1; have G2 := Aside.mk g2; clear g1 g2))
  go_ret
  exact ⟨rfl, G1.out, G2.out⟩
/-- A text's bytes. -/
def strB (s : ByteArray) : List Int := s.data.toList.map fun c => (c.toNat : Int)
theorem strB_length (s : ByteArray) : (strB s).length = s.size := by simp [strB]
theorem bytesWorld_below (w : World) (e : TypeId) (s : ByteArray) : Below w.heap.size w (Go.Lib.bytesWorld w e s) :=
  ⟨by simp [Go.Lib.bytesWorld, World.freeze, World.alloc, World.drew, -World.alloc_eq, -World.drew_eq], by simp [Go.Lib.bytesWorld, World.freeze, World.alloc, World.drew, -World.alloc_eq, -World.drew_eq], by simp [Go.Lib.bytesWorld, World.freeze, World.alloc, World.drew, -World.alloc_eq, -World.drew_eq], by rw [Go.Lib.bytesWorld_size]; omega, fun k hk => Go.Lib.bytesWorld_at_old w e s k hk⟩
theorem T.WriteS (H : Nat) (all : List Int) (s : ByteArray) (c : Nat) (w : World) (hst : Hashes w H all) (hlen : all.length + s.size ≤ 4611686018427387904) (hk : Tabs w) :
    Calls Tryd.prog 15 #[.pointer (some ⟨H, 0, none⟩), .slice (some ⟨w.heap.size, 0, none⟩) s.size c] (Lib.bytesWorld w 5 s) fun e w' => e = .returned (.int .i64 0) ∧ Hashes w' H (all ++ strB s) ∧ w.grownBy w' (some H) := by
  have hB := bytesWorld_below w 5 s
  have hH : H < w.heap.size := block_lt_of_cell hst.made
  rw [← strB_length s]
  refine (T.Write H all (strB s) (some ⟨w.heap.size, 0, none⟩) c _ (hst.of_block (hB.block _ hH)) ?_ ?_ (by rw [strB_length]; exact hlen) (hk.of_block (hB.block 0 (by have := hk.lt; omega)) (hB.block 1 hk.lt))).mono ?_
  · intro i x hx
    have hi : i < (strB s).length := (List.getElem?_eq_some_iff.1 hx).1
    rw [strB_length] at hi
    have h1 := Lib.bytesWorld_cell w 5 s i hi
    have h2 : ((s.data.toList.getD i 0).toNat : Int) = x := by
      simp only [strB, List.getElem?_map, Option.map_eq_some_iff] at hx
      obtain ⟨y, hy, rfl⟩ := hx
      rw [List.getD_eq_getElem?_getD, hy]; rfl
    rw [h2] at h1
    exact ⟨w.heap.size, 0, rfl, by rw [Nat.zero_add]; exact h1⟩
  · rintro a ha
    obtain rfl := Option.some.inj ha
    exact Nat.ne_of_gt hH
  · rintro e w' ⟨rfl, g1, g2⟩
    exact ⟨rfl, g1, gb_trans (gb_below hB _) g2⟩
set_option maxHeartbeats 2000000 in
set_option maxRecDepth 100000 in
theorem T.Text (H : Nat) (all : List Int) (s : ByteArray) (w : World) (hst : Hashes w H all) (hlen : all.length ≤ 1000000000) (hk : Tabs w) (hs : s.size ≤ 4294967295) :
    Calls Tryd.prog 18 #[.pointer (some ⟨H, 0, none⟩), .string s] w fun e w' => e = .returned (.int .i64 0) ∧ Hashes w' H (all ++ (num4 s.size ++ strB s)) ∧ w.grownBy w' (some H) := by
  have hcv := fun W => Lib.run_convert_string_bytes (P := Tryd.prog) W 9 22 5 s Tryd.underlying9 Tryd.underlying22 Tryd.underlying5
  have HN := Aside.mk (T.Number H all s.size w hst (by omega) hk (by omega) (by omega))
  have HW := Aside.mk (show ∀ (w2 : World) (c : Nat), Hashes w2 H (all ++ num4 s.size) → w.grownBy w2 (some H) → Calls Tryd.prog 15 #[.pointer (some ⟨H, 0, none⟩), .slice (some ⟨w2.heap.size, 0, none⟩) s.size c] (Lib.bytesWorld w2 5 s) fun e w' => e = .returned (.int .i64 0) ∧ Hashes w' H (all ++ (num4 s.size ++ strB s)) ∧ w.grownBy w' (some H) from fun w2 c g1 g2 => by
    refine (T.WriteS H _ s c w2 g1 (by simp [num4]; omega) (hk.grown hst g2)).mono ?_
    rintro e w' ⟨rfl, h1, h2⟩
    exact ⟨rfl, by rw [← List.append_assoc]; exact h1, gb_trans g2 h2⟩)
  clear hst hlen hk hs
  go_enter Tryd.func18, Tryd.ntmps18
  go_wp2_with (first | (go_at_call 16; refine HN.out.mono ?_; rintro e w2 ⟨rfl, g1, g2⟩; have G1 := Aside.mk g1; have G2 := Aside.mk g2; clear g1 g2) | (go_at_call 15; refine (HW.out _ _ G1.out G2.out).mono ?_; rintro e w3 ⟨rfl, g1, g2⟩; have G3 := Aside.mk g1; have G4 := Aside.mk g2; clear g1 g2))
  go_ret
  exact ⟨rfl, G3.out, G4.out⟩
theorem z16_size : T.z16.size = 16 := rfl
set_option maxHeartbeats 2000000 in
set_option maxRecDepth 100000 in
theorem T.Sum_none (p : Option Addr) (w : World) (h : p = none ∨ ∃ b, p = some ⟨b, 0, none⟩ ∧ w.cell? ⟨b, 0, none⟩ = some (.bool false)) : Calls Tryd.prog 20 #[.pointer p] w fun e w' => e = .returned (.agg T.z16) ∧ Below w.heap.size w w' := by
  have hz : ∀ W, (zeroValue 24).run Tryd.prog W = .ok (.agg T.z16) W := fun W => by
    have hi : (Tryd.prog.info? 24).map (·.zero) = some (some (.agg T.z16)) := by kernel_rfl
    obtain ⟨i, h1, h2⟩ := Option.map_eq_some_iff.1 hi
    simp [zeroValue, typeInfo, h1, h2]
  have hi24 : Aside ((Tryd.prog.info? 24).map (·.size) = some T.z16.size) := ⟨by kernel_rfl⟩
  have hB : Below w.heap.size w ((w.alloc (.cells T.z16 24)).alloc (.cells T.z16 24)) := ((Below.refl _ _).alloc (Nat.le_refl _) _).alloc (by simp) _
  have hC := Aside.mk (show Calls Tryd.prog 27 #[.pointer p] ((w.alloc (.cells T.z16 24)).alloc (.cells T.z16 24)) fun e w' => e = .returned (.bool true) ∧ w' = ((w.alloc (.cells T.z16 24)).alloc (.cells T.z16 24)) from by
    rcases h with rfl | ⟨b, rfl, hc⟩
    · exact T.none_nil _
    · exact T.none_at b false _ (by rw [hB.cell (p := ⟨b, 0, none⟩) (show b < w.heap.size from block_lt_of_cell hc)]; exact hc))
  have HB := Aside.mk hB
  have hz1 : Aside (T.z16.all (·.oneCell') = true) := ⟨T.bs_one _⟩
  have h1 := Aside.mk (heap_alloc2_new w (.cells T.z16 24) (.cells T.z16 24))
  have h0 := Aside.mk (heap_alloc2_old w (.cells T.z16 24) (.cells T.z16 24))
  clear h hB
  go_enter Tryd.func20, Tryd.ntmps20
  go_wp2_with (first | (go_at_call 27; refine hC.out.mono ?_; rintro e w' ⟨rfl, hw⟩; subst w') | (with_reducible refine wpList_load_row rfl 24 (.tmp 3) rfl (w.heap.size + 1) rfl 24 T.z16 (0, 0) _ h1.out Tryd.underlying24 rfl hi24.out ?_) | ((with_reducible refine wpList_store_row rfl 24 (.tmp 2) (.tmp 11) rfl w.heap.size T.z16 rfl rfl 24 T.z16 h0.out hi24.out rfl hz1.out ?_)))
  exact bodyPost_ret (results_cell_row rfl _ _ w.heap.size 24 T.z16 (0, 0) _ rfl (setRow_heap _ _ _ _ _ _ h0.out) Tryd.underlying24 rfl hi24.out) rfl ⟨rfl, Below_setRow HB.out (Nat.le_refl _) _⟩
theorem digestL_length (all : List Int) : (digestL all).length = 16 := by
  unfold digestL; rw [flat_len, foldW_h0_length]
set_option maxHeartbeats 4000000 in
set_option maxRecDepth 100000 in
theorem T.Of (bs : List Int) (A : Option Addr) (cap : Nat) (w : World) (hsrc : Src w A bs) (hA : ∀ a, A = some a → a.block < w.heap.size) (hlen : bs.length ≤ 1152921504606846976) (hk : Tabs w) :
    Calls Tryd.prog 9 #[.slice A bs.length cap] w fun e w' => e = .returned (.agg (T.bs (digestL bs))) ∧ Below w.heap.size w w' := by
  have hz : ∀ W, (zeroValue 24).run Tryd.prog W = .ok (.agg T.z16) W := fun W => by
    have hi : (Tryd.prog.info? 24).map (·.zero) = some (some (.agg T.z16)) := by kernel_rfl
    obtain ⟨i, h1, h2⟩ := Option.map_eq_some_iff.1 hi
    simp [zeroValue, typeInfo, h1, h2]
  have hi24 : Aside ((Tryd.prog.info? 24).map (·.size) = some 16) := ⟨by kernel_rfl⟩
  have hdl := Aside.mk (show (T.bs (digestL bs)).size = 16 from by simp only [T.bs, List.size_toArray, List.length_map]; exact digestL_length bs)
  have HSRC := Aside.mk hsrc
  have HA := Aside.mk hA
  have HK := Aside.mk hk
  have h00 := Aside.mk hk.lt
  have HL := Aside.mk hlen
  clear hsrc hA hk hlen
  have hst := Aside.mk (show Calls Tryd.prog 14 #[] (w.alloc (.cells T.z16 24)) fun e w' => e = .returned (.pointer (some ⟨w.heap.size + 1, 0, none⟩)) ∧ Hashes w' (w.heap.size + 1) [] ∧ Below w.heap.size w w' ∧ w'.heap[w.heap.size]? = some (.cells T.z16 24 (0, 0)) ∧ w'.heap.size = w.heap.size + 1 + 1 from by
    refine (T.New_has _).mono ?_
    have hs : (w.alloc (.cells T.z16 24)).heap.size = w.heap.size + 1 := by simp
    rw [hs]
    rintro e w' ⟨rfl, h1, h2, h3⟩
    exact ⟨rfl, h1, ((Below.refl _ _).alloc (Nat.le_refl _) _).trans (h2.mono (by omega)), by rw [h2.block _ (by omega)]; exact heap_alloc_new w _, h3⟩)
  have hwr := Aside.mk (show ∀ w1 : World, Hashes w1 (w.heap.size + 1) [] → Below w.heap.size w w1 → w1.heap[w.heap.size]? = some (.cells T.z16 24 (0, 0)) → w1.heap.size = w.heap.size + 1 + 1 →
      Calls Tryd.prog 15 #[.pointer (some ⟨w.heap.size + 1, 0, none⟩), .slice A bs.length cap] w1 fun e w' => e = .returned (.int .i64 0) ∧ Hashes w' (w.heap.size + 1) bs ∧ Below w.heap.size w w' ∧ w'.heap[w.heap.size]? = some (.cells T.z16 24 (0, 0)) ∧ w.heap.size < w'.heap.size from fun w1 h1 h2 h3 h4 => by
    refine (T.Write _ [] bs A cap w1 h1 (HSRC.out.of_kept fun a ha => h2.block _ (HA.out a ha)) (fun a ha => by have := HA.out a ha; omega) (by have := HL.out; simp; omega) (HK.out.of_block (h2.block 0 (by have := h00.out; omega)) (h2.block 1 h00.out))).mono ?_
    rintro e w' ⟨rfl, g1, g2⟩
    exact ⟨rfl, by simpa using g1, h2.trans ⟨g2.os, g2.tape, g2.output, g2.size, fun k hk => g2.block k (by omega) (by simp; omega)⟩, by rw [g2.block _ (by omega) (by simp)]; exact h3, by have := g2.size; omega⟩)
  go_enter Tryd.func9, Tryd.ntmps9
  go_wp2_with (first | (go_at_call 14; refine hst.out.mono ?_; rintro e w1 ⟨rfl, h1, h2, h3, h4⟩; have H1 := Aside.mk h1; have H2 := Aside.mk h2; have H3 := Aside.mk h3; have H4 := Aside.mk h4; clear h1 h2 h3 h4) | (go_at_call 15; refine (hwr.out _ H1.out H2.out H3.out H4.out).mono ?_; rintro e w2 ⟨rfl, g1, g2, g3, g4⟩; have G1 := Aside.mk g1; have G2 := Aside.mk g2; have G3 := Aside.mk g3; have G4 := Aside.mk g4; clear g1 g2 g3 g4) | (go_at_call 20; refine (T.Sum _ bs _ G1.out (HK.out.of_block (G2.out.block 0 (by have := h00.out; omega)) (G2.out.block 1 h00.out)) HL.out).mono ?_; rintro e w3 ⟨rfl, f1⟩; have F1 := Aside.mk f1; clear f1; have F0 := Aside.mk ((F1.out.block _ G4.out).trans G3.out)) | ((with_reducible refine wpList_store_row rfl 24 (.tmp 2) (.tmp 9) rfl w.heap.size (T.bs (digestL bs)) rfl rfl 24 T.z16 ?hg ?hi ?hold (T.bs_one _) ?_); (case hg => exact F0.out); (case hi => rw [hdl.out]; exact hi24.out); (case hold => rw [hdl.out]; rfl)))
  exact bodyPost_ret (results_cell_row rfl _ _ w.heap.size 24 (T.bs (digestL bs)) (0, 0) _ rfl (setRow_heap _ _ _ _ _ _ F0.out) Tryd.underlying24 rfl (by rw [hdl.out]; exact hi24.out)) rfl ⟨rfl, Below_setRow (G2.out.trans (F1.out.mono (Nat.le_of_lt G4.out))) (Nat.le_refl _) _⟩
end Go.Proofs.YticpbhpehoolfaaDoor

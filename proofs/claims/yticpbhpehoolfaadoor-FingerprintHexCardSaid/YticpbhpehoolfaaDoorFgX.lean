/- The statement FingerprintHex: the call returns true and turns nothing that was there. Conditions: where the bytes lie, the tables. -/
import Derived.Test.YticpbhpehoolfaaDoorDgM
namespace Go.Proofs.YticpbhpehoolfaaDoor
open Go.RowKit Go.Proofs.YticpbhpehoolfaaDoor.PA Go.Proofs.YticpbhpehoolfaaDoorW.PrintWords Go.Proofs.YticpbhpehoolfaaDoorW.PrintLast Go.Proofs.YticpbhpehoolfaaDoorW.PrintMore
theorem dig_hex (n : Nat) (h : n < 16) : (48 ≤ dig n ∧ dig n ≤ 57) ∨ (97 ≤ dig n ∧ dig n ≤ 102) := by
  have key : ∀ n : Fin 16, (48 ≤ dig n.val ∧ dig n.val ≤ 57) ∨ (97 ≤ dig n.val ∧ dig n.val ≤ 102) := by decide
  exact key ⟨n, h⟩
theorem hexL_hex {l : List Int} (hb : Byts l) : ∀ x ∈ hexL l, (48 ≤ x ∧ x ≤ 57) ∨ (97 ≤ x ∧ x ≤ 102) := fun x h => by
  obtain ⟨b, hb1, h2⟩ := List.mem_flatMap.1 h
  have := hb b hb1
  simp only [List.mem_cons, List.not_mem_nil, or_false] at h2
  rcases h2 with rfl | rfl <;> exact dig_hex _ (by omega)
theorem str_get (L : List Int) (i : Nat) (hi : i < L.length) (h0 : 0 ≤ L.getD i 0) (h1 : L.getD i 0 < 256) : (((strOfNums L).data.toList.getD i 0).toNat : Int) = L.getD i 0 := by
  simp only [strOfNums, List.getD_eq_getElem?_getD, List.getElem?_map, List.getElem?_eq_getElem hi, Option.map_some, Option.getD_some] at h0 h1 ⊢
  simp
  omega
def hxRel (wb : World) (kq : Nat) (v12 : Value) (wr : World) : Prop := wr = wb ∧ ∃ i : Nat, i + kq = 32 ∧ v12 = .int .i64 (i : Int)
set_option maxHeartbeats 4000000 in
set_option maxRecDepth 100000 in
theorem walk_hex (w : World) (A : Option Addr) (c : Nat) (l : List Int) (hC : Kd.C (Kd.int .u8) w A l.length l) (hc : l.length ≤ c) (_hw : ∀ n ∈ l, 0 ≤ n ∧ n < 256) (hk : Tabs w) :
    Calls Tryd.prog 7 #[.slice A l.length c] w fun e w' => e = .returned (.bool true) ∧ Below w.heap.size w w' := by
  obtain ⟨L, hL⟩ : ∃ L, L = hexL (digestL (l.take 2000)) := ⟨_, rfl⟩
  have hLl : L.length = 32 := by rw [hL, hexL_len, digestL_length]
  have hLh := Aside.mk (show ∀ x ∈ L, (48 ≤ x ∧ x ≤ 57) ∨ (97 ≤ x ∧ x ≤ 102) from by rw [hL]; exact hexL_hex (digestL_byts _))
  obtain ⟨s, hs⟩ : ∃ s, s = strOfNums L := ⟨_, rfl⟩
  have hsz : s.size = 32 := by rw [hs, strOfNums_size, hLl]
  have hget := Aside.mk (show ∀ i, i < 32 → ((s.data.toList.getD i 0).toNat : Int) = L.getD i 0 from fun i hi => by
    have h1 : L.getD i 0 ∈ L := by rw [List.getD_eq_getElem?_getD, List.getElem?_eq_getElem (by omega)]; exact List.getElem_mem _
    have h2 := hLh.out _ h1
    rw [hs]; exact str_get L i (by omega) (by omega) (by omega))
  have hHx := Aside.mk (show ∀ (w1 : World) (v : Value), Bytes w1 w.heap.size v (l.take 2000) → Below w.heap.size w w1 → Calls Tryd.prog 11 #[v] w1 fun e w' => e = .returned (.string s) ∧ Below w.heap.size w w' from fun w1 v h1 hb => by
    obtain ⟨A1, c1, rfl, hc1, hs1, ha1⟩ := h1.slice
    refine (T.Hex (l.take 2000) A1 c1 w1 hs1 (fun a h => (ha1 a h).2) (by rw [List.length_take]; omega) (hk.of_block (hb.block 0 (by have := hk.lt; omega)) (hb.block 1 hk.lt))).mono ?_
    rintro e w' ⟨rfl, g⟩
    exact ⟨by rw [hs, hL], hb.trans (g.mono hb.size)⟩)
  have hcv := fun W => by have := Lib.run_convert_string_bytes (P := Tryd.prog) W 9 22 5 s Tryd.underlying9 Tryd.underlying22 Tryd.underlying5; rw [hsz] at this; exact this
  have HF := Aside.mk (T.few A c l w hC hc)
  have hbw := Aside.mk (fun (W : World) (i : Nat) (hi : i < 32) => Lib.bytesWorld_cell W 5 s i (by rw [hsz]; exact hi))
  have HK := Aside.mk hk
  have hLl' := Aside.mk hLl
  clear hL hLl hs hC hc hk
  have HSZ := hsz
  go_enter Tryd.func7, Tryd.ntmps7
  go_wp2_with (first | (go_at_call 8; refine HF.out.mono ?_; rintro e w1 ⟨v, rfl, h1, h2⟩; have H1 := Aside.mk h1; have H2 := Aside.mk h2; clear h1 h2) | (go_at_call 11; refine (hHx.out _ _ H1.out H2.out).mono ?_; rintro e w2 ⟨rfl, h1⟩; have H3 := Aside.mk h1; clear h1))
  go_loopg [5, 12] 32 (fun kq _ v12 wr => hxRel (Lib.bytesWorld w2 5 s) kq v12 wr)
  case atStart => exact ⟨rfl, 0, rfl, rfl⟩
  case round =>
    obtain ⟨rfl, i, hi, rfl⟩ := hrel
    have HW := Aside.mk (show ∀ W : World, W = Lib.bytesWorld w2 5 s → Calls Tryd.prog 13 #[] W fun e w' => e = .returned (.bool true) ∧ Below w.heap.size w w' from fun W hW => by
      subst hW
      have hb := H3.out.trans ((bytesWorld_below w2 5 s).mono H3.out.size)
      refine (T.works _ (HK.out.of_block (hb.block 0 (by have := HK.out.lt; omega)) (hb.block 1 HK.out.lt))).mono ?_
      rintro e w' ⟨rfl, g⟩
      exact ⟨rfl, hb.trans (g.mono hb.size)⟩)
    by_cases hlt : i < 32
    · have cx := hbw.out w2 i hlt
      rw [hget.out i hlt] at cx
      have hx : L.getD i 0 ∈ L := by rw [List.getD_eq_getElem?_getD, List.getElem?_eq_getElem (by rw [hLl'.out]; exact hlt)]; exact List.getElem_mem _
      have hx2 := hLh.out _ hx
      clear hx
      generalize L.getD i 0 = x at cx hx2
      have HI := Aside.mk hi
      clear hi
      rcases hx2 with ⟨x1, x2⟩ | ⟨x1, x2⟩
      · go_wp2
        go_roundg (gk - 1)
        case measure => have := HI.out; omega
        case rel => exact ⟨rfl, i + 1, by have := HI.out; omega, by go_num⟩
      · have x3 : 48 ≤ x := by omega
        have x4 : 57 < x := by omega
        go_wp2
        go_roundg (gk - 1)
        case measure => have := HI.out; omega
        case rel => exact ⟨rfl, i + 1, by have := HI.out; omega, by go_num⟩
    · go_wp2_with (go_at_call 13; refine (HW.out _ rfl).mono ?_; rintro e w5 ⟨rfl, h1⟩; have H5 := Aside.mk h1; clear h1)
      go_ret
      exact ⟨rfl, H5.out⟩
end Go.Proofs.YticpbhpehoolfaaDoor

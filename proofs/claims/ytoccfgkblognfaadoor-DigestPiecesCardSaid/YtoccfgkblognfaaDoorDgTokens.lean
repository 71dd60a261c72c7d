/- The statement DigestTokens: the call returns true and turns nothing that was there. Conditions: where the bytes lie, the table of rounds. -/
import Derived.Test.YtoccfgkblognfaaDoorDgAlone
import Derived.Lib.ConvBytes
import Derived.WalkSpells
namespace Go.Proofs.YtoccfgkblognfaaDoor
open Go.RowKit Go.Proofs.YtoccfgkblognfaaDoorW.PrintWords Go.Proofs.YtoccfgkblognfaaDoorW.PrintLast Go.Proofs.YtoccfgkblognfaaDoorW.PrintMore
theorem strOfNums_size (l : List Int) : (strOfNums l).size = l.length := by simp [strOfNums, ByteArray.size]
theorem tokenL_length (l : List Int) : (tokenL l).length = 32 := by
  have h : ∀ d : List Int, (d.flatMap hex2).length = 2 * d.length := by
    intro d
    induction d with
    | nil => rfl
    | cons x d ih => rw [List.flatMap_cons, List.length_append, ih]; simp [hex2]; omega
  unfold tokenL
  rw [h, List.length_take, digestL_length]; rfl
theorem flat_hex_get (d : List Int) (i : Nat) (hi : i < d.length) : (d.flatMap hex2).getD (2 * i) 0 = hexd (d.getD i 0 / 16) ∧ (d.flatMap hex2).getD (2 * i + 1) 0 = hexd (d.getD i 0 % 16) := by
  induction d generalizing i with
  | nil => simp at hi
  | cons x d ih =>
    rw [List.flatMap_cons]
    rcases i with _ | i
    · simp [hex2]
    · have := ih i (by simpa using hi)
      rw [show 2 * (i + 1) = 2 * i + 1 + 1 from by omega, show 2 * i + 1 + 1 + 1 = (2 * i + 1) + 1 + 1 from by omega]
      simpa [hex2] using this
theorem tok_get (bs : List Int) (i : Nat) (hi : i < 16) : (tokenL bs).getD (2 * i) 0 = hexd ((digestL bs).getD i 0 / 16) ∧ (tokenL bs).getD (2 * i + 1) 0 = hexd ((digestL bs).getD i 0 % 16) := by
  have h := flat_hex_get ((digestL bs).take 16) i (by rw [List.length_take, digestL_length]; omega)
  have e : ((digestL bs).take 16).getD i 0 = (digestL bs).getD i 0 := by
    simp only [List.getD_eq_getElem?_getD, List.getElem?_take, if_pos hi]
  rw [e] at h
  exact h
theorem hexd_range (v : Int) (h0 : 0 ≤ v) (h1 : v < 16) : 0 ≤ hexd v ∧ hexd v < 256 := by unfold hexd; split <;> omega
theorem str_get (t : List Int) (k : Nat) (hk : k < t.length) (h0 : 0 ≤ t.getD k 0) (h1 : t.getD k 0 < 256) : (((strOfNums t).data.toList.getD k 0).toNat : Int) = t.getD k 0 := by
  simp only [strOfNums, List.getD_eq_getElem?_getD, List.getElem?_map, List.getElem?_eq_getElem hk, Option.map_some, Option.getD_some] at h0 h1 ⊢
  simp
  omega
theorem ext_get (s : ByteArray) (a b j : Nat) (hb : a + j < b) (_hs : b ≤ s.size) : (s.extract a b).data.toList.getD j 0 = s.data.toList.getD (a + j) 0 := by
  have h : (s.extract a b).data.toList = (s.data.toList.take b).drop a := by
    rw [ByteArray.data_extract, Array.toList_extract, List.extract_eq_take_drop, List.drop_take]
  rw [h]
  simp only [List.getD_eq_getElem?_getD, List.getElem?_drop, List.getElem?_take]
  rw [if_pos hb]
theorem bytesWorld_below (w : World) (e : TypeId) (s : ByteArray) : Below w.heap.size w (Go.Lib.bytesWorld w e s) :=
  ⟨by simp [Go.Lib.bytesWorld, World.freeze, World.alloc, World.drew, -World.alloc_eq, -World.drew_eq], by simp [Go.Lib.bytesWorld, World.freeze, World.alloc, World.drew, -World.alloc_eq, -World.drew_eq], by simp [Go.Lib.bytesWorld, World.freeze, World.alloc, World.drew, -World.alloc_eq, -World.drew_eq], by rw [Go.Lib.bytesWorld_size]; omega, fun k hk => Go.Lib.bytesWorld_at_old w e s k hk⟩
def pv (x : Int) (k : Nat) : Int := if k = 0 then 0 else if k = 1 then x / 16 else x
def tokB (x : Int) (wb : World) (kq : Nat) (v6 v30 : Value) (wr : World) : Prop := wr = wb ∧ ∃ k : Nat, k + kq = 2 ∧ v30 = .int .i64 (k : Int) ∧ v6 = .int .i64 (pv x k)
def tokA (w : World) (B : Nat) (d : List Int) (kq : Nat) (v18 : Value) (wr : World) : Prop := ∃ i : Nat, i + kq = 16 ∧ v18 = .int .i64 (i : Int) ∧ Aside (wr.heap[B]? = some (.cells (T.bs d) 24 (0, 0))) ∧ Aside (Below w.heap.size w wr)
set_option maxHeartbeats 8000000 in
set_option maxRecDepth 100000 in
theorem walk_tokens (w : World) (A1 : Option Addr) (c1 : Nat) (l1 : List Int) (hC1 : Kd.C (Kd.int .u8) w A1 l1.length l1) (hc1 : l1.length ≤ c1) (_h1 : ∀ n ∈ l1, 0 ≤ n ∧ n < 256) (hk : K64 w) :
    Calls Tryd.prog 5 #[.slice A1 l1.length c1] w fun e w' => e = .returned (.bool true) ∧ Below w.heap.size w w' := by
  have h00 := Aside.mk (show 0 < w.heap.size from block_lt_of_cell (hk 0 (by decide)))
  have HK := Aside.mk hk
  have hz : ∀ W, (zeroValue 24).run Tryd.prog W = .ok (.agg T.z32) W := fun W => by
    have hi : (Tryd.prog.info? 24).map (·.zero) = some (some (.agg T.z32)) := by kernel_rfl
    obtain ⟨i, h1, h2⟩ := Option.map_eq_some_iff.1 hi
    simp [zeroValue, typeInfo, h1, h2]
  obtain ⟨b1, hb1⟩ : ∃ b1, b1 = l1.take 2000 := ⟨_, rfl⟩
  have hl1 := Aside.mk (show b1.length ≤ 2000 from by rw [hb1, List.length_take]; omega)
  have hF1 := Aside.mk (T.few A1 c1 l1 w hC1 hc1)
  rw [← hb1] at hF1
  clear hk hC1 hb1 _h1
  obtain ⟨st, hst⟩ : ∃ st, st = strOfNums (tokenL b1) := ⟨_, rfl⟩
  have hss : st.size = 32 := by rw [hst, strOfNums_size, tokenL_length]
  have HST := Aside.mk hst
  have hdl := Aside.mk (show (T.bs (digestL b1)).size = 32 from by simp only [T.bs, List.size_toArray, List.length_map]; exact digestL_length b1)
  have hi24 : Aside ((Tryd.prog.info? 24).map (·.size) = some 32) := ⟨by kernel_rfl⟩
  clear hst
  go_enter Tryd.func5, Tryd.ntmps5
  go_wp2_with fail
  refine hF1.out.mono ?_
  rintro e w1 ⟨v1, rfl, hv1, hB1⟩
  obtain ⟨A3, c3, rfl, hc3, hS3, hA3⟩ := hv1.slice
  have HV1 := Aside.mk hv1
  have HB1 := Aside.mk hB1
  clear hv1 hB1 hS3 hA3 hF1
  have HK1 := Aside.mk (HK.out.of_block (HB1.out.block 0 h00.out))
  go_wp2_with fail
  refine (TokenB HV1.out (by have := hl1.out; omega) HK1.out).mono ?_
  rw [← HST.out]
  rintro e w2 ⟨rfl, hB2⟩
  have HB2 := Aside.mk (HB1.out.trans (hB2.mono HB1.out.size))
  have HV2 := Aside.mk (HV1.out.below hB2)
  have HK2 := Aside.mk (HK.out.of_block (HB2.out.block 0 h00.out))
  clear hB2 HV1 HK1
  go_wp2_with fail
  refine (OfB HV2.out (by have := hl1.out; omega) HK2.out).mono ?_
  rintro e w3 ⟨rfl, hB3⟩
  have HB3 := Aside.mk (HB2.out.trans (hB3.mono HB2.out.size))
  clear hB3 HV2 HK2
  go_wp2_with ((with_reducible refine wpList_store_row rfl 24 (.tmp 4) (.tmp 14) rfl w3.heap.size (T.bs (digestL b1)) rfl rfl 24 T.z32 ?hg ?hi ?hold (T.bs_one _) ?_); (case hg => exact heap_alloc_new w3 _); (case hi => rw [hdl.out]; exact hi24.out); (case hold => rw [hdl.out]; rfl))
  go_loopg [18] 16 (fun kq v18 wr => tokA w w3.heap.size (digestL b1) kq v18 wr)
  case atStart => exact ⟨0, rfl, rfl, ⟨setRow_heap _ _ _ _ _ _ (heap_alloc_new w3 _)⟩, ⟨Below_setRow (HB3.out.alloc HB3.out.size _) HB3.out.size _⟩⟩
  case round =>
    obtain ⟨i, hi, rfl, hd, hB⟩ := hrel
    have HI := Aside.mk hi
    obtain ⟨wr0, hwr0⟩ : ∃ W : World, W = wr := ⟨_, rfl⟩
    subst hwr0
    obtain ⟨gk0, hgk0⟩ : ∃ g : Nat, g = gk := ⟨_, rfl⟩
    subst hgk0
    by_cases hlt : i < 16
    · have hlt' := Aside.mk hlt
      clear hi
      have l0 : 2 * (i : Int) + 2 ≤ 32 := by omega
      obtain ⟨x, hx⟩ : ∃ x, x = (digestL b1).getD i 0 := ⟨_, rfl⟩
      have hxr := digestL_range b1 x (by rw [hx, List.getD_eq_getElem?_getD, List.getElem?_eq_getElem (by rw [digestL_length]; omega)]; exact List.getElem_mem _)
      have ht := tok_get b1 i hlt
      rw [← hx] at ht
      obtain ⟨ch, hch⟩ : ∃ ch, ch = hexd (x / 16) := ⟨_, rfl⟩
      obtain ⟨cl, hcl⟩ : ∃ cl, cl = hexd (x % 16) := ⟨_, rfl⟩
      have es : (st.extract (2 * i) (2 * i + 2)).size = 2 := by rw [ByteArray.size_extract, hss]; omega
      have hcv := Lib.run_convert_string_bytes (P := Tryd.prog) wr0 9 22 5 (st.extract (2 * i) (2 * i + 2)) Tryd.underlying9 Tryd.underlying22 Tryd.underlying5
      rw [es] at hcv
      have cA := Lib.bytesWorld_cell wr0 5 (st.extract (2 * i) (2 * i + 2)) 0 (by rw [es]; omega)
      have cB := Lib.bytesWorld_cell wr0 5 (st.extract (2 * i) (2 * i + 2)) 1 (by rw [es]; omega)
      have e0 : (((st.extract (2 * i) (2 * i + 2)).data.toList.getD 0 0).toNat : Int) = ch := by
        rw [ext_get _ _ _ _ (by omega) (by rw [hss]; omega), HST.out, str_get _ _ (by rw [tokenL_length]; omega), Nat.add_zero, ht.1, hch] <;> (rw [Nat.add_zero, ht.1]; have := hexd_range (x / 16) (by omega) (by omega); omega)
      have e1 : (((st.extract (2 * i) (2 * i + 2)).data.toList.getD 1 0).toNat : Int) = cl := by
        rw [ext_get _ _ _ _ (by omega) (by rw [hss]; omega), HST.out, str_get _ _ (by rw [tokenL_length]; omega), ht.2, hcl] <;> (rw [ht.2]; have := hexd_range (x % 16) (by omega) (by omega); omega)
      rw [e0] at cA
      rw [e1] at cB
      have hbb := Aside.mk (bytesWorld_below wr0 5 (st.extract (2 * i) (2 * i + 2)))
      generalize hwb : Lib.bytesWorld wr0 5 (st.extract (2 * i) (2 * i + 2)) = wb at hcv cA cB hbb
      have HWB := Aside.mk hwb
      have HX := Aside.mk hx
      have HCH := Aside.mk hch
      have HCL := Aside.mk hcl
      have hdb := Aside.mk ((hbb.out.block _ (Array.getElem?_eq_some_iff.1 hd.out).1).trans hd.out)
      have cd := T.bs_cell hdb.out i (by rw [digestL_length]; omega)
      rw [← hx] at cd
      clear hwb hx ht es e0 e1 hch hcl
      have hd16 : decide ((i : Int) < 16) = true := by simp; omega
      go_wp2
      go_loopg [6, 30] 2 (fun kq v6 v30 wr => tokB x wb kq v6 v30 wr)
      case atStart => exact ⟨rfl, 0, rfl, rfl, rfl⟩
      case round =>
        obtain ⟨rfl, k, hk, rfl, rfl⟩ := hrel
        have HKK := Aside.mk hk
        clear hk
        by_cases hk2 : k < 2
        · obtain ⟨y, hy⟩ : ∃ y, y = if k = 0 then x / 16 else x % 16 := ⟨_, rfl⟩
          have hy0 : 0 ≤ y ∧ y < 16 := by rw [hy]; split <;> omega
          obtain ⟨cc, hcc⟩ : ∃ cc, cc = hexd y := ⟨_, rfl⟩
          have hck : wr.cell? ⟨wr0.heap.size, k, none⟩ = some (.int .u8 cc) := by
            rcases Nat.eq_zero_or_pos k with h | h
            · subst h; rw [cA, HCH.out, hcc, hy]; rfl
            · obtain rfl : k = 1 := by omega
              rw [cB, HCL.out, hcc, hy]; rfl
          obtain ⟨n0, hn0⟩ : ∃ n0, n0 = pv x k := ⟨_, rfl⟩
          have hn0r : 0 ≤ n0 ∧ n0 < 256 := by rw [hn0]; unfold pv; split; omega; split <;> omega
          have hnn := Aside.mk (show pv x (k + 1) = 16 * n0 + y from by
            rw [hn0, hy]; unfold pv
            rcases Nat.eq_zero_or_pos k with h | h
            · subst h; simp
            · obtain rfl : k = 1 := by omega
              simp; omega)
          rw [← hn0]
          have HY := Aside.mk hy
          have HN0 := Aside.mk hn0
          obtain ⟨hya, hyb⟩ := hy0
          obtain ⟨hna, hnb⟩ := hn0r
          have hk2' := Aside.mk hk2
          clear hy hn0 cA cB cd hcv
          by_cases hs : y < 10
          · obtain rfl : cc = 48 + y := by rw [hcc]; unfold hexd; rw [if_pos hs]
            clear hcc
            go_wp2
            go_roundg (gk - 1)
            case measure => have := HKK.out; omega
            case rel => exact ⟨rfl, k + 1, by have := HKK.out; omega, by go_num, by rw [hnn.out]; congr 1; omega⟩
          · obtain rfl : cc = 87 + y := by rw [hcc]; unfold hexd; rw [if_neg hs]
            clear hcc
            go_wp2
            go_roundg (gk - 1)
            case measure => have := HKK.out; omega
            case rel => exact ⟨rfl, k + 1, by have := HKK.out; omega, by go_num, by rw [hnn.out]; congr 1; omega⟩
        · have hke : k = 2 := by have := HKK.out; omega
          subst hke
          have hpv : pv x 2 = x := rfl
          rw [hpv]
          have hxm : x % 256 = x := by omega
          clear hk2 hcv cA cB hpv
          go_wp2
          go_roundg (gk0 - 1)
          case measure => have := HI.out; have := hlt'.out; omega
          case rel => exact ⟨i + 1, by have := HI.out; have := hlt'.out; omega, by go_num, hdb, ⟨hB.out.trans (hbb.out.mono hB.out.size)⟩⟩
    · have hi16 : i = 16 := by omega
      subst hi16
      have hW := Aside.mk (T.works wr0 (HK.out.of_block (hB.out.block 0 h00.out)))
      clear hi hlt
      go_wp2_with (go_at_call 14; refine hW.out.mono ?_; rintro e wf ⟨rfl, hbf⟩)
      go_ret
      exact ⟨rfl, hB.out.trans (hbf.mono hB.out.size)⟩
end Go.Proofs.YtoccfgkblognfaaDoor

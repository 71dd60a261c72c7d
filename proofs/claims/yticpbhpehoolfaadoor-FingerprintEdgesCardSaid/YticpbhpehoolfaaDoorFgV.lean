/- The statement FingerprintEdges: the call returns true and turns nothing that was there. Conditions: the tables. -/
import Derived.Test.YticpbhpehoolfaaDoorFgT
import Derived.Deep.RegionWith
namespace Go.Proofs.YticpbhpehoolfaaDoor
open Go.RowKit Go.Proofs.YticpbhpehoolfaaDoor.PA Go.Proofs.YticpbhpehoolfaaDoorW.PrintWords Go.Proofs.YticpbhpehoolfaaDoorW.PrintLast Go.Proofs.YticpbhpehoolfaaDoorW.PrintMore
theorem mod300 (n : Int) : ∃ m : Nat, m < 300 ∧ (wrap64 (n.tmod 300 + 300)).tmod 300 = (m : Int) := by
  have h1 : n.tmod 300 < 300 := Int.tmod_lt_of_pos n (by decide)
  have h2 : -300 < n.tmod 300 := by
    have := Int.tmod_lt_of_pos (-n) (show (0 : Int) < 300 by decide)
    rw [Int.neg_tmod] at this
    omega
  rw [wrap64_id (by omega) (by omega)]
  refine ⟨((n.tmod 300 + 300).tmod 300).toNat, ?_, ?_⟩
  · have := Int.tmod_lt_of_pos (n.tmod 300 + 300) (show (0 : Int) < 300 by decide)
    omega
  · have := Int.tmod_nonneg (a := n.tmod 300 + 300) 300 (by omega)
    omega
/-- The bytes that are counted up, as far as they are written. -/
def edgeL (c : Int) (m i : Nat) : List Int := (List.range m).map fun (j : Nat) => if j < i then (c + 3 * (j : Int)) % 256 else 0
theorem edgeL_set (c : Int) (m i : Nat) : (edgeL c m i).set i ((c + 3 * (i : Int)) % 256) = edgeL c m (i + 1) := by
  refine List.ext_getElem? fun k => ?_
  rw [List.getElem?_set]
  unfold edgeL
  simp only [List.length_map, List.length_range, List.getElem?_map]
  by_cases hk : i = k
  · subst hk
    rw [if_pos rfl]
    by_cases hm : i < m
    · simp [hm]
    · simp [hm]
  · rw [if_neg hk]
    by_cases hm : k < m
    · simp only [List.getElem?_range hm, Option.map_some]
      congr 1
      by_cases h1 : k < i
      · rw [if_pos h1, if_pos (by omega)]
      · rw [if_neg h1, if_neg (by omega)]
    · rw [List.getElem?_eq_none (by simp; omega)]; rfl
theorem edgeL_length (c : Int) (m i : Nat) : (edgeL c m i).length = m := by simp [edgeL]
theorem edgeL_range (c : Int) (m i : Nat) (x : Int) (h : x ∈ edgeL c m i) : 0 ≤ x ∧ x < 256 := by
  unfold edgeL at h
  obtain ⟨j, _, rfl⟩ := List.mem_map.1 h
  split
  · omega
  · omega
theorem made_edge (c : Int) (m : Nat) : madeCells #[Value.int .u8 0] m = T.bs (edgeL c m 0) := by
  apply Array.ext
  · simp [madeCells, T.bs, edgeL]
  · intro k h1 h2
    simp [madeCells, T.bs, edgeL, Nat.mod_one]
def edgeR (w : World) (c : Int) (m kq : Nat) (v16 : Value) (wr : World) : Prop := ∃ i : Nat, i + kq = m ∧ v16 = .int .i64 (i : Int) ∧ Aside (wr.heap[w.heap.size]? = some (.cells (T.bs (edgeL c m i)) 5 (0, 0))) ∧ Aside (Below w.heap.size w wr)
set_option maxHeartbeats 8000000 in
set_option maxRecDepth 100000 in
theorem walk_edges (w : World) (n : Int) (_hn : (Lit.int .i64 n).wf = true) (c : Int) (_hc : (Lit.int .u8 c).wf = true) (hk : Tabs w) :
    Calls Tryd.prog 5 #[.int .i64 n, .int .u8 c] w fun e w' => e = .returned (.bool true) ∧ Below w.heap.size w w' := by
  have h00 := Aside.mk hk.lt
  have HK := Aside.mk hk
  have hz : ∀ W, (zeroValue 24).run Tryd.prog W = .ok (.agg T.z16) W := fun W => by
    have hi : (Tryd.prog.info? 24).map (·.zero) = some (some (.agg T.z16)) := by kernel_rfl
    obtain ⟨i, h1, h2⟩ := Option.map_eq_some_iff.1 hi
    simp [zeroValue, typeInfo, h1, h2]
  have hi24 : Aside ((Tryd.prog.info? 24).map (·.size) = some 16) := ⟨by kernel_rfl⟩
  obtain ⟨m, hm, hmm⟩ := mod300 n
  have hmk := run_make_row' (P := Tryd.prog) 22 5 (.int .u8 0) 1 Tryd.underlying22 (by kernel_rfl) rfl .i64 .i64 m (by omega) (by omega)
  rw [made_edge c m] at hmk
  have HM := Aside.mk hm
  go_enter Tryd.func5, Tryd.ntmps5
  go_wp2_with fail
  go_loopg [6, 16] m (fun kq _ v16 wr => edgeR w c m kq v16 wr)
  case atStart => exact ⟨0, by omega, rfl, ⟨heap_alloc_new w _⟩, ⟨(Below.refl _ _).alloc (Nat.le_refl _) _⟩⟩
  case round =>
    obtain ⟨i, hi, rfl, hd, hB⟩ := hrel
    have HI := Aside.mk hi
    by_cases hlt : i < m
    · have hfr := frozen_of_row wr w.heap.size i _ _ hd.out
      have cd := T.bs_cell hd.out i (by rw [edgeL_length]; exact hlt)
      have hst := Aside.mk (edgeL_set c m i)
      have hlt' := Aside.mk hlt
      clear hi
      go_wp2
      go_roundg (gk - 1)
      case measure => have := HI.out; have := hlt'.out; omega
      case rel =>
        refine ⟨i + 1, by have := HI.out; have := hlt'.out; omega, by go_num, ⟨?_⟩, ⟨Below.setCell hB.out (Nat.le_refl _) _⟩⟩
        rw [← hst.out]
        exact T.bs_set hd.out i _
    · have hiq : i = m := by omega
      subst hiq
      clear hlt hi
      have hlen := edgeL_length c i i
      have hrg := Aside.mk (edgeL_range c i i)
      obtain ⟨b, hb⟩ : ∃ b, b = edgeL c i i := ⟨_, rfl⟩
      rw [← hb] at hlen hrg hd
      subst hlen
      have hsrc := Aside.mk (show Src wr (some ⟨w.heap.size, 0, none⟩) b from fun k x hx => ⟨w.heap.size, 0, rfl, by
        rw [Nat.zero_add, T.bs_cell hd.out k (List.getElem?_eq_some_iff.1 hx).1, List.getD_eq_getElem?_getD, hx]; rfl⟩)
      have hpl : w.heap.size < wr.heap.size := (Array.getElem?_eq_some_iff.1 hd.out).1
      have HPL := Aside.mk hpl
      clear hb hpl
      go_wp2_with fail
      refine (T.Of b _ _ wr hsrc.out (fun a ha => by cases ha; exact HPL.out) (by have := HM.out; omega) (HK.out.from hB.out h00.out)).mono ?_
      rintro e w2 ⟨rfl, hB2⟩
      have hdl := Aside.mk (show (T.bs (digestL b)).size = 16 from by simp only [T.bs, List.size_toArray, List.length_map]; exact digestL_length b)
      have HB2 := Aside.mk (hB.out.trans (hB2.mono hB.out.size))
      have HS2 := Aside.mk (Src.below hsrc.out (fun a ha => by cases ha; exact HPL.out) hB2)
      have HPL2 := Aside.mk (Nat.lt_of_lt_of_le HPL.out hB2.size)
      clear hB2 hd hB hsrc HPL
      go_wp2_with ((with_reducible refine wpList_store_row rfl 24 (.tmp 7) (.tmp 29) rfl w2.heap.size (T.bs (digestL b)) rfl rfl 24 T.z16 ?hg ?hi ?hold (T.bs_one _) ?_); (case hg => exact heap_alloc_new w2 _); (case hi => rw [hdl.out]; exact hi24.out); (case hold => rw [hdl.out]; rfl))
      generalize hw4 : (w2.alloc (.cells T.z16 24)).setRow w2.heap.size (T.bs (digestL b)) = w4
      have hD4 := Aside.mk (show w4.heap[w2.heap.size]? = some (.cells (T.bs (digestL b)) 24 (0, 0)) from by rw [← hw4]; exact setRow_heap _ _ _ _ _ _ (heap_alloc_new w2 _))
      have hB4 : Below w2.heap.size w2 w4 := by rw [← hw4]; exact Below_setRow ((Below.refl _ _).alloc (Nat.le_refl _) _) (Nat.le_refl _) _
      have HB4 := Aside.mk (HB2.out.trans (hB4.mono HB2.out.size))
      have HS4 := Aside.mk (Src.below HS2.out (fun a ha => by cases ha; exact HPL2.out) hB4)
      have HPL4 := Aside.mk (Nat.lt_of_lt_of_le HPL2.out hB4.size)
      clear hw4 hB4 HS2 HPL2 hz hmk
      have hRO := Aside.mk (show ∀ W, Kp w4 W → Calls Tryd.prog 10 #[.slice (some ⟨w.heap.size, 0, none⟩) b.length b.length] W fun e w' => ∃ v, e = .returned v ∧ Bytes w' W.heap.size v (digestL b) ∧ Below W.heap.size W w' from fun W hW =>
        refOfS (Src.below HS4.out (fun a ha => by cases ha; exact HPL4.out) hW) (Nat.le_refl _) (by have := HM.out; omega) hrg.out)
      have hWorks := Aside.mk (show ∀ W, Kp w4 W → Calls Tryd.prog 13 #[] W fun e w' => e = .returned (.bool true) ∧ Below W.heap.size W w' from fun W hW =>
        T.works W (HK.out.from (HB4.out.trans (hW.mono HB4.out.size)) h00.out))
      have hd16 := Aside.mk (digestL_length b)
      generalize digestL b = d at *
      have hst := Aside.mk (show (convert 22 9 (.slice (some ⟨w2.heap.size, 0, none⟩) 16 16)).run Tryd.prog w4.drew = .ok (.string (strOfNums d)) w4.drew ∧ w4.drew.heap[w2.heap.size]? = some (.cells (T.bs d) 24 (0, 0)) ∧ Kp w4 w4.drew from ⟨conv_row (W := w4.drew) hD4.out hd16.out, hD4.out, Kp.refl w4⟩)
      have hF0 := hst.out
      have hcv0 := hF0.1
      go_region_with (first | (go_at_call 10; (with_reducible refine (hRO.out _ (And.right (And.right (by assumption)))).mono ?_); rintro e W' ⟨v, rfl, hv, hb⟩; obtain ⟨g2, cp2, rfl, hcr⟩ := conv_own hv (by rw [hd16.out]; decide); have hF := keepC hd16.out (by assumption) hb; have hcv := hF.1; clear hv hb) | (go_at_call 13; (with_reducible refine (hWorks.out _ (And.right (And.right (by assumption)))).mono ?_); rintro e W' ⟨rfl, hb⟩; have hF := keepC hd16.out (by assumption) hb; have hcv := hF.1; clear hb))
      all_goals
       have hfin : Kp w4 W' := And.right (And.right (by assumption))
       go_wp2
       go_ret
       exact ⟨rfl, HB4.out.trans (Below.mono hfin HB4.out.size)⟩
end Go.Proofs.YticpbhpehoolfaaDoor

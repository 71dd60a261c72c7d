/- Contracts of Copy, Sum, Of of the digest. Conditions: where the Hash and the bytes lie, the table of rounds, sizes. -/
import Derived.Test.YtoccfgkblognfaaDoorDgD
namespace Go.Proofs.YtoccfgkblognfaaDoor
open Go.RowKit
set_option maxHeartbeats 2000000 in
set_option maxRecDepth 100000 in
theorem T.Copy_nil (w : World) : Calls Tryd.prog 19 #[.pointer none] w fun e w' => e = .returned (.pointer none) ∧ w' = w := by
  go_enter Tryd.func19, Tryd.ntmps19
  go_wp2_with (go_at_call 24; refine (T.none_nil _).mono ?_; rintro e w' ⟨rfl, hw⟩; subst w')
  go_ret
  exact ⟨rfl, rfl⟩
set_option maxHeartbeats 2000000 in
set_option maxRecDepth 100000 in
theorem T.Copy_bad (b : Nat) (w : World) (h : w.cell? ⟨b, 0, none⟩ = some (.bool false)) : Calls Tryd.prog 19 #[.pointer (some ⟨b, 0, none⟩)] w fun e w' => e = .returned (.pointer none) ∧ w' = w := by
  go_enter Tryd.func19, Tryd.ntmps19
  go_wp2_with (go_at_call 24; refine (T.none_at _ _ _ h).mono ?_; rintro e w' ⟨rfl, hw⟩; subst w')
  go_ret
  exact ⟨rfl, rfl⟩
theorem T.cells_one (m : Bool) (wl bl : List Int) (n : Int) : (T.cells m wl bl n).all (·.oneCell') = true := by
  refine all_oneCell_toArray fun v hv => ?_
  simp only [List.mem_append, List.mem_singleton, List.mem_map] at hv
  rcases hv with ((rfl | ⟨x, _, rfl⟩) | ⟨x, _, rfl⟩) | rfl <;> rfl
set_option maxHeartbeats 4000000 in
set_option maxRecDepth 100000 in
theorem T.Copy (H : Nat) (all : List Int) (w : World) (h : Hashes w H all) : Calls Tryd.prog 19 #[.pointer (some ⟨H, 0, none⟩)] w fun e w' => e = .returned (.pointer (some ⟨w.heap.size, 0, none⟩)) ∧ Hashes w' w.heap.size all ∧ Below w.heap.size w w' ∧ w'.heap.size = w.heap.size + 1 := by
  have h0 := h.made
  have HS := Aside.mk h
  obtain ⟨bl, h1, h2, h3⟩ := h
  have H1 := Aside.mk h1
  have H2 := Aside.mk h2
  have H3 := Aside.mk h3
  have hsz := Aside.mk (show (T.cells true (foldW h0L all) bl all.length).size = 74 from by simp [T.cells, h1, foldW_h0_length])
  have hi43 : Aside ((Tryd.prog.info? 43).map (·.size) = some 74) := ⟨by kernel_rfl⟩
  have hz : ∀ W, (zeroValue 43).run Tryd.prog W = .ok (.agg (T.cells false (List.replicate 8 0) (List.replicate 64 0) 0)) W := fun W => by
    have hi : (Tryd.prog.info? 43).map (·.zero) = some (some (.agg (T.cells false (List.replicate 8 0) (List.replicate 64 0) 0))) := by kernel_rfl
    obtain ⟨i, h1, h2⟩ := Option.map_eq_some_iff.1 hi
    simp [zeroValue, typeInfo, h1, h2]
  clear h1 h2 h3
  generalize hcs : T.cells true (foldW h0L all) bl all.length = cs at H2 hsz
  have hone := Aside.mk (show cs.all (·.oneCell') = true from by rw [← hcs]; exact T.cells_one _ _ _ _)
  have HCS := Aside.mk hcs
  clear hcs
  go_enter Tryd.func19, Tryd.ntmps19
  go_wp2_with (first | (go_at_call 24; refine (T.none_at _ _ _ h0).mono ?_; rintro e w' ⟨rfl, hw⟩; subst w') | (with_reducible refine wpList_load_row rfl 43 (.tmp 7) rfl H rfl 43 cs (0, 0) _ H2.out Tryd.underlying43 rfl (by rw [hsz.out]; exact hi43.out) ?_) | ((with_reducible refine wpList_store_row rfl 43 (.tmp 3) (.tmp 8) rfl w.heap.size cs rfl rfl 43 (T.cells false (List.replicate 8 0) (List.replicate 64 0) 0) ?hg ?hi ?hold hone.out ?_); (case hg => exact heap_alloc_new w _); (case hi => rw [hsz.out]; exact hi43.out); (case hold => rw [hsz.out]; rfl)))

  go_ret
  refine ⟨rfl, ⟨bl, H1.out, ?_, H3.out⟩, ?_, ?_⟩
  · rw [HCS.out]; exact setRow_heap _ _ _ _ _ _ (heap_alloc_new w _)
  · exact Below_setRow ((Below.refl _ _).alloc (Nat.le_refl _) _) (Nat.le_refl _) _
  · simp
theorem idx8 (l : List Int) (h : l.length = 8) (i : Nat) (hi : i < 8) : ∀ W : World, (Instr.index 40 (.agg (T.ws l)) (.int .i64 (i : Int))).run Tryd.prog W = .ok (.int .u32 (l.getD i 0)) W := by
  obtain ⟨a, b, c, d, e, f, g, k, rfl⟩ := eight h
  intro W
  match i, hi with
  | 0, _ => exact show (Instr.index 40 (.agg (T.ws [a, b, c, d, e, f, g, k])) (.int .i64 0)).run Tryd.prog W = .ok (.int .u32 a) W from by kernel_rfl
  | 1, _ => exact show (Instr.index 40 (.agg (T.ws [a, b, c, d, e, f, g, k])) (.int .i64 1)).run Tryd.prog W = .ok (.int .u32 b) W from by kernel_rfl
  | 2, _ => exact show (Instr.index 40 (.agg (T.ws [a, b, c, d, e, f, g, k])) (.int .i64 2)).run Tryd.prog W = .ok (.int .u32 c) W from by kernel_rfl
  | 3, _ => exact show (Instr.index 40 (.agg (T.ws [a, b, c, d, e, f, g, k])) (.int .i64 3)).run Tryd.prog W = .ok (.int .u32 d) W from by kernel_rfl
  | 4, _ => exact show (Instr.index 40 (.agg (T.ws [a, b, c, d, e, f, g, k])) (.int .i64 4)).run Tryd.prog W = .ok (.int .u32 e) W from by kernel_rfl
  | 5, _ => exact show (Instr.index 40 (.agg (T.ws [a, b, c, d, e, f, g, k])) (.int .i64 5)).run Tryd.prog W = .ok (.int .u32 f) W from by kernel_rfl
  | 6, _ => exact show (Instr.index 40 (.agg (T.ws [a, b, c, d, e, f, g, k])) (.int .i64 6)).run Tryd.prog W = .ok (.int .u32 g) W from by kernel_rfl
  | 7, _ => exact show (Instr.index 40 (.agg (T.ws [a, b, c, d, e, f, g, k])) (.int .i64 7)).run Tryd.prog W = .ok (.int .u32 k) W from by kernel_rfl
def T.bs (l : List Int) : Array Value := (l.map (Value.int .u8)).toArray
def be4 (x : Int) : List Int := [x / 16777216 % 256, x / 65536 % 256, x / 256 % 256, x % 256]
def zerosN (n : Nat) : Nat := (119 - n % 64) % 64
/-- The first i bytes of a size. -/
def sizeB (s : Int) (i : Nat) : List Int := (List.range i).map fun j => s / 2 ^ (56 - 8 * j) % 256
def padL (all : List Int) : List Int := all ++ [128] ++ List.replicate (zerosN all.length) 0 ++ sizeB (8 * all.length) 8
def digestL (all : List Int) : List Int := (foldW h0L (padL all)).flatMap be4
/-- 32 noughts, as a row of cells. -/
def T.z32 : Array Value := T.bs (List.replicate 32 0)
/-- What stands while Sum works. -/
def SumI (w : World) (all' : List Int) (wr : World) : Prop := Hashes wr (w.heap.size + 1 + 1) all' ∧ wr.heap[w.heap.size]? = some (.cells T.z32 24 (0, 0)) ∧ wr.heap[w.heap.size + 1]? = some (.cells T.z32 24 (0, 0)) ∧ Below w.heap.size w wr ∧ w.heap.size + 1 + 1 < wr.heap.size
def sum1 (w : World) (all : List Int) (kq : Nat) (wr : World) : Prop := ∃ k, k + kq = zerosN all.length ∧ Aside (SumI w (all ++ [128] ++ List.replicate k 0) wr)
def sum2 (w : World) (all : List Int) (kq : Nat) (v6 : Value) (wr : World) : Prop := ∃ (i : Nat) (kv : Int), i + kq = 8 ∧ v6 = .int .i64 kv ∧ Aside (kv = 56 - 8 * (i : Int)) ∧ Aside (SumI w (all ++ [128] ++ List.replicate (zerosN all.length) 0 ++ sizeB (8 * all.length) i) wr)
/-- What Sum has written behind i words. -/
def outN (ws : List Int) (i : Nat) : List Int := (ws.take i).flatMap be4 ++ List.replicate (32 - 4 * i) 0
theorem sizeB_succ (s : Int) (i : Nat) : sizeB s (i + 1) = sizeB s i ++ [s / 2 ^ (56 - 8 * i) % 256] := by
  unfold sizeB
  rw [List.range_succ, List.map_append]
  rfl
theorem flat_len (ws : List Int) : (ws.flatMap be4).length = 4 * ws.length := by
  induction ws with
  | nil => rfl
  | cons x l ih => rw [List.flatMap_cons, List.length_append, ih]; simp [be4]; omega
theorem outN_len (ws : List Int) (i : Nat) (hi : i ≤ 8) (h : ws.length = 8) : (outN ws i).length = 32 := by
  unfold outN
  rw [List.length_append, flat_len, List.length_replicate, List.length_take]; omega
theorem outN_set (ws : List Int) (i : Nat) (hi : i < 8) (h : ws.length = 8) (x : Int) (hx : ws.getD i 0 = x) :
    ((((outN ws i).set (4 * i) (x / 16777216 % 256)).set (4 * i + 1) (x / 65536 % 256)).set (4 * i + 2) (x / 256 % 256)).set (4 * i + 3) (x % 256) = outN ws (i + 1) := by
  have hl : ((ws.take i).flatMap be4).length = 4 * i := by rw [flat_len, List.length_take]; omega
  unfold outN
  rw [show 32 - 4 * i = (32 - 4 * (i + 1)) + 1 + 1 + 1 + 1 from by omega]
  simp only [List.replicate_succ]
  rw [List.set_append_right _ _ (by omega), List.set_append_right _ _ (by omega), List.set_append_right _ _ (by omega), List.set_append_right _ _ (by omega), hl]
  rw [show 4 * i - 4 * i = 0 from by omega, show 4 * i + 1 - 4 * i = 1 from by omega, show 4 * i + 2 - 4 * i = 2 from by omega, show 4 * i + 3 - 4 * i = 3 from by omega]
  simp only [List.set_cons_zero, List.set_cons_succ]
  have ht : ws.take (i + 1) = ws.take i ++ [x] := by
    rw [List.take_succ_eq_append_getElem (by omega), ← hx, List.getD_eq_getElem?_getD, List.getElem?_eq_getElem (by omega)]; rfl
  rw [ht, List.flatMap_append]
  simp [be4]
theorem T.bs_cell {W : World} {B t : Nat} {l : List Int} (h : W.heap[B]? = some (.cells (T.bs l) t (0, 0))) (k : Nat) (hk : k < l.length) : W.cell? ⟨B, k, none⟩ = some (.int .u8 (l.getD k 0)) := by
  rw [cell_of_row W B k _ _ _ h]
  simp [T.bs, List.getElem?_eq_getElem hk, List.getD_eq_getElem?_getD]
theorem T.bs_set {W : World} {B t : Nat} {l : List Int} (h : W.heap[B]? = some (.cells (T.bs l) t (0, 0))) (k : Nat) (x : Int) : (W.setCell ⟨B, k, none⟩ (.int .u8 x)).heap[B]? = some (.cells (T.bs (l.set k x)) t (0, 0)) := by
  rw [heap_setCell_same W B k _ t _ h]
  simp [T.bs, List.map_set]
theorem T.bs_one (l : List Int) : (T.bs l).all (·.oneCell') = true := all_oneCell_toArray (fun v hv => by obtain ⟨x, _, rfl⟩ := List.mem_map.1 hv; rfl)
def sum3 (w : World) (ws : List Int) (kq : Nat) (v47 : Value) (wr : World) : Prop := ∃ i : Nat, i + kq = 8 ∧ v47 = .int .i64 (i : Int) ∧ Aside (wr.heap[w.heap.size]? = some (.cells T.z32 24 (0, 0))) ∧ Aside (wr.heap[w.heap.size + 1]? = some (.cells (T.bs (outN ws i)) 24 (0, 0))) ∧ Aside (Below w.heap.size w wr)
theorem T.Copy_in (H : Nat) (all : List Int) (w : World) (h : Hashes w H all) : Calls Tryd.prog 19 #[.pointer (some ⟨H, 0, none⟩)] ((w.alloc (.cells T.z32 24)).alloc (.cells T.z32 24)) fun e w' => e = .returned (.pointer (some ⟨w.heap.size + 1 + 1, 0, none⟩)) ∧ SumI w all w' := by
  have hH : H < w.heap.size := block_lt_of_cell h.made
  have hs : ((w.alloc (.cells T.z32 24)).alloc (.cells T.z32 24)).heap.size = w.heap.size + 1 + 1 := by simp
  have hB : Below w.heap.size w ((w.alloc (.cells T.z32 24)).alloc (.cells T.z32 24)) := ((Below.refl _ _).alloc (Nat.le_refl _) _).alloc (by simp) _
  refine (T.Copy H all _ (h.of_block (hB.block H hH))).mono ?_
  rw [hs]
  rintro e w' ⟨rfl, h1, h2, h3⟩
  refine ⟨rfl, h1, ?_, ?_, hB.trans (h2.mono (by omega)), by omega⟩
  · rw [h2.block _ (by omega)]; exact heap_alloc2_old w _ _
  · rw [h2.block _ (by omega)]; exact heap_alloc2_new w _ _
theorem SumI.n_cell {w wr : World} {all' : List Int} (h : SumI w all' wr) : wr.cell? ⟨w.heap.size + 1 + 1, 73, none⟩ = some (.int .i64 all'.length) := by
  obtain ⟨⟨bl, h1, h2, _⟩, _⟩ := h
  exact T.n_cell h2 (foldW_h0_length _) h1
theorem T.Write1 {w wr : World} {all' : List Int} (x : Int) (h : SumI w all' wr) (hk : K64 w) (hl : all'.length + 1 ≤ 4611686018427387904) :
    Calls Tryd.prog 16 #[.pointer (some ⟨w.heap.size + 1 + 1, 0, none⟩), .slice (some ⟨wr.heap.size, 0, none⟩) 1 1] (wr.alloc (.cells #[.int .u8 x] 5)) fun e w' => e = .returned (.int .i64 0) ∧ SumI w (all' ++ [x]) w' := by
  obtain ⟨h1, h2, h3, h4, h5⟩ := h
  have h0 : 0 < w.heap.size := block_lt_of_cell (hk 0 (by decide))
  have hB : Below wr.heap.size wr (wr.alloc (.cells #[.int .u8 x] 5)) := (Below.refl _ _).alloc (Nat.le_refl _) _
  refine (T.Write (w.heap.size + 1 + 1) all' [x] (some ⟨wr.heap.size, 0, none⟩) 1 _ (h1.of_block (hB.block _ h5)) ?_ ?_ (by simp) (by simpa using hl) ?_).mono ?_
  · intro i y hy
    match i, hy with
    | 0, hy =>
      simp at hy; subst hy
      exact ⟨wr.heap.size, 0, rfl, by rw [cell_of_row _ _ _ _ _ _ (heap_alloc_new wr _)]; rfl⟩
  · rintro a ha
    obtain rfl := Option.some.inj ha
    exact Nat.ne_of_gt h5
  · exact hk.of_block ((hB.block 0 (by omega)).trans (h4.block 0 h0))
  · rintro e w' ⟨rfl, g1, g2⟩
    have hs : (wr.alloc (.cells #[.int .u8 x] 5)).heap.size = wr.heap.size + 1 := by simp
    have hle := g2.size
    refine ⟨rfl, g1, ?_, ?_, ?_, by omega⟩
    · rw [g2.block _ (by omega) (by simp; omega), hB.block _ (by omega)]; exact h2
    · rw [g2.block _ (by omega) (by simp), hB.block _ (by omega)]; exact h3
    · refine (h4.trans (hB.mono (by omega))).trans ⟨g2.os, g2.tape, g2.output, g2.size, fun k hk => g2.block k (by omega) (by simp; omega)⟩
set_option maxHeartbeats 4000000 in
set_option maxRecDepth 100000 in
theorem T.Sum (H : Nat) (all : List Int) (w : World) (h : Hashes w H all) (hk : K64 w) (hlen : all.length ≤ 1152921504606846976) : Calls Tryd.prog 17 #[.pointer (some ⟨H, 0, none⟩)] w fun e w' => e = .returned (.agg (T.bs (digestL all))) ∧ Below w.heap.size w w' := by
  have HS := Aside.mk h
  have HK := Aside.mk hk
  have HL := Aside.mk hlen
  have HZ := Aside.mk (show zerosN all.length ≤ 64 from by unfold zerosN; omega)
  clear h hk hlen
  have hz : ∀ W, (zeroValue 24).run Tryd.prog W = .ok (.agg T.z32) W := fun W => by
    have hi : (Tryd.prog.info? 24).map (·.zero) = some (some (.agg T.z32)) := by kernel_rfl
    obtain ⟨i, h1, h2⟩ := Option.map_eq_some_iff.1 hi
    simp [zeroValue, typeInfo, h1, h2]
  have hw1 : IntKind.u64.wrap (all.length : Int) = (all.length : Int) := by have := HL.out; simp [IntKind.wrap, IntKind.bits, IntKind.signed]; omega
  obtain ⟨sz, hsz⟩ : ∃ sz, sz = 8 * (all.length : Int) := ⟨_, rfl⟩
  have hw2 : IntKind.u64.wrap ((all.length : Int) * 8) = sz := by have := HL.out; simp [IntKind.wrap, IntKind.bits, IntKind.signed]; omega
  have HSZ := Aside.mk hsz
  have HSZ0 := Aside.mk (show 0 ≤ sz from by omega)
  clear hsz
  go_enter Tryd.func17, Tryd.ntmps17
  go_wp2_with (first | (go_at_call 19; refine (T.Copy_in H all _ HS.out).mono ?_; rintro e w1 ⟨rfl, hc1⟩; have c73 := hc1.n_cell; have hc1' := Aside.mk hc1; clear hc1) | (go_at_call 16; refine (T.Write1 128 hc1'.out HK.out (by have := HL.out; omega)).mono ?_; rintro e w2 ⟨rfl, hc2⟩; have hc2' := Aside.mk hc2; clear hc2))
  clear c73 hw1 hw2
  go_loopg [] (zerosN all.length) (fun kq wr => sum1 w all kq wr)
  case atStart => exact ⟨0, by omega, ⟨by simpa using hc2'.out⟩⟩
  case round =>
    clear hc2' hc1'
    obtain ⟨k, hkq, hI⟩ := hrel
    have c73 := hI.out.n_cell
    obtain ⟨m, hm⟩ : ∃ m, m = (all ++ [128] ++ List.replicate k 0).length := ⟨_, rfl⟩
    rw [← hm] at c73
    have hm' : m = all.length + 1 + k := by rw [hm]; simp; omega
    obtain ⟨q, hq⟩ : ∃ q, q = m % 64 := ⟨_, rfl⟩
    have ht : (m : Int).tmod 64 = (q : Int) := by rw [Int.tmod_eq_emod_of_nonneg (by omega)]; omega
    have HKQ := Aside.mk hkq
    have hz64 := Aside.mk (show (all.length + 1 + k) % 64 = 56 ↔ gk = 0 from by unfold zerosN at hkq; omega)
    have hlm := Aside.mk (show m + 1 ≤ 4611686018427387904 from by have := HL.out; have := HZ.out; omega)
    have HM := Aside.mk hm
    have HM' := Aside.mk hm'
    have HQ := Aside.mk hq
    clear hm hm' hq hkq
    by_cases hg : gk = 0
    · have hq56 : ((q : Int) == 56) = true := by have := hz64.out.2 hg; have := HQ.out; have := HM'.out; simp; omega
      have hq56' : ((q : Int) != 56) = false := by have := hz64.out.2 hg; have := HQ.out; have := HM'.out; simp; omega
      have hI2 := Aside.mk (show SumI w (all ++ [128] ++ List.replicate (zerosN all.length) 0 ++ sizeB (8 * all.length) 0) wr from by
        have h1 := HKQ.out; rw [hg, Nat.add_zero] at h1; rw [← h1]; simpa [sizeB] using hI.out)
      clear hg
      go_wp2
      go_loopg [6] 8 (fun kq v6 wr => sum2 w all kq v6 wr)
      case atStart => exact ⟨0, 56, rfl, rfl, ⟨by omega⟩, hI2⟩
      case round =>
        clear c73 ht hq56 hq56' hI hI2 hlm HM HM' HQ HKQ hz64
        obtain ⟨i, kv, hi, rfl, hkv, hI⟩ := hrel
        have HI8 := Aside.mk hi
        clear hi
        by_cases hpos : 0 ≤ kv
        · obtain ⟨e, rfl⟩ : ∃ e : Nat, kv = (e : Int) := ⟨kv.toNat, by omega⟩
          have he64 : e < 64 := by have := hkv.out; omega
          have hwk : IntKind.i64.wrap ((e : Int) - 8) = (e : Int) - 8 := by have := hkv.out; simp [IntKind.wrap, IntKind.bits, IntKind.signed]; omega
          go_wp2_with (go_at_call 16; refine (T.Write1 (sz / 2 ^ e % 256) hI.out HK.out (by have := HL.out; have := HZ.out; have := HI8.out; simp [sizeB]; omega)).mono ?_; rintro e2 w2 ⟨rfl, hc2⟩; have hc2' := Aside.mk hc2; clear hc2)
          go_roundg (gk - 1)
          case measure => have := HI8.out; have := hkv.out; omega
          case rel =>
            refine ⟨i + 1, _, by have := HI8.out; have := hkv.out; omega, rfl, ⟨by have := hkv.out; omega⟩, ⟨?_⟩⟩
            have he : e = 56 - 8 * i := by have := hkv.out; omega
            rw [sizeB_succ, ← List.append_assoc, ← he]
            have h2 := hc2'.out
            rw [HSZ.out] at h2
            exact h2
        · have hi8 : i = 8 := by have := hkv.out; have := HI8.out; omega
          subst hi8
          obtain ⟨ws, hws⟩ : ∃ ws, ws = foldW h0L (padL all) := ⟨_, rfl⟩
          have hwl := Aside.mk (show ws.length = 8 from by rw [hws]; exact foldW_h0_length _)
          have hrg := Aside.mk (show wr.rangeAt (w.heap.size + 1 + 1) 1 (ws.map (.int .u32)) from by
            obtain ⟨⟨bl, _, h2, _⟩, _⟩ := hI.out
            rw [hws]
            exact T.words_range h2)
          have hi40 : Aside ((Tryd.prog.info? 40).map (·.size) = some (ws.map (Value.int .u32)).length) := ⟨by rw [List.length_map, hwl.out]; kernel_rfl⟩
          have HWS := Aside.mk hws
          clear hws
          go_wp2_with (with_reducible refine wpList_load_mid rfl 40 (.tmp 45) rfl (w.heap.size + 1 + 1) 1 rfl (ws.map (Value.int .u32)) _ hrg.out Tryd.underlying40 rfl hi40.out ?_)
          go_loopg [47] 8 (fun kq v47 wr => sum3 w ws kq v47 wr)
          case atStart => exact ⟨0, rfl, rfl, ⟨hI.out.2.1⟩, ⟨hI.out.2.2.1⟩, ⟨hI.out.2.2.2.1⟩⟩
          case round =>
            clear hI hrg hi40 hkv HI8 hpos
            obtain ⟨i, hi, rfl, hb0, hb1, hB⟩ := hrel
            have HI8 := Aside.mk hi
            by_cases hlt : i < 8
            · have hix := idx8 ws hwl.out i hlt
              obtain ⟨x, hx⟩ : ∃ x, x = ws.getD i 0 := ⟨_, rfl⟩
              rw [← hx] at hix
              unfold T.ws at hix
              have HX := Aside.mk hx
              clear hx hi
              have hol := outN_len ws i (by omega) hwl.out
              have c0 := T.bs_cell hb1.out (4 * i) (by omega)
              have c1 := T.bs_cell hb1.out (4 * i + 1) (by omega)
              have c2 := T.bs_cell hb1.out (4 * i + 2) (by omega)
              have c3 := T.bs_cell hb1.out (4 * i + 3) (by omega)
              generalize (outN ws i).getD (4 * i) 0 = y0 at c0
              generalize (outN ws i).getD (4 * i + 1) 0 = y1 at c1
              generalize (outN ws i).getD (4 * i + 2) 0 = y2 at c2
              generalize (outN ws i).getD (4 * i + 3) 0 = y3 at c3
              have g0 := frozen_of_row wr (w.heap.size + 1) (4 * i) _ _ hb1.out
              have g1 := frozen_of_row wr (w.heap.size + 1) (4 * i + 1) _ _ hb1.out
              have g2 := frozen_of_row wr (w.heap.size + 1) (4 * i + 2) _ _ hb1.out
              have g3 := frozen_of_row wr (w.heap.size + 1) (4 * i + 3) _ _ hb1.out
              have t0 : (4 * (i : Int)).toNat = 4 * i := by omega
              have t1 : (4 * (i : Int) + 1).toNat = 4 * i + 1 := by omega
              have t2 : (4 * (i : Int) + 2).toNat = 4 * i + 2 := by omega
              have t3 : (4 * (i : Int) + 3).toNat = 4 * i + 3 := by omega
              have HOL := Aside.mk hol
              have hlt' := Aside.mk hlt
              clear hol
              go_wp2
              go_roundg (gk - 1)
              case measure => have := HI8.out; omega
              case rel =>
                refine ⟨i + 1, by have := HI8.out; omega, by go_num, ⟨?_⟩, ⟨?_⟩, ⟨?_⟩⟩
                · rw [Below.heap_setCell _ _ _ _ (by simp), Below.heap_setCell _ _ _ _ (by simp), Below.heap_setCell _ _ _ _ (by simp), Below.heap_setCell _ _ _ _ (by simp)]
                  exact hb0.out
                · rw [← outN_set ws i hlt'.out hwl.out x HX.out.symm]
                  exact T.bs_set (T.bs_set (T.bs_set (T.bs_set hb1.out _ _) _ _) _ _) _ _
                · exact (((hB.out.setCell (by simp) _).setCell (by simp) _).setCell (by simp) _).setCell (by simp) _
            · have hi8 : i = 8 := by omega
              subst hi8
              have hfin : outN ws 8 = digestL all := by
                unfold outN digestL
                rw [List.take_of_length_le (by rw [hwl.out]; omega), HWS.out]; simp
              rw [hfin] at hb1
              have hdl := Aside.mk (show (T.bs (digestL all)).size = 32 from by
                rw [← hfin]; simp only [T.bs, List.size_toArray, List.length_map]; exact outN_len ws 8 (by omega) hwl.out)
              have hi24 : Aside ((Tryd.prog.info? 24).map (·.size) = some 32) := ⟨by kernel_rfl⟩
              clear hi hlt hfin
              go_wp2_with (first | (with_reducible refine wpList_load_row rfl 24 (.tmp 3) rfl (w.heap.size + 1) rfl 24 (T.bs (digestL all)) (0, 0) _ hb1.out Tryd.underlying24 rfl (by rw [hdl.out]; exact hi24.out) ?_) | ((with_reducible refine wpList_store_row rfl 24 (.tmp 2) (.tmp 78) rfl w.heap.size (T.bs (digestL all)) rfl rfl 24 T.z32 ?hg ?hi ?hold (T.bs_one _) ?_); (case hg => exact hb0.out); (case hi => rw [hdl.out]; exact hi24.out); (case hold => rw [hdl.out]; rfl)))
              exact bodyPost_ret (results_cell_row rfl _ _ w.heap.size 24 (T.bs (digestL all)) (0, 0) _ rfl (setRow_heap _ _ _ _ _ _ hb0.out) Tryd.underlying24 rfl (by rw [hdl.out]; exact hi24.out)) rfl ⟨rfl, Below_setRow hB.out (Nat.le_refl _) _⟩
    · have hq56 : ((q : Int) == 56) = false := by have := mt hz64.out.1 hg; have := HQ.out; have := HM'.out; simp; omega
      have hq56' : ((q : Int) != 56) = true := by have := mt hz64.out.1 hg; have := HQ.out; have := HM'.out; simp; omega
      have hg' := Aside.mk hg
      clear hg
      go_wp2_with (go_at_call 16; refine (T.Write1 0 hI.out HK.out (by rw [← HM.out]; exact hlm.out)).mono ?_; rintro e w2 ⟨rfl, hc2⟩; have hc2' := Aside.mk hc2; clear hc2)
      go_roundg (gk - 1)
      case measure => have := hg'.out; omega
      case rel => exact ⟨k + 1, by have := HKQ.out; have := hg'.out; omega, ⟨by rw [List.replicate_succ', ← List.append_assoc]; exact hc2'.out⟩⟩
end Go.Proofs.YtoccfgkblognfaaDoor

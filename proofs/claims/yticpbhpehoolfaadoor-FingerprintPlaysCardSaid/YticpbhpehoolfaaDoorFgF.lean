/- The contract of the fingerprint's Sum. Conditions: where the Print lies, the tables, sizes. -/
import Derived.Test.YticpbhpehoolfaaDoorFgE
namespace Go.Proofs.YticpbhpehoolfaaDoor
open Go.RowKit
/-- The cells of a Print that New did not make. -/
def T.c0 : Array Value := T.cells false (List.replicate 4 0) (List.replicate 64 0) 0
theorem T.cells_one (m : Bool) (wl bl : List Int) (n : Int) : (T.cells m wl bl n).all (·.oneCell') = true := by
  refine all_oneCell_toArray fun v hv => ?_
  simp only [List.mem_append, List.mem_singleton, List.mem_map] at hv
  rcases hv with ((rfl | ⟨x, _, rfl⟩) | ⟨x, _, rfl⟩) | rfl <;> rfl
theorem four {l : List Int} (h : l.length = 4) : ∃ a b c d, l = [a, b, c, d] := by
  match l, h with
  | [a, b, c, d], _ => exact ⟨a, b, c, d, rfl⟩
theorem idx4 (l : List Int) (h : l.length = 4) (i : Nat) (hi : i < 4) : ∀ W : World, (Instr.index 46 (.agg (T.ws l)) (.int .i64 (i : Int))).run Tryd.prog W = .ok (.int .u32 (l.getD i 0)) W := by
  obtain ⟨a, b, c, d, rfl⟩ := four h
  intro W
  match i, hi with
  | 0, _ => exact show (Instr.index 46 (.agg (T.ws [a, b, c, d])) (.int .i64 0)).run Tryd.prog W = .ok (.int .u32 a) W from by kernel_rfl
  | 1, _ => exact show (Instr.index 46 (.agg (T.ws [a, b, c, d])) (.int .i64 1)).run Tryd.prog W = .ok (.int .u32 b) W from by kernel_rfl
  | 2, _ => exact show (Instr.index 46 (.agg (T.ws [a, b, c, d])) (.int .i64 2)).run Tryd.prog W = .ok (.int .u32 c) W from by kernel_rfl
  | 3, _ => exact show (Instr.index 46 (.agg (T.ws [a, b, c, d])) (.int .i64 3)).run Tryd.prog W = .ok (.int .u32 d) W from by kernel_rfl
def T.bs (l : List Int) : Array Value := (l.map (Value.int .u8)).toArray
def le4 (x : Int) : List Int := [x % 256, x / 256 % 256, x / 65536 % 256, x / 16777216 % 256]
def zerosN (n : Nat) : Nat := (119 - n % 64) % 64
/-- The first i bytes of a size. -/
def sizeB (s : Int) (i : Nat) : List Int := (List.range i).map fun j => s / 2 ^ (8 * j) % 256
def padL (all : List Int) : List Int := all ++ [128] ++ List.replicate (zerosN all.length) 0 ++ sizeB (8 * all.length) 8
def digestL (all : List Int) : List Int := (foldW h0L (padL all)).flatMap le4
/-- 16 noughts, as a row of cells. -/
def T.z16 : Array Value := T.bs (List.replicate 16 0)
/-- What stands while Sum works. -/
def SumI (w : World) (all' : List Int) (wr : World) : Prop := Hashes wr (w.heap.size + 1 + 1) all' ∧ wr.heap[w.heap.size]? = some (.cells T.z16 24 (0, 0)) ∧ wr.heap[w.heap.size + 1]? = some (.cells T.z16 24 (0, 0)) ∧ Below w.heap.size w wr ∧ w.heap.size + 1 + 1 < wr.heap.size
def sum1 (w : World) (all : List Int) (kq : Nat) (wr : World) : Prop := ∃ k, k + kq = zerosN all.length ∧ Aside (SumI w (all ++ [128] ++ List.replicate k 0) wr)
def sum2 (w : World) (all : List Int) (kq : Nat) (v6 : Value) (wr : World) : Prop := ∃ (i : Nat) (kv : Int), i + kq = 8 ∧ v6 = .int .i64 kv ∧ Aside (kv = 8 * (i : Int)) ∧ Aside (SumI w (all ++ [128] ++ List.replicate (zerosN all.length) 0 ++ sizeB (8 * all.length) i) wr)
/-- What Sum has written behind i words. -/
def outN (ws : List Int) (i : Nat) : List Int := (ws.take i).flatMap le4 ++ List.replicate (16 - 4 * i) 0
theorem sizeB_succ (s : Int) (i : Nat) : sizeB s (i + 1) = sizeB s i ++ [s / 2 ^ (8 * i) % 256] := by
  unfold sizeB
  rw [List.range_succ, List.map_append]
  rfl
theorem flat_len (ws : List Int) : (ws.flatMap le4).length = 4 * ws.length := by
  induction ws with
  | nil => rfl
  | cons x l ih => rw [List.flatMap_cons, List.length_append, ih]; simp [le4]; omega
theorem outN_len (ws : List Int) (i : Nat) (hi : i ≤ 4) (h : ws.length = 4) : (outN ws i).length = 16 := by
  unfold outN
  rw [List.length_append, flat_len, List.length_replicate, List.length_take]; omega
theorem outN_set (ws : List Int) (i : Nat) (hi : i < 4) (h : ws.length = 4) (x : Int) (hx : ws.getD i 0 = x) :
    ((((outN ws i).set (4 * i) (x % 256)).set (4 * i + 1) (x / 256 % 256)).set (4 * i + 2) (x / 65536 % 256)).set (4 * i + 3) (x / 16777216 % 256) = outN ws (i + 1) := by
  have hl : ((ws.take i).flatMap le4).length = 4 * i := by rw [flat_len, List.length_take]; omega
  unfold outN
  rw [show 16 - 4 * i = (16 - 4 * (i + 1)) + 1 + 1 + 1 + 1 from by omega]
  simp only [List.replicate_succ]
  rw [List.set_append_right _ _ (by omega), List.set_append_right _ _ (by omega), List.set_append_right _ _ (by omega), List.set_append_right _ _ (by omega), hl]
  rw [show 4 * i - 4 * i = 0 from by omega, show 4 * i + 1 - 4 * i = 1 from by omega, show 4 * i + 2 - 4 * i = 2 from by omega, show 4 * i + 3 - 4 * i = 3 from by omega]
  simp only [List.set_cons_zero, List.set_cons_succ]
  have ht : ws.take (i + 1) = ws.take i ++ [x] := by
    rw [List.take_succ_eq_append_getElem (by omega), ← hx, List.getD_eq_getElem?_getD, List.getElem?_eq_getElem (by omega)]; rfl
  rw [ht, List.flatMap_append]
  simp [le4]
theorem T.bs_cell {W : World} {B t : Nat} {l : List Int} (h : W.heap[B]? = some (.cells (T.bs l) t (0, 0))) (k : Nat) (hk : k < l.length) : W.cell? ⟨B, k, none⟩ = some (.int .u8 (l.getD k 0)) := by
  rw [cell_of_row W B k _ _ _ h]
  simp [T.bs, List.getElem?_eq_getElem hk, List.getD_eq_getElem?_getD]
theorem T.bs_set {W : World} {B t : Nat} {l : List Int} (h : W.heap[B]? = some (.cells (T.bs l) t (0, 0))) (k : Nat) (x : Int) : (W.setCell ⟨B, k, none⟩ (.int .u8 x)).heap[B]? = some (.cells (T.bs (l.set k x)) t (0, 0)) := by
  rw [heap_setCell_same W B k _ t _ h]
  simp [T.bs, List.map_set]
theorem T.bs_one (l : List Int) : (T.bs l).all (·.oneCell') = true := all_oneCell_toArray (fun v hv => by obtain ⟨x, _, rfl⟩ := List.mem_map.1 hv; rfl)
def sum3 (w : World) (ws : List Int) (kq : Nat) (v39 : Value) (wr : World) : Prop := ∃ i : Nat, i + kq = 4 ∧ v39 = .int .i64 (i : Int) ∧ Aside (wr.heap[w.heap.size]? = some (.cells T.z16 24 (0, 0))) ∧ Aside (wr.heap[w.heap.size + 1]? = some (.cells (T.bs (outN ws i)) 24 (0, 0))) ∧ Aside (Below w.heap.size w wr)
theorem SumI.n_cell {w wr : World} {all' : List Int} (h : SumI w all' wr) : wr.cell? ⟨w.heap.size + 1 + 1, 69, none⟩ = some (.int .i64 all'.length) := by
  obtain ⟨⟨bl, h1, h2, _⟩, _⟩ := h
  exact T.n_cell h2 (foldW_h0_length _) h1
theorem T.Write1 {w wr : World} {all' : List Int} (x : Int) (h : SumI w all' wr) (hk : Tabs w) (hl : all'.length + 1 ≤ 4611686018427387904) :
    Calls Tryd.prog 15 #[.pointer (some ⟨w.heap.size + 1 + 1, 0, none⟩), .slice (some ⟨wr.heap.size, 0, none⟩) 1 1] (wr.alloc (.cells #[.int .u8 x] 5)) fun e w' => e = .returned (.int .i64 0) ∧ SumI w (all' ++ [x]) w' := by
  obtain ⟨h1, h2, h3, h4, h5⟩ := h
  have h0 : 1 < w.heap.size := hk.lt
  have hB : Below wr.heap.size wr (wr.alloc (.cells #[.int .u8 x] 5)) := (Below.refl _ _).alloc (Nat.le_refl _) _
  refine (T.Write (w.heap.size + 1 + 1) all' [x] (some ⟨wr.heap.size, 0, none⟩) 1 _ (h1.of_block (hB.block _ h5)) ?_ ?_ (by simpa using hl) ?_).mono ?_
  · intro i y hy
    match i, hy with
    | 0, hy =>
      simp at hy; subst hy
      exact ⟨wr.heap.size, 0, rfl, by rw [cell_of_row _ _ _ _ _ _ (heap_alloc_new wr _)]; rfl⟩
  · rintro a ha
    obtain rfl := Option.some.inj ha
    exact Nat.ne_of_gt h5
  · exact hk.of_block ((hB.block 0 (by omega)).trans (h4.block 0 (by omega))) ((hB.block 1 (by omega)).trans (h4.block 1 h0))
  · rintro e w' ⟨rfl, g1, g2⟩
    have hs : (wr.alloc (.cells #[.int .u8 x] 5)).heap.size = wr.heap.size + 1 := by simp
    have hle := g2.size
    refine ⟨rfl, g1, ?_, ?_, ?_, by omega⟩
    · rw [g2.block _ (by omega) (by simp; omega), hB.block _ (by omega)]; exact h2
    · rw [g2.block _ (by omega) (by simp), hB.block _ (by omega)]; exact h3
    · refine (h4.trans (hB.mono (by omega))).trans ⟨g2.os, g2.tape, g2.output, g2.size, fun k hk => g2.block k (by omega) (by simp; omega)⟩
set_option maxHeartbeats 4000000 in
set_option maxRecDepth 100000 in
theorem T.Sum (H : Nat) (all : List Int) (w : World) (h : Hashes w H all) (hk : Tabs w) (hlen : all.length ≤ 1152921504606846976) : Calls Tryd.prog 20 #[.pointer (some ⟨H, 0, none⟩)] w fun e w' => e = .returned (.agg (T.bs (digestL all))) ∧ Below w.heap.size w w' := by
  have HS := Aside.mk h
  have HK := Aside.mk hk
  have HL := Aside.mk hlen
  have HZ := Aside.mk (show zerosN all.length ≤ 64 from by unfold zerosN; omega)
  clear h hk hlen
  have hz : ∀ W, (zeroValue 24).run Tryd.prog W = .ok (.agg T.z16) W := fun W => by
    have hi : (Tryd.prog.info? 24).map (·.zero) = some (some (.agg T.z16)) := by kernel_rfl
    obtain ⟨i, h1, h2⟩ := Option.map_eq_some_iff.1 hi
    simp [zeroValue, typeInfo, h1, h2]
  have hw1 : IntKind.u64.wrap (all.length : Int) = (all.length : Int) := by have := HL.out; simp [IntKind.wrap, IntKind.bits, IntKind.signed]; omega
  obtain ⟨sz, hsz⟩ : ∃ sz, sz = 8 * (all.length : Int) := ⟨_, rfl⟩
  have hw2 : IntKind.u64.wrap ((all.length : Int) * 8) = sz := by have := HL.out; simp [IntKind.wrap, IntKind.bits, IntKind.signed]; omega
  have HSZ := Aside.mk hsz
  have HSZ0 := Aside.mk (show 0 ≤ sz from by omega)
  clear hsz
  have hm0 := HS.out.made
  have h0 : ((w.alloc (.cells T.z16 24)).alloc (.cells T.z16 24)).cell? ⟨H, 0, none⟩ = some (.bool true) := ((((Below.refl w.heap.size w).alloc (Nat.le_refl _) (.cells T.z16 24)).alloc (by simp) (.cells T.z16 24)).cell (p := ⟨H, 0, none⟩) (block_lt_of_cell hm0)).trans hm0
  clear hm0
  obtain ⟨bl, h1, h2, h3⟩ := HS.out
  have H1 := Aside.mk h1
  have H2 := Aside.mk h2
  have H3 := Aside.mk h3
  have hszc := Aside.mk (show (T.cells true (foldW h0L all) bl all.length).size = 70 from by simp [T.cells, h1, foldW_h0_length])
  have hi49 : Aside ((Tryd.prog.info? 49).map (·.size) = some 70) := ⟨by kernel_rfl⟩
  have hz49 : ∀ W, (zeroValue 49).run Tryd.prog W = .ok (.agg T.c0) W := fun W => by
    have hi : (Tryd.prog.info? 49).map (·.zero) = some (some (.agg T.c0)) := by kernel_rfl
    obtain ⟨i, h1, h2⟩ := Option.map_eq_some_iff.1 hi
    simp [zeroValue, typeInfo, h1, h2]
  clear h1 h2 h3
  generalize hcs : T.cells true (foldW h0L all) bl all.length = cs at H2 hszc
  have hone := Aside.mk (show cs.all (·.oneCell') = true from by rw [← hcs]; exact T.cells_one _ _ _ _)
  have HCS := Aside.mk hcs
  clear hcs
  have hHlt : Aside (H < w.heap.size) := ⟨(Array.getElem?_eq_some_iff.1 H2.out).1⟩
  have hH2 : Aside (((w.alloc (.cells T.z16 24)).alloc (.cells T.z16 24)).heap[H]? = some (.cells cs 49 (0, 0))) := ⟨by
    rw [Below.heap_alloc _ _ _ (by have := hHlt.out; simp; omega), Below.heap_alloc _ _ _ hHlt.out]; exact H2.out⟩
  have hI0 : Aside (SumI w all ((((w.alloc (.cells T.z16 24)).alloc (.cells T.z16 24)).alloc (.cells T.c0 49)).setRow (w.heap.size + 1 + 1) cs)) := ⟨by
    refine ⟨⟨bl, H1.out, ?_, H3.out⟩, ?_, ?_, ?_, by simp⟩
    · rw [HCS.out]
      exact setRow_heap _ _ _ _ _ _ (by have := heap_alloc_new ((w.alloc (.cells T.z16 24)).alloc (.cells T.z16 24)) (.cells T.c0 49); simpa using this)
    · rw [setRow_other _ _ _ _ (by omega), Below.heap_alloc _ _ _ (by simp; omega)]
      exact heap_alloc2_old w _ _
    · rw [setRow_other _ _ _ _ (by omega), Below.heap_alloc _ _ _ (by simp)]
      exact heap_alloc2_new w _ _
    · exact Below_setRow ((((Below.refl _ _).alloc (Nat.le_refl _) _).alloc (by simp) _).alloc (by simp; omega) _) (by omega) _⟩
  have c69 := hI0.out.n_cell
  have hW0 := T.Write1 128 hI0.out HK.out (by have := HL.out; omega)
  rw [show ((((w.alloc (.cells T.z16 24)).alloc (.cells T.z16 24)).alloc (.cells T.c0 49)).setRow (w.heap.size + 1 + 1) cs).heap.size = w.heap.size + 1 + 1 + 1 from by simp] at hW0
  have hW0 := Aside.mk hW0
  go_enter Tryd.func20, Tryd.ntmps20
  go_wp2_with (first | (go_at_call 27; refine (T.none_at _ _ _ h0).mono ?_; rintro e w' ⟨rfl, hw⟩; subst w') | (with_reducible refine wpList_load_row rfl 49 (.tmp 13) rfl H rfl 49 cs (0, 0) _ hH2.out Tryd.underlying49 rfl (by rw [hszc.out]; exact hi49.out) ?_) | ((with_reducible refine wpList_store_row rfl 49 (.tmp 4) (.tmp 14) rfl (w.heap.size + 1 + 1) cs rfl rfl 49 T.c0 ?hg ?hi ?hold hone.out ?_); (case hg => exact (by have := heap_alloc_new ((w.alloc (.cells T.z16 24)).alloc (.cells T.z16 24)) (.cells T.c0 49); simpa using this)); (case hi => rw [hszc.out]; exact hi49.out); (case hold => rw [hszc.out]; rfl)) | (go_at_call 15; refine hW0.out.mono ?_; rintro e w2 ⟨rfl, hc2⟩; have hc2' := Aside.mk hc2; clear hc2))
  clear c69 hw1 hw2
  go_loopg [] (zerosN all.length) (fun kq wr => sum1 w all kq wr)
  case atStart => exact ⟨0, by omega, ⟨by simpa using hc2'.out⟩⟩
  case round =>
    clear hc2' hW0 hI0 hH2 hone hszc H2 HCS hi49 hz49 h0
    obtain ⟨k, hkq, hI⟩ := hrel
    have c69 := hI.out.n_cell
    obtain ⟨m, hm⟩ : ∃ m, m = (all ++ [128] ++ List.replicate k 0).length := ⟨_, rfl⟩
    rw [← hm] at c69
    have hm' : m = all.length + 1 + k := by rw [hm]; simp; omega
    obtain ⟨q, hq⟩ : ∃ q, q = m % 64 := ⟨_, rfl⟩
    have ht : (m : Int).tmod 64 = (q : Int) := by rw [Int.tmod_eq_emod_of_nonneg (by omega)]; omega
    have HKQ := Aside.mk hkq
    have hz64 := Aside.mk (show (all.length + 1 + k) % 64 = 56 ↔ gk = 0 from by unfold zerosN at hkq; omega)
    have hlm := Aside.mk (show m + 1 ≤ 4611686018427387904 from by have := HL.out; have := HZ.out; omega)
    have HM := Aside.mk hm
    have HM' := Aside.mk hm'
    have HQ := Aside.mk hq
    clear hm hm' hq hkq
    by_cases hg : gk = 0
    · have hq56 : ((q : Int) == 56) = true := by have := hz64.out.2 hg; have := HQ.out; have := HM'.out; simp; omega
      have hq56' : ((q : Int) != 56) = false := by have := hz64.out.2 hg; have := HQ.out; have := HM'.out; simp; omega
      have hI2 := Aside.mk (show SumI w (all ++ [128] ++ List.replicate (zerosN all.length) 0 ++ sizeB (8 * all.length) 0) wr from by
        have h1 := HKQ.out; rw [hg, Nat.add_zero] at h1; rw [← h1]; simpa [sizeB] using hI.out)
      clear hg
      go_wp2
      go_loopg [6] 8 (fun kq v6 wr => sum2 w all kq v6 wr)
      case atStart => exact ⟨0, 0, rfl, rfl, ⟨by omega⟩, hI2⟩
      case round =>
        clear c69 ht hq56 hq56' hI hI2 hlm HM HM' HQ HKQ hz64
        obtain ⟨i, kv, hi, rfl, hkv, hI⟩ := hrel
        have HI8 := Aside.mk hi
        clear hi
        by_cases hpos : kv < 64
        · obtain ⟨e, rfl⟩ : ∃ e : Nat, kv = (e : Int) := ⟨kv.toNat, by have := hkv.out; omega⟩
          have he64 : e < 64 := by have := hkv.out; omega
          have hwk : IntKind.i64.wrap ((e : Int) + 8) = (e : Int) + 8 := by have := hkv.out; simp [IntKind.wrap, IntKind.bits, IntKind.signed]; omega
          go_wp2_with (go_at_call 15; refine (T.Write1 (sz / 2 ^ e % 256) hI.out HK.out (by have := HL.out; have := HZ.out; have := HI8.out; simp [sizeB]; omega)).mono ?_; rintro e2 w2 ⟨rfl, hc2⟩; have hc2' := Aside.mk hc2; clear hc2)
          go_roundg (gk - 1)
          case measure => have := HI8.out; have := hkv.out; omega
          case rel =>
            refine ⟨i + 1, _, by have := HI8.out; have := hkv.out; omega, rfl, ⟨by have := hkv.out; omega⟩, ⟨?_⟩⟩
            have he : e = 8 * i := by have := hkv.out; omega
            rw [sizeB_succ, ← List.append_assoc, ← he]
            have h2 := hc2'.out
            rw [HSZ.out] at h2
            exact h2
        · have hi8 : i = 8 := by have := hkv.out; have := HI8.out; omega
          subst hi8
          obtain ⟨ws, hws⟩ : ∃ ws, ws = foldW h0L (padL all) := ⟨_, rfl⟩
          have hwl := Aside.mk (show ws.length = 4 from by rw [hws]; exact foldW_h0_length _)
          have hrg := Aside.mk (show wr.rangeAt (w.heap.size + 1 + 1) 1 (ws.map (.int .u32)) from by
            obtain ⟨⟨bl, _, h2, _⟩, _⟩ := hI.out
            rw [hws]
            exact T.words_range h2)
          have hi46 : Aside ((Tryd.prog.info? 46).map (·.size) = some (ws.map (Value.int .u32)).length) := ⟨by rw [List.length_map, hwl.out]; kernel_rfl⟩
          have HWS := Aside.mk hws
          clear hws
          go_wp2_with (with_reducible refine wpList_load_mid rfl 46 (.tmp 37) rfl (w.heap.size + 1 + 1) 1 rfl (ws.map (Value.int .u32)) _ hrg.out Tryd.underlying46 rfl hi46.out ?_)
          go_loopg [39] 4 (fun kq v39 wr => sum3 w ws kq v39 wr)
          case atStart => exact ⟨0, rfl, rfl, ⟨hI.out.2.1⟩, ⟨hI.out.2.2.1⟩, ⟨hI.out.2.2.2.1⟩⟩
          case round =>
            clear hI hrg hi46 hkv HI8 hpos
            obtain ⟨i, hi, rfl, hb0, hb1, hB⟩ := hrel
            have HI8 := Aside.mk hi
            by_cases hlt : i < 4
            · have hix := idx4 ws hwl.out i hlt
              obtain ⟨x, hx⟩ : ∃ x, x = ws.getD i 0 := ⟨_, rfl⟩
              rw [← hx] at hix
              unfold T.ws at hix
              have HX := Aside.mk hx
              clear hx hi
              have hol := outN_len ws i (by omega) hwl.out
              have c0 := T.bs_cell hb1.out (4 * i) (by omega)
              have c1 := T.bs_cell hb1.out (4 * i + 1) (by omega)
              have c2 := T.bs_cell hb1.out (4 * i + 2) (by omega)
              have c3 := T.bs_cell hb1.out (4 * i + 3) (by omega)
              generalize (outN ws i).getD (4 * i) 0 = y0 at c0
              generalize (outN ws i).getD (4 * i + 1) 0 = y1 at c1
              generalize (outN ws i).getD (4 * i + 2) 0 = y2 at c2
              generalize (outN ws i).getD (4 * i + 3) 0 = y3 at c3
              have g0 := frozen_of_row wr (w.heap.size + 1) (4 * i) _ _ hb1.out
              have g1 := frozen_of_row wr (w.heap.size + 1) (4 * i + 1) _ _ hb1.out
              have g2 := frozen_of_row wr (w.heap.size + 1) (4 * i + 2) _ _ hb1.out
              have g3 := frozen_of_row wr (w.heap.size + 1) (4 * i + 3) _ _ hb1.out
              have t0 : (4 * (i : Int)).toNat = 4 * i := by omega
              have t1 : (4 * (i : Int) + 1).toNat = 4 * i + 1 := by omega
              have t2 : (4 * (i : Int) + 2).toNat = 4 * i + 2 := by omega
              have t3 : (4 * (i : Int) + 3).toNat = 4 * i + 3 := by omega
              have HOL := Aside.mk hol
              have hlt' := Aside.mk hlt
              clear hol
              go_wp2
              go_roundg (gk - 1)
              case measure => have := HI8.out; omega
              case rel =>
                refine ⟨i + 1, by have := HI8.out; omega, by go_num, ⟨?_⟩, ⟨?_⟩, ⟨?_⟩⟩
                · rw [Below.heap_setCell _ _ _ _ (by simp), Below.heap_setCell _ _ _ _ (by simp), Below.heap_setCell _ _ _ _ (by simp), Below.heap_setCell _ _ _ _ (by simp)]
                  exact hb0.out
                · rw [← outN_set ws i hlt'.out hwl.out x HX.out.symm]
                  exact T.bs_set (T.bs_set (T.bs_set (T.bs_set hb1.out _ _) _ _) _ _) _ _
                · exact (((hB.out.setCell (by simp) _).setCell (by simp) _).setCell (by simp) _).setCell (by simp) _
            · have hi4 : i = 4 := by omega
              subst hi4
              have hfin : outN ws 4 = digestL all := by
                unfold outN digestL
                rw [List.take_of_length_le (by rw [hwl.out]; omega), HWS.out]; simp
              rw [hfin] at hb1
              have hdl := Aside.mk (show (T.bs (digestL all)).size = 16 from by
                rw [← hfin]; simp only [T.bs, List.size_toArray, List.length_map]; exact outN_len ws 4 (by omega) hwl.out)
              have hi24 : Aside ((Tryd.prog.info? 24).map (·.size) = some 16) := ⟨by kernel_rfl⟩
              clear hi hlt hfin
              go_wp2_with (first | (with_reducible refine wpList_load_row rfl 24 (.tmp 3) rfl (w.heap.size + 1) rfl 24 (T.bs (digestL all)) (0, 0) _ hb1.out Tryd.underlying24 rfl (by rw [hdl.out]; exact hi24.out) ?_) | ((with_reducible refine wpList_store_row rfl 24 (.tmp 2) (.tmp 70) rfl w.heap.size (T.bs (digestL all)) rfl rfl 24 T.z16 ?hg ?hi ?hold (T.bs_one _) ?_); (case hg => exact hb0.out); (case hi => rw [hdl.out]; exact hi24.out); (case hold => rw [hdl.out]; rfl)))
              exact bodyPost_ret (results_cell_row rfl _ _ w.heap.size 24 (T.bs (digestL all)) (0, 0) _ rfl (setRow_heap _ _ _ _ _ _ hb0.out) Tryd.underlying24 rfl (by rw [hdl.out]; exact hi24.out)) rfl ⟨rfl, Below_setRow hB.out (Nat.le_refl _) _⟩
    · have hq56 : ((q : Int) == 56) = false := by have := mt hz64.out.1 hg; have := HQ.out; have := HM'.out; simp; omega
      have hq56' : ((q : Int) != 56) = true := by have := mt hz64.out.1 hg; have := HQ.out; have := HM'.out; simp; omega
      have hg' := Aside.mk hg
      clear hg
      go_wp2_with (go_at_call 15; refine (T.Write1 0 hI.out HK.out (by rw [← HM.out]; exact hlm.out)).mono ?_; rintro e w2 ⟨rfl, hc2⟩; have hc2' := Aside.mk hc2; clear hc2)
      go_roundg (gk - 1)
      case measure => have := hg'.out; omega
      case rel => exact ⟨k + 1, by have := HKQ.out; have := hg'.out; omega, ⟨by rw [List.replicate_succ', ← List.append_assoc]; exact hc2'.out⟩⟩
end Go.Proofs.YticpbhpehoolfaaDoor

/- The iterator basic.pieces at three bytes a piece. Conditions: those of each theorem. -/
import Derived.Test.YtgopfelmhlgglaaEnc1
import Derived.Test.YtgopfelmhlgglaaWWords
namespace Go.Proofs.YtgopfelmhlgglaaEnc
open Go.Shelf Go.RowKit Go.Proofs.YtgopfelmhlgglaaW.PrintWords
set_option linter.unusedVariables false
attribute [local go_sem] Oper.semAt_some
set_option maxHeartbeats 1000000 in
theorem pieces_in (F : Fence) (n : Nat) (h27 : F.fn 27) (hro : F.round = none) (A : Option Addr) (len cap : Nat) (w : World) :
    CallsIn F n Try.prog 27 #[.slice A len cap, .int .i64 3] w fun e w' => e = .returned (.func (.func 37) #[] #[.pointer (some ⟨w.heap.size, 0, none⟩), .pointer (some ⟨w.heap.size + 1, 0, none⟩)]) ∧ w' = (w.alloc (.cells #[.slice A len cap] 22)).alloc (.cells #[.int .i64 3] 3) := by
  refine callsIn_of_wp Try.func27 rfl h27 ?_ hro
  simp only [Try.ntmps27, List.size_toArray, List.length_cons, List.length_nil, Nat.reduceAdd, Nat.reduceSub, Array.replicate_succ, Array.replicate_zero, List.push_toArray, List.append_toArray, List.nil_append, List.cons_append]
  gi_wp2
  go_ret
  exact ⟨by simp, rfl⟩
/-- A piece: one to three bytes that lay in memory at the start. -/
abbrev Piece (w0 : World) : Type := { x : Option Addr × List Int // Kd.C (Kd.int .u8) w0 x.1 x.2.length x.2 ∧ 1 ≤ x.2.length ∧ x.2.length ≤ 3 ∧ ∀ y ∈ x.2, 0 ≤ y ∧ y < 256 }
abbrev encP (w0 : World) (x : Piece w0) : Array Value := #[.slice x.1.1 x.1.2.length x.1.2.length]
/-- The pieces of a list of bytes. -/
def chunks (l : List Int) : List (List Int) := if h : l = [] then [] else l.take 3 :: chunks (l.drop 3)
termination_by l.length
decreasing_by
  have : 0 < l.length := List.length_pos_iff.2 h
  simp; omega
/-- What a round keeps. -/
def KeepE (n0 Bb Bn : Nat) (W W' : World) : Prop := Below n0 W W' ∧ W'.heap[Bb]? = W.heap[Bb]? ∧ W'.heap[Bn]? = W.heap[Bn]?
def lenE : Option Value → Nat
  | some (.slice _ len _) => len
  | _ => 0
def leftE (Bb : Nat) (W : World) : Nat := lenE (W.cell? ⟨Bb, 0, none⟩)
theorem chunks_cons {l : List Int} (h : l ≠ []) : chunks l = l.take 3 :: chunks (l.drop 3) := by rw [chunks, dif_neg h]
theorem C_dropB {w : World} {A : Option Addr} {xs : List Int} {m c : Nat} (h : Kd.C (Kd.int .u8) w A xs.length xs) (hm : m ≤ xs.length) (hc : xs.length ≤ c) : Kd.C (Kd.int .u8) w (if c = m then A else A.map (·.add m)) (xs.drop m).length (xs.drop m) := by
  have h1 := Kd.C_drop h hm hc
  rwa [show (Kd.int .u8).sz = 1 from rfl, Nat.mul_one] at h1
theorem box_set {W : World} {b : Nat} {u : Value} {T : Nat} (h : W.heap[b]? = some (.cells #[u] T (0, 0))) (v : Value) : (W.setCell ⟨b, 0, none⟩ v).heap[b]? = some (.cells #[v] T (0, 0)) := by
  simp [World.setCell, Array.getElem?_modify, h]
theorem box_other {W : World} {b c : Nat} (h : b ≠ c) {v : Value} : (W.setCell ⟨b, 0, none⟩ v).heap[c]? = W.heap[c]? := Below.heap_setCell _ _ _ _ (fun e => h e.symm)
theorem cell_of_box {W : World} {b : Nat} {u : Value} {T : Nat} (h : W.heap[b]? = some (.cells #[u] T (0, 0))) : W.cell? ⟨b, 0, none⟩ = some u := by rw [Lib.cell_of_heap h]; rfl
set_option maxRecDepth 100000 in
set_option maxHeartbeats 2000000 in
theorem step_in (F : Fence) (n : Nat) (h37 : F.fn 37) (hro : F.round = none) (hn : 1 ≤ n) (Bb Bn : Nat) (w0 w : World) (A0 : Option Addr) (c0 : Nat) (l0 : List Int) (hC : Kd.C (Kd.int .u8) w0 A0 l0.length l0) (hc : l0.length ≤ c0) (hby : ∀ y ∈ l0, 0 ≤ y ∧ y < 256) (hBb : Bb < w.heap.size) (hBn : Bn < w.heap.size) (hne : Bb ≠ Bn)
    (hb : w.heap[Bb]? = some (.cells #[.slice A0 l0.length c0] 22 (0, 0))) (hn' : w.heap[Bn]? = some (.cells #[.int .i64 3] 3 (0, 0))) :
    SeqSet F n Try.prog 37 #[.pointer (some ⟨Bb, 0, none⟩), .pointer (some ⟨Bn, 0, none⟩)] (encP w0) (KeepE w0.heap.size Bb Bn) (fun xs => xs.map (·.1.2) = chunks l0) l0.length w Bb := by
  intro l J W hW hJs hY h0
  have hb1 := (hW.block Bb hBb).trans hb
  have hn1 := (hW.block Bn hBn).trans hn'
  refine callsIn_of_wp Try.func37 rfl h37 ?_ hro
  simp only [Try.ntmps37, List.size_toArray, List.length_cons, List.length_nil, Nat.reduceAdd, Nat.reduceSub, Array.replicate_succ, Array.replicate_zero, List.push_toArray, List.append_toArray, List.nil_append, List.cons_append]
  gi_wp2
  gi_loopw [4] (fun _ wr => ∃ (pre : List (Piece w0)) (rest : List Int) (A : Option Addr) (c : Nat), Aside0 (wr.heap[Bb]? = some (.cells #[.slice A rest.length c] 22 (0, 0))) ∧ Aside0 (wr.heap[Bn]? = some (.cells #[.int .i64 3] 3 (0, 0))) ∧ Aside0 (Kd.C (Kd.int .u8) w0 A rest.length rest) ∧ rest.length ≤ c ∧ Aside0 (pre.map (·.1.2) ++ chunks rest = chunks l0) ∧ Aside0 (pre.length + rest.length ≤ l0.length) ∧ Aside0 (∀ y ∈ rest, 0 ≤ y ∧ y < 256) ∧ J pre wr) (fun _ wr => leftE Bb wr)
  case atStart => exact ⟨[], l0, A0, c0, ⟨hb1⟩, ⟨hn1⟩, ⟨hC⟩, hc, ⟨rfl⟩, ⟨by simp⟩, ⟨hby⟩, h0⟩
  case round =>
    obtain ⟨pre, rest, A, c, hb, hn, hC, hcap, hS, hlen, hyy, hJ⟩ := hrel
    have cb : wr.cell? ⟨Bb, 0, none⟩ = some (.slice A rest.length c) := by rw [Lib.cell_of_heap hb.out]; rfl
    have cn : wr.cell? ⟨Bn, 0, none⟩ = some (.int .i64 3) := by rw [Lib.cell_of_heap hn.out]; rfl
    have fb : wr.frozen? ⟨Bb, 0, none⟩ = false := Lib.frozen_of_heap hb.out 0
    by_cases hz : rest.length = 0
    · obtain rfl := List.eq_nil_of_length_eq_zero hz
      simp only [List.length_nil] at *
      gi_wp2
      go_end0
      exact ⟨⟨_, rfl⟩, pre, by have := hS.out; rwa [chunks, dif_pos rfl, List.append_nil] at this, hJ⟩
    · have hpos : 0 < rest.length := by omega
      have hnil : rest ≠ [] := fun h => by rw [h] at hpos; simp at hpos
      by_cases h3 : rest.length ≤ 3
      · have hm : min 3 (rest.length : Int) = rest.length := by omega
        obtain ⟨fn, tmps, assign, body, hy, hR⟩ := hY pre (⟨(A, rest), hC.out, hpos, h3, hyy.out⟩ : Piece w0) wr hJ (by have := hlen.out; omega)
        have hS' := Aside0.mk (show (pre ++ [(⟨(A, rest), hC.out, hpos, h3, hyy.out⟩ : Piece w0)]).map (·.1.2) ++ chunks (rest.drop rest.length) = chunks l0 from by
          have h := hS.out
          rw [chunks_cons hnil] at h
          rw [List.take_of_length_le h3, List.drop_eq_nil_of_le h3] at h
          rw [List.drop_length]; simpa using h)
        have hlen' := Aside0.mk (show (pre ++ [(⟨(A, rest), hC.out, hpos, h3, hyy.out⟩ : Piece w0)]).length + (rest.drop rest.length).length ≤ l0.length from by have := hlen.out; simp; omega)
        have hD := Aside0.mk (C_dropB (m := rest.length) hC.out (by omega) hcap)
        clear hS hlen
        gi_wp2
        refine hR.mono ?_
        rintro e W3 ⟨rfl, hJ3, hk3⟩
        have hb3 := Aside0.mk (hk3.2.1.trans hb.out)
        have hn3 := Aside0.mk (hk3.2.2.trans hn.out)
        have cb3 : W3.cell? ⟨Bb, 0, none⟩ = some (.slice A rest.length c) := by rw [Lib.cell_of_heap hb3.out]; rfl
        have fb3 : W3.frozen? ⟨Bb, 0, none⟩ = false := Lib.frozen_of_heap hb3.out 0
        gi_wp2
        refine ⟨⟨pre ++ [(⟨(A, rest), hC.out, hpos, h3, hyy.out⟩ : Piece w0)], rest.drop rest.length, _, c - rest.length, ⟨?_⟩, ⟨?_⟩, hD, by simp, hS', hlen', ⟨fun y hy => hyy.out y (List.mem_of_mem_drop hy)⟩, hJs _ _ _ hJ3⟩, ?_⟩
        · rw [show (rest.drop rest.length).length = 0 from by simp]
          exact box_set hb3.out _
        · rw [box_other hne]; exact hn3.out
        · rw [leftE, leftE, cb, cell_of_box (box_set hb3.out _)]
          simp only [lenE]; omega
      · have hm : min 3 (rest.length : Int) = 3 := by omega
        have h4 : (rest.take 3).length = 3 := by rw [List.length_take]; omega
        obtain ⟨fn, tmps, assign, body, hy, hR⟩ := hY pre (⟨(A, rest.take 3), Kd.C_take hC.out (by omega), by show 1 ≤ (rest.take 3).length; omega, by show (rest.take 3).length ≤ 3; omega, fun y hy => hyy.out y (List.mem_of_mem_take hy)⟩ : Piece w0) wr hJ (by have := hlen.out; omega)
        have hS' := Aside0.mk (show (pre ++ [(⟨(A, rest.take 3), Kd.C_take hC.out (by omega), by show 1 ≤ (rest.take 3).length; omega, by show (rest.take 3).length ≤ 3; omega, fun y hy => hyy.out y (List.mem_of_mem_take hy)⟩ : Piece w0)]).map (·.1.2) ++ chunks (rest.drop 3) = chunks l0 from by
          have h := hS.out
          rw [chunks_cons hnil] at h
          simpa using h)
        have hlen' := Aside0.mk (show (pre ++ [(⟨(A, rest.take 3), Kd.C_take hC.out (by omega), by show 1 ≤ (rest.take 3).length; omega, by show (rest.take 3).length ≤ 3; omega, fun y hy => hyy.out y (List.mem_of_mem_take hy)⟩ : Piece w0)]).length + (rest.drop 3).length ≤ l0.length from by have := hlen.out; simp; omega)
        have hD := Aside0.mk (show Kd.C (Kd.int .u8) w0 (A.map fun x => ⟨x.block, x.off + 3, none⟩) (rest.drop 3).length (rest.drop 3) from by have h := C_dropB (m := 3) hC.out (by omega) hcap; rw [if_neg (by omega)] at h; exact h)
        clear hS hlen
        simp only [encP, h4] at hy
        gi_wp2
        refine hR.mono ?_
        rintro e W3 ⟨rfl, hJ3, hk3⟩
        have hb3 := Aside0.mk (hk3.2.1.trans hb.out)
        have hn3 := Aside0.mk (hk3.2.2.trans hn.out)
        have cb3 : W3.cell? ⟨Bb, 0, none⟩ = some (.slice A rest.length c) := by rw [Lib.cell_of_heap hb3.out]; rfl
        have fb3 : W3.frozen? ⟨Bb, 0, none⟩ = false := Lib.frozen_of_heap hb3.out 0
        gi_wp2
        refine ⟨⟨pre ++ [(⟨(A, rest.take 3), Kd.C_take hC.out (by omega), by show 1 ≤ (rest.take 3).length; omega, by show (rest.take 3).length ≤ 3; omega, fun y hy => hyy.out y (List.mem_of_mem_take hy)⟩ : Piece w0)], rest.drop 3, _, c - 3, ⟨?_⟩, ⟨?_⟩, hD, by simp; omega, hS', hlen', ⟨fun y hy => hyy.out y (List.mem_of_mem_drop hy)⟩, hJs _ _ _ hJ3⟩, ?_⟩
        · rw [show (rest.drop 3).length = rest.length - 3 from by simp]
          exact box_set hb3.out _
        · rw [box_other hne]; exact hn3.out
        · rw [leftE, leftE, cb, cell_of_box (box_set hb3.out _)]
          simp only [lenE]; omega
end Go.Proofs.YtgopfelmhlgglaaEnc

/- Contracts of Go functions that the statement reaches: each call answers as a plain Lean function does. Conditions: those of each theorem. Written by the session's own program wip/tools/xprint.py. -/
import Derived.Test.YtgopfelmhlgglaaPAx0
namespace Go.Proofs.Ytgopfelmhlgglaa.PA
open Go.RowKit Go.Proofs.YtgopfelmhlgglaaW.PrintWords Go.Proofs.YtgopfelmhlgglaaW.PrintLast Go.Proofs.YtgopfelmhlgglaaW.PrintMore
attribute [local go_sem] max2_int min2_int max_two min_two max_three min_three max_four min_four   -- for this text's walks alone
set_option linter.unusedVariables false
set_option linter.unusedSimpArgs false

/-! ### basic_Itoa: function 17 -/
/-- The digits of n ahead of what stands there. -/
def decD (n : Nat) (acc : List Int) : List Int := if n < 10 then ((48 + n : Nat) : Int) :: acc else decD (n / 10) (((48 + n % 10 : Nat) : Int) :: acc)
termination_by n
decreasing_by omega
def bufC (p : Nat) (ds : List Int) : Array Value := ((List.replicate p 0 ++ ds).map (Value.int .u8)).toArray
theorem bufC_cell {p : Nat} {ds : List Int} (hp : 1 ≤ p) : (bufC p ds)[p - 1]? = some (.int .u8 0) := by
  unfold bufC
  simp only [List.getElem?_toArray, List.getElem?_map]
  rw [List.getElem?_append_left (by simp; omega), List.getElem?_replicate, if_pos (by omega)]
  rfl
theorem bufC_set {p : Nat} {ds : List Int} (hp : 1 ≤ p) (d : Int) : (bufC p ds).setIfInBounds (p - 1) (.int .u8 d) = bufC (p - 1) (d :: ds) := by
  unfold bufC
  rw [List.setIfInBounds_toArray]
  congr 1
  obtain ⟨q, rfl⟩ : ∃ q, p = q + 1 := ⟨p - 1, by omega⟩
  rw [Nat.add_sub_cancel, ← List.map_set, List.replicate_succ', List.append_assoc]
  rw [List.set_append_right _ _ (by simp)]
  simp
/-- Bytes of an array in memory, from some place on, as a text. -/
theorem conv_from {P : Program} {W : World} {H t : Nat} {p : Nat} {ds : List Int} (hb : W.heap[H]? = some (.cells (bufC p ds) t (0, 0))) (src e dst : TypeId) (hs : P.underlying src = some (.slice e)) (he : P.underlying e = some (.int .u8)) (hd : P.underlying dst = some .string) (c : Nat) :
    (convert src dst (.slice (some ⟨H, p, none⟩) ds.length c)).run P W = .ok (.string (strOfNums ds)) W := by
  refine run_convert_bytes_arg W src e hs he H p ds.length c ds rfl (fun i hi => ?_) dst hd
  rw [blk_cell hb]
  unfold bufC
  simp only [List.getElem?_toArray, List.getElem?_map]
  rw [List.getElem?_append_right (by simp)]
  simp [List.getElem?_eq_getElem hi, List.getD_eq_getElem?_getD]
theorem arr_from {P : Program} (t e n : Nat) (ht : P.underlying t = some (.array n e)) (hz : ∀ w, (sizeOf e).run P w = .ok 1 w) (H : Nat) (l : Int) (h0 : 0 ≤ l) (h1 : l < n) :
    ∀ W : World, (Instr.sliceAt t (.pointer (some ⟨H, 0, none⟩)) (some (.int .i64 l)) none none).run P W = .ok (.slice (some ⟨H, l.toNat, none⟩) (n - l.toNat) (n - l.toNat)) W := by
  intro W
  have hn : P.arrayLen t = n := by simp [Program.arrayLen, ht]
  have hel : P.elem t = e := by simp [Program.elem, ht]
  rw [run_sliceAt_array_l W t _ (by rw [hn, hel]; exact ht) .i64 l h0 (by rw [hn]; omega), hel, hz, hn]
  have h2 : n ≠ l.toNat := by omega
  simp only [Result.andThen, slicedAt, if_neg h2, Nat.mul_one]
  rw [show (⟨H, 0, none⟩ : Addr).add l.toNat = ⟨H, l.toNat, none⟩ from by unfold Addr.add; split <;> simp_all]
theorem dec_cons {n : Nat} (h : n < 10) (acc : List Int) : decD n acc = (48 + (n : Int) % 10) :: acc := by rw [decD, if_pos h]; congr 1; omega
theorem dec_step {n : Nat} (h : ¬ n < 10) (acc : List Int) : decD (n / 10) ((48 + (n : Int) % 10) :: acc) = decD n acc := by
  rw [decD.eq_1 n, if_neg h, show ((48 + n % 10 : Nat) : Int) = 48 + (n : Int) % 10 from by omega]
/-- The text of a number. -/
def itoaL (a0 : Int) : List Int := if a0 < 0 then 45 :: decD (-a0).toNat [] else decD a0.toNat []
def itoaRel (w : World) (N : Nat) (kq : Nat) (v4 v5 : Value) (w' : World) : Prop := ∃ (n p : Nat) (ds : List Int), v4 = .int .i64 (p : Int) ∧ v5 = .int .u64 (n : Int) ∧ Aside0 (n < 10 ^ kq) ∧ kq + 1 ≤ p ∧ 1 ≤ kq ∧ Aside0 (p + ds.length = 20) ∧ (n : Int) ≤ 9223372036854775808 ∧ Aside0 (w'.heap[w.heap.size]? = some (.cells (bufC p ds) 56 (0, 0))) ∧ Aside0 (Below w.heap.size w w') ∧ Aside0 (decD n ds = decD N [])
set_option maxHeartbeats 2000000 in
theorem basic_Itoa.pos (a0 : Int) (h0 : 0 ≤ a0) (h1 : a0 ≤ 9223372036854775807) (w : World) :
    Calls Try.prog 17 #[.int .i64 a0] w fun e w' => e = .returned (.string (strOfNums (decD a0.toNat []))) ∧ Below w.heap.size w w' := by
  have hlt0 : decide (a0 < 0) = false := by simp; omega
  go_enter Try.func17, Try.ntmps17
  go_wp2
  go_loopg [4, 5] 19 (fun kq v4 v5 w' => itoaRel w a0.toNat kq v4 v5 w')
  case atStart =>
    refine ⟨a0.toNat, 20, [], by simp, by simp; omega, ⟨by omega⟩, by omega, by omega, ⟨by simp⟩, by omega, ⟨?_⟩, ⟨(Below.refl _ _).alloc (Nat.le_refl _) _⟩, ⟨rfl⟩⟩
    exact heap_alloc_new w _
  case round =>
    obtain ⟨n, p, ds, rfl, rfl, hn, hp, hk1, hl, hn64, hb, HB, hd⟩ := hrel
    have hl20 : p ≤ 20 := by have := hl.out; omega
    have hp1 : 1 ≤ p := by omega
    have hc : wr.cell? ⟨w.heap.size, p - 1, none⟩ = some (.int .u8 0) := by rw [blk_cell hb.out]; exact bufC_cell hp1
    have hf : wr.frozen? ⟨w.heap.size, p - 1, none⟩ = false := blk_frozen hb.out _
    have hb2 := Aside0.mk (show (wr.setCell ⟨w.heap.size, p - 1, none⟩ (.int .u8 (48 + (n : Int) % 10))).heap[w.heap.size]? = some (.cells (bufC (p - 1) ((48 + (n : Int) % 10) :: ds)) 56 (0, 0)) from by rw [← bufC_set hp1]; exact blk_set hb.out _ _)
    have HB2 := Aside0.mk (show Below w.heap.size w (wr.setCell ⟨w.heap.size, p - 1, none⟩ (.int .u8 (48 + (n : Int) % 10))) from HB.out.setCell (p := ⟨w.heap.size, p - 1, none⟩) (Nat.le_refl _) _)
    by_cases hlt : n < 10
    · have hq : ((n : Int) / 10 == 0) = true := by simp; omega
      have hsl := arr_from (P := Try.prog) 56 5 20 Try.underlying56 Try.sizeOf5 w.heap.size ((p : Int) - 1) (by omega) (by omega)
      have hcv := conv_from (P := Try.prog) hb2.out 22 5 9 Try.underlying22 Try.underlying5 Try.underlying9 (20 - (p - 1))
      rw [show ((48 + (n : Int) % 10) :: ds).length = 20 - (p - 1) from by have := hl.out; simp; omega] at hcv
      rw [show ((p : Int) - 1).toNat = p - 1 from by omega] at hsl
      go_wp2
      go_ret
      exact ⟨by rw [← hd.out, dec_cons hlt]; rfl, HB2.out⟩
    · have hq : ((n : Int) / 10 == 0) = false := by simp; omega
      have hk := Aside0.mk (show 2 ≤ gk ∧ n / 10 < 10 ^ (gk - 1) from by
        have h2 := hn.out
        have h3 : gk ≠ 1 := fun h => by rw [h] at h2; omega
        rw [show gk = (gk - 1) + 1 from by omega, Nat.pow_succ] at h2
        exact ⟨by omega, by rw [Nat.div_lt_iff_lt_mul (by decide)]; exact h2⟩)
      go_wp2
      go_roundg (gk - 1)
      case measure => have := hk.out; omega
      case rel => exact ⟨n / 10, p - 1, _, by congr 1; omega, by first | rfl | (congr 1; omega), ⟨hk.out.2⟩, by have := hk.out; omega, by have := hk.out; omega, ⟨by have := hl.out; simp; omega⟩, by omega, hb2, HB2, ⟨by rw [dec_step hlt]; exact hd.out⟩⟩
set_option maxHeartbeats 2000000 in
theorem basic_Itoa.neg (a0 : Int) (h0 : a0 < 0) (h1 : -9223372036854775808 ≤ a0) (w : World) :
    Calls Try.prog 17 #[.int .i64 a0] w fun e w' => e = .returned (.string (strOfNums (45 :: decD (-a0).toNat []))) ∧ Below w.heap.size w w' := by
  have hlt0 : decide (a0 < 0) = true := by simp; omega
  go_enter Try.func17, Try.ntmps17
  go_wp2
  go_loopg [4, 5] 19 (fun kq v4 v5 w' => itoaRel w (-a0).toNat kq v4 v5 w')
  case atStart =>
    refine ⟨(-a0).toNat, 20, [], by simp, by simp [IntKind.wrap, IntKind.bits, IntKind.signed]; omega, ⟨by omega⟩, by omega, by omega, ⟨by simp⟩, by omega, ⟨?_⟩, ⟨(Below.refl _ _).alloc (Nat.le_refl _) _⟩, ⟨rfl⟩⟩
    exact heap_alloc_new w _
  case round =>
    obtain ⟨n, p, ds, rfl, rfl, hn, hp, hk1, hl, hn64, hb, HB, hd⟩ := hrel
    have hl20 : p ≤ 20 := by have := hl.out; omega
    have hp1 : 1 ≤ p := by omega
    have hc : wr.cell? ⟨w.heap.size, p - 1, none⟩ = some (.int .u8 0) := by rw [blk_cell hb.out]; exact bufC_cell hp1
    have hf : wr.frozen? ⟨w.heap.size, p - 1, none⟩ = false := blk_frozen hb.out _
    have hb2 := Aside0.mk (show (wr.setCell ⟨w.heap.size, p - 1, none⟩ (.int .u8 (48 + (n : Int) % 10))).heap[w.heap.size]? = some (.cells (bufC (p - 1) ((48 + (n : Int) % 10) :: ds)) 56 (0, 0)) from by rw [← bufC_set hp1]; exact blk_set hb.out _ _)
    have HB2 := Aside0.mk (show Below w.heap.size w (wr.setCell ⟨w.heap.size, p - 1, none⟩ (.int .u8 (48 + (n : Int) % 10))) from HB.out.setCell (p := ⟨w.heap.size, p - 1, none⟩) (Nat.le_refl _) _)
    have hp2 : 2 ≤ p := by omega
    by_cases hlt : n < 10
    · have hq : ((n : Int) / 10 == 0) = true := by simp; omega
      have hc2 : (wr.setCell ⟨w.heap.size, p - 1, none⟩ (.int .u8 (48 + (n : Int) % 10))).cell? ⟨w.heap.size, p - 1 - 1, none⟩ = some (.int .u8 0) := by rw [blk_cell hb2.out]; exact bufC_cell (by omega)
      have hf2 : (wr.setCell ⟨w.heap.size, p - 1, none⟩ (.int .u8 (48 + (n : Int) % 10))).frozen? ⟨w.heap.size, p - 1 - 1, none⟩ = false := blk_frozen hb2.out _
      have hb3 := Aside0.mk (show ((wr.setCell ⟨w.heap.size, p - 1, none⟩ (.int .u8 (48 + (n : Int) % 10))).setCell ⟨w.heap.size, p - 1 - 1, none⟩ (.int .u8 45)).heap[w.heap.size]? = some (.cells (bufC (p - 1 - 1) (45 :: (48 + (n : Int) % 10) :: ds)) 56 (0, 0)) from by rw [← bufC_set (by omega)]; exact blk_set hb2.out _ _)
      have HB3 := Aside0.mk (show Below w.heap.size w ((wr.setCell ⟨w.heap.size, p - 1, none⟩ (.int .u8 (48 + (n : Int) % 10))).setCell ⟨w.heap.size, p - 1 - 1, none⟩ (.int .u8 45)) from HB2.out.setCell (p := ⟨w.heap.size, p - 1 - 1, none⟩) (Nat.le_refl _) _)
      have hsl := arr_from (P := Try.prog) 56 5 20 Try.underlying56 Try.sizeOf5 w.heap.size ((p : Int) - 1 - 1) (by omega) (by omega)
      have hcv := conv_from (P := Try.prog) hb3.out 22 5 9 Try.underlying22 Try.underlying5 Try.underlying9 (20 - (p - 1 - 1))
      rw [show (45 :: (48 + (n : Int) % 10) :: ds).length = 20 - (p - 1 - 1) from by have := hl.out; simp; omega] at hcv
      rw [show ((p : Int) - 1 - 1).toNat = p - 1 - 1 from by omega] at hsl
      go_wp2
      go_ret
      exact ⟨by rw [← hd.out, dec_cons hlt]; rfl, HB3.out⟩
    · have hq : ((n : Int) / 10 == 0) = false := by simp; omega
      have hk := Aside0.mk (show 2 ≤ gk ∧ n / 10 < 10 ^ (gk - 1) from by
        have h2 := hn.out
        have h3 : gk ≠ 1 := fun h => by rw [h] at h2; omega
        rw [show gk = (gk - 1) + 1 from by omega, Nat.pow_succ] at h2
        exact ⟨by omega, by rw [Nat.div_lt_iff_lt_mul (by decide)]; exact h2⟩)
      go_wp2
      go_roundg (gk - 1)
      case measure => have := hk.out; omega
      case rel => exact ⟨n / 10, p - 1, _, by congr 1; omega, by first | rfl | (congr 1; omega), ⟨hk.out.2⟩, by have := hk.out; omega, by have := hk.out; omega, ⟨by have := hl.out; simp; omega⟩, by omega, hb2, HB2, ⟨by rw [dec_step hlt]; exact hd.out⟩⟩
def basic_Itoa.f (a0 : Int) : Option ByteArray := if -9223372036854775808 ≤ a0 then (if a0 ≤ 9223372036854775807 then some (strOfNums (itoaL a0)) else none) else none
theorem basic_Itoa.calls (a0 : Int) (r : ByteArray) (w : World) (h : basic_Itoa.f a0 = some r) :
    Calls Try.prog 17 #[.int .i64 a0] w fun e w' => e = .returned (.string r) ∧ Below w.heap.size w w' := by
  unfold basic_Itoa.f itoaL at h
  split at h
  case isFalse => exact absurd h (by simp)
  case isTrue h1 =>
  split at h
  case isFalse => exact absurd h (by simp)
  case isTrue h2 =>
  obtain rfl := Option.some.inj h
  split
  · exact basic_Itoa.neg a0 (by omega) h1 w
  · exact basic_Itoa.pos a0 (by omega) h2 w


/-! ### bits_Mul32: function 49 -/
def bits_Mul32.f (a0 : Int) (a1 : Int) : Option (Int × Int) := some (((IntKind.u64.wrap ((IntKind.u64.wrap (a0)) * (IntKind.u64.wrap (a1)))) / 4294967296) % 4294967296, (IntKind.u64.wrap ((IntKind.u64.wrap (a0)) * (IntKind.u64.wrap (a1)))) % 4294967296)
set_option maxHeartbeats 8000000 in
set_option maxRecDepth 100000 in
theorem bits_Mul32.calls (a0 : Int) (a1 : Int) (r1 : Int) (r2 : Int) (w : World) (h : bits_Mul32.f a0 a1 = some (r1, r2)) :
    Calls Try.prog 49 #[.int .u32 a0, .int .u32 a1] w fun e w' => e = .returned (.tuple #[.int .u32 r1, .int .u32 r2]) ∧ Drawn0 w w' := by
  have H : (some (((IntKind.u64.wrap ((IntKind.u64.wrap (a0)) * (IntKind.u64.wrap (a1)))) / 4294967296) % 4294967296, (IntKind.u64.wrap ((IntKind.u64.wrap (a0)) * (IntKind.u64.wrap (a1)))) % 4294967296)) = some (r1, r2) := h
  clear h
  simp only [Option.some.injEq, Prod.mk.injEq] at H
  obtain ⟨rfl, rfl⟩ := H
  go_enter Try.func49, Try.ntmps49
  go_wp2
  go_ret2
  exact ⟨by first | rfl | (simp; done) | (simp [*]; done), by repeat (first | exact Drawn0.refl _ | apply Drawn0.step)⟩

/-! ### bits_Mul64: function 50 -/
def bits_Mul64.f (a0 : Int) (a1 : Int) : Option (Int × Int) := some (IntKind.u64.wrap ((IntKind.u64.wrap ((IntKind.u64.wrap ((a0 / 4294967296) * (a1 / 4294967296))) + ((IntKind.u64.wrap ((IntKind.u64.wrap ((a0 / 4294967296) * (Go.bits .and .u64 a1 4294967295))) + ((IntKind.u64.wrap ((Go.bits .and .u64 a0 4294967295) * (Go.bits .and .u64 a1 4294967295))) / 4294967296))) / 4294967296))) + ((IntKind.u64.wrap ((Go.bits .and .u64 (IntKind.u64.wrap ((IntKind.u64.wrap ((a0 / 4294967296) * (Go.bits .and .u64 a1 4294967295))) + ((IntKind.u64.wrap ((Go.bits .and .u64 a0 4294967295) * (Go.bits .and .u64 a1 4294967295))) / 4294967296))) 4294967295) + (IntKind.u64.wrap ((Go.bits .and .u64 a0 4294967295) * (a1 / 4294967296))))) / 4294967296)), IntKind.u64.wrap (a0 * a1))
set_option maxHeartbeats 8000000 in
set_option maxRecDepth 100000 in
theorem bits_Mul64.calls (a0 : Int) (a1 : Int) (r1 : Int) (r2 : Int) (w : World) (h : bits_Mul64.f a0 a1 = some (r1, r2)) :
    Calls Try.prog 50 #[.int .u64 a0, .int .u64 a1] w fun e w' => e = .returned (.tuple #[.int .u64 r1, .int .u64 r2]) ∧ Drawn0 w w' := by
  have H : (some (IntKind.u64.wrap ((IntKind.u64.wrap ((IntKind.u64.wrap ((a0 / 4294967296) * (a1 / 4294967296))) + ((IntKind.u64.wrap ((IntKind.u64.wrap ((a0 / 4294967296) * (Go.bits .and .u64 a1 4294967295))) + ((IntKind.u64.wrap ((Go.bits .and .u64 a0 4294967295) * (Go.bits .and .u64 a1 4294967295))) / 4294967296))) / 4294967296))) + ((IntKind.u64.wrap ((Go.bits .and .u64 (IntKind.u64.wrap ((IntKind.u64.wrap ((a0 / 4294967296) * (Go.bits .and .u64 a1 4294967295))) + ((IntKind.u64.wrap ((Go.bits .and .u64 a0 4294967295) * (Go.bits .and .u64 a1 4294967295))) / 4294967296))) 4294967295) + (IntKind.u64.wrap ((Go.bits .and .u64 a0 4294967295) * (a1 / 4294967296))))) / 4294967296)), IntKind.u64.wrap (a0 * a1))) = some (r1, r2) := h
  clear h
  simp only [Option.some.injEq, Prod.mk.injEq] at H
  obtain ⟨rfl, rfl⟩ := H
  go_enter Try.func50, Try.ntmps50
  go_wp2
  go_ret2
  exact ⟨by first | rfl | (simp; done) | (simp [*]; done), by repeat (first | exact Drawn0.refl _ | apply Drawn0.step)⟩

/-! ### bits_Mul: function 39 -/
def bits_Mul.f (a0 : Int) (a1 : Int) : Option (Int × Int) := (bits_Mul64.f a0 a1).bind fun bt131 => (some (bt131.1, bt131.2))
set_option maxHeartbeats 8000000 in
set_option maxRecDepth 100000 in
theorem bits_Mul.calls (a0 : Int) (a1 : Int) (r1 : Int) (r2 : Int) (w : World) (h : bits_Mul.f a0 a1 = some (r1, r2)) :
    Calls Try.prog 39 #[.int .u64 a0, .int .u64 a1] w fun e w' => e = .returned (.tuple #[.int .u64 r1, .int .u64 r2]) ∧ Drawn0 w w' := by
  have H : ((bits_Mul64.f a0 a1).bind fun bt131 => (some (bt131.1, bt131.2))) = some (r1, r2) := h
  clear h
  replace H := Option.bind_eq_some_iff.mp H
  obtain ⟨⟨t131, t132⟩, A30, H⟩ := H
  replace H : (some (t131, t132)) = some (r1, r2) := H
  have A3 := Aside0.mk A30
  clear A30
  simp only [Option.some.injEq, Prod.mk.injEq] at H
  obtain ⟨rfl, rfl⟩ := H
  go_enter Try.func39, Try.ntmps39
  go_wp2_with (first | ((with_reducible refine gate_callee (f := 50) rfl ?_); refine goesL_ (some 25) rfl rfl Try.func50 (by kernel_rfl) rfl #[.int .u64 a0, .int .u64 a1] rfl (by (try simp only [List.map_toArray, List.map_cons, List.map_nil]); first | done | rfl | (simp only [List.length_drop, List.length_take]; rfl)) ?_; (with_reducible refine (bits_Mul64.calls a0 a1 t131 t132 _ A3.out).mono ?_); rintro e w' ⟨rfl, ⟨nd, rfl⟩⟩; refine ⟨_, rfl, ?_⟩))
  go_ret2
  exact ⟨by first | rfl | (simp; done) | (simp [*]; done), by repeat (first | exact Drawn0.refl _ | apply Drawn0.step)⟩

/-! ### stringslite_HasPrefix: function 51 -/
def stringslite_HasPrefix.f (a0 : ByteArray) (a1 : ByteArray) : Option (Bool) := if (a0.size : Int) ≥ (a1.size : Int) then (if 0 ≤ (a1.size : Int) then (if (a1.size : Int) ≤ (a0.size : Int) then (some ((a0.extract 0 ((a1.size : Int) : Int).toNat).toList == a1.toList)) else (none)) else (none)) else (some false)
set_option maxHeartbeats 8000000 in
set_option maxRecDepth 100000 in
theorem stringslite_HasPrefix.calls (a0 : ByteArray) (a1 : ByteArray) (r : Bool) (w : World) (h : stringslite_HasPrefix.f a0 a1 = some r) :
    Calls Try.prog 51 #[.string a0, .string a1] w fun e w' => e = .returned (.bool r) ∧ Drawn0 w w' := by
  have H : (if (a0.size : Int) ≥ (a1.size : Int) then (if 0 ≤ (a1.size : Int) then (if (a1.size : Int) ≤ (a0.size : Int) then (some ((a0.extract 0 ((a1.size : Int) : Int).toNat).toList == a1.toList)) else (none)) else (none)) else (some false)) = some r := h
  clear h
  by_cases c3 : (a0.size : Int) ≥ (a1.size : Int)
  · rw [if_pos c3] at H
    have c3b0 : decide ((a1.size : Int) ≤ (a0.size : Int)) = true := decide_eq_true c3
    have c3b1 : decide (a1.size ≤ a0.size) = true := decide_eq_true (Int.ofNat_le.mp c3)
    clear c3
    by_cases c4 : 0 ≤ (a1.size : Int)
    · rw [if_pos c4] at H
      have c4b0 := eq_true c4
      have c4b1 : decide (0 ≤ (a1.size : Int)) = true := decide_eq_true c4
      clear c4
      by_cases c5 : (a1.size : Int) ≤ (a0.size : Int)
      · rw [if_pos c5] at H
        have c5b0 := eq_true c5
        have c5b1 : decide ((a1.size : Int) ≤ (a0.size : Int)) = true := decide_eq_true c5
        clear c5
        obtain rfl := Option.some.inj H
        go_enter Try.func51, Try.ntmps51
        go_wp2
        go_ret
        exact ⟨by first | rfl | (simp; done) | (simp [*]; done), by repeat (first | exact Drawn0.refl _ | apply Drawn0.step)⟩
      · rw [if_neg c5] at H
        exact absurd H (by simp)
    · rw [if_neg c4] at H
      exact absurd H (by simp)
  · rw [if_neg c3] at H
    have c3b0 : decide ((a1.size : Int) ≤ (a0.size : Int)) = false := decide_eq_false c3
    have c3b1 : decide (a1.size ≤ a0.size) = false := decide_eq_false (fun h => c3 (Int.ofNat_le.mpr h))
    clear c3
    obtain rfl := Option.some.inj H
    go_enter Try.func51, Try.ntmps51
    go_wp2
    go_ret
    exact ⟨by first | rfl | (simp; done) | (simp [*]; done), by repeat (first | exact Drawn0.refl _ | apply Drawn0.step)⟩

/-! ### strings_HasPrefix: function 40 -/
def strings_HasPrefix.f (a0 : ByteArray) (a1 : ByteArray) : Option (Bool) := (stringslite_HasPrefix.f a0 a1).bind fun t133 => (some t133)
set_option maxHeartbeats 8000000 in
set_option maxRecDepth 100000 in
theorem strings_HasPrefix.calls (a0 : ByteArray) (a1 : ByteArray) (r : Bool) (w : World) (h : strings_HasPrefix.f a0 a1 = some r) :
    Calls Try.prog 40 #[.string a0, .string a1] w fun e w' => e = .returned (.bool r) ∧ Drawn0 w w' := by
  have H : ((stringslite_HasPrefix.f a0 a1).bind fun t133 => (some t133)) = some r := h
  clear h
  replace H := Option.bind_eq_some_iff.mp H
  obtain ⟨t133, A30, H⟩ := H
  replace H : (some t133) = some r := H
  have A3 := Aside0.mk A30
  clear A30
  obtain rfl := Option.some.inj H
  go_enter Try.func40, Try.ntmps40
  go_wp2_with (first | ((with_reducible refine gate_callee (f := 51) rfl ?_); refine goesL_ (some 7) rfl rfl Try.func51 (by kernel_rfl) rfl #[.string a0, .string a1] rfl (by (try simp only [List.map_toArray, List.map_cons, List.map_nil]); first | done | rfl | (simp only [List.length_drop, List.length_take]; rfl)) ?_; (with_reducible refine (stringslite_HasPrefix.calls a0 a1 t133 _ A3.out).mono ?_); rintro e w' ⟨rfl, ⟨nd, rfl⟩⟩; refine ⟨_, rfl, ?_⟩))
  go_ret
  exact ⟨by first | rfl | (simp; done) | (simp [*]; done), by repeat (first | exact Drawn0.refl _ | apply Drawn0.step)⟩

-- NOT PRINTED: function 54 (bytealg_MakeNoZero)

-- NOT PRINTED: function 52 (strings_Builder_grow)

-- NOT PRINTED: function 41 (strings_Builder_Grow)

-- NOT PRINTED: function 42 (strings_Builder_WriteString)

-- NOT PRINTED: function 43 (strings_Builder_Len)

/-! ### strings_Repeat: function 30 -/
def strings_Repeat.f (a0 : ByteArray) (a1 : Int) : Option ByteArray := if 0 ≤ a1 then (if a1 ≤ 9223372036854775807 then (if a0.size * a1.toNat ≤ 140737488355328 then some ⟨(Lib.repeatL a0.data.toList a1.toNat).toArray⟩ else none) else none) else none
theorem strings_Repeat.calls (a0 : ByteArray) (a1 : Int) (r : ByteArray) (w : World) (h : strings_Repeat.f a0 a1 = some r) :
    Calls Try.prog 30 #[.string a0, .int .i64 a1] w fun e w' => e = .returned (.string r) ∧ Below w.heap.size w w' := by
  unfold strings_Repeat.f at h
  split at h
  case isFalse => exact absurd h (by simp)
  case isTrue h1 =>
  split at h
  case isFalse => exact absurd h (by simp)
  case isTrue h2 =>
  split at h
  case isFalse => exact absurd h (by simp)
  case isTrue h3 =>
  obtain rfl := Option.some.inj h
  obtain ⟨c, rfl⟩ : ∃ c : Nat, a1 = (c : Int) := ⟨a1.toNat, by omega⟩
  exact Go.Proofs.Try.strings_Repeat a0 c w (by omega) h3


/-! ### basic_Pad: function 19 -/
def basic_Pad.f (a0 : Int) (a1 : Int) : Option (ByteArray) := (basic_Itoa.f a0).bind fun t134 => (if a0 < 0 then (some t134) else ((strings_Repeat.f (⟨#[48]⟩ : ByteArray) (mx 0 (wrap64 ((mn (mx a1 1) 100) - (t134.size : Int))))).bind fun t135 => (if t135.size + t134.size ≤ 9223372036854775807 then (some (t135 ++ t134)) else (none))))
set_option maxHeartbeats 8000000 in
set_option maxRecDepth 100000 in
theorem basic_Pad.calls (a0 : Int) (a1 : Int) (r : ByteArray) (w : World) (h : basic_Pad.f a0 a1 = some r) :
    Calls Try.prog 19 #[.int .i64 a0, .int .i64 a1] w fun e w' => e = .returned (.string r) ∧ Below w.heap.size w w' := by
  have HB := Aside0.mk (Below.refl w.heap.size w)
  have H : ((basic_Itoa.f a0).bind fun t134 => (if a0 < 0 then (some t134) else ((strings_Repeat.f (⟨#[48]⟩ : ByteArray) (mx 0 (wrap64 ((mn (mx a1 1) 100) - (t134.size : Int))))).bind fun t135 => (if t135.size + t134.size ≤ 9223372036854775807 then (some (t135 ++ t134)) else (none))))) = some r := h
  clear h
  replace H := Option.bind_eq_some_iff.mp H
  obtain ⟨t134, A30, H⟩ := H
  replace H : (if a0 < 0 then (some t134) else ((strings_Repeat.f (⟨#[48]⟩ : ByteArray) (mx 0 (wrap64 ((mn (mx a1 1) 100) - (t134.size : Int))))).bind fun t135 => (if t135.size + t134.size ≤ 9223372036854775807 then (some (t135 ++ t134)) else (none)))) = some r := H
  have A3 := Aside0.mk A30
  clear A30
  by_cases c4 : a0 < 0
  · rw [if_pos c4] at H
    have c4b0 : decide (a0 < 0) = true := decide_eq_true c4
    clear c4
    obtain rfl := Option.some.inj H
    go_enter Try.func19, Try.ntmps19
    go_wp2_with (first | ((with_reducible refine gate_callee (f := 17) rfl ?_); refine goesL_ (some 7) rfl rfl Try.func17 (by kernel_rfl) rfl #[.int .i64 a0] rfl (by (try simp only [List.map_toArray, List.map_cons, List.map_nil]); first | done | rfl | (simp only [List.length_drop, List.length_take]; rfl)) ?_; (with_reducible refine (basic_Itoa.calls a0 t134 _ A3.out).mono ?_); rintro e w5 ⟨rfl, hb⟩; refine ⟨_, rfl, ?_⟩; have n0_ := Aside0.mk (below_step (by repeat (first | (with_reducible first | exact HB.out | apply below_alloc | apply pw_below_drewN | apply below_drew1) | exact HB.out)) hb); clear HB; have HB := n0_; clear n0_; (try clear hb); (try clear hb2); (try clear hk); (try clear hi)))
    go_ret
    exact ⟨by first | rfl | (simp [errW_none, errW_some] <;> rfl) | (simp [*, errW_none, errW_some] <;> rfl), by repeat (first | (with_reducible first | exact HB.out | apply below_alloc | apply pw_below_drewN | apply below_drew1) | exact HB.out)⟩
  · rw [if_neg c4] at H
    have c4b0 : decide (a0 < 0) = false := decide_eq_false c4
    clear c4
    obtain ⟨ji6, hji6⟩ : ∃ j_ : Int, (mx a1 1) = j_ := ⟨_, rfl⟩
    replace H : ((strings_Repeat.f (⟨#[48]⟩ : ByteArray) (mx 0 (wrap64 ((mn (ji6) 100) - (t134.size : Int))))).bind fun t135 => (if t135.size + t134.size ≤ 9223372036854775807 then (some (t135 ++ t134)) else (none))) = some r := by first | (rw [hji6] at H; exact H) | (simp only [hji6] at H ⊢; exact H)
    (try rw [hji6] at A3)
    (try (have hji6l : 1 ≤ ji6 := by (rw [← hji6]; unfold mx; (repeat' split) <;> omega)))
    (try (have hji6m : 0 ≤ ji6 := by omega))
    have hji6_ : (if a1 < 1 then 1 else a1) = ji6 := hji6
    obtain ⟨ji7, hji7⟩ : ∃ j_ : Int, (mn (ji6) 100) = j_ := ⟨_, rfl⟩
    replace H : ((strings_Repeat.f (⟨#[48]⟩ : ByteArray) (mx 0 (wrap64 ((ji7) - (t134.size : Int))))).bind fun t135 => (if t135.size + t134.size ≤ 9223372036854775807 then (some (t135 ++ t134)) else (none))) = some r := by first | (rw [hji7] at H; exact H) | (simp only [hji7] at H ⊢; exact H)
    (try rw [hji7] at A3)
    have hji7_ : (if 100 < (ji6) then 100 else (ji6)) = ji7 := hji7
    obtain ⟨ji8, hji8⟩ : ∃ j_ : Int, (mx 0 (wrap64 ((ji7) - (t134.size : Int)))) = j_ := ⟨_, rfl⟩
    replace H : ((strings_Repeat.f (⟨#[48]⟩ : ByteArray) (ji8)).bind fun t135 => (if t135.size + t134.size ≤ 9223372036854775807 then (some (t135 ++ t134)) else (none))) = some r := by first | (rw [hji8] at H; exact H) | (simp only [hji8] at H ⊢; exact H)
    (try rw [hji8] at A3)
    have hji8_ : (if 0 < (wrap64 ((ji7) - (t134.size : Int))) then (wrap64 ((ji7) - (t134.size : Int))) else 0) = ji8 := hji8
    replace H := Option.bind_eq_some_iff.mp H
    obtain ⟨t135, A90, H⟩ := H
    replace H : (if t135.size + t134.size ≤ 9223372036854775807 then (some (t135 ++ t134)) else (none)) = some r := H
    have A9 := Aside0.mk A90
    clear A90
    by_cases c10 : t135.size + t134.size ≤ 9223372036854775807
    · rw [if_pos c10] at H
      have c10b0 := eq_true c10
      have c10b1 : decide (t135.size + t134.size ≤ 9223372036854775807) = true := decide_eq_true c10
      have hp1_ : 1 ≤ ji7 ∧ ji7 ≤ 100 := by rw [← hji7]; unfold mn; split <;> omega
      have hp3_ : (if (t134.size : Int) < ji7 then ji7 - (t134.size : Int) else 0) = ji8 := by have z_ := hji8_; rw [show wrap64 (ji7 - (t134.size : Int)) = ji7 - (t134.size : Int) from by unfold wrap64; omega] at z_; rw [← z_]; split <;> split <;> omega
      try have c10b2 : (9223372036854775807 < t135.size + t134.size) = False := eq_false (Nat.not_lt.2 c10)
      obtain rfl := Option.some.inj H
      go_enter Try.func19, Try.ntmps19
      go_wp2_with (first | ((with_reducible refine gate_callee (f := 17) rfl ?_); refine goesL_ (some 7) rfl rfl Try.func17 (by kernel_rfl) rfl #[.int .i64 a0] rfl (by (try simp only [List.map_toArray, List.map_cons, List.map_nil]); first | done | rfl | (simp only [List.length_drop, List.length_take]; rfl)) ?_; (with_reducible refine (basic_Itoa.calls a0 t134 _ A3.out).mono ?_); rintro e w11 ⟨rfl, hb⟩; refine ⟨_, rfl, ?_⟩; have n0_ := Aside0.mk (below_step (by repeat (first | (with_reducible first | exact HB.out | apply below_alloc | apply pw_below_drewN | apply below_drew1) | exact HB.out)) hb); clear HB; have HB := n0_; clear n0_; (try clear hb); (try clear hb2); (try clear hk); (try clear hi)) | ((with_reducible refine gate_callee (f := 30) rfl ?_); refine goesL_ (some 19) rfl rfl Try.func30 (by kernel_rfl) rfl #[.string (⟨#[48]⟩ : ByteArray), .int .i64 ji8] rfl (by (try simp only [List.map_toArray, List.map_cons, List.map_nil]); first | done | (simp only [hji8]; rfl) | rfl | (simp only [List.length_drop, List.length_take]; rfl)) ?_; (with_reducible refine (strings_Repeat.calls (⟨#[48]⟩ : ByteArray) ji8 t135 _ A9.out).mono ?_); rintro e w12 ⟨rfl, hb⟩; refine ⟨_, rfl, ?_⟩; have n0_ := Aside0.mk (below_step (by repeat (first | (with_reducible first | exact HB.out | apply below_alloc | apply pw_below_drewN | apply below_drew1) | exact HB.out)) hb); clear HB; have HB := n0_; clear n0_; (try clear hb); (try clear hb2); (try clear hk); (try clear hi)))
      go_ret
      exact ⟨by first | rfl | (simp [errW_none, errW_some] <;> rfl) | (simp only [← hji6, ← hji7, ← hji8]; first | rfl | (simp [errW_none, errW_some] <;> rfl)) | (simp [*, errW_none, errW_some] <;> rfl), by repeat (first | (with_reducible first | exact HB.out | apply below_alloc | apply pw_below_drewN | apply below_drew1) | exact HB.out)⟩
    · rw [if_neg c10] at H
      exact absurd H (by simp)

/-! ### stringslite_TrimPrefix: function 44 -/
def stringslite_TrimPrefix.f (a0 : ByteArray) (a1 : ByteArray) : Option (ByteArray) := (stringslite_HasPrefix.f a0 a1).bind fun t136 => (if t136 = true then (if 0 ≤ (a1.size : Int) then (if (a1.size : Int) ≤ (a0.size : Int) then (some (a0.extract ((a1.size : Int) : Int).toNat a0.size)) else (none)) else (none)) else (some a0))
set_option maxHeartbeats 8000000 in
set_option maxRecDepth 100000 in
theorem stringslite_TrimPrefix.calls (a0 : ByteArray) (a1 : ByteArray) (r : ByteArray) (w : World) (h : stringslite_TrimPrefix.f a0 a1 = some r) :
    Calls Try.prog 44 #[.string a0, .string a1] w fun e w' => e = .returned (.string r) ∧ Drawn0 w w' := by
  have H : ((stringslite_HasPrefix.f a0 a1).bind fun t136 => (if t136 = true then (if 0 ≤ (a1.size : Int) then (if (a1.size : Int) ≤ (a0.size : Int) then (some (a0.extract ((a1.size : Int) : Int).toNat a0.size)) else (none)) else (none)) else (some a0))) = some r := h
  clear h
  replace H := Option.bind_eq_some_iff.mp H
  obtain ⟨t136, A30, H⟩ := H
  replace H : (if t136 = true then (if 0 ≤ (a1.size : Int) then (if (a1.size : Int) ≤ (a0.size : Int) then (some (a0.extract ((a1.size : Int) : Int).toNat a0.size)) else (none)) else (none)) else (some a0)) = some r := H
  have A3 := Aside0.mk A30
  clear A30
  by_cases c4 : t136 = true
  · subst c4
    have H1 : (if 0 ≤ (a1.size : Int) then (if (a1.size : Int) ≤ (a0.size : Int) then (some (a0.extract ((a1.size : Int) : Int).toNat a0.size)) else (none)) else (none)) = some r := by rw [if_pos rfl] at H; exact H
    clear H
    have H := H1
    clear H1
    by_cases c5 : 0 ≤ (a1.size : Int)
    · rw [if_pos c5] at H
      have c5b0 := eq_true c5
      have c5b1 : decide (0 ≤ (a1.size : Int)) = true := decide_eq_true c5
      clear c5
      by_cases c6 : (a1.size : Int) ≤ (a0.size : Int)
      · rw [if_pos c6] at H
        have c6b0 := eq_true c6
        have c6b1 : decide ((a1.size : Int) ≤ (a0.size : Int)) = true := decide_eq_true c6
        clear c6
        obtain rfl := Option.some.inj H
        go_enter Try.func44, Try.ntmps44
        go_wp2_with (first | ((with_reducible refine gate_callee (f := 51) rfl ?_); refine goesL_ (some 7) rfl rfl Try.func51 (by kernel_rfl) rfl #[.string a0, .string a1] rfl (by (try simp only [List.map_toArray, List.map_cons, List.map_nil]); first | done | rfl | (simp only [List.length_drop, List.length_take]; rfl)) ?_; (with_reducible refine (stringslite_HasPrefix.calls a0 a1 true _ A3.out).mono ?_); rintro e w' ⟨rfl, ⟨nd, rfl⟩⟩; refine ⟨_, rfl, ?_⟩))
        go_ret
        exact ⟨by first | rfl | (simp; done) | (simp [*]; done), by repeat (first | exact Drawn0.refl _ | apply Drawn0.step)⟩
      · rw [if_neg c6] at H
        exact absurd H (by simp)
    · rw [if_neg c5] at H
      exact absurd H (by simp)
  · replace c4 := Bool.eq_false_iff.mpr c4
    subst c4
    have H1 : (some a0) = some r := by rw [if_neg (show ¬ (false = true) by decide)] at H; exact H
    clear H
    have H := H1
    clear H1
    obtain rfl := Option.some.inj H
    go_enter Try.func44, Try.ntmps44
    go_wp2_with (first | ((with_reducible refine gate_callee (f := 51) rfl ?_); refine goesL_ (some 7) rfl rfl Try.func51 (by kernel_rfl) rfl #[.string a0, .string a1] rfl (by (try simp only [List.map_toArray, List.map_cons, List.map_nil]); first | done | rfl | (simp only [List.length_drop, List.length_take]; rfl)) ?_; (with_reducible refine (stringslite_HasPrefix.calls a0 a1 false _ A3.out).mono ?_); rintro e w' ⟨rfl, ⟨nd, rfl⟩⟩; refine ⟨_, rfl, ?_⟩))
    go_ret
    exact ⟨by first | rfl | (simp; done) | (simp [*]; done), by repeat (first | exact Drawn0.refl _ | apply Drawn0.step)⟩

/-! ### strings_TrimPrefix: function 31 -/
def strings_TrimPrefix.f (a0 : ByteArray) (a1 : ByteArray) : Option (ByteArray) := (stringslite_TrimPrefix.f a0 a1).bind fun t137 => (some t137)
set_option maxHeartbeats 8000000 in
set_option maxRecDepth 100000 in
theorem strings_TrimPrefix.calls (a0 : ByteArray) (a1 : ByteArray) (r : ByteArray) (w : World) (h : strings_TrimPrefix.f a0 a1 = some r) :
    Calls Try.prog 31 #[.string a0, .string a1] w fun e w' => e = .returned (.string r) ∧ Drawn0 w w' := by
  have H : ((stringslite_TrimPrefix.f a0 a1).bind fun t137 => (some t137)) = some r := h
  clear h
  replace H := Option.bind_eq_some_iff.mp H
  obtain ⟨t137, A30, H⟩ := H
  replace H : (some t137) = some r := H
  have A3 := Aside0.mk A30
  clear A30
  obtain rfl := Option.some.inj H
  go_enter Try.func31, Try.ntmps31
  go_wp2_with (first | ((with_reducible refine gate_callee (f := 44) rfl ?_); refine goesL_ (some 7) rfl rfl Try.func44 (by kernel_rfl) rfl #[.string a0, .string a1] rfl (by (try simp only [List.map_toArray, List.map_cons, List.map_nil]); first | done | rfl | (simp only [List.length_drop, List.length_take]; rfl)) ?_; (with_reducible refine (stringslite_TrimPrefix.calls a0 a1 t137 _ A3.out).mono ?_); rintro e w' ⟨rfl, ⟨nd, rfl⟩⟩; refine ⟨_, rfl, ?_⟩))
  go_ret
  exact ⟨by first | rfl | (simp; done) | (simp [*]; done), by repeat (first | exact Drawn0.refl _ | apply Drawn0.step)⟩

end Go.Proofs.Ytgopfelmhlgglaa.PA

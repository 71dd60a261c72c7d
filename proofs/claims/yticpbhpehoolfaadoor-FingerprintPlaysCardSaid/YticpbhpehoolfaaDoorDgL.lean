/- What the listed tables give the walks: each of their cells; the witness's heap meets the condition. -/
import Derived.Test.YticpbhpehoolfaaDoorRows
import Derived.Test.YticpbhpehoolfaaDoorFgB
import Derived.ProofKit
import Derived.LaidMore
import Derived.OpenShut
import Derived.Stop.Joined
namespace Go.Proofs.YticpbhpehoolfaaDoor
open Go.ChangeShapes Go.WideShapes Go.ChangeAt Go.WideMaps Go.WideElems Go.RowKit
theorem own : ownKnob Tryd.prog.godebug = none := by kernel_rfl
theorem laidOut : laidOutB Tryd.prog = true := by kernel_rfl
theorem gSines : Tryd.prog.globalNamed "raceway/fingerprint.sines" = some 0 := by kernel_rfl
theorem tSines : (Tryd.prog.globals[0]?).map (·.type) = some 61 := by kernel_rfl
theorem gTurns : Tryd.prog.globalNamed "raceway/fingerprint.turns" = some 1 := by kernel_rfl
theorem tTurns : (Tryd.prog.globals[1]?).map (·.type) = some 63 := by kernel_rfl
abbrev laid1 {H : Type} : List (String × DataW H) := [("raceway/fingerprint.sines", Rows.laid_raceway_fingerprint_sines), ("raceway/fingerprint.turns", Rows.laid_raceway_fingerprint_turns)]
theorem door_met (os : Os) (args : Array Value) : laidMetH Tryd.prog laid1 ((World.doorLaid Tryd.prog 400 os).forCall (fun _ _ => 0) ⟨#[], args, []⟩).memory :=
  laidMetH_of_parts3 (fuel := 8) (laidMet_of_run' 8 (by kernel_rfl) (by kernel_rfl)) (by kernel_rfl) (by kernel_rfl)
/-- The cells of an array of whole numbers that reads as this list. -/
theorem arr_cells {H : Type} {enc : TypeId × Value → H} {W : World} {base : Nat} {spare : Nat → Bool} {held : Bool} {fuel : Nat} {t e n : Nat} {k : IntKind} {cs : List Value} {L : List Int} {p : List MemPlace} (ht : Tryd.prog.underlying t = some (.array n e)) (he : Tryd.prog.underlying e = some (.int k)) (ct : Tryd.prog.cellsOf t = n) (ce : Tryd.prog.cellsOf e = 1)
    (h : DataW.trod enc Tryd.prog W base spare held fuel t cs = some (.agg (L.map fun n => .lit (.int k n)), p)) (hL : L.length = n) : ∀ i, i < n → cs[i]? = some (.int k (L.getD i 0)) := by
  obtain ⟨xs, m1, rfl, hx1, hlen, hn3, hel⟩ := DataW.trod_array ht h
  intro i hi
  have h0 := hel i hi
  rw [ce, Nat.mul_one] at h0
  obtain ⟨k2, e1, e2, _⟩ := DataW.trod_int he (h0.trans (List.getElem?_eq_getElem (by omega)))
  simp only [Prod.mk.injEq, DataW.agg.injEq] at hx1
  have hm := congrArg (fun l => l[i]?) hx1.1
  simp only [List.getElem?_map] at hm
  rw [List.getElem?_eq_getElem (show i < L.length by omega), List.getElem?_eq_getElem (show i < xs.length by omega), e2] at hm
  simp only [Option.map_some, Option.some.injEq, DataW.lit.injEq, Lit.int.injEq, true_and] at hm
  have hl : i < cs.length := by omega
  have h1 : (cs.drop i).take 1 = [cs[i]'hl] := by
    rw [List.drop_eq_getElem_cons hl]
    rfl
  rw [h1] at e1
  rw [List.getElem?_eq_getElem hl, List.getD_eq_getElem?_getD, List.getElem?_eq_getElem (show i < L.length by omega)]
  simp only [List.cons.injEq, and_true] at e1
  rw [e1, ← hm]
  rfl
def turnsR : List (List Int) := [[7, 12, 17, 22], [5, 9, 14, 20], [4, 11, 16, 23], [6, 10, 15, 21]]
theorem turns_get : ∀ i, i < 16 → ((turnsL.getD i 0 : Nat) : Int) = (turnsR.getD (i / 4) []).getD (i % 4) 0 := by decide
theorem K64_of_laid {W : World} (h : laidMetH Tryd.prog laid1 W) : Tabs W := by
  rw [MakeChecks.laidMetH_plain _ _ _ (by kernel_rfl)] at h
  obtain ⟨ps, ⟨g0, t0, cs0, f0, p0, q0, hg0, ht0, hv0, hd0, ⟨g1, t1, cs1, f1, p1, q1, hg1, ht1, hv1, hd1, _⟩, _⟩, _⟩ := h
  obtain rfl := Option.some.inj (gSines.symm.trans hg0)
  obtain rfl := Option.some.inj (tSines.symm.trans ht0)
  obtain rfl := Option.some.inj (gTurns.symm.trans hg1)
  obtain rfl := Option.some.inj (tTurns.symm.trans ht1)
  constructor
  · intro i hi
    have hL : (Rows.laid_raceway_fingerprint_sines : DataW Unit) = .agg (sinesL.map fun n => .lit (.int .u32 n)) := rfl
    rw [hL] at hd0
    have hc := World.var?_cell hg0 hv0 i
    have h1 := arr_cells Tryd.underlying61 Tryd.underlying45 (by kernel_rfl) (by kernel_rfl) hd0 rfl i hi
    rw [hc, ← Array.getElem?_toList, h1]
  · intro i hi
    have hL : (Rows.laid_raceway_fingerprint_turns : DataW Unit) = .agg (turnsR.map fun l => .agg (l.map fun n => .lit (.int .i64 n))) := rfl
    rw [hL] at hd1
    obtain ⟨xs, m1, rfl, hx1, hlen, hn3, hel⟩ := DataW.trod_array Tryd.underlying63 hd1
    have c62 : Tryd.prog.cellsOf 62 = 4 := by kernel_rfl
    have hq : i / 4 < 4 := by omega
    have h0 := hel (i / 4) hq
    rw [c62] at h0
    simp only [Prod.mk.injEq, DataW.agg.injEq] at hx1
    have hm := congrArg (fun l => l[i / 4]?) hx1.1
    simp only [List.getElem?_map] at hm
    have hrl : turnsR.length = 4 := rfl
    rw [List.getElem?_eq_getElem (show i / 4 < turnsR.length by omega), List.getElem?_eq_getElem (show i / 4 < xs.length by omega)] at hm
    simp only [Option.map_some, Option.some.injEq] at hm
    rw [List.getElem?_eq_getElem (show i / 4 < xs.length by omega)] at h0
    have h2 := h0.trans (congrArg some (show (xs[i / 4]'(by omega)) = (DataW.agg ((turnsR[i / 4]'(by omega)).map fun n => .lit (.int .i64 n)), (xs[i / 4]'(by omega)).2) from Prod.ext hm.symm rfl))
    have hr4 : (turnsR[i / 4]'(by omega)).length = 4 := by
      have : ∀ l ∈ turnsR, l.length = 4 := by decide
      exact this _ (List.getElem_mem _)
    have h1 := arr_cells Tryd.underlying62 Tryd.underlying3 (by kernel_rfl) (by kernel_rfl) h2 hr4 (i % 4) (by omega)
    have hc := World.var?_cell hg1 hv1 i
    rw [List.getElem?_take, if_pos (by omega), List.getElem?_drop, show i / 4 * 4 + i % 4 = i from by omega] at h1
    rw [hc, ← Array.getElem?_toList, h1, turns_get i hi, List.getD_eq_getElem?_getD (l := turnsR), List.getElem?_eq_getElem (show i / 4 < turnsR.length by omega)]
    rfl
end Go.Proofs.YticpbhpehoolfaaDoor

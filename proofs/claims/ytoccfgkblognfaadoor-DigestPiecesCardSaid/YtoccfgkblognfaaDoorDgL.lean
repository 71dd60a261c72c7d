/- What the listed table gives the walks: each of its 64 cells; the witness's heap meets the condition. -/
import Derived.Test.YtoccfgkblognfaaDoorRows
import Derived.Test.YtoccfgkblognfaaDoorDgD
import Derived.ProofKit
import Derived.LaidMore
import Derived.OpenShut
import Derived.Stop.Joined
namespace Go.Proofs.YtoccfgkblognfaaDoor
open Go.ChangeShapes Go.WideShapes Go.ChangeAt Go.WideMaps Go.WideElems Go.RowKit
theorem own : ownKnob Tryd.prog.godebug = none := by kernel_rfl
theorem laidOut : laidOutB Tryd.prog = true := by kernel_rfl
theorem gRounds : Tryd.prog.globalNamed "raceway/digest.rounds" = some 0 := by kernel_rfl
theorem tRounds : (Tryd.prog.globals[0]?).map (·.type) = some 52 := by kernel_rfl
abbrev laid1 {H : Type} : List (String × DataW H) := [("raceway/digest.rounds", Rows.laid_raceway_digest_rounds)]
theorem door_met (os : Os) (args : Array Value) : laidMetH Tryd.prog laid1 ((World.doorLaid Tryd.prog 400 os).forCall (fun _ _ => 0) ⟨#[], args, []⟩).memory :=
  laidMetH_of_parts3 (fuel := 8) (laidMet_of_run' 8 (by kernel_rfl) (by kernel_rfl)) (by kernel_rfl) (by kernel_rfl)
theorem K64_of_laid {W : World} (h : laidMetH Tryd.prog laid1 W) : K64 W := by
  rw [MakeChecks.laidMetH_plain _ _ _ (by kernel_rfl)] at h
  obtain ⟨ps, ⟨g0, t0, cs0, f0, p0, q0, hg0, ht0, hv0, hd0, _⟩, _⟩ := h
  obtain rfl := Option.some.inj (gRounds.symm.trans hg0)
  obtain rfl := Option.some.inj (tRounds.symm.trans ht0)
  obtain ⟨xs, m1, rfl, hx1, hlen, hn3, hel⟩ := DataW.trod_array Tryd.underlying52 hd0
  have c39 : Tryd.prog.cellsOf 39 = 1 := by kernel_rfl
  intro i hi
  have h0 := hel i (by omega)
  rw [c39, Nat.mul_one] at h0
  obtain ⟨k, e1, e2, _⟩ := DataW.trod_int Tryd.underlying39 (h0.trans (List.getElem?_eq_getElem (by omega)))
  have hL : (Rows.laid_raceway_digest_rounds : DataW Unit) = .agg (ksL.map fun n => .lit (.int .u32 n)) := rfl
  rw [hL] at hx1
  simp only [Prod.mk.injEq, DataW.agg.injEq] at hx1
  have hm := congrArg (fun l => l[i]?) hx1.1
  simp only [List.getElem?_map] at hm
  rw [List.getElem?_eq_getElem (show i < ksL.length from hi), List.getElem?_eq_getElem (show i < xs.length by omega), e2] at hm
  simp only [Option.map_some, Option.some.injEq, DataW.lit.injEq, Lit.int.injEq, true_and] at hm
  have hc := World.var?_cell hg0 hv0 i
  have hl64 : cs0.size = 64 := by
    have : Tryd.prog.cellsOf 52 = 64 := by kernel_rfl
    rw [← this, ← hlen]; simp
  have hci : cs0[i]? = some (.int .u32 k) := by
    have h1 : (cs0.toList.drop i).take 1 = [cs0[i]'(by omega)] := by
      rw [List.drop_eq_getElem_cons (by simp; omega)]
      simp
    rw [h1] at e1
    rw [Array.getElem?_eq_getElem (by omega)]
    simpa using e1
  rw [hc, hci, List.getD_eq_getElem?_getD, List.getElem?_eq_getElem (show i < ksL.length from hi), ← hm]
  rfl
end Go.Proofs.YtoccfgkblognfaaDoor

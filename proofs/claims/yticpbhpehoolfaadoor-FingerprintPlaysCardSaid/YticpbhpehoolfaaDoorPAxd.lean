/- Contracts of Go functions that the statement reaches: each call answers as a plain Lean function does. Conditions: those of each theorem. Written by the session's own program wip/tools/xprint.py. -/
import Derived.Test.YticpbhpehoolfaaDoorPAx0
import Derived.Test.YticpbhpehoolfaaDoorPAx1
import Derived.Test.YticpbhpehoolfaaDoorPAx2
namespace Go.Proofs.YticpbhpehoolfaaDoor.PA
open Go.RowKit Go.Proofs.YticpbhpehoolfaaDoorW.PrintWords Go.Proofs.YticpbhpehoolfaaDoorW.PrintLast Go.Proofs.YticpbhpehoolfaaDoorW.PrintMore
attribute [local go_sem] max2_int min2_int max_two min_two max_three min_three max_four min_four   -- for this text's walks alone
set_option linter.unusedVariables false
set_option linter.unusedSimpArgs false

theorem pS : (∀ (l : List Value) (i : Nat) (a : Value), l.toArray.setIfInBounds i a = (l.set i a).toArray) ∧ (∀ (a b : Value) (l : List Value), (a :: l).set 0 b = b :: l) ∧ (∀ (a b : Value) (l : List Value) (n : Nat), (a :: l).set (n + 1) b = a :: l.set n b) ∧ (∀ x : Int, IntKind.i64.wrap x = wrap64 x) ∧ (∀ x : Int, IntKind.i32.wrap x = wrap32 x) :=
  ⟨fun _ _ _ => List.setIfInBounds_toArray .., fun _ _ _ => List.set_cons_zero .., fun _ _ _ _ => List.set_cons_succ .., fun x => i64_w x, fun x => i32_w x⟩
/-! ### racewayref23_Of: function 10 -/
mutual
def racewayref23_Of.l0 : Nat → List Int → List Int → List Int → Int → Option (List Int)
  | 0, _, _, _, _ => none
  | k + 1, x3, x4, x5, x6 => if x6 < (x3.length : Int) then (racewayref23_Of.l1 k x3 x4 x5 x6 ([] : List Int) 0) else (racewayref23_Of.l7 k x4 ([] : List Int) 0)
def racewayref23_Of.l1 : Nat → List Int → List Int → List Int → Int → List Int → Int → Option (List Int)
  | 0, _, _, _, _, _, _ => none
  | k + 1, x3, x4, x5, x6, x7, x8 => if x8 < 16 then (if 0 ≤ (wrap64 (x6 + (wrap64 (4 * x8)))) then (if (wrap64 (x6 + (wrap64 (4 * x8)))) < (x3.length : Int) then (if 0 ≤ (wrap64 ((wrap64 (x6 + (wrap64 (4 * x8)))) + 1)) then (if (wrap64 ((wrap64 (x6 + (wrap64 (4 * x8)))) + 1)) < (x3.length : Int) then (if 0 ≤ (wrap64 ((wrap64 (x6 + (wrap64 (4 * x8)))) + 2)) then (if (wrap64 ((wrap64 (x6 + (wrap64 (4 * x8)))) + 2)) < (x3.length : Int) then (if 0 ≤ (wrap64 ((wrap64 (x6 + (wrap64 (4 * x8)))) + 3)) then (if (wrap64 ((wrap64 (x6 + (wrap64 (4 * x8)))) + 3)) < (x3.length : Int) then (if x7.length < 35184372088832 then (racewayref23_Of.l1 k x3 x4 x5 x6 (x7 ++ [(((((((rd x3 (wrap64 (x6 + (wrap64 (4 * x8))))) % 4294967296) + ((((rd x3 (wrap64 ((wrap64 (x6 + (wrap64 (4 * x8)))) + 1))) % 4294967296) * 256) % 4294967296)) % 4294967296) + ((((rd x3 (wrap64 ((wrap64 (x6 + (wrap64 (4 * x8)))) + 2))) % 4294967296) * 65536) % 4294967296)) % 4294967296) + ((((rd x3 (wrap64 ((wrap64 (x6 + (wrap64 (4 * x8)))) + 3))) % 4294967296) * 16777216) % 4294967296)) % 4294967296]) (wrap64 (x8 + 1))) else (none)) else (none)) else (none)) else (none)) else (none)) else (none)) else (none)) else (none)) else (none)) else ((some (([] : List Int) : List Int)).bind fun y154 => (if y154.length + x4.length < 35184372088832 then (racewayref23_Of.l2 k x3 x4 x5 x6 x7 (y154 ++ x4) 0) else (none)))
def racewayref23_Of.l2 : Nat → List Int → List Int → List Int → Int → List Int → List Int → Int → Option (List Int)
  | 0, _, _, _, _, _, _, _ => none
  | k + 1, x3, x4, x5, x6, x7, x10, x11 => if x11 < 16 then (if 1 < (x10.length : Int) then (if 2 < (x10.length : Int) then (if 3 < (x10.length : Int) then (if 0 ≤ x11 then (if x11 < (x7.length : Int) then (if x11 < (x5.length : Int) then ((some (([7, 12, 17, 22] : List Int) : List Int)).bind fun y166 => (if 0 ≤ (Int.tmod x11 4) then (if (Int.tmod x11 4) < (y166.length : Int) then ((racewayref23_round.f x10 (((((Go.bits .or .u32 (Go.bits .and .u32 (rd x10 1) (rd x10 2)) (Go.bits .and .u32 (Go.bits .xor .u32 (rd x10 1) 4294967295) (rd x10 3))) + (rd x7 x11)) % 4294967296) + (rd x5 x11)) % 4294967296) (rd y166 (Int.tmod x11 4))).bind fun t170 => (racewayref23_Of.l2 k x3 x4 x5 x6 x7 t170 (wrap64 (x11 + 1)))) else (none)) else (none))) else (none)) else (none)) else (none)) else (none)) else (none)) else (none)) else (racewayref23_Of.l3 k x3 x4 x5 x6 x7 x10 0)
def racewayref23_Of.l3 : Nat → List Int → List Int → List Int → Int → List Int → List Int → Int → Option (List Int)
  | 0, _, _, _, _, _, _, _ => none
  | k + 1, x3, x4, x5, x6, x7, x10, x13 => if x13 < 16 then (if 1 < (x10.length : Int) then (if 3 < (x10.length : Int) then (if 2 < (x10.length : Int) then (if 0 ≤ (Int.tmod (wrap64 (1 + (wrap64 (5 * x13)))) 16) then (if (Int.tmod (wrap64 (1 + (wrap64 (5 * x13)))) 16) < (x7.length : Int) then (if 0 ≤ (wrap64 (16 + x13)) then (if (wrap64 (16 + x13)) < (x5.length : Int) then ((some (([5, 9, 14, 20] : List Int) : List Int)).bind fun y179 => (if 0 ≤ (Int.tmod x13 4) then (if (Int.tmod x13 4) < (y179.length : Int) then ((racewayref23_round.f x10 (((((Go.bits .or .u32 (Go.bits .and .u32 (rd x10 1) (rd x10 3)) (Go.bits .and .u32 (rd x10 2) (Go.bits .xor .u32 (rd x10 3) 4294967295))) + (rd x7 (Int.tmod (wrap64 (1 + (wrap64 (5 * x13)))) 16))) % 4294967296) + (rd x5 (wrap64 (16 + x13)))) % 4294967296) (rd y179 (Int.tmod x13 4))).bind fun t183 => (racewayref23_Of.l3 k x3 x4 x5 x6 x7 t183 (wrap64 (x13 + 1)))) else (none)) else (none))) else (none)) else (none)) else (none)) else (none)) else (none)) else (none)) else (none)) else (racewayref23_Of.l4 k x3 x4 x5 x6 x7 x10 0)
def racewayref23_Of.l4 : Nat → List Int → List Int → List Int → Int → List Int → List Int → Int → Option (List Int)
  | 0, _, _, _, _, _, _, _ => none
  | k + 1, x3, x4, x5, x6, x7, x10, x15 => if x15 < 16 then (if 1 < (x10.length : Int) then (if 2 < (x10.length : Int) then (if 3 < (x10.length : Int) then (if 0 ≤ (Int.tmod (wrap64 (5 + (wrap64 (3 * x15)))) 16) then (if (Int.tmod (wrap64 (5 + (wrap64 (3 * x15)))) 16) < (x7.length : Int) then (if 0 ≤ (wrap64 (32 + x15)) then (if (wrap64 (32 + x15)) < (x5.length : Int) then ((some (([4, 11, 16, 23] : List Int) : List Int)).bind fun y191 => (if 0 ≤ (Int.tmod x15 4) then (if (Int.tmod x15 4) < (y191.length : Int) then ((racewayref23_round.f x10 (((((Go.bits .xor .u32 (Go.bits .xor .u32 (rd x10 1) (rd x10 2)) (rd x10 3)) + (rd x7 (Int.tmod (wrap64 (5 + (wrap64 (3 * x15)))) 16))) % 4294967296) + (rd x5 (wrap64 (32 + x15)))) % 4294967296) (rd y191 (Int.tmod x15 4))).bind fun t195 => (racewayref23_Of.l4 k x3 x4 x5 x6 x7 t195 (wrap64 (x15 + 1)))) else (none)) else (none))) else (none)) else (none)) else (none)) else (none)) else (none)) else (none)) else (none)) else (racewayref23_Of.l5 k x3 x4 x5 x6 x7 x10 0)
def racewayref23_Of.l5 : Nat → List Int → List Int → List Int → Int → List Int → List Int → Int → Option (List Int)
  | 0, _, _, _, _, _, _, _ => none
  | k + 1, x3, x4, x5, x6, x7, x10, x16 => if x16 < 16 then (if 2 < (x10.length : Int) then (if 1 < (x10.length : Int) then (if 3 < (x10.length : Int) then (if 0 ≤ (Int.tmod (wrap64 (7 * x16)) 16) then (if (Int.tmod (wrap64 (7 * x16)) 16) < (x7.length : Int) then (if 0 ≤ (wrap64 (48 + x16)) then (if (wrap64 (48 + x16)) < (x5.length : Int) then ((some (([6, 10, 15, 21] : List Int) : List Int)).bind fun y203 => (if 0 ≤ (Int.tmod x16 4) then (if (Int.tmod x16 4) < (y203.length : Int) then ((racewayref23_round.f x10 (((((Go.bits .xor .u32 (rd x10 2) (Go.bits .or .u32 (rd x10 1) (Go.bits .xor .u32 (rd x10 3) 4294967295))) + (rd x7 (Int.tmod (wrap64 (7 * x16)) 16))) % 4294967296) + (rd x5 (wrap64 (48 + x16)))) % 4294967296) (rd y203 (Int.tmod x16 4))).bind fun t207 => (racewayref23_Of.l5 k x3 x4 x5 x6 x7 t207 (wrap64 (x16 + 1)))) else (none)) else (none))) else (none)) else (none)) else (none)) else (none)) else (none)) else (none)) else (none)) else (racewayref23_Of.l6 k x3 x4 x5 x6 x10 0)
def racewayref23_Of.l6 : Nat → List Int → List Int → List Int → Int → List Int → Int → Option (List Int)
  | 0, _, _, _, _, _, _ => none
  | k + 1, x3, x4, x5, x6, x10, x18 => if x18 < 4 then (if 0 ≤ x18 then (if x18 < (x4.length : Int) then (if x18 < (x10.length : Int) then (racewayref23_Of.l6 k x3 (x4.set (x18 : Int).toNat (((rd x4 x18) + (rd x10 x18)) % 4294967296)) x5 x6 x10 (wrap64 (x18 + 1))) else (none)) else (none)) else (none)) else (racewayref23_Of.l0 k x3 x4 x5 (wrap64 (x6 + 64)))
def racewayref23_Of.l7 : Nat → List Int → List Int → Int → Option (List Int)
  | 0, _, _, _ => none
  | k + 1, x4, x19, x20 => if x20 < 4 then (if 0 ≤ x20 then (if x20 < (x4.length : Int) then ((some (([(rd x4 x20) % 256, ((rd x4 x20) / 256) % 256, ((rd x4 x20) / 65536) % 256, ((rd x4 x20) / 16777216) % 256] : List Int) : List Int)).bind fun y217 => (if x19.length + y217.length < 140737488355328 then (racewayref23_Of.l7 k x4 (x19 ++ y217) (wrap64 (x20 + 1))) else (none))) else (none)) else (none)) else (some x19)
end
def racewayref23_Of.f (k : Nat) (l0 : List Int) : Option (List Int) := (racewayref23_padded.f k l0).bind fun t138 => ((racewayref23_sines.f).bind fun t144 => (racewayref23_Of.l0 k t138 (([1732584193, 4023233417, 2562383102, 271733878] : List Int)) t144 0))
theorem racewayref23_Of.mono_l : ∀ k, (∀ y0 y1 y2 y3, LeO (racewayref23_Of.l0 k y0 y1 y2 y3) (racewayref23_Of.l0 (k + 1) y0 y1 y2 y3)) ∧ (∀ y0 y1 y2 y3 y4 y5, LeO (racewayref23_Of.l1 k y0 y1 y2 y3 y4 y5) (racewayref23_Of.l1 (k + 1) y0 y1 y2 y3 y4 y5)) ∧ (∀ y0 y1 y2 y3 y4 y5 y6, LeO (racewayref23_Of.l2 k y0 y1 y2 y3 y4 y5 y6) (racewayref23_Of.l2 (k + 1) y0 y1 y2 y3 y4 y5 y6)) ∧ (∀ y0 y1 y2 y3 y4 y5 y6, LeO (racewayref23_Of.l3 k y0 y1 y2 y3 y4 y5 y6) (racewayref23_Of.l3 (k + 1) y0 y1 y2 y3 y4 y5 y6)) ∧ (∀ y0 y1 y2 y3 y4 y5 y6, LeO (racewayref23_Of.l4 k y0 y1 y2 y3 y4 y5 y6) (racewayref23_Of.l4 (k + 1) y0 y1 y2 y3 y4 y5 y6)) ∧ (∀ y0 y1 y2 y3 y4 y5 y6, LeO (racewayref23_Of.l5 k y0 y1 y2 y3 y4 y5 y6) (racewayref23_Of.l5 (k + 1) y0 y1 y2 y3 y4 y5 y6)) ∧ (∀ y0 y1 y2 y3 y4 y5, LeO (racewayref23_Of.l6 k y0 y1 y2 y3 y4 y5) (racewayref23_Of.l6 (k + 1) y0 y1 y2 y3 y4 y5)) ∧ (∀ y0 y1 y2, LeO (racewayref23_Of.l7 k y0 y1 y2) (racewayref23_Of.l7 (k + 1) y0 y1 y2))
  | 0 => ⟨fun _ _ _ _ r h => by simp [racewayref23_Of.l0] at h, fun _ _ _ _ _ _ r h => by simp [racewayref23_Of.l1] at h, fun _ _ _ _ _ _ _ r h => by simp [racewayref23_Of.l2] at h, fun _ _ _ _ _ _ _ r h => by simp [racewayref23_Of.l3] at h, fun _ _ _ _ _ _ _ r h => by simp [racewayref23_Of.l4] at h, fun _ _ _ _ _ _ _ r h => by simp [racewayref23_Of.l5] at h, fun _ _ _ _ _ _ r h => by simp [racewayref23_Of.l6] at h, fun _ _ _ r h => by simp [racewayref23_Of.l7] at h⟩
  | k + 1 => by
    obtain ⟨ih0, ih1, ih2, ih3, ih4, ih5, ih6, ih7⟩ := racewayref23_Of.mono_l k
    refine ⟨?_, ?_, ?_, ?_, ?_, ?_, ?_, ?_⟩
    · intro y0 y1 y2 y3
      unfold racewayref23_Of.l0
      repeat' first
      | (with_reducible exact ih0 _ _ _ _)
      | (with_reducible exact ih1 _ _ _ _ _ _)
      | (with_reducible exact ih2 _ _ _ _ _ _ _)
      | (with_reducible exact ih3 _ _ _ _ _ _ _)
      | (with_reducible exact ih4 _ _ _ _ _ _ _)
      | (with_reducible exact ih5 _ _ _ _ _ _ _)
      | (with_reducible exact ih6 _ _ _ _ _ _)
      | (with_reducible exact ih7 _ _ _)
      | (with_reducible exact racewayref23_padded.mono _ _)
      | (with_reducible exact LeO.refl _)
      | (with_reducible exact LeO.none _)
      | (with_reducible refine LeO.ite ?_ ?_)
      | (with_reducible refine LeO.bind ?_ (fun _ => ?_))
      | exact ih0 _ _ _ _
      | exact ih1 _ _ _ _ _ _
      | exact ih2 _ _ _ _ _ _ _
      | exact ih3 _ _ _ _ _ _ _
      | exact ih4 _ _ _ _ _ _ _
      | exact ih5 _ _ _ _ _ _ _
      | exact ih6 _ _ _ _ _ _
      | exact ih7 _ _ _
      | exact racewayref23_padded.mono _ _
      | exact LeO.none _
      | refine LeO.ite ?_ ?_
      | refine LeO.bind ?_ (fun _ => ?_)
    · intro y0 y1 y2 y3 y4 y5
      unfold racewayref23_Of.l1
      repeat' first
      | (with_reducible exact ih0 _ _ _ _)
      | (with_reducible exact ih1 _ _ _ _ _ _)
      | (with_reducible exact ih2 _ _ _ _ _ _ _)
      | (with_reducible exact ih3 _ _ _ _ _ _ _)
      | (with_reducible exact ih4 _ _ _ _ _ _ _)
      | (with_reducible exact ih5 _ _ _ _ _ _ _)
      | (with_reducible exact ih6 _ _ _ _ _ _)
      | (with_reducible exact ih7 _ _ _)
      | (with_reducible exact racewayref23_padded.mono _ _)
      | (with_reducible exact LeO.refl _)
      | (with_reducible exact LeO.none _)
      | (with_reducible refine LeO.ite ?_ ?_)
      | (with_reducible refine LeO.bind ?_ (fun _ => ?_))
      | exact ih0 _ _ _ _
      | exact ih1 _ _ _ _ _ _
      | exact ih2 _ _ _ _ _ _ _
      | exact ih3 _ _ _ _ _ _ _
      | exact ih4 _ _ _ _ _ _ _
      | exact ih5 _ _ _ _ _ _ _
      | exact ih6 _ _ _ _ _ _
      | exact ih7 _ _ _
      | exact racewayref23_padded.mono _ _
      | exact LeO.none _
      | refine LeO.ite ?_ ?_
      | refine LeO.bind ?_ (fun _ => ?_)
    · intro y0 y1 y2 y3 y4 y5 y6
      unfold racewayref23_Of.l2
      repeat' first
      | (with_reducible exact ih0 _ _ _ _)
      | (with_reducible exact ih1 _ _ _ _ _ _)
      | (with_reducible exact ih2 _ _ _ _ _ _ _)
      | (with_reducible exact ih3 _ _ _ _ _ _ _)
      | (with_reducible exact ih4 _ _ _ _ _ _ _)
      | (with_reducible exact ih5 _ _ _ _ _ _ _)
      | (with_reducible exact ih6 _ _ _ _ _ _)
      | (with_reducible exact ih7 _ _ _)
      | (with_reducible exact racewayref23_padded.mono _ _)
      | (with_reducible exact LeO.refl _)
      | (with_reducible exact LeO.none _)
      | (with_reducible refine LeO.ite ?_ ?_)
      | (with_reducible refine LeO.bind ?_ (fun _ => ?_))
      | exact ih0 _ _ _ _
      | exact ih1 _ _ _ _ _ _
      | exact ih2 _ _ _ _ _ _ _
      | exact ih3 _ _ _ _ _ _ _
      | exact ih4 _ _ _ _ _ _ _
      | exact ih5 _ _ _ _ _ _ _
      | exact ih6 _ _ _ _ _ _
      | exact ih7 _ _ _
      | exact racewayref23_padded.mono _ _
      | exact LeO.none _
      | refine LeO.ite ?_ ?_
      | refine LeO.bind ?_ (fun _ => ?_)
    · intro y0 y1 y2 y3 y4 y5 y6
      unfold racewayref23_Of.l3
      repeat' first
      | (with_reducible exact ih0 _ _ _ _)
      | (with_reducible exact ih1 _ _ _ _ _ _)
      | (with_reducible exact ih2 _ _ _ _ _ _ _)
      | (with_reducible exact ih3 _ _ _ _ _ _ _)
      | (with_reducible exact ih4 _ _ _ _ _ _ _)
      | (with_reducible exact ih5 _ _ _ _ _ _ _)
      | (with_reducible exact ih6 _ _ _ _ _ _)
      | (with_reducible exact ih7 _ _ _)
      | (with_reducible exact racewayref23_padded.mono _ _)
      | (with_reducible exact LeO.refl _)
      | (with_reducible exact LeO.none _)
      | (with_reducible refine LeO.ite ?_ ?_)
      | (with_reducible refine LeO.bind ?_ (fun _ => ?_))
      | exact ih0 _ _ _ _
      | exact ih1 _ _ _ _ _ _
      | exact ih2 _ _ _ _ _ _ _
      | exact ih3 _ _ _ _ _ _ _
      | exact ih4 _ _ _ _ _ _ _
      | exact ih5 _ _ _ _ _ _ _
      | exact ih6 _ _ _ _ _ _
      | exact ih7 _ _ _
      | exact racewayref23_padded.mono _ _
      | exact LeO.none _
      | refine LeO.ite ?_ ?_
      | refine LeO.bind ?_ (fun _ => ?_)
    · intro y0 y1 y2 y3 y4 y5 y6
      unfold racewayref23_Of.l4
      repeat' first
      | (with_reducible exact ih0 _ _ _ _)
      | (with_reducible exact ih1 _ _ _ _ _ _)
      | (with_reducible exact ih2 _ _ _ _ _ _ _)
      | (with_reducible exact ih3 _ _ _ _ _ _ _)
      | (with_reducible exact ih4 _ _ _ _ _ _ _)
      | (with_reducible exact ih5 _ _ _ _ _ _ _)
      | (with_reducible exact ih6 _ _ _ _ _ _)
      | (with_reducible exact ih7 _ _ _)
      | (with_reducible exact racewayref23_padded.mono _ _)
      | (with_reducible exact LeO.refl _)
      | (with_reducible exact LeO.none _)
      | (with_reducible refine LeO.ite ?_ ?_)
      | (with_reducible refine LeO.bind ?_ (fun _ => ?_))
      | exact ih0 _ _ _ _
      | exact ih1 _ _ _ _ _ _
      | exact ih2 _ _ _ _ _ _ _
      | exact ih3 _ _ _ _ _ _ _
      | exact ih4 _ _ _ _ _ _ _
      | exact ih5 _ _ _ _ _ _ _
      | exact ih6 _ _ _ _ _ _
      | exact ih7 _ _ _
      | exact racewayref23_padded.mono _ _
      | exact LeO.none _
      | refine LeO.ite ?_ ?_
      | refine LeO.bind ?_ (fun _ => ?_)
    · intro y0 y1 y2 y3 y4 y5 y6
      unfold racewayref23_Of.l5
      repeat' first
      | (with_reducible exact ih0 _ _ _ _)
      | (with_reducible exact ih1 _ _ _ _ _ _)
      | (with_reducible exact ih2 _ _ _ _ _ _ _)
      | (with_reducible exact ih3 _ _ _ _ _ _ _)
      | (with_reducible exact ih4 _ _ _ _ _ _ _)
      | (with_reducible exact ih5 _ _ _ _ _ _ _)
      | (with_reducible exact ih6 _ _ _ _ _ _)
      | (with_reducible exact ih7 _ _ _)
      | (with_reducible exact racewayref23_padded.mono _ _)
      | (with_reducible exact LeO.refl _)
      | (with_reducible exact LeO.none _)
      | (with_reducible refine LeO.ite ?_ ?_)
      | (with_reducible refine LeO.bind ?_ (fun _ => ?_))
      | exact ih0 _ _ _ _
      | exact ih1 _ _ _ _ _ _
      | exact ih2 _ _ _ _ _ _ _
      | exact ih3 _ _ _ _ _ _ _
      | exact ih4 _ _ _ _ _ _ _
      | exact ih5 _ _ _ _ _ _ _
      | exact ih6 _ _ _ _ _ _
      | exact ih7 _ _ _
      | exact racewayref23_padded.mono _ _
      | exact LeO.none _
      | refine LeO.ite ?_ ?_
      | refine LeO.bind ?_ (fun _ => ?_)
    · intro y0 y1 y2 y3 y4 y5
      unfold racewayref23_Of.l6
      repeat' first
      | (with_reducible exact ih0 _ _ _ _)
      | (with_reducible exact ih1 _ _ _ _ _ _)
      | (with_reducible exact ih2 _ _ _ _ _ _ _)
      | (with_reducible exact ih3 _ _ _ _ _ _ _)
      | (with_reducible exact ih4 _ _ _ _ _ _ _)
      | (with_reducible exact ih5 _ _ _ _ _ _ _)
      | (with_reducible exact ih6 _ _ _ _ _ _)
      | (with_reducible exact ih7 _ _ _)
      | (with_reducible exact racewayref23_padded.mono _ _)
      | (with_reducible exact LeO.refl _)
      | (with_reducible exact LeO.none _)
      | (with_reducible refine LeO.ite ?_ ?_)
      | (with_reducible refine LeO.bind ?_ (fun _ => ?_))
      | exact ih0 _ _ _ _
      | exact ih1 _ _ _ _ _ _
      | exact ih2 _ _ _ _ _ _ _
      | exact ih3 _ _ _ _ _ _ _
      | exact ih4 _ _ _ _ _ _ _
      | exact ih5 _ _ _ _ _ _ _
      | exact ih6 _ _ _ _ _ _
      | exact ih7 _ _ _
      | exact racewayref23_padded.mono _ _
      | exact LeO.none _
      | refine LeO.ite ?_ ?_
      | refine LeO.bind ?_ (fun _ => ?_)
    · intro y0 y1 y2
      unfold racewayref23_Of.l7
      repeat' first
      | (with_reducible exact ih0 _ _ _ _)
      | (with_reducible exact ih1 _ _ _ _ _ _)
      | (with_reducible exact ih2 _ _ _ _ _ _ _)
      | (with_reducible exact ih3 _ _ _ _ _ _ _)
      | (with_reducible exact ih4 _ _ _ _ _ _ _)
      | (with_reducible exact ih5 _ _ _ _ _ _ _)
      | (with_reducible exact ih6 _ _ _ _ _ _)
      | (with_reducible exact ih7 _ _ _)
      | (with_reducible exact racewayref23_padded.mono _ _)
      | (with_reducible exact LeO.refl _)
      | (with_reducible exact LeO.none _)
      | (with_reducible refine LeO.ite ?_ ?_)
      | (with_reducible refine LeO.bind ?_ (fun _ => ?_))
      | exact ih0 _ _ _ _
      | exact ih1 _ _ _ _ _ _
      | exact ih2 _ _ _ _ _ _ _
      | exact ih3 _ _ _ _ _ _ _
      | exact ih4 _ _ _ _ _ _ _
      | exact ih5 _ _ _ _ _ _ _
      | exact ih6 _ _ _ _ _ _
      | exact ih7 _ _ _
      | exact racewayref23_padded.mono _ _
      | exact LeO.none _
      | refine LeO.ite ?_ ?_
      | refine LeO.bind ?_ (fun _ => ?_)
theorem racewayref23_Of.mono : ∀ a0 k, LeO (racewayref23_Of.f k a0) (racewayref23_Of.f (k + 1) a0) := by
  intro a0 k
  obtain ⟨ih0, ih1, ih2, ih3, ih4, ih5, ih6, ih7⟩ := racewayref23_Of.mono_l k
  unfold racewayref23_Of.f
  repeat' first
      | (with_reducible exact ih0 _ _ _ _)
      | (with_reducible exact ih1 _ _ _ _ _ _)
      | (with_reducible exact ih2 _ _ _ _ _ _ _)
      | (with_reducible exact ih3 _ _ _ _ _ _ _)
      | (with_reducible exact ih4 _ _ _ _ _ _ _)
      | (with_reducible exact ih5 _ _ _ _ _ _ _)
      | (with_reducible exact ih6 _ _ _ _ _ _)
      | (with_reducible exact ih7 _ _ _)
      | (with_reducible exact racewayref23_padded.mono _ _)
      | (with_reducible exact LeO.refl _)
      | (with_reducible exact LeO.none _)
      | (with_reducible refine LeO.ite ?_ ?_)
      | (with_reducible refine LeO.bind ?_ (fun _ => ?_))
      | exact ih0 _ _ _ _
      | exact ih1 _ _ _ _ _ _
      | exact ih2 _ _ _ _ _ _ _
      | exact ih3 _ _ _ _ _ _ _
      | exact ih4 _ _ _ _ _ _ _
      | exact ih5 _ _ _ _ _ _ _
      | exact ih6 _ _ _ _ _ _
      | exact ih7 _ _ _
      | exact racewayref23_padded.mono _ _
      | exact LeO.none _
      | refine LeO.ite ?_ ?_
      | refine LeO.bind ?_ (fun _ => ?_)
def racewayref23_Of.T12 : Bool × List (List Nat × List Nat) := (true, [([], []), ([], []), ([], []), ([1, 2], [1, 2]), ([3], [3]), ([4], [4]), ([], []), ([], []), ([7], [7]), ([6, 8], [6, 8]), ([9], [9]), ([10], [10]), ([11], [11]), ([5, 12], [5, 12]), ([], []), ([], []), ([15], [15]), ([14, 16], [14, 16]), ([17], [17]), ([18], [18]), ([19], [19]), ([13, 20], [13, 20]), ([], []), ([], []), ([23], [23]), ([22, 24], [22, 24]), ([25], [25]), ([26], [26]), ([27], [27]), ([21, 28], [21, 28]), ([29], [29]), ([0, 30], [0, 30]), ([31, 31, 0, 1, 2, 3, 4, 5, 6, 7, 8, 9, 10, 11, 12, 13, 14, 15, 16, 17, 18, 19, 20, 21, 22, 23, 24, 25, 26, 27, 28, 29, 30, 31], [0, 31])])
def racewayref23_Of.B12 : List Nat := [0, 0, 0, 6, 14, 30, 0, 0, 128, 448, 960, 1984, 4032, 8190, 0, 0, 32768, 114688, 245760, 507904, 1032192, 2097150, 0, 0, 8388608, 29360128, 62914560, 130023424, 264241152, 536870910, 1073741822, 2147483647, 4294967295]
theorem racewayref23_Of.tab12 : rtab .any (opsOf Tryd.f10 12) = racewayref23_Of.T12 := by kernel_rfl
theorem racewayref23_Of.bits12 : waitsOk racewayref23_Of.T12.2 racewayref23_Of.B12 = true := by kernel_rfl
def racewayref23_Of.T17 : Bool × List (List Nat × List Nat) := (true, [([], []), ([0], [0]), ([1], [1]), ([], []), ([3], [3]), ([4], [4]), ([2, 5], [2, 5]), ([], []), ([7], [7]), ([8], [8]), ([9], [9]), ([], []), ([11], [11]), ([12], [12]), ([10, 13], [10, 13]), ([6, 14], [6, 14]), ([15, 0, 1, 2, 3, 4, 5, 6, 7, 8, 9, 10, 11, 12, 13, 14, 15], [15])])
def racewayref23_Of.B17 : List Nat := [0, 1, 3, 0, 8, 24, 63, 0, 128, 384, 896, 0, 2048, 6144, 16256, 32767, 65535]
theorem racewayref23_Of.tab17 : rtab .any (opsOf Tryd.f10 17) = racewayref23_Of.T17 := by kernel_rfl
theorem racewayref23_Of.bits17 : waitsOk racewayref23_Of.T17.2 racewayref23_Of.B17 = true := by kernel_rfl
def racewayref23_Of.T18 : Bool × List (List Nat × List Nat) := (true, [([], []), ([], []), ([], []), ([], []), ([2, 3], [2, 3]), ([4], [4]), ([1, 5], [1, 5]), ([], []), ([], []), ([7, 8], [7, 8]), ([9], [9]), ([6, 10], [6, 10]), ([], []), ([], []), ([13], [13]), ([12, 14], [12, 14]), ([15], [15]), ([0, 11, 16], [0, 11, 16]), ([17, 17, 0, 1, 2, 3, 4, 5, 6, 7, 8, 9, 10, 11, 12, 13, 14, 15, 16, 17], [0, 17])])
def racewayref23_Of.B18 : List Nat := [0, 0, 0, 0, 12, 28, 62, 0, 0, 384, 896, 2046, 0, 0, 8192, 28672, 61440, 131071, 262143]
theorem racewayref23_Of.tab18 : rtab .any (opsOf Tryd.f10 18) = racewayref23_Of.T18 := by kernel_rfl
theorem racewayref23_Of.bits18 : waitsOk racewayref23_Of.T18.2 racewayref23_Of.B18 = true := by kernel_rfl
def racewayref23_Of.T22 : Bool × List (List Nat × List Nat) := (true, [([], []), ([0], [0]), ([1], [1]), ([], []), ([3], [3]), ([4], [4]), ([2, 5], [2, 5]), ([], []), ([7], [7]), ([8], [8]), ([], []), ([10], [10]), ([11], [11]), ([12], [12]), ([9, 13], [9, 13]), ([6, 14], [6, 14]), ([15, 0, 1, 2, 3, 4, 5, 6, 7, 8, 9, 10, 11, 12, 13, 14, 15], [15])])
def racewayref23_Of.B22 : List Nat := [0, 1, 3, 0, 8, 24, 63, 0, 128, 384, 0, 1024, 3072, 7168, 16256, 32767, 65535]
theorem racewayref23_Of.tab22 : rtab .any (opsOf Tryd.f10 22) = racewayref23_Of.T22 := by kernel_rfl
theorem racewayref23_Of.bits22 : waitsOk racewayref23_Of.T22.2 racewayref23_Of.B22 = true := by kernel_rfl
def racewayref23_Of.T23 : Bool × List (List Nat × List Nat) := (true, [([], []), ([], []), ([], []), ([], []), ([3], [3]), ([4], [4]), ([5], [5]), ([2, 6], [2, 6]), ([7], [7]), ([1, 8], [1, 8]), ([], []), ([], []), ([11], [11]), ([10, 12], [10, 12]), ([13], [13]), ([9, 14], [9, 14]), ([], []), ([], []), ([17], [17]), ([16, 18], [16, 18]), ([19], [19]), ([0, 15, 20], [0, 15, 20]), ([21, 21, 0, 1, 2, 3, 4, 5, 6, 7, 8, 9, 10, 11, 12, 13, 14, 15, 16, 17, 18, 19, 20, 21], [0, 21])])
def racewayref23_Of.B23 : List Nat := [0, 0, 0, 0, 8, 24, 56, 124, 252, 510, 0, 0, 2048, 7168, 15360, 32766, 0, 0, 131072, 458752, 983040, 2097151, 4194303]
theorem racewayref23_Of.tab23 : rtab .any (opsOf Tryd.f10 23) = racewayref23_Of.T23 := by kernel_rfl
theorem racewayref23_Of.bits23 : waitsOk racewayref23_Of.T23.2 racewayref23_Of.B23 = true := by kernel_rfl
def racewayref23_Of.T27 : Bool × List (List Nat × List Nat) := (true, [([], []), ([], []), ([1], [1]), ([2], [2]), ([], []), ([4], [4]), ([5], [5]), ([3, 6], [3, 6]), ([], []), ([8], [8]), ([9], [9]), ([7, 10], [7, 10]), ([], []), ([], []), ([13], [13]), ([14], [14]), ([15], [15]), ([12, 16], [12, 16]), ([17], [17]), ([11, 18], [11, 18]), ([], []), ([], []), ([21], [21]), ([20, 22], [20, 22]), ([23], [23]), ([19, 24], [19, 24]), ([], []), ([], []), ([27], [27]), ([26, 28], [26, 28]), ([29], [29]), ([0, 25, 30], [0, 25, 30]), ([31, 31, 0, 1, 2, 3, 4, 5, 6, 7, 8, 9, 10, 11, 12, 13, 14, 15, 16, 17, 18, 19, 20, 21, 22, 23, 24, 25, 26, 27, 28, 29, 30, 31], [0, 1, 4, 8, 31])])
def racewayref23_Of.B27 : List Nat := [0, 0, 2, 6, 0, 16, 48, 126, 0, 256, 768, 2046, 0, 0, 8192, 24576, 57344, 126976, 258048, 524286, 0, 0, 2097152, 7340032, 15728640, 33554430, 0, 0, 134217728, 469762048, 1006632960, 2147483647, 4294967295]
theorem racewayref23_Of.tab27 : rtab .any (opsOf Tryd.f10 27) = racewayref23_Of.T27 := by kernel_rfl
theorem racewayref23_Of.bits27 : waitsOk racewayref23_Of.T27.2 racewayref23_Of.B27 = true := by kernel_rfl
def racewayref23_Of.T31 : Bool × List (List Nat × List Nat) := (true, [([], []), ([0], [0]), ([1], [1]), ([], []), ([3], [3]), ([4], [4]), ([], []), ([6], [6]), ([7], [7]), ([8], [8]), ([5, 9], [5, 9]), ([2, 10], [2, 10]), ([11, 0, 1, 2, 3, 4, 5, 6, 7, 8, 9, 10, 11], [11])])
def racewayref23_Of.B31 : List Nat := [0, 1, 3, 0, 8, 24, 0, 64, 192, 448, 1016, 2047, 4095]
theorem racewayref23_Of.tab31 : rtab .any (opsOf Tryd.f10 31) = racewayref23_Of.T31 := by kernel_rfl
theorem racewayref23_Of.bits31 : waitsOk racewayref23_Of.T31.2 racewayref23_Of.B31 = true := by kernel_rfl
def racewayref23_Of.T32 : Bool × List (List Nat × List Nat) := (true, [([], []), ([], []), ([], []), ([], []), ([3], [3]), ([4], [4]), ([2, 5], [2, 5]), ([6], [6]), ([1, 7], [1, 7]), ([], []), ([], []), ([10], [10]), ([9, 11], [9, 11]), ([12], [12]), ([8, 13], [8, 13]), ([], []), ([], []), ([16], [16]), ([15, 17], [15, 17]), ([18], [18]), ([0, 14, 19], [0, 14, 19]), ([20, 20, 0, 1, 2, 3, 4, 5, 6, 7, 8, 9, 10, 11, 12, 13, 14, 15, 16, 17, 18, 19, 20], [0, 20])])
def racewayref23_Of.B32 : List Nat := [0, 0, 0, 0, 8, 24, 60, 124, 254, 0, 0, 1024, 3584, 7680, 16382, 0, 0, 65536, 229376, 491520, 1048575, 2097151]
theorem racewayref23_Of.tab32 : rtab .any (opsOf Tryd.f10 32) = racewayref23_Of.T32 := by kernel_rfl
theorem racewayref23_Of.bits32 : waitsOk racewayref23_Of.T32.2 racewayref23_Of.B32 = true := by kernel_rfl
def racewayref23_Of.T36 : Bool × List (List Nat × List Nat) := (true, [([], []), ([], []), ([], []), ([], []), ([2, 3], [2, 3]), ([4], [4]), ([], []), ([], []), ([6, 7], [6, 7]), ([8], [8]), ([5, 9], [5, 9]), ([0, 1, 0, 1, 2, 3, 4, 5, 6, 7, 8, 9, 10], [0, 1]), ([11, 10, 0, 1, 2, 3, 4, 5, 6, 7, 8, 9, 10], [10, 11])])
def racewayref23_Of.B36 : List Nat := [0, 0, 0, 0, 12, 28, 0, 0, 192, 448, 1020, 2047, 4095]
theorem racewayref23_Of.tab36 : rtab .any (opsOf Tryd.f10 36) = racewayref23_Of.T36 := by kernel_rfl
theorem racewayref23_Of.bits36 : waitsOk racewayref23_Of.T36.2 racewayref23_Of.B36 = true := by kernel_rfl
def racewayref23_Of.T41 : Bool × List (List Nat × List Nat) := (true, [([], []), ([], []), ([], []), ([1, 2], [1, 2]), ([3], [3]), ([4], [4]), ([], []), ([], []), ([6, 7], [6, 7]), ([8], [8]), ([9], [9]), ([10], [10]), ([], []), ([], []), ([12, 13], [12, 13]), ([14], [14]), ([15], [15]), ([16], [16]), ([], []), ([], []), ([18, 19], [18, 19]), ([20], [20]), ([21], [21]), ([22], [22]), ([5, 11, 17, 23], [5, 11, 17, 23]), ([0, 24], [0, 24]), ([25, 25, 0, 1, 2, 3, 4, 5, 6, 7, 8, 9, 10, 11, 12, 13, 14, 15, 16, 17, 18, 19, 20, 21, 22, 23, 24, 25], [0, 25])])
def racewayref23_Of.B41 : List Nat := [0, 0, 0, 6, 14, 30, 0, 0, 192, 448, 960, 1984, 0, 0, 12288, 28672, 61440, 126976, 0, 0, 786432, 1835008, 3932160, 8126464, 16777214, 33554431, 67108863]
theorem racewayref23_Of.tab41 : rtab .any (opsOf Tryd.f10 41) = racewayref23_Of.T41 := by kernel_rfl
theorem racewayref23_Of.bits41 : waitsOk racewayref23_Of.T41.2 racewayref23_Of.B41 = true := by kernel_rfl
end Go.Proofs.YticpbhpehoolfaaDoor.PA

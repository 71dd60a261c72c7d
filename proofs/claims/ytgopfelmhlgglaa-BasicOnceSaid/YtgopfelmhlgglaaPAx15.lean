/- Contracts of Go functions that the statement reaches: each call answers as a plain Lean function does. Conditions: those of each theorem. Written by the session's own program wip/tools/xprint.py. -/
import Derived.Test.YtgopfelmhlgglaaPAx0
import Derived.Test.YtgopfelmhlgglaaPAx1
import Derived.Test.YtgopfelmhlgglaaPAx3
import Derived.Test.YtgopfelmhlgglaaPAx4
import Derived.Test.YtgopfelmhlgglaaPAx5
import Derived.Test.YtgopfelmhlgglaaPAx6
import Derived.Test.YtgopfelmhlgglaaPAx11
import Derived.Test.YtgopfelmhlgglaaPAx13
namespace Go.Proofs.Ytgopfelmhlgglaa.PA
open Go.RowKit Go.Proofs.YtgopfelmhlgglaaW.PrintWords Go.Proofs.YtgopfelmhlgglaaW.PrintLast Go.Proofs.YtgopfelmhlgglaaW.PrintMore
attribute [local go_sem] max2_int min2_int max_two min_two max_three min_three max_four min_four   -- for this text's walks alone
set_option linter.unusedVariables false
set_option linter.unusedSimpArgs false

/-! ### racewaylaw22_BasicOnce: function 9 -/
mutual
def racewaylaw22_BasicOnce.j0 : Nat → ByteArray → Bool → Option (Bool)
  | 0, _, _ => none
  | k + 1, x0, x35 => if x35 = true then (some false) else ((basic_Unhex.f k x0).bind fun bt233 => (if bt233.2 = 0 then ((basic_Hex.f k bt233.1).bind fun t237 => (if t237.toList = x0.toList then (racewaylaw22_BasicOnce.j1 k x0 false) else (racewaylaw22_BasicOnce.j1 k x0 true))) else (racewaylaw22_BasicOnce.j1 k x0 (decide ((bt233.1.length : Int) > 0)))))
def racewaylaw22_BasicOnce.j1 : Nat → ByteArray → Bool → Option (Bool)
  | 0, _, _ => none
  | k + 1, x0, x57 => if x57 = true then (some false) else ((basic_Atoi.f k x0).bind fun bt238 => (if bt238.2 = 0 then ((basic_Itoa.f bt238.1).bind fun t240 => (if t240.toList = x0.toList then ((racewaylaw22_works.f).bind fun t241 => (some t241)) else (some false))) else (if bt238.1 = 0 then ((racewaylaw22_works.f).bind fun t242 => (some t242)) else (some false))))
end
def racewaylaw22_BasicOnce.f (k : Nat) (a0 : ByteArray) : Option (Bool) := if 0 ≤ (mn (a0.size : Int) 1500) then (if (mn (a0.size : Int) 1500) ≤ (a0.size : Int) then ((basic_Decode.f k (a0.extract 0 ((mn (a0.size : Int) 1500) : Int).toNat)).bind fun bt228 => (if bt228.2 = 0 then ((basic_Encode.f bt228.1).bind fun t232 => (if t232.toList = (a0.extract 0 ((mn (a0.size : Int) 1500) : Int).toNat).toList then (racewaylaw22_BasicOnce.j0 k (a0.extract 0 ((mn (a0.size : Int) 1500) : Int).toNat) false) else (racewaylaw22_BasicOnce.j0 k (a0.extract 0 ((mn (a0.size : Int) 1500) : Int).toNat) true))) else (racewaylaw22_BasicOnce.j0 k (a0.extract 0 ((mn (a0.size : Int) 1500) : Int).toNat) (decide ((bt228.1.length : Int) > 0))))) else (none)) else (none)
theorem racewaylaw22_BasicOnce.mono_l : ∀ k, (∀ y0 y1, LeO (racewaylaw22_BasicOnce.j0 k y0 y1) (racewaylaw22_BasicOnce.j0 (k + 1) y0 y1)) ∧ (∀ y0 y1, LeO (racewaylaw22_BasicOnce.j1 k y0 y1) (racewaylaw22_BasicOnce.j1 (k + 1) y0 y1))
  | 0 => ⟨fun _ _ r h => by simp [racewaylaw22_BasicOnce.j0] at h, fun _ _ r h => by simp [racewaylaw22_BasicOnce.j1] at h⟩
  | k + 1 => by
    obtain ⟨ih0, ih1⟩ := racewaylaw22_BasicOnce.mono_l k
    refine ⟨?_, ?_⟩
    · intro y0 y1
      unfold racewaylaw22_BasicOnce.j0
      repeat' first
      | (with_reducible exact ih0 _ _)
      | (with_reducible exact ih1 _ _)
      | (with_reducible exact basic_Atoi.mono _ _)
      | (with_reducible exact basic_Decode.mono _ _)
      | (with_reducible exact basic_Hex.mono _ _)
      | (with_reducible exact basic_Unhex.mono _ _)
      | (with_reducible exact LeO.refl _)
      | (with_reducible exact LeO.none _)
      | (with_reducible refine LeO.ite ?_ ?_)
      | (with_reducible refine LeO.bind ?_ (fun _ => ?_))
      | exact ih0 _ _
      | exact ih1 _ _
      | exact basic_Atoi.mono _ _
      | exact basic_Decode.mono _ _
      | exact basic_Hex.mono _ _
      | exact basic_Unhex.mono _ _
      | exact LeO.none _
      | refine LeO.ite ?_ ?_
      | refine LeO.bind ?_ (fun _ => ?_)
    · intro y0 y1
      unfold racewaylaw22_BasicOnce.j1
      repeat' first
      | (with_reducible exact ih0 _ _)
      | (with_reducible exact ih1 _ _)
      | (with_reducible exact basic_Atoi.mono _ _)
      | (with_reducible exact basic_Decode.mono _ _)
      | (with_reducible exact basic_Hex.mono _ _)
      | (with_reducible exact basic_Unhex.mono _ _)
      | (with_reducible exact LeO.refl _)
      | (with_reducible exact LeO.none _)
      | (with_reducible refine LeO.ite ?_ ?_)
      | (with_reducible refine LeO.bind ?_ (fun _ => ?_))
      | exact ih0 _ _
      | exact ih1 _ _
      | exact basic_Atoi.mono _ _
      | exact basic_Decode.mono _ _
      | exact basic_Hex.mono _ _
      | exact basic_Unhex.mono _ _
      | exact LeO.none _
      | refine LeO.ite ?_ ?_
      | refine LeO.bind ?_ (fun _ => ?_)
theorem racewaylaw22_BasicOnce.mono : ∀ a0 k, LeO (racewaylaw22_BasicOnce.f k a0) (racewaylaw22_BasicOnce.f (k + 1) a0) := by
  intro a0 k
  obtain ⟨ih0, ih1⟩ := racewaylaw22_BasicOnce.mono_l k
  unfold racewaylaw22_BasicOnce.f
  repeat' first
      | (with_reducible exact ih0 _ _)
      | (with_reducible exact ih1 _ _)
      | (with_reducible exact basic_Atoi.mono _ _)
      | (with_reducible exact basic_Decode.mono _ _)
      | (with_reducible exact basic_Hex.mono _ _)
      | (with_reducible exact basic_Unhex.mono _ _)
      | (with_reducible exact LeO.refl _)
      | (with_reducible exact LeO.none _)
      | (with_reducible refine LeO.ite ?_ ?_)
      | (with_reducible refine LeO.bind ?_ (fun _ => ?_))
      | exact ih0 _ _
      | exact ih1 _ _
      | exact basic_Atoi.mono _ _
      | exact basic_Decode.mono _ _
      | exact basic_Hex.mono _ _
      | exact basic_Unhex.mono _ _
      | exact LeO.none _
      | refine LeO.ite ?_ ?_
      | refine LeO.bind ?_ (fun _ => ?_)
set_option maxHeartbeats 8000000 in
set_option maxRecDepth 100000 in
theorem racewaylaw22_BasicOnce.calls (k : Nat) (a0 : ByteArray) (r : Bool) (w : World) (h : racewaylaw22_BasicOnce.f k a0 = some r) :
    Calls Try.prog 9 #[.string a0] w fun e w' => e = .returned (.bool r) ∧ Below w.heap.size w w' := by
  have HB := Aside0.mk (Below.refl w.heap.size w)
  have H : (if 0 ≤ (mn (a0.size : Int) 1500) then (if (mn (a0.size : Int) 1500) ≤ (a0.size : Int) then ((basic_Decode.f k (a0.extract 0 ((mn (a0.size : Int) 1500) : Int).toNat)).bind fun bt228 => (if bt228.2 = 0 then ((basic_Encode.f bt228.1).bind fun t232 => (if t232.toList = (a0.extract 0 ((mn (a0.size : Int) 1500) : Int).toNat).toList then (racewaylaw22_BasicOnce.j0 k (a0.extract 0 ((mn (a0.size : Int) 1500) : Int).toNat) false) else (racewaylaw22_BasicOnce.j0 k (a0.extract 0 ((mn (a0.size : Int) 1500) : Int).toNat) true))) else (racewaylaw22_BasicOnce.j0 k (a0.extract 0 ((mn (a0.size : Int) 1500) : Int).toNat) (decide ((bt228.1.length : Int) > 0))))) else (none)) else (none)) = some r := h
  clear h
  obtain ⟨ji2, hji2⟩ : ∃ j_ : Int, (mn (a0.size : Int) 1500) = j_ := ⟨_, rfl⟩
  replace H : (if 0 ≤ (ji2) then (if (ji2) ≤ (a0.size : Int) then ((basic_Decode.f k (a0.extract 0 ((ji2) : Int).toNat)).bind fun bt228 => (if bt228.2 = 0 then ((basic_Encode.f bt228.1).bind fun t232 => (if t232.toList = (a0.extract 0 ((ji2) : Int).toNat).toList then (racewaylaw22_BasicOnce.j0 k (a0.extract 0 ((ji2) : Int).toNat) false) else (racewaylaw22_BasicOnce.j0 k (a0.extract 0 ((ji2) : Int).toNat) true))) else (racewaylaw22_BasicOnce.j0 k (a0.extract 0 ((ji2) : Int).toNat) (decide ((bt228.1.length : Int) > 0))))) else (none)) else (none)) = some r := by first | (rw [hji2] at H; exact H) | (simp only [hji2] at H ⊢; exact H)
  (try (have hji2h : ji2 ≤ 1500 := by (rw [← hji2]; unfold mn; (repeat' split) <;> omega)))
  (try (have hji2g : ji2 ≤ 64 := by omega))
  (try (have hji2l : 0 ≤ ji2 := by (rw [← hji2]; unfold mn; (repeat' split) <;> omega)))
  (try (have hji2m : 0 ≤ ji2 := by omega))
  have hji2_ : (if 1500 < (a0.size : Int) then 1500 else (a0.size : Int)) = ji2 := hji2
  by_cases c3 : 0 ≤ (ji2)
  · rw [if_pos c3] at H
    have c3b0 := eq_true c3
    have c3b1 : decide (0 ≤ (ji2)) = true := decide_eq_true c3
    clear c3
    by_cases c4 : (ji2) ≤ (a0.size : Int)
    · rw [if_pos c4] at H
      have c4b0 := eq_true c4
      have c4b1 : decide ((ji2) ≤ (a0.size : Int)) = true := decide_eq_true c4
      clear c4
      replace H := Option.bind_eq_some_iff.mp H
      obtain ⟨⟨t228, t229⟩, A50, H⟩ := H
      replace H : (if t229 = 0 then ((basic_Encode.f t228).bind fun t232 => (if t232.toList = (a0.extract 0 ((ji2) : Int).toNat).toList then (racewaylaw22_BasicOnce.j0 k (a0.extract 0 ((ji2) : Int).toNat) false) else (racewaylaw22_BasicOnce.j0 k (a0.extract 0 ((ji2) : Int).toNat) true))) else (racewaylaw22_BasicOnce.j0 k (a0.extract 0 ((ji2) : Int).toNat) (decide ((t228.length : Int) > 0)))) = some r := H
      have A5 := Aside0.mk A50
      clear A50
      have HC6 := Aside0.mk H
      clear H
      go_enter Try.func9, Try.ntmps9
      go_upto_region 3 with (first | ((with_reducible refine gate_callee (f := 23) rfl ?_); refine goesL_ (some 16) rfl rfl Try.func23 (by kernel_rfl) rfl #[.string (a0.extract 0 ((ji2) : Int).toNat)] rfl (by (try simp only [List.map_toArray, List.map_cons, List.map_nil]); first | done | (simp only [hji2]; rfl) | rfl | (simp only [List.length_drop, List.length_take]; rfl)) ?_; (with_reducible refine (basic_Decode.calls k (a0.extract 0 ((ji2) : Int).toNat) t228 t229 _ A5.out).mono ?_); rintro e w7 ⟨v230, rfl, ho0, hb⟩; refine ⟨_, rfl, ?_⟩; have n0_ := Aside0.mk (Kd.R_lower ho0 (below_size (by repeat (first | (with_reducible first | exact HB.out | apply below_alloc | apply pw_below_drewN | apply below_drew1) | exact HB.out)))); have n1_ := Aside0.mk (below_step (by repeat (first | (with_reducible first | exact HB.out | apply below_alloc | apply pw_below_drewN | apply below_drew1) | exact HB.out)) hb); clear HB; have HO231 := n0_; have HB := n1_; clear n0_ n1_; (try clear hb); (try clear hb2); (try clear hk); (try clear hi); (try clear ho0)))
      (try simp only [Act.put, List.setIfInBounds_toArray, List.set_cons_zero, List.set_cons_succ])
      go_cut [35] (fun v35 wc => ∃ (kq : Nat) (x35_5 : Bool), v35 = .bool x35_5 ∧ Aside0 (racewaylaw22_BasicOnce.j0 kq (a0.extract 0 ((ji2) : Int).toNat) x35_5 = some r) ∧ Aside0 (kq ≤ k) ∧ Aside0 (Below w.heap.size w wc))
      case first =>
        have H := HC6.out
        clear HC6
        by_cases c8 : t229 = 0
        · rw [if_pos c8] at H
          have c8b0 : (t229 == 0) = true := beq_iff_eq.mpr c8
          have c8b1 : (t229 != 0) = false := bne_eq_false_iff_eq.mpr c8
          clear c8
          (first | rw [c8b0] | (simp only [i64_w, i32_w]; rw [c8b0]) | skip)
          replace H := Option.bind_eq_some_iff.mp H
          obtain ⟨t232, A90, H⟩ := H
          replace H : (if t232.toList = (a0.extract 0 ((ji2) : Int).toNat).toList then (racewaylaw22_BasicOnce.j0 k (a0.extract 0 ((ji2) : Int).toNat) false) else (racewaylaw22_BasicOnce.j0 k (a0.extract 0 ((ji2) : Int).toNat) true)) = some r := H
          have A9 := Aside0.mk A90
          clear A90
          by_cases c10 : t232.toList = (a0.extract 0 ((ji2) : Int).toNat).toList
          · rw [if_pos c10] at H
            have c10b0 : (t232.toList == (a0.extract 0 ((ji2) : Int).toNat).toList) = true := beq_iff_eq.mpr c10
            have c10b1 : (t232.toList != (a0.extract 0 ((ji2) : Int).toNat).toList) = false := bne_eq_false_iff_eq.mpr c10
            clear c10
            have H' := Aside0.mk H
            clear H
            obtain ⟨Ao11, co11, eo11⟩ := Kd.R_slice HO231.out
            subst eo11
            go_wp2_with (first | (go_at_call 12; (with_reducible refine (basic_Encode.calls _ _ t228 t232 _ ?side1 ?side2 A9.out).mono ?_); (case side1 => repeat (first | exact (Kd.R_reads' HO231.out).2.2 | (with_reducible refine Kd.C_alloc ?_ _) | (with_reducible refine Kd.C_drewN ?_ _) | (with_reducible refine Kd.C_drew ?_))); (case side2 => exact (Kd.R_reads' HO231.out).2.1); rintro e w12 ⟨rfl, hb⟩; have n0_ := Aside0.mk (Kd.R_below (by (with_reducible repeat (first | apply Kd.R_alloc | apply Kd.R_drewN | apply Kd.R_drew)); exact HO231.out) hb); have n1_ := Aside0.mk (below_step (by repeat (first | (with_reducible first | exact HB.out | apply below_alloc | apply pw_below_drewN | apply below_drew1) | exact HB.out)) hb); clear HO231; clear HB; have HO231 := n0_; have HB := n1_; clear n0_ n1_; (try clear hb); (try clear hb2); (try clear hk); (try clear hi)))
            go_meet
            case rel => exact ⟨_, (false), (by first | rfl | (simp; done) | (simp [*]; done)), H', ⟨by first | omega | exact Nat.le_refl _⟩, ⟨by repeat (first | (with_reducible first | exact HB.out | apply below_alloc | apply pw_below_drewN | apply below_drew1) | exact HB.out)⟩⟩
          · rw [if_neg c10] at H
            have c10b0 : (t232.toList == (a0.extract 0 ((ji2) : Int).toNat).toList) = false := beq_eq_false_iff_ne.mpr c10
            have c10b1 : (t232.toList != (a0.extract 0 ((ji2) : Int).toNat).toList) = true := bne_iff_ne.mpr c10
            have H' := Aside0.mk H
            clear H
            obtain ⟨Ao13, co13, eo13⟩ := Kd.R_slice HO231.out
            subst eo13
            go_wp2_with (first | (go_at_call 12; (with_reducible refine (basic_Encode.calls _ _ t228 t232 _ ?side1 ?side2 A9.out).mono ?_); (case side1 => repeat (first | exact (Kd.R_reads' HO231.out).2.2 | (with_reducible refine Kd.C_alloc ?_ _) | (with_reducible refine Kd.C_drewN ?_ _) | (with_reducible refine Kd.C_drew ?_))); (case side2 => exact (Kd.R_reads' HO231.out).2.1); rintro e w14 ⟨rfl, hb⟩; have n0_ := Aside0.mk (Kd.R_below (by (with_reducible repeat (first | apply Kd.R_alloc | apply Kd.R_drewN | apply Kd.R_drew)); exact HO231.out) hb); have n1_ := Aside0.mk (below_step (by repeat (first | (with_reducible first | exact HB.out | apply below_alloc | apply pw_below_drewN | apply below_drew1) | exact HB.out)) hb); clear HO231; clear HB; have HO231 := n0_; have HB := n1_; clear n0_ n1_; (try clear hb); (try clear hb2); (try clear hk); (try clear hi)))
            go_meet
            case rel => exact ⟨_, (true), (by first | rfl | (simp; done) | (simp [*]; done)), H', ⟨by first | omega | exact Nat.le_refl _⟩, ⟨by repeat (first | (with_reducible first | exact HB.out | apply below_alloc | apply pw_below_drewN | apply below_drew1) | exact HB.out)⟩⟩
        · rw [if_neg c8] at H
          have c8b0 : (t229 == 0) = false := beq_eq_false_iff_ne.mpr c8
          have c8b1 : (t229 != 0) = true := bne_iff_ne.mpr c8
          (first | rw [c8b0] | (simp only [i64_w, i32_w]; rw [c8b0]) | skip)
          have H' := Aside0.mk H
          clear H
          obtain ⟨Ao15, co15, eo15⟩ := Kd.R_slice HO231.out
          subst eo15
          go_wp2
          go_meet
          case rel => exact ⟨_, (decide ((t228.length : Int) > 0)), (by first | rfl | (simp; done) | (simp [*]; done)), H', ⟨by first | omega | exact Nat.le_refl _⟩, ⟨by repeat (first | (with_reducible first | exact HB.out | apply below_alloc | apply pw_below_drewN | apply below_drew1) | exact HB.out)⟩⟩
      case rest =>
        clear HC6
        try clear c1
        try clear c2
        try clear p2
        try clear c3
        try clear c3b0
        try clear c3b1
        try clear c4
        try clear c4b0
        try clear c4b1
        try clear c8
        try clear c8b0
        try clear c8b1
        try clear c9
        try clear c10
        try clear c10b0
        try clear c10b1
        obtain ⟨kq, x35_5, rfl, HA, HJ5, HB⟩ := hcut
        cases kq with
        | zero => exact absurd HA.out (by simp [racewaylaw22_BasicOnce.j0])
        | succ kj5 =>
          have H := HA.out
          clear HA
          simp only [racewaylaw22_BasicOnce.j0] at H
          by_cases c16 : x35_5 = true
          · subst c16
            have H1 : (some false) = some r := by rw [if_pos rfl] at H; exact H
            clear H
            have H := H1
            clear H1
            obtain rfl := Option.some.inj H
            go_wp2
            go_ret
            exact ⟨by first | rfl | (simp [errW_none, errW_some] <;> rfl) | (simp only [← hji2]; first | rfl | (simp [errW_none, errW_some] <;> rfl)) | (simp [*, errW_none, errW_some] <;> rfl), by repeat (first | (with_reducible first | exact HB.out | apply below_alloc | apply pw_below_drewN | apply below_drew1) | exact HB.out)⟩
          · replace c16 := Bool.eq_false_iff.mpr c16
            subst c16
            have H1 : ((basic_Unhex.f kj5 (a0.extract 0 ((ji2) : Int).toNat)).bind fun bt233 => (if bt233.2 = 0 then ((basic_Hex.f kj5 bt233.1).bind fun t237 => (if t237.toList = (a0.extract 0 ((ji2) : Int).toNat).toList then (racewaylaw22_BasicOnce.j1 kj5 (a0.extract 0 ((ji2) : Int).toNat) false) else (racewaylaw22_BasicOnce.j1 kj5 (a0.extract 0 ((ji2) : Int).toNat) true))) else (racewaylaw22_BasicOnce.j1 kj5 (a0.extract 0 ((ji2) : Int).toNat) (decide ((bt233.1.length : Int) > 0))))) = some r := by rw [if_neg (show ¬ (false = true) by decide)] at H; exact H
            clear H
            have H := H1
            clear H1
            replace H := Option.bind_eq_some_iff.mp H
            obtain ⟨⟨t233, t234⟩, A170, H⟩ := H
            replace H : (if t234 = 0 then ((basic_Hex.f kj5 t233).bind fun t237 => (if t237.toList = (a0.extract 0 ((ji2) : Int).toNat).toList then (racewaylaw22_BasicOnce.j1 kj5 (a0.extract 0 ((ji2) : Int).toNat) false) else (racewaylaw22_BasicOnce.j1 kj5 (a0.extract 0 ((ji2) : Int).toNat) true))) else (racewaylaw22_BasicOnce.j1 kj5 (a0.extract 0 ((ji2) : Int).toNat) (decide ((t233.length : Int) > 0)))) = some r := H
            have A17 := Aside0.mk A170
            clear A170
            have HC18 := Aside0.mk H
            clear H
            go_upto_region 6 with (first | ((with_reducible refine gate_callee (f := 25) rfl ?_); refine goesL_ (some 38) rfl rfl Try.func25 (by kernel_rfl) rfl #[.string (a0.extract 0 ((ji2) : Int).toNat)] rfl (by (try simp only [List.map_toArray, List.map_cons, List.map_nil]); first | done | (simp only [hji2]; rfl) | rfl | (simp only [List.length_drop, List.length_take]; rfl)) ?_; (with_reducible refine (basic_Unhex.calls kj5 (a0.extract 0 ((ji2) : Int).toNat) t233 t234 _ A17.out).mono ?_); rintro e w19 ⟨v235, rfl, ho0, hb⟩; refine ⟨_, rfl, ?_⟩; have n0_ := Aside0.mk (Kd.R_lower ho0 (below_size (by repeat (first | (with_reducible first | exact HB.out | apply below_alloc | apply pw_below_drewN | apply below_drew1) | exact HB.out)))); have n1_ := Aside0.mk (below_step (by repeat (first | (with_reducible first | exact HB.out | apply below_alloc | apply pw_below_drewN | apply below_drew1) | exact HB.out)) hb); clear HB; have HO236 := n0_; have HB := n1_; clear n0_ n1_; (try clear hb); (try clear hb2); (try clear hk); (try clear hi); (try clear ho0)))
            (try simp only [Act.put, List.setIfInBounds_toArray, List.set_cons_zero, List.set_cons_succ])
            go_cut [57] (fun v57 wc => ∃ (kq : Nat) (x57_17 : Bool), v57 = .bool x57_17 ∧ Aside0 (racewaylaw22_BasicOnce.j1 kq (a0.extract 0 ((ji2) : Int).toNat) x57_17 = some r) ∧ Aside0 (kq ≤ kj5) ∧ Aside0 (Below w.heap.size w wc))
            case first =>
              have H := HC18.out
              clear HC18
              by_cases c20 : t234 = 0
              · rw [if_pos c20] at H
                have c20b0 : (t234 == 0) = true := beq_iff_eq.mpr c20
                have c20b1 : (t234 != 0) = false := bne_eq_false_iff_eq.mpr c20
                clear c20
                (first | rw [c20b0] | (simp only [i64_w, i32_w]; rw [c20b0]) | skip)
                replace H := Option.bind_eq_some_iff.mp H
                obtain ⟨t237, A210, H⟩ := H
                replace H : (if t237.toList = (a0.extract 0 ((ji2) : Int).toNat).toList then (racewaylaw22_BasicOnce.j1 kj5 (a0.extract 0 ((ji2) : Int).toNat) false) else (racewaylaw22_BasicOnce.j1 kj5 (a0.extract 0 ((ji2) : Int).toNat) true)) = some r := H
                have A21 := Aside0.mk A210
                clear A210
                by_cases c22 : t237.toList = (a0.extract 0 ((ji2) : Int).toNat).toList
                · rw [if_pos c22] at H
                  have c22b0 : (t237.toList == (a0.extract 0 ((ji2) : Int).toNat).toList) = true := beq_iff_eq.mpr c22
                  have c22b1 : (t237.toList != (a0.extract 0 ((ji2) : Int).toNat).toList) = false := bne_eq_false_iff_eq.mpr c22
                  clear c22
                  have H' := Aside0.mk H
                  clear H
                  obtain ⟨Ao23, co23, eo23⟩ := Kd.R_slice HO236.out
                  subst eo23
                  go_wp2_with (first | (go_at_call 14; (with_reducible refine (basic_Hex.calls kj5 _ _ t233 t237 _ ?side1 ?side2 A21.out).mono ?_); (case side1 => repeat (first | exact (Kd.R_reads' HO236.out).2.2 | (with_reducible refine Kd.C_alloc ?_ _) | (with_reducible refine Kd.C_drewN ?_ _) | (with_reducible refine Kd.C_drew ?_))); (case side2 => exact (Kd.R_reads' HO236.out).2.1); rintro e w24 ⟨rfl, hb⟩; have n0_ := Aside0.mk (Kd.R_below (by (with_reducible repeat (first | apply Kd.R_alloc | apply Kd.R_drewN | apply Kd.R_drew)); exact HO236.out) hb); have n1_ := Aside0.mk (below_step (by repeat (first | (with_reducible first | exact HB.out | apply below_alloc | apply pw_below_drewN | apply below_drew1) | exact HB.out)) hb); clear HO236; clear HB; have HO236 := n0_; have HB := n1_; clear n0_ n1_; (try clear hb); (try clear hb2); (try clear hk); (try clear hi)))
                  go_meet
                  case rel => exact ⟨_, (false), (by first | rfl | (simp; done) | (simp [*]; done)), H', ⟨by have := HJ5.out; first | omega | exact Nat.le_refl _⟩, ⟨by repeat (first | (with_reducible first | exact HB.out | apply below_alloc | apply pw_below_drewN | apply below_drew1) | exact HB.out)⟩⟩
                · rw [if_neg c22] at H
                  have c22b0 : (t237.toList == (a0.extract 0 ((ji2) : Int).toNat).toList) = false := beq_eq_false_iff_ne.mpr c22
                  have c22b1 : (t237.toList != (a0.extract 0 ((ji2) : Int).toNat).toList) = true := bne_iff_ne.mpr c22
                  have H' := Aside0.mk H
                  clear H
                  obtain ⟨Ao25, co25, eo25⟩ := Kd.R_slice HO236.out
                  subst eo25
                  go_wp2_with (first | (go_at_call 14; (with_reducible refine (basic_Hex.calls kj5 _ _ t233 t237 _ ?side1 ?side2 A21.out).mono ?_); (case side1 => repeat (first | exact (Kd.R_reads' HO236.out).2.2 | (with_reducible refine Kd.C_alloc ?_ _) | (with_reducible refine Kd.C_drewN ?_ _) | (with_reducible refine Kd.C_drew ?_))); (case side2 => exact (Kd.R_reads' HO236.out).2.1); rintro e w26 ⟨rfl, hb⟩; have n0_ := Aside0.mk (Kd.R_below (by (with_reducible repeat (first | apply Kd.R_alloc | apply Kd.R_drewN | apply Kd.R_drew)); exact HO236.out) hb); have n1_ := Aside0.mk (below_step (by repeat (first | (with_reducible first | exact HB.out | apply below_alloc | apply pw_below_drewN | apply below_drew1) | exact HB.out)) hb); clear HO236; clear HB; have HO236 := n0_; have HB := n1_; clear n0_ n1_; (try clear hb); (try clear hb2); (try clear hk); (try clear hi)))
                  go_meet
                  case rel => exact ⟨_, (true), (by first | rfl | (simp; done) | (simp [*]; done)), H', ⟨by have := HJ5.out; first | omega | exact Nat.le_refl _⟩, ⟨by repeat (first | (with_reducible first | exact HB.out | apply below_alloc | apply pw_below_drewN | apply below_drew1) | exact HB.out)⟩⟩
              · rw [if_neg c20] at H
                have c20b0 : (t234 == 0) = false := beq_eq_false_iff_ne.mpr c20
                have c20b1 : (t234 != 0) = true := bne_iff_ne.mpr c20
                (first | rw [c20b0] | (simp only [i64_w, i32_w]; rw [c20b0]) | skip)
                have H' := Aside0.mk H
                clear H
                obtain ⟨Ao27, co27, eo27⟩ := Kd.R_slice HO236.out
                subst eo27
                go_wp2
                go_meet
                case rel => exact ⟨_, (decide ((t233.length : Int) > 0)), (by first | rfl | (simp; done) | (simp [*]; done)), H', ⟨by have := HJ5.out; first | omega | exact Nat.le_refl _⟩, ⟨by repeat (first | (with_reducible first | exact HB.out | apply below_alloc | apply pw_below_drewN | apply below_drew1) | exact HB.out)⟩⟩
            case rest =>
              clear HC18
              try clear c1
              try clear c2
              try clear p2
              try clear c3
              try clear c3b0
              try clear c3b1
              try clear c4
              try clear c4b0
              try clear c4b1
              try clear c8
              try clear c8b0
              try clear c8b1
              try clear c9
              try clear c10
              try clear c10b0
              try clear c10b1
              try clear c16
              try clear c20
              try clear c20b0
              try clear c20b1
              try clear c22
              try clear c22b0
              try clear c22b1
              try clear c23
              try clear c25
              try clear p2
              obtain ⟨kq, x57_17, rfl, HA, HJ17, HB⟩ := hcut
              cases kq with
              | zero => exact absurd HA.out (by simp [racewaylaw22_BasicOnce.j1])
              | succ kj17 =>
                have H := HA.out
                clear HA
                simp only [racewaylaw22_BasicOnce.j1] at H
                by_cases c28 : x57_17 = true
                · subst c28
                  have H1 : (some false) = some r := by rw [if_pos rfl] at H; exact H
                  clear H
                  have H := H1
                  clear H1
                  obtain rfl := Option.some.inj H
                  go_wp2
                  go_ret
                  exact ⟨by first | rfl | (simp [errW_none, errW_some] <;> rfl) | (simp only [← hji2]; first | rfl | (simp [errW_none, errW_some] <;> rfl)) | (simp [*, errW_none, errW_some] <;> rfl), by repeat (first | (with_reducible first | exact HB.out | apply below_alloc | apply pw_below_drewN | apply below_drew1) | exact HB.out)⟩
                · replace c28 := Bool.eq_false_iff.mpr c28
                  subst c28
                  have H1 : ((basic_Atoi.f kj17 (a0.extract 0 ((ji2) : Int).toNat)).bind fun bt238 => (if bt238.2 = 0 then ((basic_Itoa.f bt238.1).bind fun t240 => (if t240.toList = (a0.extract 0 ((ji2) : Int).toNat).toList then ((racewaylaw22_works.f).bind fun t241 => (some t241)) else (some false))) else (if bt238.1 = 0 then ((racewaylaw22_works.f).bind fun t242 => (some t242)) else (some false)))) = some r := by rw [if_neg (show ¬ (false = true) by decide)] at H; exact H
                  clear H
                  have H := H1
                  clear H1
                  replace H := Option.bind_eq_some_iff.mp H
                  obtain ⟨⟨t238, t239⟩, A290, H⟩ := H
                  replace H : (if t239 = 0 then ((basic_Itoa.f t238).bind fun t240 => (if t240.toList = (a0.extract 0 ((ji2) : Int).toNat).toList then ((racewaylaw22_works.f).bind fun t241 => (some t241)) else (some false))) else (if t238 = 0 then ((racewaylaw22_works.f).bind fun t242 => (some t242)) else (some false))) = some r := H
                  have A29 := Aside0.mk A290
                  clear A290
                  by_cases c30 : t239 = 0
                  · rw [if_pos c30] at H
                    have c30b0 : (t239 == 0) = true := beq_iff_eq.mpr c30
                    have c30b1 : (t239 != 0) = false := bne_eq_false_iff_eq.mpr c30
                    clear c30
                    replace H := Option.bind_eq_some_iff.mp H
                    obtain ⟨t240, A310, H⟩ := H
                    replace H : (if t240.toList = (a0.extract 0 ((ji2) : Int).toNat).toList then ((racewaylaw22_works.f).bind fun t241 => (some t241)) else (some false)) = some r := H
                    have A31 := Aside0.mk A310
                    clear A310
                    by_cases c32 : t240.toList = (a0.extract 0 ((ji2) : Int).toNat).toList
                    · rw [if_pos c32] at H
                      have c32b0 : (t240.toList == (a0.extract 0 ((ji2) : Int).toNat).toList) = true := beq_iff_eq.mpr c32
                      have c32b1 : (t240.toList != (a0.extract 0 ((ji2) : Int).toNat).toList) = false := bne_eq_false_iff_eq.mpr c32
                      clear c32
                      replace H := Option.bind_eq_some_iff.mp H
                      obtain ⟨t241, A330, H⟩ := H
                      replace H : (some t241) = some r := H
                      have A33 := Aside0.mk A330
                      clear A330
                      obtain rfl := Option.some.inj H
                      go_wp2_with (first | ((with_reducible refine gate_callee (f := 21) rfl ?_); refine goesL_ (some 60) rfl rfl Try.func21 (by kernel_rfl) rfl #[.string (a0.extract 0 ((ji2) : Int).toNat)] rfl (by (try simp only [List.map_toArray, List.map_cons, List.map_nil]); first | done | (simp only [hji2]; rfl) | rfl | (simp only [List.length_drop, List.length_take]; rfl)) ?_; (with_reducible refine (basic_Atoi.calls kj17 (a0.extract 0 ((ji2) : Int).toNat) t238 t239 _ A29.out).mono ?_); rintro e w' ⟨rfl, ⟨nd, rfl⟩⟩; refine ⟨_, rfl, ?_⟩) | (go_at_call 17; (with_reducible refine (basic_Itoa.calls t238 t240 _ A31.out).mono ?_); rintro e w34 ⟨rfl, hb⟩; have n0_ := Aside0.mk (below_step (by repeat (first | (with_reducible first | exact HB.out | apply below_alloc | apply pw_below_drewN | apply below_drew1) | exact HB.out)) hb); clear HB; have HB := n0_; clear n0_; (try clear hb); (try clear hb2); (try clear hk); (try clear hi)) | ((with_reducible refine gate_callee (f := 16) rfl ?_); refine goesL_ (some 79) rfl rfl Try.func16 (by kernel_rfl) rfl #[] rfl (by (try simp only [List.map_toArray, List.map_cons, List.map_nil]); first | done | rfl | (simp only [List.length_drop, List.length_take]; rfl)) ?_; (with_reducible refine (racewaylaw22_works.calls  t241 _ A33.out).mono ?_); rintro e w35 ⟨rfl, hb⟩; refine ⟨_, rfl, ?_⟩; have n0_ := Aside0.mk (below_step (by repeat (first | (with_reducible first | exact HB.out | apply below_alloc | apply pw_below_drewN | apply below_drew1) | exact HB.out)) hb); clear HB; have HB := n0_; clear n0_; (try clear hb); (try clear hb2); (try clear hk); (try clear hi)))
                      go_ret
                      exact ⟨by first | rfl | (simp [errW_none, errW_some] <;> rfl) | (simp only [← hji2]; first | rfl | (simp [errW_none, errW_some] <;> rfl)) | (simp [*, errW_none, errW_some] <;> rfl), by repeat (first | (with_reducible first | exact HB.out | apply below_alloc | apply pw_below_drewN | apply below_drew1) | exact HB.out)⟩
                    · rw [if_neg c32] at H
                      have c32b0 : (t240.toList == (a0.extract 0 ((ji2) : Int).toNat).toList) = false := beq_eq_false_iff_ne.mpr c32
                      have c32b1 : (t240.toList != (a0.extract 0 ((ji2) : Int).toNat).toList) = true := bne_iff_ne.mpr c32
                      obtain rfl := Option.some.inj H
                      go_wp2_with (first | ((with_reducible refine gate_callee (f := 21) rfl ?_); refine goesL_ (some 60) rfl rfl Try.func21 (by kernel_rfl) rfl #[.string (a0.extract 0 ((ji2) : Int).toNat)] rfl (by (try simp only [List.map_toArray, List.map_cons, List.map_nil]); first | done | (simp only [hji2]; rfl) | rfl | (simp only [List.length_drop, List.length_take]; rfl)) ?_; (with_reducible refine (basic_Atoi.calls kj17 (a0.extract 0 ((ji2) : Int).toNat) t238 t239 _ A29.out).mono ?_); rintro e w' ⟨rfl, ⟨nd, rfl⟩⟩; refine ⟨_, rfl, ?_⟩) | (go_at_call 17; (with_reducible refine (basic_Itoa.calls t238 t240 _ A31.out).mono ?_); rintro e w36 ⟨rfl, hb⟩; have n0_ := Aside0.mk (below_step (by repeat (first | (with_reducible first | exact HB.out | apply below_alloc | apply pw_below_drewN | apply below_drew1) | exact HB.out)) hb); clear HB; have HB := n0_; clear n0_; (try clear hb); (try clear hb2); (try clear hk); (try clear hi)))
                      go_ret
                      exact ⟨by first | rfl | (simp [errW_none, errW_some] <;> rfl) | (simp only [← hji2]; first | rfl | (simp [errW_none, errW_some] <;> rfl)) | (simp [*, errW_none, errW_some] <;> rfl), by repeat (first | (with_reducible first | exact HB.out | apply below_alloc | apply pw_below_drewN | apply below_drew1) | exact HB.out)⟩
                  · rw [if_neg c30] at H
                    have c30b0 : (t239 == 0) = false := beq_eq_false_iff_ne.mpr c30
                    have c30b1 : (t239 != 0) = true := bne_iff_ne.mpr c30
                    by_cases c37 : t238 = 0
                    · rw [if_pos c37] at H
                      have c37b0 : (t238 == 0) = true := beq_iff_eq.mpr c37
                      have c37b1 : (t238 != 0) = false := bne_eq_false_iff_eq.mpr c37
                      clear c37
                      replace H := Option.bind_eq_some_iff.mp H
                      obtain ⟨t242, A380, H⟩ := H
                      replace H : (some t242) = some r := H
                      have A38 := Aside0.mk A380
                      clear A380
                      obtain rfl := Option.some.inj H
                      go_wp2_with (first | ((with_reducible refine gate_callee (f := 21) rfl ?_); refine goesL_ (some 60) rfl rfl Try.func21 (by kernel_rfl) rfl #[.string (a0.extract 0 ((ji2) : Int).toNat)] rfl (by (try simp only [List.map_toArray, List.map_cons, List.map_nil]); first | done | (simp only [hji2]; rfl) | rfl | (simp only [List.length_drop, List.length_take]; rfl)) ?_; (with_reducible refine (basic_Atoi.calls kj17 (a0.extract 0 ((ji2) : Int).toNat) t238 t239 _ A29.out).mono ?_); rintro e w' ⟨rfl, ⟨nd, rfl⟩⟩; refine ⟨_, rfl, ?_⟩) | ((with_reducible refine gate_callee (f := 16) rfl ?_); refine goesL_ (some 79) rfl rfl Try.func16 (by kernel_rfl) rfl #[] rfl (by (try simp only [List.map_toArray, List.map_cons, List.map_nil]); first | done | rfl | (simp only [List.length_drop, List.length_take]; rfl)) ?_; (with_reducible refine (racewaylaw22_works.calls  t242 _ A38.out).mono ?_); rintro e w39 ⟨rfl, hb⟩; refine ⟨_, rfl, ?_⟩; have n0_ := Aside0.mk (below_step (by repeat (first | (with_reducible first | exact HB.out | apply below_alloc | apply pw_below_drewN | apply below_drew1) | exact HB.out)) hb); clear HB; have HB := n0_; clear n0_; (try clear hb); (try clear hb2); (try clear hk); (try clear hi)))
                      go_ret
                      exact ⟨by first | rfl | (simp [errW_none, errW_some] <;> rfl) | (simp only [← hji2]; first | rfl | (simp [errW_none, errW_some] <;> rfl)) | (simp [*, errW_none, errW_some] <;> rfl), by repeat (first | (with_reducible first | exact HB.out | apply below_alloc | apply pw_below_drewN | apply below_drew1) | exact HB.out)⟩
                    · rw [if_neg c37] at H
                      have c37b0 : (t238 == 0) = false := beq_eq_false_iff_ne.mpr c37
                      have c37b1 : (t238 != 0) = true := bne_iff_ne.mpr c37
                      obtain rfl := Option.some.inj H
                      go_wp2_with (first | ((with_reducible refine gate_callee (f := 21) rfl ?_); refine goesL_ (some 60) rfl rfl Try.func21 (by kernel_rfl) rfl #[.string (a0.extract 0 ((ji2) : Int).toNat)] rfl (by (try simp only [List.map_toArray, List.map_cons, List.map_nil]); first | done | (simp only [hji2]; rfl) | rfl | (simp only [List.length_drop, List.length_take]; rfl)) ?_; (with_reducible refine (basic_Atoi.calls kj17 (a0.extract 0 ((ji2) : Int).toNat) t238 t239 _ A29.out).mono ?_); rintro e w' ⟨rfl, ⟨nd, rfl⟩⟩; refine ⟨_, rfl, ?_⟩))
                      go_ret
                      exact ⟨by first | rfl | (simp [errW_none, errW_some] <;> rfl) | (simp only [← hji2]; first | rfl | (simp [errW_none, errW_some] <;> rfl)) | (simp [*, errW_none, errW_some] <;> rfl), by repeat (first | (with_reducible first | exact HB.out | apply below_alloc | apply pw_below_drewN | apply below_drew1) | exact HB.out)⟩
    · rw [if_neg c4] at H
      exact absurd H (by simp)
  · rw [if_neg c3] at H
    exact absurd H (by simp)

/-- THE ONE PURE STATEMENT of racewaylaw22_BasicOnce: yours. -/
def racewaylaw22_BasicOnce.Pure : Prop := ∀ (a0 : ByteArray), a0.size ≤ 140737488351232 → ∃ k, racewaylaw22_BasicOnce.f k a0 = some true
theorem racewaylaw22_BasicOnce.walk (P : racewaylaw22_BasicOnce.Pure) (a0 : ByteArray) (w : World) (w0 : a0.size ≤ 140737488351232) :
    Calls Try.prog 9 #[.string a0] w fun e w' => e = .returned (.bool true) ∧ Below w.heap.size w w' := by
  obtain ⟨k, h⟩ := P a0 w0
  refine (racewaylaw22_BasicOnce.calls k a0 true w h).mono ?_
  rintro e w' ⟨rfl, hd⟩
  exact ⟨rfl, hd⟩

end Go.Proofs.Ytgopfelmhlgglaa.PA

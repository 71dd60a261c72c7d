/- Contracts of Go functions that the statement reaches: each call answers as a plain Lean function does. Conditions: those of each theorem. Written by the session's own program wip/tools/xprint.py. -/
import Derived.Test.YtgopfelmhlgglaaPAx0
import Derived.Test.YtgopfelmhlgglaaPAx9
import Derived.Test.YtgopfelmhlgglaaPAx10
namespace Go.Proofs.Ytgopfelmhlgglaa.PA
open Go.RowKit Go.Proofs.YtgopfelmhlgglaaW.PrintWords Go.Proofs.YtgopfelmhlgglaaW.PrintLast Go.Proofs.YtgopfelmhlgglaaW.PrintMore
attribute [local go_sem] max2_int min2_int max_two min_two max_three min_three max_four min_four   -- for this text's walks alone
set_option linter.unusedVariables false
set_option linter.unusedSimpArgs false

/-! ### basic_Decode: function 23 -/
mutual
def basic_Decode.j0 : Nat → ByteArray → Bool → Option (List Int × Int)
  | 0, _, _ => none
  | k + 1, x4, x42 => if x42 = true then (some (([] : List Int), 5)) else (basic_Decode.l0 k x4 ([] : List Int) 0 0 (x4.size : Int) 0)
def basic_Decode.l0 : Nat → ByteArray → List Int → Int → Int → Int → Int → Option (List Int × Int)
  | 0, _, _, _, _, _, _ => none
  | k + 1, x4, x5, x6, x7, x44, x45 => if x45 < x44 then (if 0 ≤ x45 then (if x45 < (x4.size : Int) then ((basic_six.f k (bt x4 x45)).bind fun t170 => (if t170 < 0 then (some (([] : List Int), 5)) else (if (wrap64 (x7 + 6)) ≥ 8 then (if 0 ≤ (wrap64 ((wrap64 (x7 + 6)) - 8)) then (if x5.length < 140737488355328 then (basic_Decode.l0 k x4 (x5 ++ [(shr .i64 (Go.bits .or .i64 (wrap64 (x6 * 64)) t170) (wrap64 ((wrap64 (x7 + 6)) - 8))) % 256]) (Go.bits .and .i64 (Go.bits .or .i64 (wrap64 (x6 * 64)) t170) (wrap64 ((shl .i64 1 (wrap64 ((wrap64 (x7 + 6)) - 8))) - 1))) (wrap64 ((wrap64 (x7 + 6)) - 8)) x44 (wrap64 (x45 + 1))) else (none)) else (none)) else (basic_Decode.l0 k x4 x5 (Go.bits .or .i64 (wrap64 (x6 * 64)) t170) (wrap64 (x7 + 6)) x44 (wrap64 (x45 + 1)))))) else (none)) else (none)) else (if x6 = 0 then (some (x5, 0)) else (some (([] : List Int), 5)))
end
def basic_Decode.f (k : Nat) (a0 : ByteArray) : Option (List Int × Int) := if (a0.size : Int) > 131072 then (some (([] : List Int), 3)) else (if ((a0.size : Int) % 4) = 0 then ((strings_TrimSuffix.f a0 (⟨#[61]⟩ : ByteArray)).bind fun t167 => ((strings_TrimSuffix.f t167 (⟨#[61]⟩ : ByteArray)).bind fun t168 => (if ((t168.size : Int) % 4) = 1 then (basic_Decode.j0 k t168 true) else ((strings_HasSuffix.f t168 (⟨#[61]⟩ : ByteArray)).bind fun t169 => (if t169 = true then (basic_Decode.j0 k t168 true) else (basic_Decode.j0 k t168 ((wrap64 ((a0.size : Int) - (t168.size : Int))) != ((4 - ((t168.size : Int) % 4)) % 4)))))))) else (some (([] : List Int), 5)))
theorem basic_Decode.mono_l : ∀ k, (∀ y0 y1, LeO (basic_Decode.j0 k y0 y1) (basic_Decode.j0 (k + 1) y0 y1)) ∧ (∀ y0 y1 y2 y3 y4 y5, LeO (basic_Decode.l0 k y0 y1 y2 y3 y4 y5) (basic_Decode.l0 (k + 1) y0 y1 y2 y3 y4 y5))
  | 0 => ⟨fun _ _ r h => by simp [basic_Decode.j0] at h, fun _ _ _ _ _ _ r h => by simp [basic_Decode.l0] at h⟩
  | k + 1 => by
    obtain ⟨ih0, ih1⟩ := basic_Decode.mono_l k
    refine ⟨?_, ?_⟩
    · intro y0 y1
      unfold basic_Decode.j0
      repeat' first
      | (with_reducible exact ih0 _ _)
      | (with_reducible exact ih1 _ _ _ _ _ _)
      | (with_reducible exact basic_six.mono _ _)
      | (with_reducible exact LeO.refl _)
      | (with_reducible exact LeO.none _)
      | (with_reducible refine LeO.ite ?_ ?_)
      | (with_reducible refine LeO.bind ?_ (fun _ => ?_))
      | exact ih0 _ _
      | exact ih1 _ _ _ _ _ _
      | exact basic_six.mono _ _
      | exact LeO.none _
      | refine LeO.ite ?_ ?_
      | refine LeO.bind ?_ (fun _ => ?_)
    · intro y0 y1 y2 y3 y4 y5
      unfold basic_Decode.l0
      repeat' first
      | (with_reducible exact ih0 _ _)
      | (with_reducible exact ih1 _ _ _ _ _ _)
      | (with_reducible exact basic_six.mono _ _)
      | (with_reducible exact LeO.refl _)
      | (with_reducible exact LeO.none _)
      | (with_reducible refine LeO.ite ?_ ?_)
      | (with_reducible refine LeO.bind ?_ (fun _ => ?_))
      | exact ih0 _ _
      | exact ih1 _ _ _ _ _ _
      | exact basic_six.mono _ _
      | exact LeO.none _
      | refine LeO.ite ?_ ?_
      | refine LeO.bind ?_ (fun _ => ?_)
theorem basic_Decode.mono : ∀ a0 k, LeO (basic_Decode.f k a0) (basic_Decode.f (k + 1) a0) := by
  intro a0 k
  obtain ⟨ih0, ih1⟩ := basic_Decode.mono_l k
  unfold basic_Decode.f
  repeat' first
      | (with_reducible exact ih0 _ _)
      | (with_reducible exact ih1 _ _ _ _ _ _)
      | (with_reducible exact basic_six.mono _ _)
      | (with_reducible exact LeO.refl _)
      | (with_reducible exact LeO.none _)
      | (with_reducible refine LeO.ite ?_ ?_)
      | (with_reducible refine LeO.bind ?_ (fun _ => ?_))
      | exact ih0 _ _
      | exact ih1 _ _ _ _ _ _
      | exact basic_six.mono _ _
      | exact LeO.none _
      | refine LeO.ite ?_ ?_
      | refine LeO.bind ?_ (fun _ => ?_)
set_option maxHeartbeats 8000000 in
set_option maxRecDepth 100000 in
theorem basic_Decode.calls (k : Nat) (a0 : ByteArray) (r1 : List Int) (r2 : Int) (w : World) (h : basic_Decode.f k a0 = some (r1, r2)) :
    Calls Try.prog 23 #[.string a0] w fun e w' => ∃ v0_ : Value, e = .returned (.tuple #[v0_, .int .i64 r2]) ∧ Kd.R (Kd.int .u8) 5 w' w.heap.size (fun _ => True) v0_ r1 ∧ Below w.heap.size w w' := by
  have HB := Aside0.mk (Below.refl w.heap.size w)
  have H : (if (a0.size : Int) > 131072 then (some (([] : List Int), 3)) else (if ((a0.size : Int) % 4) = 0 then ((strings_TrimSuffix.f a0 (⟨#[61]⟩ : ByteArray)).bind fun t167 => ((strings_TrimSuffix.f t167 (⟨#[61]⟩ : ByteArray)).bind fun t168 => (if ((t168.size : Int) % 4) = 1 then (basic_Decode.j0 k t168 true) else ((strings_HasSuffix.f t168 (⟨#[61]⟩ : ByteArray)).bind fun t169 => (if t169 = true then (basic_Decode.j0 k t168 true) else (basic_Decode.j0 k t168 ((wrap64 ((a0.size : Int) - (t168.size : Int))) != ((4 - ((t168.size : Int) % 4)) % 4)))))))) else (some (([] : List Int), 5)))) = some (r1, r2) := h
  clear h
  by_cases c2 : (a0.size : Int) > 131072
  · rw [if_pos c2] at H
    have c2b0 : decide (131072 < (a0.size : Int)) = true := decide_eq_true c2
    have c2b1 : decide (131072 < a0.size) = true := decide_eq_true (by omega)
    clear c2
    simp only [Option.some.injEq, Prod.mk.injEq] at H
    obtain ⟨rfl, rfl⟩ := H
    go_enter Try.func23, Try.ntmps23
    go_wp2
    go_ret2
    exact ⟨_, by first | rfl | (simp [errW_none, errW_some] <;> rfl) | (simp [*, errW_none, errW_some] <;> rfl), by first | exact Kd.R_nil _ _ _ _ _ | exact Kd.N_nil _ _ _ _ _ | exact Kd.V_nil _ _ _ _ _ | exact Kd.Q_nil _ _ _ _ _ | exact Kd.S_nil _ _ _ _ _, by repeat (first | (with_reducible first | exact HB.out | apply below_alloc | apply pw_below_drewN | apply below_drew1) | exact HB.out)⟩
  · rw [if_neg c2] at H
    have c2b0 : decide (131072 < (a0.size : Int)) = false := decide_eq_false c2
    have c2b1 : decide (131072 < a0.size) = false := decide_eq_false (by omega)
    clear c2
    by_cases c3 : ((a0.size : Int) % 4) = 0
    · rw [if_pos c3] at H
      have c3b0 : (((a0.size : Int) % 4) == 0) = true := beq_iff_eq.mpr c3
      have c3b1 : (((a0.size : Int) % 4) != 0) = false := bne_eq_false_iff_eq.mpr c3
      clear c3
      replace H := Option.bind_eq_some_iff.mp H
      obtain ⟨t167, A40, H⟩ := H
      replace H : ((strings_TrimSuffix.f t167 (⟨#[61]⟩ : ByteArray)).bind fun t168 => (if ((t168.size : Int) % 4) = 1 then (basic_Decode.j0 k t168 true) else ((strings_HasSuffix.f t168 (⟨#[61]⟩ : ByteArray)).bind fun t169 => (if t169 = true then (basic_Decode.j0 k t168 true) else (basic_Decode.j0 k t168 ((wrap64 ((a0.size : Int) - (t168.size : Int))) != ((4 - ((t168.size : Int) % 4)) % 4))))))) = some (r1, r2) := H
      have A4 := Aside0.mk A40
      clear A40
      replace H := Option.bind_eq_some_iff.mp H
      obtain ⟨t168, A50, H⟩ := H
      replace H : (if ((t168.size : Int) % 4) = 1 then (basic_Decode.j0 k t168 true) else ((strings_HasSuffix.f t168 (⟨#[61]⟩ : ByteArray)).bind fun t169 => (if t169 = true then (basic_Decode.j0 k t168 true) else (basic_Decode.j0 k t168 ((wrap64 ((a0.size : Int) - (t168.size : Int))) != ((4 - ((t168.size : Int) % 4)) % 4)))))) = some (r1, r2) := H
      have A5 := Aside0.mk A50
      clear A50
      have HC6 := Aside0.mk H
      clear H
      go_enter Try.func23, Try.ntmps23
      go_upto_region 6 with (first | ((with_reducible refine gate_callee (f := 32) rfl ?_); refine goesL_ (some 20) rfl rfl Try.func32 (by kernel_rfl) rfl #[.string a0, .string (⟨#[61]⟩ : ByteArray)] rfl (by (try simp only [List.map_toArray, List.map_cons, List.map_nil]); first | done | rfl | (simp only [List.length_drop, List.length_take]; rfl)) ?_; (with_reducible refine (strings_TrimSuffix.calls a0 (⟨#[61]⟩ : ByteArray) t167 _ A4.out).mono ?_); rintro e w' ⟨rfl, ⟨nd, rfl⟩⟩; refine ⟨_, rfl, ?_⟩) | ((with_reducible refine gate_callee (f := 32) rfl ?_); refine goesL_ (some 21) rfl rfl Try.func32 (by kernel_rfl) rfl #[.string t167, .string (⟨#[61]⟩ : ByteArray)] rfl (by (try simp only [List.map_toArray, List.map_cons, List.map_nil]); first | done | rfl | (simp only [List.length_drop, List.length_take]; rfl)) ?_; (with_reducible refine (strings_TrimSuffix.calls t167 (⟨#[61]⟩ : ByteArray) t168 _ A5.out).mono ?_); rintro e w' ⟨rfl, ⟨nd, rfl⟩⟩; refine ⟨_, rfl, ?_⟩))
      (try simp only [Act.put, List.setIfInBounds_toArray, List.set_cons_zero, List.set_cons_succ])
      go_cut [42] (fun v42 wc => ∃ (kq : Nat) (x42_5 : Bool), v42 = .bool x42_5 ∧ Aside0 (basic_Decode.j0 kq t168 x42_5 = some (r1, r2)) ∧ Aside0 (kq ≤ k) ∧ Aside0 (Below w.heap.size w wc))
      case first =>
        have H := HC6.out
        clear HC6
        by_cases c7 : ((t168.size : Int) % 4) = 1
        · rw [if_pos c7] at H
          have c7b0 : (((t168.size : Int) % 4) == 1) = true := beq_iff_eq.mpr c7
          have c7b1 : (((t168.size : Int) % 4) != 1) = false := bne_eq_false_iff_eq.mpr c7
          clear c7
          (first | rw [c7b0] | (simp only [i64_w, i32_w]; rw [c7b0]) | skip)
          have H' := Aside0.mk H
          clear H
          go_wp2
          go_meet
          case rel => exact ⟨_, (true), (by first | rfl | (simp; done) | (simp [*]; done)), H', ⟨by first | omega | exact Nat.le_refl _⟩, ⟨by repeat (first | (with_reducible first | exact HB.out | apply below_alloc | apply pw_below_drewN | apply below_drew1) | exact HB.out)⟩⟩
        · rw [if_neg c7] at H
          have c7b0 : (((t168.size : Int) % 4) == 1) = false := beq_eq_false_iff_ne.mpr c7
          have c7b1 : (((t168.size : Int) % 4) != 1) = true := bne_iff_ne.mpr c7
          (first | rw [c7b0] | (simp only [i64_w, i32_w]; rw [c7b0]) | skip)
          replace H := Option.bind_eq_some_iff.mp H
          obtain ⟨t169, A80, H⟩ := H
          replace H : (if t169 = true then (basic_Decode.j0 k t168 true) else (basic_Decode.j0 k t168 ((wrap64 ((a0.size : Int) - (t168.size : Int))) != ((4 - ((t168.size : Int) % 4)) % 4)))) = some (r1, r2) := H
          have A8 := Aside0.mk A80
          clear A80
          by_cases c9 : t169 = true
          · subst c9
            have H1 : (basic_Decode.j0 k t168 true) = some (r1, r2) := by rw [if_pos rfl] at H; exact H
            clear H
            have H := H1
            clear H1
            have H' := Aside0.mk H
            clear H
            go_wp2_with (first | (go_at_call 33; (with_reducible refine (strings_HasSuffix.calls t168 (⟨#[61]⟩ : ByteArray) true _ A8.out).mono ?_); rintro e w' ⟨rfl, ⟨nd, rfl⟩⟩))
            go_meet
            case rel => exact ⟨_, (true), (by first | rfl | (simp; done) | (simp [*]; done)), H', ⟨by first | omega | exact Nat.le_refl _⟩, ⟨by repeat (first | (with_reducible first | exact HB.out | apply below_alloc | apply pw_below_drewN | apply below_drew1) | exact HB.out)⟩⟩
          · replace c9 := Bool.eq_false_iff.mpr c9
            subst c9
            have H1 : (basic_Decode.j0 k t168 ((wrap64 ((a0.size : Int) - (t168.size : Int))) != ((4 - ((t168.size : Int) % 4)) % 4))) = some (r1, r2) := by rw [if_neg (show ¬ (false = true) by decide)] at H; exact H
            clear H
            have H := H1
            clear H1
            have H' := Aside0.mk H
            clear H
            go_wp2_with (first | (go_at_call 33; (with_reducible refine (strings_HasSuffix.calls t168 (⟨#[61]⟩ : ByteArray) false _ A8.out).mono ?_); rintro e w' ⟨rfl, ⟨nd, rfl⟩⟩))
            go_meet
            case rel => exact ⟨_, (((wrap64 ((a0.size : Int) - (t168.size : Int))) != ((4 - ((t168.size : Int) % 4)) % 4))), (by first | rfl | (simp; done) | (simp [*]; done)), H', ⟨by first | omega | exact Nat.le_refl _⟩, ⟨by repeat (first | (with_reducible first | exact HB.out | apply below_alloc | apply pw_below_drewN | apply below_drew1) | exact HB.out)⟩⟩
      case rest =>
        clear HC6
        try clear c2
        try clear c2b0
        try clear c2b1
        try clear p2
        try clear c3
        try clear c3b0
        try clear c3b1
        try clear p6
        try clear c7
        try clear c7b0
        try clear c7b1
        try clear c9
        obtain ⟨kq, x42_5, rfl, HA, HJ5, HB⟩ := hcut
        cases kq with
        | zero => exact absurd HA.out (by simp [basic_Decode.j0])
        | succ kj5 =>
          have H := HA.out
          clear HA
          simp only [basic_Decode.j0] at H
          by_cases c10 : x42_5 = true
          · subst c10
            have H1 : (some (([] : List Int), 5)) = some (r1, r2) := by rw [if_pos rfl] at H; exact H
            clear H
            have H := H1
            clear H1
            simp only [Option.some.injEq, Prod.mk.injEq] at H
            obtain ⟨rfl, rfl⟩ := H
            go_wp2
            go_ret2
            exact ⟨_, by first | rfl | (simp [errW_none, errW_some] <;> rfl) | (simp [*, errW_none, errW_some] <;> rfl), by first | exact Kd.R_nil _ _ _ _ _ | exact Kd.N_nil _ _ _ _ _ | exact Kd.V_nil _ _ _ _ _ | exact Kd.Q_nil _ _ _ _ _ | exact Kd.S_nil _ _ _ _ _, by repeat (first | (with_reducible first | exact HB.out | apply below_alloc | apply pw_below_drewN | apply below_drew1) | exact HB.out)⟩
          · replace c10 := Bool.eq_false_iff.mpr c10
            subst c10
            have H1 : (basic_Decode.l0 kj5 t168 ([] : List Int) 0 0 (t168.size : Int) 0) = some (r1, r2) := by rw [if_neg (show ¬ (false = true) by decide)] at H; exact H
            clear H
            have H := H1
            clear H1
            have H' := Aside0.mk H
            clear H
            go_wp2
            go_loopg [5, 6, 7, 45] kj5 (fun kq v5 v6 v7 v45 w' => ∃ (x5_2 : List Int) (x6_2 : Int) (x7_2 : Int) (x45_2 : Int), v6 = .int .i64 x6_2 ∧ v7 = .int .i64 x7_2 ∧ v45 = .int .i64 x45_2 ∧ Aside0 (basic_Decode.l0 kq t168 x5_2 x6_2 x7_2 (t168.size : Int) x45_2 = some (r1, r2)) ∧ Aside0 (kq ≤ kj5) ∧ Aside0 (Kd.R (Kd.int .u8) 5 w' w.heap.size (fun _ => True) v5 x5_2) ∧ Aside0 (Below w.heap.size w w'))
            case atStart => exact ⟨(([] : List Int)), (0), (0), (0), (by first | rfl | (simp; done) | (simp [*]; done)), (by first | rfl | (simp; done) | (simp [*]; done)), (by first | rfl | (simp; done) | (simp [*]; done)), H', ⟨Nat.le_refl _⟩, ⟨by first | exact Kd.R_nil _ _ _ _ _ | exact Kd.N_nil _ _ _ _ _ | exact Kd.V_nil _ _ _ _ _ | exact Kd.Q_nil _ _ _ _ _ | exact Kd.S_nil _ _ _ _ _⟩, ⟨by repeat (first | (with_reducible first | exact HB.out | apply below_alloc | apply pw_below_drewN | apply below_drew1) | exact HB.out)⟩⟩
            case round =>
              clear H'
              try clear c1
              try clear c2
              try clear c2b0
              try clear c2b1
              try clear p2
              try clear c3
              try clear c3b0
              try clear c3b1
              try clear p6
              try clear c7
              try clear c7b0
              try clear c7b1
              try clear c9
              try clear c10
              try clear p2
              try clear p6
              obtain ⟨x5_2, x6_2, x7_2, x45_2, rfl, rfl, rfl, HA, HK2, HO_5, HB⟩ := hrel
              cases gk with
              | zero => exact absurd HA.out (by simp [basic_Decode.l0])
              | succ k2 =>
                have H := HA.out
                clear HA
                simp only [basic_Decode.l0] at H
                by_cases c11 : x45_2 < (t168.size : Int)
                · rw [if_pos c11] at H
                  have c11b0 : decide (x45_2 < (t168.size : Int)) = true := decide_eq_true c11
                  clear c11
                  by_cases c12 : 0 ≤ x45_2
                  · rw [if_pos c12] at H
                    have c12b0 : decide (0 ≤ x45_2) = true := decide_eq_true c12
                    clear c12
                    by_cases c13 : x45_2 < (t168.size : Int)
                    · rw [if_pos c13] at H
                      have c13b0 : decide (x45_2 < (t168.size : Int)) = true := decide_eq_true c13
                      clear c13
                      replace H := Option.bind_eq_some_iff.mp H
                      obtain ⟨t170, A150, H⟩ := H
                      replace H : (if t170 < 0 then (some (([] : List Int), 5)) else (if (wrap64 (x7_2 + 6)) ≥ 8 then (if 0 ≤ (wrap64 ((wrap64 (x7_2 + 6)) - 8)) then (if x5_2.length < 140737488355328 then (basic_Decode.l0 k2 t168 (x5_2 ++ [(shr .i64 (Go.bits .or .i64 (wrap64 (x6_2 * 64)) t170) (wrap64 ((wrap64 (x7_2 + 6)) - 8))) % 256]) (Go.bits .and .i64 (Go.bits .or .i64 (wrap64 (x6_2 * 64)) t170) (wrap64 ((shl .i64 1 (wrap64 ((wrap64 (x7_2 + 6)) - 8))) - 1))) (wrap64 ((wrap64 (x7_2 + 6)) - 8)) (t168.size : Int) (wrap64 (x45_2 + 1))) else (none)) else (none)) else (basic_Decode.l0 k2 t168 x5_2 (Go.bits .or .i64 (wrap64 (x6_2 * 64)) t170) (wrap64 (x7_2 + 6)) (t168.size : Int) (wrap64 (x45_2 + 1))))) = some (r1, r2) := H
                      have A15 := Aside0.mk A150
                      clear A150
                      by_cases c16 : t170 < 0
                      · rw [if_pos c16] at H
                        have c16b0 : decide (t170 < 0) = true := decide_eq_true c16
                        clear c16
                        simp only [Option.some.injEq, Prod.mk.injEq] at H
                        obtain ⟨rfl, rfl⟩ := H
                        have p14 : 0 ≤ (x45_2 : Int) := of_decide_eq_true (by first | (with_reducible assumption) | assumption)
                        have q14 : x45_2 < (t168.size : Int) := of_decide_eq_true (by first | (with_reducible assumption) | assumption)
                        have hx14 := bt_at t168 x45_2
                        replace p14 := eq_true p14
                        replace q14 := eq_true q14
                        go_wp2_with (first | ((with_reducible refine gate_callee (f := 34) rfl ?_); refine goesL_ (some 51) rfl rfl Try.func34 (by kernel_rfl) rfl #[.int .u8 (bt t168 x45_2)] rfl (by (try simp only [List.map_toArray, List.map_cons, List.map_nil]); first | done | rfl | (simp only [List.length_drop, List.length_take]; rfl)) ?_; (with_reducible refine (basic_six.calls k2 (bt t168 x45_2) t170 _ A15.out).mono ?_); rintro e w' ⟨rfl, ⟨nd, rfl⟩⟩; refine ⟨_, rfl, ?_⟩))
                        go_ret2
                        exact ⟨_, by first | rfl | (simp [errW_none, errW_some] <;> rfl) | (simp [*, errW_none, errW_some] <;> rfl), by first | exact Kd.R_nil _ _ _ _ _ | exact Kd.N_nil _ _ _ _ _ | exact Kd.V_nil _ _ _ _ _ | exact Kd.Q_nil _ _ _ _ _ | exact Kd.S_nil _ _ _ _ _, by repeat (first | (with_reducible first | exact HB.out | apply below_alloc | apply pw_below_drewN | apply below_drew1) | exact HB.out)⟩
                      · rw [if_neg c16] at H
                        have c16b0 : decide (t170 < 0) = false := decide_eq_false c16
                        clear c16
                        by_cases c17 : (wrap64 (x7_2 + 6)) ≥ 8
                        · rw [if_pos c17] at H
                          have c17b0 : decide (8 ≤ (wrap64 (x7_2 + 6))) = true := decide_eq_true c17
                          clear c17
                          obtain ⟨ji18, hji18⟩ : ∃ j_ : Int, (wrap64 ((wrap64 (x7_2 + 6)) - 8)) = j_ := ⟨_, rfl⟩
                          replace H : (if 0 ≤ (ji18) then (if x5_2.length < 140737488355328 then (basic_Decode.l0 k2 t168 (x5_2 ++ [(shr .i64 (Go.bits .or .i64 (wrap64 (x6_2 * 64)) t170) (ji18)) % 256]) (Go.bits .and .i64 (Go.bits .or .i64 (wrap64 (x6_2 * 64)) t170) (wrap64 ((shl .i64 1 (ji18)) - 1))) ji18 (t168.size : Int) (wrap64 (x45_2 + 1))) else (none)) else (none)) = some (r1, r2) := by first | (rw [hji18] at H; exact H) | (simp only [hji18] at H ⊢; exact H)
                          (try rw [hji18] at A15)
                          have hji18w : (IntKind.i64.wrap ((wrap64 (x7_2 + 6)) - 8)) = ji18 := (i64_w _).trans hji18
                          by_cases c19 : 0 ≤ (ji18)
                          · rw [if_pos c19] at H
                            have c19b0 := eq_true c19
                            have c19b1 : decide (0 ≤ (ji18)) = true := decide_eq_true c19
                            clear c19
                            obtain ⟨ji20, hji20⟩ : ∃ j_ : Int, (shr .i64 (Go.bits .or .i64 (wrap64 (x6_2 * 64)) t170) (ji18)) = j_ := ⟨_, rfl⟩
                            replace H : (if x5_2.length < 140737488355328 then (basic_Decode.l0 k2 t168 (x5_2 ++ [(ji20) % 256]) (Go.bits .and .i64 (Go.bits .or .i64 (wrap64 (x6_2 * 64)) t170) (wrap64 ((shl .i64 1 (ji18)) - 1))) ji18 (t168.size : Int) (wrap64 (x45_2 + 1))) else (none)) = some (r1, r2) := by first | (rw [hji20] at H; exact H) | (simp only [hji20] at H ⊢; exact H)
                            (try rw [hji20] at A15)
                            have hji20_ : ((Go.bits .or .i64 (wrap64 (x6_2 * 64)) t170) / 2 ^ min (ji18).toNat 64) = ji20 := hji20
                            have hji20z : (ji18) ≤ 64 → ((Go.bits .or .i64 (wrap64 (x6_2 * 64)) t170) / 2 ^ (ji18).toNat) = ji20 := shr_small hji20
                            by_cases c21 : x5_2.length < 140737488355328
                            · rw [if_pos c21] at H
                              have LMc21 := Aside0.mk c21
                              clear c21
                              obtain ⟨y171, hy171⟩ : ∃ y_ : List Int, y_ = (x5_2 ++ [(ji20) % 256]) := ⟨_, rfl⟩
                              replace H : (basic_Decode.l0 k2 t168 y171 (Go.bits .and .i64 (Go.bits .or .i64 (wrap64 (x6_2 * 64)) t170) (wrap64 ((shl .i64 1 (ji18)) - 1))) ji18 (t168.size : Int) (wrap64 (x45_2 + 1))) = some (r1, r2) := by first | (rw [hy171]; with_reducible exact H) | (have H2_ := (Option.bind_some _ _).symm.trans H; rw [hy171]; with_reducible exact H2_) | (have H2_ := (Option.bind_some _ _).symm.trans H; with_reducible exact H2_) | with_reducible exact H | (rw [hy171]; exact H) | exact H
                              have Ny171 := Aside0.mk hy171
                              clear hy171
                              have c22b0 := eq_true (of_decide_eq_true (by first | (with_reducible assumption) | assumption) : 0 ≤ (ji18))
                              obtain ⟨ji23, hji23⟩ : ∃ j_ : Int, (shl .i64 1 (ji18)) = j_ := ⟨_, rfl⟩
                              replace H : (basic_Decode.l0 k2 t168 y171 (Go.bits .and .i64 (Go.bits .or .i64 (wrap64 (x6_2 * 64)) t170) (wrap64 ((ji23) - 1))) ji18 (t168.size : Int) (wrap64 (x45_2 + 1))) = some (r1, r2) := by first | (rw [hji23] at H; exact H) | (simp only [hji23] at H ⊢; exact H)
                              (try rw [hji23] at A15)
                              have hji23_ : (IntKind.i64.wrap (1 * 2 ^ min (ji18).toNat 64)) = ji23 := hji23
                              have hji23z : (ji18) ≤ 64 → (IntKind.i64.wrap (1 * 2 ^ (ji18).toNat)) = ji23 := shl_small hji23
                              have hji23u : (IntKind.i64.wrap (2 ^ min (ji18).toNat 64)) = ji23 := by have h_ := hji23_; rw [Int.one_mul] at h_; exact h_
                              have hji23v : (ji18) ≤ 64 → (IntKind.i64.wrap (2 ^ (ji18).toNat)) = ji23 := fun hle_ => by have h_ := hji23z hle_; rw [Int.one_mul] at h_; exact h_
                              have hji23y : (wrap64 (1 * 2 ^ min (ji18).toNat 64)) = ji23 := (i64_w _).symm.trans hji23_
                              have hji23x : (ji18) ≤ 64 → (wrap64 (1 * 2 ^ (ji18).toNat)) = ji23 := fun h_ => (i64_w _).symm.trans (hji23z h_)
                              have H' := Aside0.mk H
                              clear H
                              have p14 : 0 ≤ (x45_2 : Int) := of_decide_eq_true (by first | (with_reducible assumption) | assumption)
                              have q14 : x45_2 < (t168.size : Int) := of_decide_eq_true (by first | (with_reducible assumption) | assumption)
                              have hx14 := bt_at t168 x45_2
                              replace p14 := eq_true p14
                              replace q14 := eq_true q14
                              go_wp2_with (first | ((with_reducible refine gate_callee (f := 34) rfl ?_); refine goesL_ (some 51) rfl rfl Try.func34 (by kernel_rfl) rfl #[.int .u8 (bt t168 x45_2)] rfl (by (try simp only [List.map_toArray, List.map_cons, List.map_nil]); first | done | rfl | (simp only [List.length_drop, List.length_take]; rfl)) ?_; (with_reducible refine (basic_six.calls k2 (bt t168 x45_2) t170 _ A15.out).mono ?_); rintro e w' ⟨rfl, ⟨nd, rfl⟩⟩; refine ⟨_, rfl, ?_⟩) | ((with_reducible refine gate_builtin (b := .append) (xs := #[.tmp 64, .tmp 69]) rfl ?_); (try (refine gate_guard (by rfl) ?_; dsimp only)); at_builtin; refine Kd.R_append (Kd.int .u8) (w0 := w) w.heap.size rfl (.tmp 64) (.tmp 69) 22 5 (.int .u8 0) 1 rfl Try.underlying22 info5 rfl (by decide) (by omega) u5 x5_2 ((ji20) % 256) [.int .u8 ((ji20) % 256)] (fun _ => True) (fun _ => False) rfl rfl ?aP (fun _ hk => hk.elim) ?aF ?aO ?aB ?aS ?aL ?_; (case aP => exact rfl); (case aB => exact (by repeat (first | (with_reducible first | exact HB.out | apply below_alloc | apply pw_below_drewN | apply below_drew1) | exact HB.out))); (case aF => exact (fun _ _ => trivial)); (case aO => exact (by (with_reducible repeat (first | apply Kd.R_alloc | apply Kd.R_drewN | apply Kd.R_drew)); exact HO_5.out)); (case aS => exact (below_size (by repeat (first | (with_reducible first | exact HB.out | apply below_alloc | apply pw_below_drewN | apply below_drew1) | exact HB.out)))); (case aL => have := LMc21.out; omega); intro v172 w24 ho hb hg hat; rw [← Ny171.out] at ho; have n0_ := Aside0.mk (hb); have n1_ := Aside0.mk (ho); clear HB; clear HO_5; have HB := n0_; have HO173 := n1_; clear n0_ n1_; clear ho hb hg hat))
                              go_roundg k2
                              case measure => have := HJ5.out; have := HK2.out; omega
                              case rel => exact ⟨(y171), (Go.bits .and .i64 (Go.bits .or .i64 (wrap64 (x6_2 * 64)) t170) (wrap64 ((ji23) - 1))), (ji18), (wrap64 (x45_2 + 1)), (by first | rfl | (simp; done) | (simp only [← hji23] <;> (first | rfl | simp)) | (simp [*]; done)), (by first | rfl | (simp; done) | (simp only [← hji18] <;> (first | rfl | simp)) | (simp [*]; done)), (by first | rfl | (simp; done) | (simp [*]; done)), H', ⟨by have := HJ5.out; have := HK2.out; omega⟩, ⟨by (with_reducible repeat (first | apply Kd.R_alloc | apply Kd.R_drewN | apply Kd.R_drew)); exact HO173.out⟩, ⟨by repeat (first | (with_reducible first | exact HB.out | apply below_alloc | apply pw_below_drewN | apply below_drew1) | exact HB.out)⟩⟩
                            · rw [if_neg c21] at H
                              exact absurd H (by simp)
                          · rw [if_neg c19] at H
                            exact absurd H (by simp)
                        · rw [if_neg c17] at H
                          have c17b0 : decide (8 ≤ (wrap64 (x7_2 + 6))) = false := decide_eq_false c17
                          clear c17
                          have H' := Aside0.mk H
                          clear H
                          have p14 : 0 ≤ (x45_2 : Int) := of_decide_eq_true (by first | (with_reducible assumption) | assumption)
                          have q14 : x45_2 < (t168.size : Int) := of_decide_eq_true (by first | (with_reducible assumption) | assumption)
                          have hx14 := bt_at t168 x45_2
                          replace p14 := eq_true p14
                          replace q14 := eq_true q14
                          go_wp2_with (first | ((with_reducible refine gate_callee (f := 34) rfl ?_); refine goesL_ (some 51) rfl rfl Try.func34 (by kernel_rfl) rfl #[.int .u8 (bt t168 x45_2)] rfl (by (try simp only [List.map_toArray, List.map_cons, List.map_nil]); first | done | rfl | (simp only [List.length_drop, List.length_take]; rfl)) ?_; (with_reducible refine (basic_six.calls k2 (bt t168 x45_2) t170 _ A15.out).mono ?_); rintro e w' ⟨rfl, ⟨nd, rfl⟩⟩; refine ⟨_, rfl, ?_⟩))
                          go_roundg k2
                          case measure => have := HJ5.out; have := HK2.out; omega
                          case rel => exact ⟨(x5_2), (Go.bits .or .i64 (wrap64 (x6_2 * 64)) t170), (wrap64 (x7_2 + 6)), (wrap64 (x45_2 + 1)), (by first | rfl | (simp; done) | (simp [*]; done)), (by first | rfl | (simp; done) | (simp [*]; done)), (by first | rfl | (simp; done) | (simp [*]; done)), H', ⟨by have := HJ5.out; have := HK2.out; omega⟩, ⟨by (with_reducible repeat (first | apply Kd.R_alloc | apply Kd.R_drewN | apply Kd.R_drew)); exact HO_5.out⟩, ⟨by repeat (first | (with_reducible first | exact HB.out | apply below_alloc | apply pw_below_drewN | apply below_drew1) | exact HB.out)⟩⟩
                    · rw [if_neg c13] at H
                      exact absurd H (by simp)
                  · rw [if_neg c12] at H
                    exact absurd H (by simp)
                · rw [if_neg c11] at H
                  have c11b0 : decide (x45_2 < (t168.size : Int)) = false := decide_eq_false c11
                  clear c11
                  by_cases c25 : x6_2 = 0
                  · rw [if_pos c25] at H
                    have c25b0 : (x6_2 == 0) = true := beq_iff_eq.mpr c25
                    have c25b1 : (x6_2 != 0) = false := bne_eq_false_iff_eq.mpr c25
                    clear c25
                    simp only [Option.some.injEq, Prod.mk.injEq] at H
                    obtain ⟨rfl, rfl⟩ := H
                    go_wp2
                    go_ret2
                    exact ⟨_, by first | rfl | (simp [errW_none, errW_some] <;> rfl) | (simp [*, errW_none, errW_some] <;> rfl), by (with_reducible repeat (first | apply Kd.R_alloc | apply Kd.R_drewN | apply Kd.R_drew)); exact HO_5.out, by repeat (first | (with_reducible first | exact HB.out | apply below_alloc | apply pw_below_drewN | apply below_drew1) | exact HB.out)⟩
                  · rw [if_neg c25] at H
                    have c25b0 : (x6_2 == 0) = false := beq_eq_false_iff_ne.mpr c25
                    have c25b1 : (x6_2 != 0) = true := bne_iff_ne.mpr c25
                    simp only [Option.some.injEq, Prod.mk.injEq] at H
                    obtain ⟨rfl, rfl⟩ := H
                    go_wp2
                    go_ret2
                    exact ⟨_, by first | rfl | (simp [errW_none, errW_some] <;> rfl) | (simp [*, errW_none, errW_some] <;> rfl), by first | exact Kd.R_nil _ _ _ _ _ | exact Kd.N_nil _ _ _ _ _ | exact Kd.V_nil _ _ _ _ _ | exact Kd.Q_nil _ _ _ _ _ | exact Kd.S_nil _ _ _ _ _, by repeat (first | (with_reducible first | exact HB.out | apply below_alloc | apply pw_below_drewN | apply below_drew1) | exact HB.out)⟩
    · rw [if_neg c3] at H
      have c3b0 : (((a0.size : Int) % 4) == 0) = false := beq_eq_false_iff_ne.mpr c3
      have c3b1 : (((a0.size : Int) % 4) != 0) = true := bne_iff_ne.mpr c3
      simp only [Option.some.injEq, Prod.mk.injEq] at H
      obtain ⟨rfl, rfl⟩ := H
      go_enter Try.func23, Try.ntmps23
      go_wp2
      go_ret2
      exact ⟨_, by first | rfl | (simp [errW_none, errW_some] <;> rfl) | (simp [*, errW_none, errW_some] <;> rfl), by first | exact Kd.R_nil _ _ _ _ _ | exact Kd.N_nil _ _ _ _ _ | exact Kd.V_nil _ _ _ _ _ | exact Kd.Q_nil _ _ _ _ _ | exact Kd.S_nil _ _ _ _ _, by repeat (first | (with_reducible first | exact HB.out | apply below_alloc | apply pw_below_drewN | apply below_drew1) | exact HB.out)⟩

/-! ### racewayref22_at: function 35 -/
def racewayref22_at.l0 : Nat → ByteArray → Int → Int → Option (Int)
  | 0, _, _, _ => none
  | k + 1, x0, x1, x5 => if x5 < (x0.size : Int) then (if 0 ≤ x5 then (if (bt x0 x5) = x1 then (some x5) else (racewayref22_at.l0 k x0 x1 (wrap64 (x5 + 1)))) else (none)) else (some (-1))
def racewayref22_at.f (k : Nat) (a0 : ByteArray) (a1 : Int) : Option (Int) := racewayref22_at.l0 k a0 a1 0
theorem racewayref22_at.mono_l : ∀ k, (∀ y0 y1 y2, LeO (racewayref22_at.l0 k y0 y1 y2) (racewayref22_at.l0 (k + 1) y0 y1 y2))
  | 0 => fun _ _ _ r h => by simp [racewayref22_at.l0] at h
  | k + 1 => by
    have ih0 := racewayref22_at.mono_l k
    · intro y0 y1 y2
      unfold racewayref22_at.l0
      repeat' first
      | (with_reducible exact ih0 _ _ _)
      | (with_reducible exact LeO.refl _)
      | (with_reducible exact LeO.none _)
      | (with_reducible refine LeO.ite ?_ ?_)
      | (with_reducible refine LeO.bind ?_ (fun _ => ?_))
      | exact ih0 _ _ _
      | exact LeO.none _
      | refine LeO.ite ?_ ?_
      | refine LeO.bind ?_ (fun _ => ?_)
theorem racewayref22_at.mono : ∀ a0 a1 k, LeO (racewayref22_at.f k a0 a1) (racewayref22_at.f (k + 1) a0 a1) := by
  intro a0 a1 k
  have ih0 := racewayref22_at.mono_l k
  unfold racewayref22_at.f
  repeat' first
      | (with_reducible exact ih0 _ _ _)
      | (with_reducible exact LeO.refl _)
      | (with_reducible exact LeO.none _)
      | (with_reducible refine LeO.ite ?_ ?_)
      | (with_reducible refine LeO.bind ?_ (fun _ => ?_))
      | exact ih0 _ _ _
      | exact LeO.none _
      | refine LeO.ite ?_ ?_
      | refine LeO.bind ?_ (fun _ => ?_)
set_option maxHeartbeats 8000000 in
set_option maxRecDepth 100000 in
theorem racewayref22_at.calls (k : Nat) (a0 : ByteArray) (a1 : Int) (r : Int) (w : World) (h : racewayref22_at.f k a0 a1 = some r) :
    Calls Try.prog 35 #[.string a0, .int .u8 a1] w fun e w' => e = .returned (.int .i64 r) ∧ Drawn0 w w' := by
  have H : (racewayref22_at.l0 k a0 a1 0) = some r := h
  clear h
  have H' := Aside0.mk H
  clear H
  go_enter Try.func35, Try.ntmps35
  go_wp2
  go_loopg [5] k (fun kq v5 w' => ∃ (x5_1 : Int), v5 = .int .i64 x5_1 ∧ Aside0 (racewayref22_at.l0 kq a0 a1 x5_1 = some r) ∧ Aside0 (kq ≤ k) ∧ Drawn0 w w')
  case atStart => exact ⟨(0), (by first | rfl | (simp; done) | (simp [*]; done)), H', ⟨Nat.le_refl _⟩, by repeat (first | exact Drawn0.refl _ | apply Drawn0.step)⟩
  case round =>
    clear H'
    try clear p2
    obtain ⟨x5_1, rfl, HA, HK1, ⟨m1, rfl⟩⟩ := hrel
    cases gk with
    | zero => exact absurd HA.out (by simp [racewayref22_at.l0])
    | succ k1 =>
      have H := HA.out
      clear HA
      simp only [racewayref22_at.l0] at H
      by_cases c3 : x5_1 < (a0.size : Int)
      · rw [if_pos c3] at H
        have c3b0 : decide (x5_1 < (a0.size : Int)) = true := decide_eq_true c3
        clear c3
        by_cases c4 : 0 ≤ x5_1
        · rw [if_pos c4] at H
          have c4b0 : decide (0 ≤ x5_1) = true := decide_eq_true c4
          clear c4
          by_cases c6 : (bt a0 x5_1) = a1
          · rw [if_pos c6] at H
            have c6b0 : ((bt a0 x5_1) == a1) = true := beq_iff_eq.mpr c6
            have c6b1 : ((bt a0 x5_1) != a1) = false := bne_eq_false_iff_eq.mpr c6
            clear c6
            obtain rfl := Option.some.inj H
            have p5 : 0 ≤ (x5_1 : Int) := of_decide_eq_true (by first | (with_reducible assumption) | assumption)
            have q5 : x5_1 < (a0.size : Int) := of_decide_eq_true (by first | (with_reducible assumption) | assumption)
            have hx5 := bt_at a0 x5_1
            replace p5 := eq_true p5
            replace q5 := eq_true q5
            go_wp2
            go_ret
            exact ⟨by first | rfl | (simp; done) | (simp [*]; done), by repeat (first | exact Drawn0.refl _ | apply Drawn0.step)⟩
          · rw [if_neg c6] at H
            have c6b0 : ((bt a0 x5_1) == a1) = false := beq_eq_false_iff_ne.mpr c6
            have c6b1 : ((bt a0 x5_1) != a1) = true := bne_iff_ne.mpr c6
            have H' := Aside0.mk H
            clear H
            have p5 : 0 ≤ (x5_1 : Int) := of_decide_eq_true (by first | (with_reducible assumption) | assumption)
            have q5 : x5_1 < (a0.size : Int) := of_decide_eq_true (by first | (with_reducible assumption) | assumption)
            have hx5 := bt_at a0 x5_1
            replace p5 := eq_true p5
            replace q5 := eq_true q5
            go_wp2
            go_roundg k1
            case measure => have := HK1.out; omega
            case rel => exact ⟨(wrap64 (x5_1 + 1)), (by first | rfl | (simp; done) | (simp [*]; done)), H', ⟨by have := HK1.out; omega⟩, by repeat (first | exact Drawn0.refl _ | apply Drawn0.step)⟩
        · rw [if_neg c4] at H
          exact absurd H (by simp)
      · rw [if_neg c3] at H
        have c3b0 : decide (x5_1 < (a0.size : Int)) = false := decide_eq_false c3
        clear c3
        obtain rfl := Option.some.inj H
        go_wp2
        go_ret
        exact ⟨by first | rfl | (simp; done) | (simp [*]; done), by repeat (first | exact Drawn0.refl _ | apply Drawn0.step)⟩

end Go.Proofs.Ytgopfelmhlgglaa.PA

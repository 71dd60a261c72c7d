/- The plain statement of BasicPads: texts of twenty digits stand in the order of their numbers. For every two numbers. -/
import Derived.Test.YtgopfelmhlgglaaBas1
import Derived.Test.YtgopfelmhlgglaaPAx9
namespace Go.Proofs.Ytgopfelmhlgglaa.Bas
open Go.RowKit Go.Proofs.Ytgopfelmhlgglaa.PA Go.Proofs.YtgopfelmhlgglaaEnc Go.Proofs.YtgopfelmhlgglaaW.PrintWords Go.Proofs.YtgopfelmhlgglaaW.PrintLast
/-- The last k digits of a number. -/
def fx : Nat → Nat → List UInt8
  | 0, _ => []
  | k + 1, n => fx k (n / 10) ++ [UInt8.ofNat (48 + n % 10)]
theorem fx_len : ∀ k n, (fx k n).length = k
  | 0, _ => rfl
  | k + 1, n => by rw [fx, List.length_append, fx_len k]; rfl
def toU (l : List Int) : List UInt8 := l.map fun n => UInt8.ofNat n.toNat
theorem fx_zero : ∀ k, fx k 0 = List.replicate k 48
  | 0 => rfl
  | k + 1 => by rw [fx, Nat.zero_div, fx_zero k, List.replicate_succ']; rfl
theorem pad_fx : ∀ (k n : Nat), n < 10 ^ k → 1 ≤ k → (decD n []).length ≤ k ∧ List.replicate (k - (decD n []).length) 48 ++ toU (decD n []) = fx k n := by
  intro k
  induction k with
  | zero => intro n _ h; omega
  | succ k ih =>
    intro n hn _
    by_cases h10 : n < 10
    · rw [decD_lt h10]
      refine ⟨by simp, ?_⟩
      rw [fx, show n / 10 = 0 from by omega, fx_zero, Nat.mod_eq_of_lt h10]
      rfl
    · have hk : 1 ≤ k := by
        rcases k with _ | k
        · simp at hn; omega
        · omega
      have hlt : n / 10 < 10 ^ k := by rw [Nat.div_lt_iff_lt_mul (by decide)]; rw [Nat.pow_succ] at hn; exact hn
      obtain ⟨h1, h2⟩ := ih (n / 10) hlt hk
      rw [decD_ge h10, decD_append]
      refine ⟨by simp; omega, ?_⟩
      rw [fx, ← h2, List.length_append, List.length_singleton, show k + 1 - ((decD (n / 10) []).length + 1) = k - (decD (n / 10) []).length from by omega]
      unfold toU
      rw [List.map_append, List.append_assoc]
      rfl
theorem less_snoc : ∀ (x y : List UInt8) (c d : UInt8), x.length = y.length → Op.bytesLess (x ++ [c]) (y ++ [d]) = (Op.bytesLess x y || (x == y && decide (c < d)))
  | [], [], c, d, _ => by simp [Op.bytesLess]
  | a :: x, b :: y, c, d, h => by
    have ih := less_snoc x y c d (by simpa using h)
    simp only [List.cons_append, Op.bytesLess, ih]
    by_cases hab : a = b
    · subst hab; simp
    · have h1 : (a == b) = false := by simpa using hab
      have h2 : (a :: x == b :: y) = false := by simp [hab]
      rw [h1, h2]; simp
  | [], _ :: _, _, _, h => by simp at h
  | _ :: _, [], _, _, h => by simp at h
theorem dig_lt {x y : Nat} (hx : x < 10) (hy : y < 10) : (UInt8.ofNat (48 + x) < UInt8.ofNat (48 + y)) ↔ x < y := by
  have key : ∀ (x y : Fin 10), (UInt8.ofNat (48 + x.val) < UInt8.ofNat (48 + y.val)) ↔ x.val < y.val := by decide
  exact key ⟨x, hx⟩ ⟨y, hy⟩
theorem dig_eq {x y : Nat} (hx : x < 10) (hy : y < 10) (h : UInt8.ofNat (48 + x) = UInt8.ofNat (48 + y)) : x = y := by
  have key : ∀ (x y : Fin 10), UInt8.ofNat (48 + x.val) = UInt8.ofNat (48 + y.val) → x.val = y.val := by decide
  exact key ⟨x, hx⟩ ⟨y, hy⟩ h
theorem fx_inj : ∀ (k a b : Nat), a < 10 ^ k → b < 10 ^ k → fx k a = fx k b → a = b
  | 0, a, b, ha, hb, _ => by simp at ha hb; omega
  | k + 1, a, b, ha, hb, h => by
    rw [fx, fx] at h
    obtain ⟨h1, h2⟩ := List.append_inj h (by rw [fx_len, fx_len])
    have ha' : a / 10 < 10 ^ k := by rw [Nat.div_lt_iff_lt_mul (by decide)]; rw [Nat.pow_succ] at ha; exact ha
    have hb' : b / 10 < 10 ^ k := by rw [Nat.div_lt_iff_lt_mul (by decide)]; rw [Nat.pow_succ] at hb; exact hb
    have e1 := fx_inj k _ _ ha' hb' h1
    have e2 := dig_eq (Nat.mod_lt a (by decide)) (Nat.mod_lt b (by decide)) (by simpa using h2)
    omega
theorem fx_less : ∀ (k a b : Nat), a < 10 ^ k → b < 10 ^ k → Op.bytesLess (fx k a) (fx k b) = decide (a < b)
  | 0, a, b, ha, hb => by simp at ha hb; subst ha hb; simp [fx, Op.bytesLess]
  | k + 1, a, b, ha, hb => by
    have ha' : a / 10 < 10 ^ k := by rw [Nat.div_lt_iff_lt_mul (by decide)]; rw [Nat.pow_succ] at ha; exact ha
    have hb' : b / 10 < 10 ^ k := by rw [Nat.div_lt_iff_lt_mul (by decide)]; rw [Nat.pow_succ] at hb; exact hb
    rw [fx, fx, less_snoc _ _ _ _ (by rw [fx_len, fx_len]), fx_less k _ _ ha' hb']
    have hd : decide (UInt8.ofNat (48 + a % 10) < UInt8.ofNat (48 + b % 10)) = decide (a % 10 < b % 10) := by
      rw [decide_eq_decide]; exact dig_lt (Nat.mod_lt a (by decide)) (Nat.mod_lt b (by decide))
    rw [hd]
    by_cases he : a / 10 = b / 10
    · have : (fx k (a / 10) == fx k (b / 10)) = true := by rw [he]; simp
      rw [this, Bool.eq_iff_iff]
      simp
      omega
    · have : (fx k (a / 10) == fx k (b / 10)) = false := by
        rw [beq_eq_false_iff_ne]
        exact fun h => he (fx_inj k _ _ ha' hb' h)
      rw [this, Bool.eq_iff_iff]
      simp
      omega
theorem padL_20 {a : Int} (h0 : 0 ≤ a) (h2 : a ≤ 9223372036854775807) : (padL a 20).length = 20 ∧ (strOfNums (padL a 20)).toList = fx 20 a.toNat := by
  have hm : mn (mx 20 1) 100 = 20 := by decide
  obtain ⟨h1, h3⟩ := pad_fx 20 a.toNat (by omega) (by decide)
  have hi : itoaL a = decD a.toNat [] := by unfold itoaL; rw [if_neg (by omega)]
  have hp : padL a 20 = List.replicate (20 - (decD a.toNat []).length) 48 ++ decD a.toNat [] := by
    unfold padL
    rw [if_neg (by omega), hm, hi]
    congr 2
    omega
  rw [hp]
  refine ⟨by rw [List.length_append, List.length_replicate]; omega, ?_⟩
  rw [sn_toList, List.map_append, List.map_replicate, ← h3]
  rfl
end Go.Proofs.Ytgopfelmhlgglaa.Bas
namespace Go.Proofs.Ytgopfelmhlgglaa.Pure
open Go.RowKit Go.Proofs.Ytgopfelmhlgglaa.PA Go.Proofs.Ytgopfelmhlgglaa.Bas Go.Proofs.YtgopfelmhlgglaaW.PrintWords Go.Proofs.YtgopfelmhlgglaaW.PrintLast
theorem BasicPads : racewaylaw22_BasicPads.Pure := by
  intro a b ha hb
  obtain ⟨a1, a2⟩ := wf64 ha
  obtain ⟨b1, b2⟩ := wf64 hb
  refine Ev.rounds ?_
  unfold racewaylaw22_BasicPads.f
  have hT : Ev (fun k => racewaylaw22_BasicPads.j0 k a b true) true := by
    refine Ev.step (f := fun _ => some true) (fun k => ?_) (Ev.now _)
    rw [racewaylaw22_BasicPads.j0, if_pos rfl, works_some]; rfl
  by_cases h0 : a < 0
  · simp only [if_pos h0]; exact hT
  · simp only [if_neg h0]
    by_cases h1 : b < 0
    · rw [show decide (b < 0) = true from decide_eq_true h1]; exact hT
    · rw [show decide (b < 0) = false from decide_eq_false h1]
      refine Ev.step (f := fun _ => some true) (fun k => ?_) (Ev.now _)
      obtain ⟨l1, e1⟩ := padL_20 (a := a) (by omega) a2
      obtain ⟨l2, e2⟩ := padL_20 (a := b) (by omega) b2
      have hl : Op.bytesLess (strOfNums (padL a 20)).toList (strOfNums (padL b 20)).toList = decide (a < b) := by
        rw [e1, e2, fx_less 20 _ _ (by omega) (by omega), decide_eq_decide]
        omega
      rw [racewaylaw22_BasicPads.j0, if_neg (by decide), Pad_some a1 a2 (by decide) (by decide), Option.bind_some, Pad_some b1 b2 (by decide) (by decide), Option.bind_some, hl, strOfNums_size, strOfNums_size, l1, l2, works_some]
      simp
end Go.Proofs.Ytgopfelmhlgglaa.Pure

/- The plain statement of BasicLong: a text is read up to the limit, and told as too long behind it. For every number. -/
import Derived.Test.YtgopfelmhlgglaaBas7
import Derived.Test.YtgopfelmhlgglaaPAx16
namespace Go.Proofs.Ytgopfelmhlgglaa.Bas
open Go.RowKit Go.Proofs.Ytgopfelmhlgglaa.PA Go.Proofs.YtgopfelmhlgglaaEnc Go.Proofs.YtgopfelmhlgglaaW.PrintWords Go.Proofs.YtgopfelmhlgglaaW.PrintLast Go.Proofs.YtgopfelmhlgglaaW.PrintMore
theorem six65 : sixS 65 = ((0 : Nat) : Int) := by decide
theorem hx48 : hxS 48 = 0 := by decide
theorem one61 : (65 : Int) ≠ 61 := by decide
attribute [local irreducible] sixS hxS bt strOfNums sgn
theorem set_rep (a b : Int) : ∀ (i m : Nat), (List.replicate i a ++ List.replicate (m + 1) b).set i a = List.replicate (i + 1) a ++ List.replicate m b := by
  intro i m
  rw [List.set_append_right _ _ (by simp), List.length_replicate, Nat.sub_self, List.replicate_succ, List.set_cons_zero, List.replicate_succ', List.append_assoc]
  rfl
theorem rep_byts (n : Nat) {a : Int} (h : 0 ≤ a ∧ a < 256) : Byts (List.replicate n a) := fun x hx => by rw [(List.mem_replicate.1 hx).2]; exact h
theorem long_l0 {n : Nat} (hn : n ≤ 200000) {x0 : Int} {r : Bool} (h : Ev (fun k => (basic_Decode.f k (strOfNums (List.replicate n 65))).bind fun b => racewaylaw22_BasicLong.l1 k x0 (List.replicate n 65) b.1 b.2 (n : Int) 0) r) : ∀ (m i : Nat), i + m = n →
    Ev (fun k => racewaylaw22_BasicLong.l0 k x0 (List.replicate i 65 ++ List.replicate m 0) (n : Int) (i : Int)) r := by
  intro m
  induction m with
  | zero =>
    intro i hi
    obtain rfl : i = n := by omega
    rw [List.replicate_zero, List.append_nil]
    refine Ev.step (fun k => ?_) h
    rw [racewaylaw22_BasicLong.l0, if_neg (by omega), List.length_replicate]
  | succ m ih =>
    intro i hi
    refine Ev.step (fun k => ?_) (ih (i + 1) (by omega))
    have hl : (List.replicate i (65 : Int) ++ List.replicate (m + 1) 0).length = n := by simp; omega
    rw [racewaylaw22_BasicLong.l0, hl, if_pos (by omega), if_pos (by omega), if_pos (by omega), Int.toNat_natCast, set_rep, wr1 (by omega)]
theorem long_l1 {n : Nat} (hn : n ≤ 200000) {x0 : Int} {x5 : List Int} {x6 : Int} {r : Bool} (h : Ev (fun k => racewaylaw22_BasicLong.l1 k x0 (List.replicate n 48) x5 x6 (n : Int) (n : Int)) r) : ∀ (m i : Nat), i + m = n →
    Ev (fun k => racewaylaw22_BasicLong.l1 k x0 (List.replicate i 48 ++ List.replicate m 65) x5 x6 (n : Int) (i : Int)) r := by
  intro m
  induction m with
  | zero =>
    intro i hi
    obtain rfl : i = n := by omega
    rw [List.replicate_zero, List.append_nil]
    exact h
  | succ m ih =>
    intro i hi
    refine Ev.step (fun k => ?_) (ih (i + 1) (by omega))
    have hl : (List.replicate i (48 : Int) ++ List.replicate (m + 1) 65).length = n := by simp; omega
    rw [racewaylaw22_BasicLong.l1, hl, if_pos (by omega), if_pos (by omega), if_pos (by omega), Int.toNat_natCast, set_rep, wr1 (by omega)]
theorem dl_zeros : ∀ m : Nat, dl (List.replicate (4 * m) 65) 0 0 = some (List.replicate (3 * m) 0)
  | 0 => by rw [Nat.mul_zero, List.replicate_zero, dl, if_pos rfl]; rfl
  | m + 1 => by
    rw [show 4 * (m + 1) = 4 * m + 1 + 1 + 1 + 1 from by omega, List.replicate_succ, List.replicate_succ, List.replicate_succ, List.replicate_succ, dl_four six65 six65 six65 six65 (by decide) (by decide) (by decide) (by decide), dl_zeros m]
    rw [show 3 * (m + 1) = 3 * m + 1 + 1 + 1 from by omega]
    rfl
theorem uh_zeros : ∀ m : Nat, uh (List.replicate (2 * m) 48) = some (List.replicate m 0)
  | 0 => by rw [Nat.mul_zero, List.replicate_zero]; rfl
  | m + 1 => by
    rw [show 2 * (m + 1) = 2 * m + 1 + 1 from by omega, List.replicate_succ, List.replicate_succ, uh, hx48, if_neg (by decide), uh_zeros m]
    rfl
end Go.Proofs.Ytgopfelmhlgglaa.Bas
namespace Go.Proofs.Ytgopfelmhlgglaa.Pure
open Go.RowKit Go.Proofs.Ytgopfelmhlgglaa.PA Go.Proofs.Ytgopfelmhlgglaa.Bas Go.Proofs.YtgopfelmhlgglaaEnc Go.Proofs.YtgopfelmhlgglaaW.PrintWords Go.Proofs.YtgopfelmhlgglaaW.PrintLast Go.Proofs.YtgopfelmhlgglaaW.PrintMore
theorem BasicLong : racewaylaw22_BasicLong.Pure := by
  intro a ha
  obtain ⟨a1, a2⟩ := wf64 ha
  have hT : ∃ n : Nat, wrap64 (131072 + (wrap64 ((wrap64 ((Int.tmod (wrap64 ((Int.tmod a 5) + 5)) 5) - 2)) * 4))) = (n : Int) ∧ 131064 ≤ n ∧ n ≤ 131080 ∧ n % 4 = 0 := by
    have h1 : -5 < Int.tmod a 5 := Int.lt_tmod_of_pos a (by decide)
    have h2 : Int.tmod a 5 < 5 := Int.tmod_lt_of_pos a (by decide)
    generalize Int.tmod a 5 = p at *
    rw [wrap_id (n := p + 5) (by omega) (by omega), Int.tmod_eq_emod_of_nonneg (by omega)]
    have h3 : 0 ≤ (p + 5) % 5 ∧ (p + 5) % 5 < 5 := by omega
    generalize (p + 5) % 5 = q at *
    rw [wrap_id (n := q - 2) (by omega) (by omega), wrap_id (n := (q - 2) * 4) (by omega) (by omega), wrap_id (by omega) (by omega)]
    exact ⟨(131072 + (q - 2) * 4).toNat, by omega, by omega, by omega, by omega⟩
  obtain ⟨n, hn, n1, n2, n4⟩ := hT
  refine Ev.rounds ?_
  unfold racewaylaw22_BasicLong.f
  simp only [hn]
  simp only [if_pos (show (0 : Int) ≤ (n : Int) by omega), Int.toNat_natCast, if_pos (show n ≤ 281474976710656 by omega), Option.bind_some, List.length_replicate]
  refine long_l0 (by omega) ?_ n 0 (by omega)
  refine Ev.bind (Decode_ev (rep_byts _ (by decide)) (by rw [List.length_replicate]; omega)) ?_
  refine long_l1 (by omega) ?_ n 0 (by omega)
  have hD : decS (List.replicate n 65) = if n > 131072 then ([], 3) else (List.replicate (n / 4 * 3) 0, 0) := by
    unfold decS
    rw [List.length_replicate]
    by_cases h : 131072 < n
    · rw [if_pos h, if_pos h]
    · have hc : core (List.replicate n (65 : Int)) = List.replicate n 65 := by
        have h61 : ∀ x ∈ List.replicate n (65 : Int), x ≠ 61 := fun x hx => by rw [(List.mem_replicate.1 hx).2]; exact one61
        unfold core
        rw [trim_sgn h61, trim_sgn h61]
      rw [if_neg h, if_neg h, if_neg (by omega), hc, List.length_replicate, if_neg]
      · obtain ⟨m, rfl⟩ : ∃ m, n = 4 * m := ⟨n / 4, by omega⟩
        rw [dl_zeros m]
        show (List.replicate (3 * m) (0 : Int), (0 : Int)) = _
        rw [show 4 * m / 4 * 3 = 3 * m from by omega]
      · rintro (e | e | e)
        · omega
        · have hm : (61 : Int) ∈ List.replicate n (65 : Int) := List.mem_of_mem_drop (i := n - 1) (by rw [e]; simp)
          exact one61 (List.mem_replicate.1 hm).2.symm
        · omega
  have hU : unhexS (List.replicate n 48) = if n > 131072 then ([], 3) else (List.replicate (n / 2) 0, 0) := by
    unfold unhexS
    rw [List.length_replicate]
    by_cases h : 131072 < n
    · rw [if_pos h, if_pos h]
    · rw [if_neg h, if_neg h, if_pos (by omega)]
      obtain ⟨m, rfl⟩ : ∃ m, n = 2 * m := ⟨n / 2, by omega⟩
      rw [uh_zeros m]
      show (List.replicate m (0 : Int), (0 : Int)) = _
      rw [show 2 * m / 2 = m from by omega]
  rw [hD]
  refine Ev.step (f := fun k => (basic_Unhex.f k (strOfNums (List.replicate n 48))).bind fun bt263 => (if (n : Int) > 131072 then (if (if n > 131072 then (([] : List Int), (3 : Int)) else (List.replicate (n / 4 * 3) 0, 0)).2 = 3 then (if bt263.2 = 3 then (if ((if n > 131072 then (([] : List Int), (3 : Int)) else (List.replicate (n / 4 * 3) 0, 0)).1.length : Int) = 0 then (if (bt263.1.length : Int) = 0 then (some true) else (some false)) else (some false)) else (some false)) else (some false)) else (if (if n > 131072 then (([] : List Int), (3 : Int)) else (List.replicate (n / 4 * 3) 0, 0)).2 = 0 then (if bt263.2 = 0 then (if ((if n > 131072 then (([] : List Int), (3 : Int)) else (List.replicate (n / 4 * 3) 0, 0)).1.length : Int) = (wrap64 ((wrap64 (Int.tdiv (n : Int) 4)) * 3)) then (if (bt263.1.length : Int) = (wrap64 (Int.tdiv (n : Int) 2)) then (some true) else (some false)) else (some false)) else (some false)) else (some false)))) (fun k => by rw [racewaylaw22_BasicLong.l1, if_neg (by omega)]; rfl) ?_
  refine Ev.bind (Unhex_ev (rep_byts _ (by decide)) (by rw [List.length_replicate]; omega)) ?_
  rw [hU]
  by_cases h : n > 131072
  · simp only [if_pos h, if_pos (show (n : Int) > 131072 by omega), if_true, List.length_nil]
    exact Ev.now true
  · have e1 : ((List.replicate (n / 4 * 3) (0 : Int)).length : Int) = wrap64 ((wrap64 (Int.tdiv (n : Int) 4)) * 3) := by
      rw [List.length_replicate, Int.tdiv_eq_ediv_of_nonneg (by omega), wrap_id (n := (n : Int) / 4) (by omega) (by omega), wrap_id (by omega) (by omega)]; omega
    have e2 : ((List.replicate (n / 2) (0 : Int)).length : Int) = wrap64 (Int.tdiv (n : Int) 2) := by
      rw [List.length_replicate, Int.tdiv_eq_ediv_of_nonneg (by omega), wrap_id (n := (n : Int) / 2) (by omega) (by omega)]; omega
    simp only [if_neg h, if_neg (show ¬ (n : Int) > 131072 by omega), if_true, if_pos e1, if_pos e2]
    exact Ev.now true
end Go.Proofs.Ytgopfelmhlgglaa.Pure

/- Plain laws: bytes that are written in base 16 and in base 64, in both readings. Conditions: as in each theorem. -/
import Derived.Test.YtgopfelmhlgglaaBas2
namespace Go.Proofs.Ytgopfelmhlgglaa.Bas
open Go.RowKit Go.Proofs.Ytgopfelmhlgglaa.PA Go.Proofs.YtgopfelmhlgglaaEnc Go.Proofs.YtgopfelmhlgglaaW.PrintWords Go.Proofs.YtgopfelmhlgglaaW.PrintLast Go.Proofs.YtgopfelmhlgglaaW.PrintMore
set_option linter.unusedVariables false
set_option linter.unusedSimpArgs false
/-! ### base 16 -/
def hexL (l : List Int) : List Int := l.flatMap fun b => [dig (b / 16).toNat, dig (b % 16).toNat]
theorem hexL_len (l : List Int) : (hexL l).length = 2 * l.length := by
  unfold hexL
  induction l with
  | nil => rfl
  | cons a t ih => rw [List.flatMap_cons, List.length_append, ih]; simp; omega
theorem hexL_byts {l : List Int} (hb : Byts l) : Byts (hexL l) := fun x h => by
  obtain ⟨b, hb1, h2⟩ := List.mem_flatMap.1 h
  have := hb b hb1
  simp only [List.mem_cons, List.not_mem_nil, or_false] at h2
  rcases h2 with rfl | rfl <;> exact dig_range _ (by omega)
theorem bt_tens {n : Int} (h : 0 ≤ n ∧ n < 16) : bt (⟨#[48, 49, 50, 51, 52, 53, 54, 55, 56, 57, 97, 98, 99, 100, 101, 102]⟩ : ByteArray) n = dig n.toNat := by
  have key : ∀ n : Fin 16, bt (⟨#[48, 49, 50, 51, 52, 53, 54, 55, 56, 57, 97, 98, 99, 100, 101, 102]⟩ : ByteArray) (n.val : Int) = dig n.val := by decide +kernel
  have := key ⟨n.toNat, by omega⟩
  rwa [show ((n.toNat : Nat) : Int) = n from by omega] at this
theorem rd_drop {l t : List Int} {b : Int} {i : Nat} (h : l.drop i = b :: t) : rd l (i : Int) = b := by
  obtain ⟨_, _, h3⟩ := drop_cons h
  unfold rd; rw [Int.toNat_natCast, List.getD_eq_getElem?_getD, h3]; rfl
theorem Hex_l0 {l : List Int} (hb : Byts l) (hl : l.length ≤ 1000000) : ∀ (t : List Int) (i : Nat) (out : List Int), l.drop i = t → out.length + 2 * t.length ≤ 2000000 →
    Ev (fun k => basic_Hex.l0 k out l (l.length : Int) (i : Int)) (strOfNums (out ++ hexL t))
  | [], i, out, ht, ho => by
    have hle : l.length ≤ i := by simpa using ht
    refine Ev.step (f := fun _ => some (strOfNums out)) (fun k => ?_) (by rw [show out ++ hexL [] = out from List.append_nil _]; exact Ev.now _)
    rw [basic_Hex.l0, if_neg (by omega)]
  | b :: t, i, out, ht, ho => by
    obtain ⟨hlt, ht', _⟩ := drop_cons ht
    have hbb := hb b (by rw [← List.take_append_drop i l, ht]; simp)
    rw [show out ++ hexL (b :: t) = (out ++ [dig (b / 16).toNat, dig (b % 16).toNat]) ++ hexL t from by unfold hexL; rw [List.flatMap_cons, List.append_assoc]]
    refine Ev.step (fun k => ?_) (Hex_l0 hb hl t (i + 1) (out ++ [dig (b / 16).toNat, dig (b % 16).toNat]) ht' (by simp at ho ⊢; omega))
    simp only [List.length_cons] at ho
    rw [basic_Hex.l0, if_pos (by omega), if_pos (by omega), if_pos (by omega), rd_drop ht, and15 hbb, if_pos (by omega), if_pos (by omega), if_pos (by omega), if_pos (by omega), bt_tens (by omega), bt_tens (by omega), Option.bind_some, if_pos (by simp; omega), wrap_id (by omega) (by omega)]
    rfl
theorem Hex_ev {l : List Int} (hb : Byts l) (hl : l.length ≤ 1000000) : Ev (fun k => basic_Hex.f k l) (strOfNums (hexL l)) := by
  unfold basic_Hex.f
  have hw : wrap64 (2 * (l.length : Int)) = 2 * (l.length : Int) := wrap_id (by omega) (by omega)
  simp only [hw, if_pos (show (0 : Int) ≤ 2 * (l.length : Int) by omega), if_pos (show (2 * (l.length : Int)).toNat ≤ 281474976710656 by omega)]
  exact Hex_l0 hb hl l 0 [] rfl (by simp; omega)
theorem refHex_step {l t : List Int} {b : Int} {i : Nat} (hb : Byts l) (hl : l.length ≤ 1000000) (ht : l.drop i = b :: t) (out : List Int) (ho : out.length ≤ 2000000) (k : Nat) :
    racewayref22_Hex.l0 (k + 1) l (strOfNums out) (i : Int) = racewayref22_Hex.l0 k l (strOfNums (out ++ [dig (b / 16).toNat, dig (b % 16).toNat])) ((i + 1 : Nat) : Int) := by
  obtain ⟨hlt, ht', _⟩ := drop_cons ht
  have hbb := hb b (by rw [← List.take_append_drop i l, ht]; simp)
  have hr := rd_drop ht
  clear ht hb ht'
  obtain ⟨h, hh, hh'⟩ : ∃ h : Nat, (b / 16).toNat = h ∧ h < 16 := ⟨_, rfl, by omega⟩
  obtain ⟨m, hm, hm'⟩ : ∃ m : Nat, (b % 16).toNat = m ∧ m < 16 := ⟨_, rfl, by omega⟩
  have e0 : wrap64 b = b := wrap_id (by omega) (by omega)
  have e1 : wrap64 (Int.tdiv b 16) = (h : Int) := by rw [Int.tdiv_eq_ediv_of_nonneg hbb.1, wrap_id (by omega) (by omega)]; omega
  have e2 : Int.tmod b 16 = (m : Int) := by rw [Int.tmod_eq_emod_of_nonneg hbb.1]; omega
  have e3 : wrap64 ((i : Int) + 1) = ((i + 1 : Nat) : Int) := by rw [wrap_id (by omega) (by omega)]; omega
  obtain ⟨t1, t2⟩ := tens_step hh' (strOfNums out)
  obtain ⟨t3, t4⟩ := tens_step hm' (strOfNums out)
  have s1 : (strOfNums [dig h]).size = 1 := strOfNums_size _
  have s2 : (strOfNums [dig m]).size = 1 := strOfNums_size _
  have s3 : (strOfNums out).size = out.length := strOfNums_size _
  have s4 : (strOfNums (out ++ [dig h])).size = out.length + 1 := by rw [strOfNums_size]; simp
  have c1 : strOfNums out ++ strOfNums [dig h] = strOfNums (out ++ [dig h]) := sn_append _ _
  have c2 : strOfNums (out ++ [dig h]) ++ strOfNums [dig m] = strOfNums (out ++ [dig h, dig m]) := by rw [sn_append, List.append_assoc]; rfl
  rw [hh, hm]
  clear hh hm
  rw [racewayref22_Hex.l0, hr, e0, e1, e2, t1, t2, t3, t4, c1, c2, e3, s1, s2, s3, s4]
  clear t1 t2 t3 t4 c1 c2 e0 e1 e2 e3 s1 s2 s3 s4 hr
  have g1 : (i : Int) < (l.length : Int) := by omega
  have g2 : (0 : Int) ≤ (i : Int) := by omega
  have g3 : (0 : Int) ≤ (h : Int) := by omega
  have g4 : (h : Int) ≤ ((h + 1 : Nat) : Int) := by omega
  have g5 : ((h + 1 : Nat) : Int) ≤ 16 := by omega
  have g6 : out.length + 1 ≤ 9223372036854775807 := by omega
  have g7 : (0 : Int) ≤ (m : Int) := by omega
  have g8 : (m : Int) ≤ ((m + 1 : Nat) : Int) := by omega
  have g9 : ((m + 1 : Nat) : Int) ≤ 16 := by omega
  have g10 : out.length + 1 + 1 ≤ 9223372036854775807 := by omega
  rw [if_pos g1, if_pos g2, if_pos g3, if_pos g4, if_pos g5, if_pos g6, if_pos g7, if_pos g8, if_pos g9, if_pos g10]
theorem refHex_l0 {l : List Int} (hb : Byts l) (hl : l.length ≤ 1000000) : ∀ (t : List Int) (i : Nat) (out : List Int), l.drop i = t → out.length + 2 * t.length ≤ 2000000 →
    Ev (fun k => racewayref22_Hex.l0 k l (strOfNums out) (i : Int)) (strOfNums (out ++ hexL t)) := by
  intro t
  induction t with
  | nil =>
    intro i out ht ho
    have hle : l.length ≤ i := by simpa using ht
    refine Ev.step (f := fun _ => some (strOfNums out)) (fun k => ?_) (by rw [show out ++ hexL [] = out from List.append_nil _]; exact Ev.now _)
    rw [racewayref22_Hex.l0, if_neg (by omega)]
  | cons b t ih =>
    intro i out ht ho
    obtain ⟨hlt, ht', _⟩ := drop_cons ht
    rw [show out ++ hexL (b :: t) = (out ++ [dig (b / 16).toNat, dig (b % 16).toNat]) ++ hexL t from by unfold hexL; rw [List.flatMap_cons, List.append_assoc]]
    simp only [List.length_cons] at ho
    exact Ev.step (refHex_step hb hl ht out (by omega)) (ih (i + 1) _ ht' (by simp; omega))
theorem refHex_ev {l : List Int} (hb : Byts l) (hl : l.length ≤ 1000000) : Ev (fun k => racewayref22_Hex.f k l) (strOfNums (hexL l)) := by
  unfold racewayref22_Hex.f
  exact refHex_l0 hb hl l 0 [] rfl (by simp; omega)
end Go.Proofs.Ytgopfelmhlgglaa.Bas

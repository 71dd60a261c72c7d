/- Plain laws: bytes written in base 16, in both readings. Conditions: as in each theorem. -/
import Derived.Test.YticpbhpehoolfaaDoorPAx4
namespace Go.Proofs.YticpbhpehoolfaaDoor
open Go.RowKit Go.Proofs.YticpbhpehoolfaaDoor.PA Go.Proofs.YticpbhpehoolfaaDoorW.PrintWords Go.Proofs.YticpbhpehoolfaaDoorW.PrintLast Go.Proofs.YticpbhpehoolfaaDoorW.PrintMore
set_option linter.unusedVariables false
set_option linter.unusedSimpArgs false
def Byts (l : List Int) : Prop := ∀ x ∈ l, 0 ≤ x ∧ x < 256
theorem Byts.append {a b : List Int} (ha : Byts a) (hb : Byts b) : Byts (a ++ b) := fun x h => (List.mem_append.1 h).elim (ha x) (hb x)
theorem Byts.take {a : List Int} (ha : Byts a) (n : Nat) : Byts (a.take n) := fun x h => ha x (List.mem_of_mem_take h)
theorem wrap_id {n : Int} (h : -9223372036854775808 ≤ n) (h2 : n ≤ 9223372036854775807) : wrap64 n = n := by unfold wrap64; omega
theorem sn_append (a b : List Int) : strOfNums a ++ strOfNums b = strOfNums (a ++ b) := by
  unfold strOfNums
  rw [ByteArray.mk_append_mk, List.map_append]
theorem sn_toList (a : List Int) : (strOfNums a).toList = a.map fun n => UInt8.ofNat n.toNat := by
  rw [← strOfNums_data]; exact ByteArray.toList_eq _
theorem sn_bt {l : List Int} (hb : Byts l) {i : Nat} (hi : i < l.length) : bt (strOfNums l) (i : Int) = l.getD i 0 := by
  have hs : i < (strOfNums l).size := by rw [strOfNums_size]; exact hi
  unfold bt
  rw [Int.toNat_natCast, dif_pos hs]
  show ((((l.map fun n => UInt8.ofNat n.toNat).toArray)[i]'(by rw [List.size_toArray, List.length_map]; exact hi)).toNat : Int) = _
  have := hb (l[i]) (List.getElem_mem hi)
  simp only [List.getElem_toArray, List.getElem_map, UInt8.toNat_ofNat', List.getD_eq_getElem?_getD, List.getElem?_eq_getElem hi, Option.getD_some]
  omega
def tensL : List Int := [48, 49, 50, 51, 52, 53, 54, 55, 56, 57, 97, 98, 99, 100, 101, 102]
def dig (n : Nat) : Int := tensL.getD n 0
theorem dig_range (n : Nat) (h : n < 16) : 0 ≤ dig n ∧ dig n < 256 := by
  have key : ∀ n : Fin 16, 0 ≤ dig n.val ∧ dig n.val < 256 := by decide
  exact key ⟨n, h⟩
theorem tens_extract {n : Nat} (h : n < 16) : (⟨#[48, 49, 50, 51, 52, 53, 54, 55, 56, 57, 97, 98, 99, 100, 101, 102]⟩ : ByteArray).extract n (n + 1) = strOfNums [dig n] := by
  have key : ∀ n : Fin 16, (⟨#[48, 49, 50, 51, 52, 53, 54, 55, 56, 57, 97, 98, 99, 100, 101, 102]⟩ : ByteArray).extract n.val (n.val + 1) = strOfNums [dig n.val] := by decide +kernel
  exact key ⟨n, h⟩

theorem tens_step {d : Nat} (h : d < 16) (s : ByteArray) : (⟨#[48, 49, 50, 51, 52, 53, 54, 55, 56, 57, 97, 98, 99, 100, 101, 102]⟩ : ByteArray).extract (((d : Nat) : Int)).toNat (wrap64 (((d : Nat) : Int) + 1)).toNat = strOfNums [dig d] ∧ wrap64 (((d : Nat) : Int) + 1) = ((d + 1 : Nat) : Int) := by
  have he1 : wrap64 (((d : Nat) : Int) + 1) = ((d + 1 : Nat) : Int) := by rw [wrap_id (by omega) (by omega)]; omega
  refine ⟨?_, he1⟩
  rw [he1, Int.toNat_natCast, Int.toNat_natCast]
  exact tens_extract h
set_option maxRecDepth 10000 in
theorem and15 {a : Int} (h : 0 ≤ a ∧ a < 256) : bits BinOp.and .u8 a 15 = a % 16 := by
  have key : ∀ n : Fin 256, bits BinOp.and .u8 (n.val : Int) 15 = (n.val : Int) % 16 := by decide
  have := key ⟨a.toNat, by omega⟩
  simpa [Int.toNat_of_nonneg h.1] using this
theorem drop_cons {α : Type} {l t : List α} {b : α} {i : Nat} (h : l.drop i = b :: t) : i < l.length ∧ l.drop (i + 1) = t ∧ l[i]? = some b := by
  have hlt : i < l.length := by
    rcases Nat.lt_or_ge i l.length with h' | h'
    · exact h'
    · rw [List.drop_eq_nil_of_le h'] at h; simp at h
  rw [List.drop_eq_getElem_cons hlt] at h
  injection h with h1 h2
  exact ⟨hlt, h2, by rw [List.getElem?_eq_getElem hlt, h1]⟩
def hexL (l : List Int) : List Int := l.flatMap fun b => [dig (b / 16).toNat, dig (b % 16).toNat]
theorem hexL_len (l : List Int) : (hexL l).length = 2 * l.length := by
  unfold hexL
  induction l with
  | nil => rfl
  | cons a t ih => rw [List.flatMap_cons, List.length_append, ih]; simp; omega
theorem hexL_byts {l : List Int} (hb : Byts l) : Byts (hexL l) := fun x h => by
  obtain ⟨b, hb1, h2⟩ := List.mem_flatMap.1 h
  have := hb b hb1
  simp only [List.mem_cons, List.not_mem_nil, or_false] at h2
  rcases h2 with rfl | rfl <;> exact dig_range _ (by omega)
theorem bt_tens {n : Int} (h : 0 ≤ n ∧ n < 16) : bt (⟨#[48, 49, 50, 51, 52, 53, 54, 55, 56, 57, 97, 98, 99, 100, 101, 102]⟩ : ByteArray) n = dig n.toNat := by
  have key : ∀ n : Fin 16, bt (⟨#[48, 49, 50, 51, 52, 53, 54, 55, 56, 57, 97, 98, 99, 100, 101, 102]⟩ : ByteArray) (n.val : Int) = dig n.val := by decide +kernel
  have := key ⟨n.toNat, by omega⟩
  rwa [show ((n.toNat : Nat) : Int) = n from by omega] at this
theorem rd_drop {l t : List Int} {b : Int} {i : Nat} (h : l.drop i = b :: t) : rd l (i : Int) = b := by
  obtain ⟨_, _, h3⟩ := drop_cons h
  unfold rd; rw [Int.toNat_natCast, List.getD_eq_getElem?_getD, h3]; rfl
theorem Hex_l0 {l : List Int} (hb : Byts l) (hl : l.length ≤ 1000000) : ∀ (t : List Int) (i : Nat) (out : List Int), l.drop i = t → out.length + 2 * t.length ≤ 2000000 →
    Ev (fun k => basic_Hex.l0 k out l (l.length : Int) (i : Int)) (strOfNums (out ++ hexL t))
  | [], i, out, ht, ho => by
    have hle : l.length ≤ i := by simpa using ht
    refine Ev.step (f := fun _ => some (strOfNums out)) (fun k => ?_) (by rw [show out ++ hexL [] = out from List.append_nil _]; exact Ev.now _)
    rw [basic_Hex.l0, if_neg (by omega)]
  | b :: t, i, out, ht, ho => by
    obtain ⟨hlt, ht', _⟩ := drop_cons ht
    have hbb := hb b (by rw [← List.take_append_drop i l, ht]; simp)
    rw [show out ++ hexL (b :: t) = (out ++ [dig (b / 16).toNat, dig (b % 16).toNat]) ++ hexL t from by unfold hexL; rw [List.flatMap_cons, List.append_assoc]]
    refine Ev.step (fun k => ?_) (Hex_l0 hb hl t (i + 1) (out ++ [dig (b / 16).toNat, dig (b % 16).toNat]) ht' (by simp at ho ⊢; omega))
    simp only [List.length_cons] at ho
    rw [basic_Hex.l0, if_pos (by omega), if_pos (by omega), if_pos (by omega), rd_drop ht, and15 hbb, if_pos (by omega), if_pos (by omega), if_pos (by omega), if_pos (by omega), bt_tens (by omega), bt_tens (by omega), Option.bind_some, if_pos (by simp; omega), wrap_id (by omega) (by omega)]
    rfl
theorem Hex_ev {l : List Int} (hb : Byts l) (hl : l.length ≤ 1000000) : Ev (fun k => basic_Hex.f k l) (strOfNums (hexL l)) := by
  unfold basic_Hex.f
  have hw : wrap64 (2 * (l.length : Int)) = 2 * (l.length : Int) := wrap_id (by omega) (by omega)
  simp only [hw, if_pos (show (0 : Int) ≤ 2 * (l.length : Int) by omega), if_pos (show (2 * (l.length : Int)).toNat ≤ 281474976710656 by omega)]
  exact Hex_l0 hb hl l 0 [] rfl (by simp; omega)
theorem refHex_step {l t : List Int} {b : Int} {i : Nat} (hb : Byts l) (hl : l.length ≤ 1000000) (ht : l.drop i = b :: t) (out : List Int) (ho : out.length ≤ 2000000) (k : Nat) :
    racewayref22_Hex.l0 (k + 1) l (strOfNums out) (i : Int) = racewayref22_Hex.l0 k l (strOfNums (out ++ [dig (b / 16).toNat, dig (b % 16).toNat])) ((i + 1 : Nat) : Int) := by
  obtain ⟨hlt, ht', _⟩ := drop_cons ht
  have hbb := hb b (by rw [← List.take_append_drop i l, ht]; simp)
  have hr := rd_drop ht
  clear ht hb ht'
  obtain ⟨h, hh, hh'⟩ : ∃ h : Nat, (b / 16).toNat = h ∧ h < 16 := ⟨_, rfl, by omega⟩
  obtain ⟨m, hm, hm'⟩ : ∃ m : Nat, (b % 16).toNat = m ∧ m < 16 := ⟨_, rfl, by omega⟩
  have e0 : wrap64 b = b := wrap_id (by omega) (by omega)
  have e1 : wrap64 (Int.tdiv b 16) = (h : Int) := by rw [Int.tdiv_eq_ediv_of_nonneg hbb.1, wrap_id (by omega) (by omega)]; omega
  have e2 : Int.tmod b 16 = (m : Int) := by rw [Int.tmod_eq_emod_of_nonneg hbb.1]; omega
  have e3 : wrap64 ((i : Int) + 1) = ((i + 1 : Nat) : Int) := by rw [wrap_id (by omega) (by omega)]; omega
  obtain ⟨t1, t2⟩ := tens_step hh' (strOfNums out)
  obtain ⟨t3, t4⟩ := tens_step hm' (strOfNums out)
  have s1 : (strOfNums [dig h]).size = 1 := strOfNums_size _
  have s2 : (strOfNums [dig m]).size = 1 := strOfNums_size _
  have s3 : (strOfNums out).size = out.length := strOfNums_size _
  have s4 : (strOfNums (out ++ [dig h])).size = out.length + 1 := by rw [strOfNums_size]; simp
  have c1 : strOfNums out ++ strOfNums [dig h] = strOfNums (out ++ [dig h]) := sn_append _ _
  have c2 : strOfNums (out ++ [dig h]) ++ strOfNums [dig m] = strOfNums (out ++ [dig h, dig m]) := by rw [sn_append, List.append_assoc]; rfl
  rw [hh, hm]
  clear hh hm
  rw [racewayref22_Hex.l0, hr, e0, e1, e2, t1, t2, t3, t4, c1, c2, e3, s1, s2, s3, s4]
  clear t1 t2 t3 t4 c1 c2 e0 e1 e2 e3 s1 s2 s3 s4 hr
  have g1 : (i : Int) < (l.length : Int) := by omega
  have g2 : (0 : Int) ≤ (i : Int) := by omega
  have g3 : (0 : Int) ≤ (h : Int) := by omega
  have g4 : (h : Int) ≤ ((h + 1 : Nat) : Int) := by omega
  have g5 : ((h + 1 : Nat) : Int) ≤ 16 := by omega
  have g6 : out.length + 1 ≤ 9223372036854775807 := by omega
  have g7 : (0 : Int) ≤ (m : Int) := by omega
  have g8 : (m : Int) ≤ ((m + 1 : Nat) : Int) := by omega
  have g9 : ((m + 1 : Nat) : Int) ≤ 16 := by omega
  have g10 : out.length + 1 + 1 ≤ 9223372036854775807 := by omega
  rw [if_pos g1, if_pos g2, if_pos g3, if_pos g4, if_pos g5, if_pos g6, if_pos g7, if_pos g8, if_pos g9, if_pos g10]
theorem refHex_l0 {l : List Int} (hb : Byts l) (hl : l.length ≤ 1000000) : ∀ (t : List Int) (i : Nat) (out : List Int), l.drop i = t → out.length + 2 * t.length ≤ 2000000 →
    Ev (fun k => racewayref22_Hex.l0 k l (strOfNums out) (i : Int)) (strOfNums (out ++ hexL t)) := by
  intro t
  induction t with
  | nil =>
    intro i out ht ho
    have hle : l.length ≤ i := by simpa using ht
    refine Ev.step (f := fun _ => some (strOfNums out)) (fun k => ?_) (by rw [show out ++ hexL [] = out from List.append_nil _]; exact Ev.now _)
    rw [racewayref22_Hex.l0, if_neg (by omega)]
  | cons b t ih =>
    intro i out ht ho
    obtain ⟨hlt, ht', _⟩ := drop_cons ht
    rw [show out ++ hexL (b :: t) = (out ++ [dig (b / 16).toNat, dig (b % 16).toNat]) ++ hexL t from by unfold hexL; rw [List.flatMap_cons, List.append_assoc]]
    simp only [List.length_cons] at ho
    exact Ev.step (refHex_step hb hl ht out (by omega)) (ih (i + 1) _ ht' (by simp; omega))
theorem refHex_ev {l : List Int} (hb : Byts l) (hl : l.length ≤ 1000000) : Ev (fun k => racewayref22_Hex.f k l) (strOfNums (hexL l)) := by
  unfold racewayref22_Hex.f
  exact refHex_l0 hb hl l 0 [] rfl (by simp; omega)
end Go.Proofs.YticpbhpehoolfaaDoor

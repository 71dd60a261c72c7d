/- Plain laws: the text of a number (Itoa, Pad), in both readings; the chapter's example. Conditions: as in each theorem. -/
import Derived.Test.YtgopfelmhlgglaaPAx7
namespace Go.Proofs.Ytgopfelmhlgglaa.Bas
open Go.RowKit Go.Proofs.Ytgopfelmhlgglaa.PA Go.Proofs.YtgopfelmhlgglaaEnc Go.Proofs.YtgopfelmhlgglaaW.PrintWords Go.Proofs.YtgopfelmhlgglaaW.PrintLast Go.Proofs.YtgopfelmhlgglaaW.PrintMore
set_option linter.unusedVariables false
set_option linter.unusedSimpArgs false

/-- Bytes, as numbers. -/
def Byts (l : List Int) : Prop := ∀ x ∈ l, 0 ≤ x ∧ x < 256
theorem Byts.nil : Byts [] := fun _ h => by simp at h
theorem Byts.append {a b : List Int} (ha : Byts a) (hb : Byts b) : Byts (a ++ b) := fun x h => (List.mem_append.1 h).elim (ha x) (hb x)
theorem Byts.cons {a : Int} {b : List Int} (ha : 0 ≤ a ∧ a < 256) (hb : Byts b) : Byts (a :: b) := fun x h => (List.mem_cons.1 h).elim (fun e => e ▸ ha) (hb x)
theorem Byts.take {a : List Int} (ha : Byts a) (n : Nat) : Byts (a.take n) := fun x h => ha x (List.mem_of_mem_take h)
theorem Byts.drop {a : List Int} (ha : Byts a) (n : Nat) : Byts (a.drop n) := fun x h => ha x (List.mem_of_mem_drop h)
theorem Byts.of_wf {l : List Int} (h : ∀ x ∈ l, (Lit.int .u8 x).wf = true) : Byts l := fun x hx => by
  have := h x hx
  simp [Lit.wf, IntKind.min, IntKind.max, IntKind.signed, IntKind.bits] at this
  omega
theorem wf64 {n : Int} (h : (Lit.int .i64 n).wf = true) : -9223372036854775808 ≤ n ∧ n ≤ 9223372036854775807 := by
  simp [Lit.wf, IntKind.min, IntKind.max, IntKind.signed, IntKind.bits] at h
  omega
theorem wrap_id {n : Int} (h : -9223372036854775808 ≤ n) (h2 : n ≤ 9223372036854775807) : wrap64 n = n := by unfold wrap64; omega
theorem sn_append (a b : List Int) : strOfNums a ++ strOfNums b = strOfNums (a ++ b) := by
  unfold strOfNums
  rw [ByteArray.mk_append_mk, List.map_append]
theorem sn_toList (a : List Int) : (strOfNums a).toList = a.map fun n => UInt8.ofNat n.toNat := by
  rw [← strOfNums_data]; exact ByteArray.toList_eq _
theorem sn_inj {a b : List Int} (ha : Byts a) (hb : Byts b) (h : (strOfNums a).toList = (strOfNums b).toList) : a = b := by
  rw [sn_toList, sn_toList] at h
  have key : ∀ l : List Int, Byts l → (l.map fun n => UInt8.ofNat n.toNat).map (fun u => (u.toNat : Int)) = l := by
    intro l hl
    rw [List.map_map]
    conv => rhs; rw [← List.map_id l]
    refine List.map_congr_left fun x hx => ?_
    have := hl x hx
    simp only [Function.comp, id, UInt8.toNat_ofNat']
    omega
  rw [← key a ha, ← key b hb, h]
theorem sn_bt {l : List Int} (hb : Byts l) {i : Nat} (hi : i < l.length) : bt (strOfNums l) (i : Int) = l.getD i 0 := by
  have hs : i < (strOfNums l).size := by rw [strOfNums_size]; exact hi
  unfold bt
  rw [Int.toNat_natCast, dif_pos hs]
  show ((((l.map fun n => UInt8.ofNat n.toNat).toArray)[i]'(by rw [List.size_toArray, List.length_map]; exact hi)).toNat : Int) = _
  have := hb (l[i]) (List.getElem_mem hi)
  simp only [List.getElem_toArray, List.getElem_map, UInt8.toNat_ofNat', List.getD_eq_getElem?_getD, List.getElem?_eq_getElem hi, Option.getD_some]
  omega
/-- Every text is that of its bytes. -/
def bytesOf (s : ByteArray) : List Int := s.data.toList.map fun b => (b.toNat : Int)
theorem bytesOf_byts (s : ByteArray) : Byts (bytesOf s) := fun x h => by
  obtain ⟨b, _, rfl⟩ := List.mem_map.1 h
  have := b.toNat_lt
  omega
theorem sn_bytesOf (s : ByteArray) : strOfNums (bytesOf s) = s := by
  unfold strOfNums bytesOf
  rw [List.map_map]
  have : (s.data.toList.map ((fun n : Int => UInt8.ofNat n.toNat) ∘ fun b : UInt8 => (b.toNat : Int))) = s.data.toList := by
    conv => rhs; rw [← List.map_id s.data.toList]
    exact List.map_congr_left fun x _ => by simp
  rw [this]
theorem bytesOf_length (s : ByteArray) : (bytesOf s).length = s.size := by unfold bytesOf; rw [List.length_map, Array.length_toList]; rfl

/-- Sixteen digits. -/
def tensL : List Int := [48, 49, 50, 51, 52, 53, 54, 55, 56, 57, 97, 98, 99, 100, 101, 102]
def dig (n : Nat) : Int := tensL.getD n 0
theorem tq {m : Int} : Int.tdiv m 10 = (if 0 ≤ m then m / 10 else -((-m) / 10)) ∧ Int.tmod m 10 = m - 10 * Int.tdiv m 10 := by
  refine ⟨?_, Int.tmod_def m 10⟩
  split
  · rename_i h; exact Int.tdiv_eq_ediv_of_nonneg h
  · rename_i h
    have h1 := Int.neg_tdiv (-m) 10
    rw [Int.neg_neg] at h1
    rw [h1, Int.tdiv_eq_ediv_of_nonneg (by omega)]
theorem dig10 {n : Nat} (h : n < 10) : dig n = 48 + n := by
  have key : ∀ n : Fin 10, dig n.val = 48 + (n.val : Int) := by decide
  exact key ⟨n, h⟩
theorem dig_range (n : Nat) (h : n < 16) : 0 ≤ dig n ∧ dig n < 256 := by
  have key : ∀ n : Fin 16, 0 ≤ dig n.val ∧ dig n.val < 256 := by decide
  exact key ⟨n, h⟩
theorem tens_extract {n : Nat} (h : n < 16) : (⟨#[48, 49, 50, 51, 52, 53, 54, 55, 56, 57, 97, 98, 99, 100, 101, 102]⟩ : ByteArray).extract n (n + 1) = strOfNums [dig n] := by
  have key : ∀ n : Fin 16, (⟨#[48, 49, 50, 51, 52, 53, 54, 55, 56, 57, 97, 98, 99, 100, 101, 102]⟩ : ByteArray).extract n.val (n.val + 1) = strOfNums [dig n.val] := by decide +kernel
  exact key ⟨n, h⟩

/-! ### Itoa -/
theorem decD_lt {n : Nat} (h : n < 10) (acc : List Int) : decD n acc = ((48 + n : Nat) : Int) :: acc := by rw [decD, if_pos h]
theorem decD_ge {n : Nat} (h : ¬ n < 10) (acc : List Int) : decD n acc = decD (n / 10) (((48 + n % 10 : Nat) : Int) :: acc) := by rw [decD.eq_1 n, if_neg h]
theorem decD_append : ∀ (n : Nat) (acc : List Int), decD n acc = decD n [] ++ acc := by
  intro n
  induction n using Nat.strongRecOn with
  | _ n ih =>
    intro acc
    by_cases h : n < 10
    · rw [decD_lt h, decD_lt h]; rfl
    · rw [decD_ge h, decD_ge h, ih (n / 10) (by omega), ih (n / 10) (by omega) [_]]
      simp
theorem decD_digits : ∀ (n : Nat), ∀ x ∈ decD n [], 48 ≤ x ∧ x ≤ 57 := by
  intro n
  induction n using Nat.strongRecOn with
  | _ n ih =>
    intro x hx
    by_cases h : n < 10
    · rw [decD_lt h] at hx; simp at hx; omega
    · rw [decD_ge h, decD_append] at hx
      rcases List.mem_append.1 hx with hx | hx
      · exact ih _ (by omega) x hx
      · simp at hx; omega
theorem decD_len_le : ∀ (k n : Nat), n < 10 ^ (k + 1) → (decD n []).length ≤ k + 1 := by
  intro k
  induction k with
  | zero => intro n h; rw [decD_lt (by simpa using h)]; simp
  | succ k ih =>
    intro n h
    by_cases h10 : n < 10
    · rw [decD_lt h10]; simp
    · rw [decD_ge h10, decD_append, List.length_append]
      have := ih (n / 10) (by rw [Nat.div_lt_iff_lt_mul (by decide)]; rw [Nat.pow_succ] at h; exact h)
      simp; omega
theorem decD_pos (n : Nat) : 1 ≤ (decD n []).length := by
  by_cases h : n < 10
  · rw [decD_lt h]; simp
  · rw [decD_ge h, decD_append]; simp
theorem itoaL_byts (a : Int) : Byts (itoaL a) := by
  unfold itoaL
  split
  · exact Byts.cons (by decide) fun x h => by have := decD_digits _ x h; omega
  · exact fun x h => by have := decD_digits _ x h; omega
theorem tens_step {d : Nat} (h : d < 16) (s : ByteArray) : (⟨#[48, 49, 50, 51, 52, 53, 54, 55, 56, 57, 97, 98, 99, 100, 101, 102]⟩ : ByteArray).extract (((d : Nat) : Int)).toNat (wrap64 (((d : Nat) : Int) + 1)).toNat = strOfNums [dig d] ∧ wrap64 (((d : Nat) : Int) + 1) = ((d + 1 : Nat) : Int) := by
  have he1 : wrap64 (((d : Nat) : Int) + 1) = ((d + 1 : Nat) : Int) := by rw [wrap_id (by omega) (by omega)]; omega
  refine ⟨?_, he1⟩
  rw [he1, Int.toNat_natCast, Int.toNat_natCast]
  exact tens_extract h
theorem refItoa_step (x0 m : Int) (n : Nat) (acc : List Int) (hm : m.natAbs = n) (hn : 0 < n) (h1 : -9223372036854775808 ≤ m) (h2 : m ≤ 9223372036854775807) (hl : acc.length < 1000) (k : Nat) :
    racewayref22_Itoa.l0 (k + 1) x0 (strOfNums acc) m = racewayref22_Itoa.l0 k x0 (strOfNums (dig (n % 10) :: acc)) (Int.tdiv m 10) := by
  obtain ⟨q1, q2⟩ := @tq m
  have hm0 : m ≠ 0 := fun e => by rw [e] at hm; simp at hm; omega
  have hd : n % 10 < 16 := by omega
  obtain ⟨t1, t2⟩ := tens_step hd (strOfNums acc)
  have hsz : (strOfNums acc).size = acc.length := strOfNums_size acc
  have hsz1 : (strOfNums [dig (n % 10)]).size = 1 := strOfNums_size _
  have hb1 : -9223372036854775808 ≤ Int.tdiv m 10 ∧ Int.tdiv m 10 ≤ 9223372036854775807 := by rw [q1]; split <;> omega
  have hmod : (Int.tmod m 10 < 0 ∧ -(Int.tmod m 10) = ((n % 10 : Nat) : Int)) ∨ (¬ Int.tmod m 10 < 0 ∧ Int.tmod m 10 = ((n % 10 : Nat) : Int)) := by
    rw [q2, q1]; split <;> omega
  have hcat : strOfNums [dig (n % 10)] ++ strOfNums acc = strOfNums (dig (n % 10) :: acc) := sn_append _ _
  rw [racewayref22_Itoa.l0, if_neg hm0, wrap_id hb1.1 hb1.2]
  generalize Int.tdiv m 10 = q at *
  clear q1 q2
  rcases hmod with ⟨hneg, he⟩ | ⟨hneg, he⟩
  · rw [if_pos hneg, he, show wrap64 (((n % 10 : Nat) : Int)) = ((n % 10 : Nat) : Int) from wrap_id (by omega) (by omega), t1, t2, hsz1, hsz, hcat]
    generalize n % 10 = d at *
    rw [if_pos (by omega), if_pos (by omega), if_pos (by omega), if_pos (by omega)]
  · rw [if_neg hneg, he, t1, t2, hsz1, hsz, hcat]
    generalize n % 10 = d at *
    rw [if_pos (by omega), if_pos (by omega), if_pos (by omega), if_pos (by omega)]
/-- What the reference's rounds lay ahead of what stands there. -/
theorem refItoa_l0 (x0 : Int) : ∀ (f n : Nat) (m : Int) (acc : List Int), m.natAbs = n → 0 < n → -9223372036854775808 ≤ m → m ≤ 9223372036854775807 → n < 10 ^ (f + 1) → acc.length + f < 900 →
    Ev (fun k => racewayref22_Itoa.l0 k x0 (strOfNums acc) m) (strOfNums (if x0 < 0 then 45 :: decD n acc else decD n acc)) := by
  intro f
  induction f with
  | zero =>
    intro n m acc hm hn h1 h2 hf hl
    have h10 : n < 10 := by simpa using hf
    refine Ev.step (refItoa_step x0 m n acc hm hn h1 h2 (by omega)) ?_
    have hz : Int.tdiv m 10 = 0 := by rw [tq.1]; split <;> omega
    rw [hz, decD_lt h10, Nat.mod_eq_of_lt h10, dig10 h10]
    refine Ev.step (f := fun _ => some (strOfNums (if x0 < 0 then 45 :: (48 + (n : Int)) :: acc else (48 + (n : Int)) :: acc))) (fun k => ?_) ?_
    · rw [racewayref22_Itoa.l0, if_pos rfl]
      by_cases hx : x0 < 0
      · rw [if_pos hx, if_pos hx, if_pos (by rw [strOfNums_size]; simp; omega)]
        exact congrArg some (sn_append [45] _)
      · rw [if_neg hx, if_neg hx]
    · rw [Int.natCast_add]
      exact Ev.now _
  | succ f ih =>
    intro n m acc hm hn h1 h2 hf hl
    by_cases h10 : n < 10
    · refine Ev.step (refItoa_step x0 m n acc hm hn h1 h2 (by omega)) ?_
      have hz : Int.tdiv m 10 = 0 := by rw [tq.1]; split <;> omega
      rw [hz, decD_lt h10, Nat.mod_eq_of_lt h10, dig10 h10]
      refine Ev.step (f := fun _ => some (strOfNums (if x0 < 0 then 45 :: (48 + (n : Int)) :: acc else (48 + (n : Int)) :: acc))) (fun k => ?_) ?_
      · rw [racewayref22_Itoa.l0, if_pos rfl]
        by_cases hx : x0 < 0
        · rw [if_pos hx, if_pos hx, if_pos (by rw [strOfNums_size]; simp; omega)]
          exact congrArg some (sn_append [45] _)
        · rw [if_neg hx, if_neg hx]
      · rw [Int.natCast_add]
        exact Ev.now _
    · refine Ev.step (refItoa_step x0 m n acc hm hn h1 h2 (by omega)) ?_
      rw [decD_ge h10, dig10 (Nat.mod_lt _ (by decide))]
      have hlt : n / 10 < 10 ^ (f + 1) := by
        rw [Nat.div_lt_iff_lt_mul (by decide)]; rw [Nat.pow_succ] at hf; exact hf
      have hdiv : (Int.tdiv m 10).natAbs = n / 10 := by rw [tq.1]; split <;> omega
      have hb1 : -9223372036854775808 ≤ Int.tdiv m 10 ∧ Int.tdiv m 10 ≤ 9223372036854775807 := by rw [tq.1]; split <;> omega
      rw [show ((48 + n % 10 : Nat) : Int) = 48 + ((n % 10 : Nat) : Int) from by omega]
      exact ih (n / 10) (Int.tdiv m 10) _ hdiv (by omega) hb1.1 hb1.2 hlt (by simp; omega)
theorem refItoa_ev {a : Int} (h1 : -9223372036854775808 ≤ a) (h2 : a ≤ 9223372036854775807) : Ev (fun k => racewayref22_Itoa.f k a) (strOfNums (itoaL a)) := by
  unfold racewayref22_Itoa.f
  by_cases h0 : a = 0
  · simp only [if_pos h0]
    subst h0
    have : (⟨#[48]⟩ : ByteArray) = strOfNums (itoaL 0) := by
      unfold itoaL
      rw [if_neg (by decide), show (0 : Int).toNat = 0 from rfl, decD_lt (by decide)]
      rfl
    rw [this]
    exact Ev.now _
  · simp only [if_neg h0]
    have h := refItoa_l0 a 18 a.natAbs a [] rfl (by omega) h1 h2 (by omega) (by decide)
    unfold itoaL
    split
    · rename_i hneg
      rw [if_pos hneg, show a.natAbs = (-a).toNat from by omega] at h
      exact h
    · rename_i hneg
      rw [if_neg hneg, show a.natAbs = a.toNat from by omega] at h
      exact h
theorem Itoa_some {a : Int} (h1 : -9223372036854775808 ≤ a) (h2 : a ≤ 9223372036854775807) : basic_Itoa.f a = some (strOfNums (itoaL a)) := by
  unfold basic_Itoa.f; rw [if_pos h1, if_pos h2]
theorem itoaL_len {a : Int} (h1 : -9223372036854775808 ≤ a) (h2 : a ≤ 9223372036854775807) : (itoaL a).length ≤ 20 := by
  unfold itoaL
  split
  · have := decD_len_le 18 (-a).toNat (by omega); simp; omega
  · have := decD_len_le 18 a.toNat (by omega); omega
theorem itoaL_pos (a : Int) : 1 ≤ (itoaL a).length := by
  unfold itoaL
  split
  · simp
  · exact decD_pos _

/-! ### Pad -/
def padL (n width : Int) : List Int := if n < 0 then itoaL n else List.replicate ((mn (mx width 1) 100) - ((itoaL n).length : Int)).toNat 48 ++ itoaL n
theorem repeat_48 (c : Nat) : Lib.repeatL (⟨#[48]⟩ : ByteArray).data.toList c = List.replicate c 48 := by
  induction c with
  | zero => rfl
  | succ c ih => rw [List.replicate_succ, ← ih]; rfl
theorem Pad_some {n w : Int} (h1 : -9223372036854775808 ≤ n) (h2 : n ≤ 9223372036854775807) (w1 : -9223372036854775808 ≤ w) (w2 : w ≤ 9223372036854775807) : basic_Pad.f n w = some (strOfNums (padL n w)) := by
  unfold basic_Pad.f padL
  rw [Itoa_some h1 h2, Option.bind_some]
  have hl := itoaL_len h1 h2
  have hp := itoaL_pos n
  split
  · rfl
  · have hm : 1 ≤ mn (mx w 1) 100 ∧ mn (mx w 1) 100 ≤ 100 := by unfold mn mx; (repeat' split) <;> omega
    generalize mn (mx w 1) 100 = q at *
    rw [strOfNums_size, wrap_id (by omega) (by omega)]
    have hx : mx 0 (q - ((itoaL n).length : Int)) = ((q - ((itoaL n).length : Int)).toNat : Int) := by unfold mx; split <;> omega
    rw [hx]
    unfold strings_Repeat.f
    rw [if_pos (by omega), if_pos (by omega), Int.toNat_natCast, if_pos (by show 1 * _ ≤ _; omega), Option.bind_some, repeat_48]
    have e : (⟨(List.replicate (q - ((itoaL n).length : Int)).toNat (48 : UInt8)).toArray⟩ : ByteArray) = strOfNums (List.replicate (q - ((itoaL n).length : Int)).toNat 48) := by
      unfold strOfNums; rw [List.map_replicate]; rfl
    rw [e, strOfNums_size, if_pos (by simp; omega), sn_append]
theorem refPad_l0 (n w : Int) (hn : 0 ≤ n) : ∀ (c : Nat) (l : List Int), (w - (l.length : Int)).toNat = c → w ≤ 100 → l.length ≤ 200 → Ev (fun k => racewayref22_Pad.l0 k n w (strOfNums l)) (strOfNums (List.replicate c 48 ++ l)) := by
  intro c
  induction c with
  | zero =>
    intro l hc hw hl
    refine Ev.step (f := fun _ => some (strOfNums l)) (fun k => ?_) (Ev.now _)
    rw [racewayref22_Pad.l0, if_pos (by omega), strOfNums_size, if_neg (by omega)]
  | succ c ih =>
    intro l hc hw hl
    refine Ev.step (f := fun k => racewayref22_Pad.l0 k n w (strOfNums (48 :: l))) (fun k => ?_) ?_
    · rw [racewayref22_Pad.l0, if_pos (by omega), strOfNums_size, if_pos (by omega), if_pos (by omega)]
      rfl
    · have := ih (48 :: l) (by simp; omega) hw (by simp; omega)
      rw [List.replicate_succ', List.append_assoc]
      exact this
theorem refPad_ev {n w : Int} (h1 : -9223372036854775808 ≤ n) (h2 : n ≤ 9223372036854775807) : Ev (fun k => racewayref22_Pad.f k n w) (strOfNums (padL n w)) := by
  unfold racewayref22_Pad.f
  refine Ev.bind (refItoa_ev h1 h2) ?_
  have hl := itoaL_len h1 h2
  have hp := itoaL_pos n
  have key : ∀ v : Int, v ≤ 100 → Ev (fun k => racewayref22_Pad.j0 k n v (strOfNums (itoaL n))) (strOfNums (if n < 0 then itoaL n else List.replicate (v - ((itoaL n).length : Int)).toNat 48 ++ itoaL n)) := by
    intro v hv
    refine Ev.step (f := fun k => racewayref22_Pad.l0 k n v (strOfNums (itoaL n))) (fun k => by rw [racewayref22_Pad.j0]) ?_
    by_cases hn : n < 0
    · rw [if_pos hn]
      refine Ev.step (f := fun _ => some (strOfNums (itoaL n))) (fun k => ?_) (Ev.now _)
      rw [racewayref22_Pad.l0, if_neg (by omega)]
    · rw [if_neg hn]
      exact refPad_l0 n v (by omega) _ _ rfl hv (by omega)
  unfold padL
  by_cases hw : w > 100
  · simp only [if_pos hw]
    have : mn (mx w 1) 100 = 100 := by unfold mn mx; (repeat' split) <;> omega
    rw [this]
    exact key 100 (by omega)
  · simp only [if_neg hw]
    have e : (mn (mx w 1) 100 - ((itoaL n).length : Int)).toNat = (w - ((itoaL n).length : Int)).toNat := by unfold mn mx; (repeat' split) <;> omega
    rw [e]
    exact key w (by omega)

theorem works_some : racewaylaw22_works.f = some true := rfl
end Go.Proofs.Ytgopfelmhlgglaa.Bas

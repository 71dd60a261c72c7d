/- Plain laws: texts that are read as numbers (Atoi), in both readings. Conditions: as in each theorem. -/
import Derived.Test.YtgopfelmhlgglaaBas1
import Derived.Test.YtgopfelmhlgglaaPAx9
namespace Go.Proofs.Ytgopfelmhlgglaa.Bas
open Go.RowKit Go.Proofs.Ytgopfelmhlgglaa.PA Go.Proofs.YtgopfelmhlgglaaEnc Go.Proofs.YtgopfelmhlgglaaW.PrintWords Go.Proofs.YtgopfelmhlgglaaW.PrintLast Go.Proofs.YtgopfelmhlgglaaW.PrintMore
set_option linter.unusedVariables false
set_option linter.unusedSimpArgs false
theorem sn_extract (l : List Int) (a b : Nat) : (strOfNums l).extract a b = strOfNums ((l.take b).drop a) := by
  unfold strOfNums
  apply ByteArray.ext
  rw [ByteArray.data_extract, List.extract_toArray, List.extract_eq_take_drop, ← List.drop_take, List.map_drop, List.map_take]
theorem sn_eq_iff {a b : List Int} (ha : Byts a) (hb : Byts b) : (strOfNums a).toList = (strOfNums b).toList ↔ a = b := ⟨sn_inj ha hb, fun h => by rw [h]⟩
theorem sn_nil_iff {a : List Int} : (strOfNums a).toList = ([] : List UInt8) ↔ a = [] := by rw [sn_toList]; exact List.map_eq_nil_iff
theorem sn_beq {a b : List Int} (ha : Byts a) (hb : Byts b) : ((strOfNums a).toList == (strOfNums b).toList) = decide (a = b) := by
  rw [Bool.eq_iff_iff]; simp [sn_eq_iff ha hb]
/-- A text without the sign ahead. -/
def body (l : List Int) : List Int := if l.take 1 = [45] then l.drop 1 else l
theorem trimP {l : List Int} (hb : Byts l) : strings_TrimPrefix.f (strOfNums l) ⟨#[45]⟩ = some (strOfNums (body l)) := by
  have h45 : (⟨#[45]⟩ : ByteArray) = strOfNums [45] := rfl
  have hs1 : (strOfNums [45]).size = 1 := rfl
  have hbt : Byts [45] := Byts.cons (by decide) Byts.nil
  unfold strings_TrimPrefix.f stringslite_TrimPrefix.f stringslite_HasPrefix.f body
  rw [h45, hs1, strOfNums_size]
  by_cases hl : 1 ≤ l.length
  · rw [if_pos (by omega), if_pos (by decide), if_pos (by omega), Option.bind_some, show ((1 : Nat) : Int).toNat = 1 from rfl, sn_extract, List.drop_zero, sn_beq (hb.take 1) hbt]
    by_cases he : l.take 1 = [45]
    · rw [decide_eq_true he, if_pos rfl, if_pos he, if_pos (by decide), if_pos (by omega), sn_extract, List.take_length]; rfl
    · rw [decide_eq_false he, if_neg (by decide), if_neg he]; rfl
  · have : l = [] := List.eq_nil_of_length_eq_zero (by omega)
    subst this
    rfl
/-- The number of a list of digits, some number standing ahead. -/
def vg : List Int → Nat → Option Nat
  | [], a => some a
  | x :: t, a => if 48 ≤ x ∧ x ≤ 57 then vg t (10 * a + (x - 48).toNat) else none
/-- The same, refused where it goes beyond 2^63. -/
def vg2 : List Int → Nat → Option Nat
  | [], a => some a
  | x :: t, a => if 48 ≤ x ∧ x ≤ 57 then (if 10 * a + (x - 48).toNat ≤ 9223372036854775808 then vg2 t (10 * a + (x - 48).toNat) else none) else none
theorem vg_ge : ∀ (t : List Int) (a u : Nat), vg t a = some u → a ≤ u
  | [], a, u, h => by simp [vg] at h; omega
  | x :: t, a, u, h => by
    rw [vg] at h
    split at h
    · have := vg_ge t _ u h; omega
    · simp at h
theorem vg2_eq : ∀ (t : List Int) (a : Nat), a ≤ 9223372036854775808 → vg2 t a = (vg t a).bind fun u => if u ≤ 9223372036854775808 then some u else none
  | [], a, h => by simp [vg2, vg, h]
  | x :: t, a, h => by
    rw [vg2, vg]
    split
    · split
      · rename_i h2; exact vg2_eq t _ h2
      · rename_i h2
        cases hv : vg t (10 * a + (x - 48).toNat) with
        | none => rfl
        | some u => have := vg_ge t _ u hv; rw [Option.bind_some, if_neg (by omega)]
    · rfl
theorem vg_lt : ∀ (t : List Int) (a u j : Nat), vg t a = some u → a < 10 ^ j → u < 10 ^ (j + t.length)
  | [], a, u, j, h, ha => by simp [vg] at h; subst h; simpa using ha
  | x :: t, a, u, j, h, ha => by
    rw [vg] at h
    split at h
    · have := vg_lt t _ u (j + 1) h (by rw [Nat.pow_succ]; omega)
      rw [List.length_cons, show j + (t.length + 1) = j + 1 + t.length from by omega]; exact this
    · simp at h
def resB (mb : Bool) : Option Nat → Int × Int
  | none => (0, 5)
  | some u => if mb = true then (if u ≤ 9223372036854775808 then (-(u : Int), 0) else (0, 5)) else (if u ≤ 9223372036854775807 then ((u : Int), 0) else (0, 5))
theorem drop_cons {α : Type} {l t : List α} {b : α} {i : Nat} (h : l.drop i = b :: t) : i < l.length ∧ l.drop (i + 1) = t ∧ l[i]? = some b := by
  have hlt : i < l.length := by
    rcases Nat.lt_or_ge i l.length with h' | h'
    · exact h'
    · rw [List.drop_eq_nil_of_le h'] at h; simp at h
  rw [List.drop_eq_getElem_cons hlt] at h
  injection h with h1 h2
  exact ⟨hlt, h2, by rw [List.getElem?_eq_getElem hlt, h1]⟩
theorem bt_drop {l t : List Int} {b : Int} {i : Nat} (hb : Byts l) (h : l.drop i = b :: t) : bt (strOfNums l) (i : Int) = b := by
  obtain ⟨h1, _, h3⟩ := drop_cons h
  rw [sn_bt hb h1, List.getD_eq_getElem?_getD, h3]; rfl
theorem u64_id {n : Int} (h : 0 ≤ n) (h2 : n < 18446744073709551616) : IntKind.u64.wrap n = n := by
  simp [IntKind.wrap, IntKind.signed, IntKind.bits]
  omega
theorem Atoi_end (mb : Bool) (u : Nat) (hu : u < 10000000000000000000) : Ev (fun k => if mb = true then basic_Atoi.j2 k mb (u : Int) (decide ((u : Int) ≤ 9223372036854775808)) else basic_Atoi.j2 k mb (u : Int) false) (resB mb (some u)) := by
  unfold resB
  cases mb with
  | true =>
    simp only [if_true]
    by_cases h : u ≤ 9223372036854775808
    · refine Ev.step (f := fun _ => some (-(u : Int), 0)) (fun k => ?_) (by rw [if_pos h]; exact Ev.now _)
      rw [basic_Atoi.j2, decide_eq_true (by omega : (u : Int) ≤ 9223372036854775808), if_pos rfl]
      congr 2
      simp [IntKind.wrap, IntKind.signed, IntKind.bits, wrap64]
      omega
    · refine Ev.step (f := fun _ => some (0, 5)) (fun k => ?_) (by rw [if_neg h]; exact Ev.now _)
      rw [basic_Atoi.j2, decide_eq_false (by omega : ¬ (u : Int) ≤ 9223372036854775808), if_neg (by decide), if_pos rfl]
  | false =>
    simp only [Bool.false_eq_true, if_false]
    by_cases h : u ≤ 9223372036854775807
    · refine Ev.step (f := fun _ => some ((u : Int), 0)) (fun k => ?_) (by rw [if_pos h]; exact Ev.now _)
      rw [basic_Atoi.j2, if_neg (by decide), if_neg (by decide), if_pos (by omega), wrap_id (by omega) (by omega)]
    · refine Ev.step (f := fun _ => some (0, 5)) (fun k => ?_) (by rw [if_neg h]; exact Ev.now _)
      rw [basic_Atoi.j2, if_neg (by decide), if_neg (by decide), if_neg (by omega)]
theorem Atoi_l0 {d : List Int} (hb : Byts d) (hd : d.length ≤ 19) (mb : Bool) : ∀ (t : List Int) (i a : Nat), d.drop i = t → a < 10 ^ i → i ≤ d.length →
    Ev (fun k => basic_Atoi.l0 k (strOfNums d) mb (a : Int) (d.length : Int) (i : Int)) (resB mb (vg t a))
  | [], i, a, ht, ha, hi => by
    have hle : d.length ≤ i := by simpa using ht
    have hlt : a < 10000000000000000000 := Nat.lt_of_lt_of_le ha (Nat.pow_le_pow_right (by decide) (by omega : i ≤ 19))
    refine Ev.step (fun k => ?_) (Atoi_end mb a hlt)
    rw [basic_Atoi.l0, if_neg (by omega)]
  | x :: t, i, a, ht, ha, hi => by
    obtain ⟨hlt, ht', _⟩ := drop_cons ht
    have hx := bt_drop hb ht
    rw [vg]
    by_cases hdg : 48 ≤ x ∧ x ≤ 57
    · rw [if_pos hdg]
      have hpow : 10 ^ (i + 1) ≤ 10 ^ 19 := Nat.pow_le_pow_right (by decide) (by omega)
      have ha' : 10 * a + (x - 48).toNat < 10 ^ (i + 1) := by rw [Nat.pow_succ]; omega
      have hb19 : 10 * a + (x - 48).toNat < 10000000000000000000 := Nat.lt_of_lt_of_le ha' hpow
      refine Ev.step (fun k => ?_) (Atoi_l0 hb hd mb t (i + 1) (10 * a + (x - 48).toNat) ht' ha' (by omega))
      rw [basic_Atoi.l0, if_pos (by omega), strOfNums_size, if_pos (by omega), if_pos (by omega), hx, if_neg (by omega), if_neg (by omega)]
      rw [u64_id (n := 10 * (a : Int)) (by omega) (by omega), u64_id (by omega) (by omega), wrap_id (by omega) (by omega)]
      congr 1
      omega
    · rw [if_neg hdg]
      refine Ev.step (f := fun _ => some (0, 5)) (fun k => ?_) (Ev.now _)
      rw [basic_Atoi.l0, if_pos (by omega), strOfNums_size, if_pos (by omega), if_pos (by omega), hx]
      by_cases h1 : x < 48
      · rw [if_pos h1]
      · rw [if_neg h1, if_pos (by omega)]
/-- What a text is read as. -/
def atoiS (l : List Int) : Int × Int :=
  if body l = [] then (0, 5) else if 19 < (body l).length then (0, 5) else
  if (body l).take 1 = [48] ∧ (1 < (body l).length ∨ l.take 1 = [45]) then (0, 5) else resB (decide (l.take 1 = [45])) (vg (body l) 0)
theorem body_len (l : List Int) : (body l).length < l.length ↔ l.take 1 = [45] := by
  unfold body
  split
  · rename_i h
    cases l with
    | nil => simp at h
    | cons a t => simp at h; simp [h]
  · rename_i h
    simp [h]
theorem body_byts {l : List Int} (hb : Byts l) : Byts (body l) := by
  unfold body; split
  · exact hb.drop 1
  · exact hb
theorem Atoi_ev {l : List Int} (hb : Byts l) (hl : l.length ≤ 140737488351232) : Ev (fun k => basic_Atoi.f k (strOfNums l)) (atoiS l) := by
  unfold basic_Atoi.f atoiS
  simp only [trimP hb, Option.bind_some]
  have hbb := body_byts hb
  have hmb : decide (((strOfNums (body l)).size : Int) < ((strOfNums l).size : Int)) = decide (l.take 1 = [45]) := by
    rw [decide_eq_decide, strOfNums_size, strOfNums_size, ← body_len l]; omega
  simp only [hmb, sn_nil_iff]
  obtain ⟨mb, hm⟩ : ∃ mb, decide (l.take 1 = [45]) = mb := ⟨_, rfl⟩
  have hm' : (l.take 1 = [45]) ↔ mb = true := by rw [← hm]; simp
  simp only [hm]
  simp only [hm']
  clear hm hm' hmb
  generalize body l = d at *
  have hT : Ev (fun k => basic_Atoi.j0 k (strOfNums d) mb true) (0, 5) :=
    Ev.step (f := fun _ => some (0, 5)) (fun k => by rw [basic_Atoi.j0, if_pos rfl]) (Ev.now _)
  by_cases h0 : d = []
  · simp only [if_pos h0]; exact hT
  · simp only [if_neg h0]
    have hpos : 0 < d.length := List.length_pos_iff.2 h0
    by_cases h19 : 19 < d.length
    · simp only [strOfNums_size, if_pos (show (d.length : Int) > 19 by omega), if_pos h19]; exact hT
    · simp only [strOfNums_size, if_neg (show ¬ (d.length : Int) > 19 by omega), if_neg h19, if_pos (show 0 < (d.length : Int) by omega)]
      have hF : Ev (fun k => basic_Atoi.j0 k (strOfNums d) mb false) (resB mb (vg d 0)) := by
        refine Ev.step (f := fun k => basic_Atoi.l0 k (strOfNums d) mb 0 (d.length : Int) 0) (fun k => ?_) ?_
        · rw [basic_Atoi.j0, if_neg (by decide), strOfNums_size]
        · exact Atoi_l0 hbb (by omega) mb d 0 0 rfl (by decide) (by omega)
      obtain ⟨x, t, rfl⟩ : ∃ x t, d = x :: t := by
        cases d with
        | nil => exact absurd rfl h0
        | cons x t => exact ⟨x, t, rfl⟩
      have hx : bt (strOfNums (x :: t)) 0 = x := bt_drop (i := 0) hbb rfl
      have htk : (x :: t).take 1 = [48] ↔ x = 48 := by simp
      simp only [hx, htk]
      by_cases h48 : x = 48
      · simp only [if_pos h48]
        by_cases h1 : 1 < (x :: t).length
        · simp only [if_pos (show ((x :: t).length : Int) > 1 by omega)]
          rw [if_pos ⟨h48, .inl h1⟩]; exact hT
        · simp only [if_neg (show ¬ ((x :: t).length : Int) > 1 by omega)]
          cases mb with
          | true => rw [if_pos ⟨h48, .inr rfl⟩]; exact hT
          | false => rw [if_neg (fun h => h.2.elim h1 (by simp))]; exact hF
      · simp only [if_neg h48]
        rw [if_neg (fun h => h48 h.1)]; exact hF

/-! ### the reference's reading -/
theorem vg_snoc : ∀ (d : List Int) (a : Nat) (x : Int), vg (d ++ [x]) a = (vg d a).bind fun u => if 48 ≤ x ∧ x ≤ 57 then some (10 * u + (x - 48).toNat) else none
  | [], a, x => by simp only [List.nil_append, vg, Option.bind_some]
  | y :: d, a, x => by
    rw [List.cons_append, vg, vg]
    split
    · exact vg_snoc d _ x
    · rfl
theorem snoc_cases {α : Type} (l : List α) : l = [] ∨ ∃ d x, l = d ++ [x] := by
  rcases List.eq_nil_or_concat l with h | ⟨d, x, h⟩
  · exact .inl h
  · exact .inr ⟨d, x, by simpa using h⟩
/-- A number's digits, where nothing needless stands ahead. -/
theorem dec_vg : ∀ (n : Nat) (d : List Int) (u : Nat), d.length = n → 1 ≤ n → vg d 0 = some u → (n = 1 ∨ d.take 1 ≠ [48]) → decD u [] = d ∧ (d.take 1 ≠ [48] → 1 ≤ u) := by
  intro n
  induction n with
  | zero => intro d u _ h; omega
  | succ n ih =>
    intro d u hn _ hv hc
    rcases snoc_cases d with rfl | ⟨e, x, rfl⟩
    · simp at hn
    · rw [vg_snoc] at hv
      cases he : vg e 0 with
      | none => rw [he] at hv; simp at hv
      | some v =>
        rw [he, Option.bind_some] at hv
        split at hv
        · rename_i hx
          obtain rfl := Option.some.inj hv
          have hen : e.length = n := by simpa using hn
          rcases Nat.eq_zero_or_pos n with h0 | h0
          · have : e = [] := List.eq_nil_of_length_eq_zero (by omega)
            subst this
            simp only [vg, Option.some.injEq] at he
            subst he
            rw [decD_lt (by omega)]
            refine ⟨by simp; omega, fun h => ?_⟩
            simp at h
            omega
          · have hte : (e ++ [x]).take 1 = e.take 1 := List.take_append_of_le_length (by omega)
            rw [hte] at hc ⊢
            have hc' : e.take 1 ≠ [48] := hc.resolve_left (by omega)
            obtain ⟨h1, h2⟩ := ih e v hen h0 he (.inr hc')
            have hv1 := h2 hc'
            rw [decD_ge (by omega), decD_append]
            refine ⟨?_, fun _ => by omega⟩
            rw [show (10 * v + (x - 48).toNat) / 10 = v from by omega, h1]
            congr 2
            omega
        · simp at hv
theorem dec_head : ∀ (n : Nat), 1 ≤ n → (decD n []).take 1 ≠ [48] := by
  intro n
  induction n using Nat.strongRecOn with
  | _ n ih =>
    intro h1
    by_cases h10 : n < 10
    · rw [decD_lt h10]; simp; omega
    · rw [decD_ge h10, decD_append, List.take_append_of_le_length (decD_pos _)]
      exact ih (n / 10) (by omega) (by omega)
theorem dec_zero : decD 0 [] = [48] := by rw [decD_lt (by decide)]; rfl
/-- A number's text is just these digits. -/
theorem dec_iff {d : List Int} {u : Nat} (hd : 1 ≤ d.length) (hv : vg d 0 = some u) : decD u [] = d ↔ (d.length = 1 ∨ d.take 1 ≠ [48]) := by
  refine ⟨fun h => ?_, fun h => (dec_vg d.length d u rfl hd hv h).1⟩
  rcases Nat.eq_zero_or_pos u with h0 | h0
  · subst h0; rw [dec_zero] at h; exact .inl (by rw [← h]; rfl)
  · exact .inr (by rw [← h]; exact dec_head u h0)
theorem itoa_pos {u : Nat} : itoaL (u : Int) = decD u [] := by unfold itoaL; rw [if_neg (by omega), Int.toNat_natCast]
theorem itoa_neg {u : Nat} (h : 1 ≤ u) : itoaL (-(u : Int)) = 45 :: decD u [] := by unfold itoaL; rw [if_pos (by omega), show (- -(u : Int)).toNat = u from by omega]
/-- What the reference says of a number's digits behind the sign. -/
def resR (l : List Int) (minus : Bool) : Option Nat → Int × Int
  | none => (0, 5)
  | some u => if minus = true then (if itoaL (-(u : Int)) = l then (-(u : Int), 0) else (0, 5)) else (if u = 9223372036854775808 then (0, 5) else if itoaL (u : Int) = l then ((u : Int), 0) else (0, 5))
theorem refAtoi_l0 {l : List Int} (hb : Byts l) (hl : l.length ≤ 300) (minus : Bool) : ∀ (t : List Int) (i a : Nat), l.drop i = t → a ≤ 9223372036854775808 → i ≤ l.length →
    Ev (fun k => racewayref22_Atoi.l0 k (strOfNums l) (if minus = true then 1 else 0) (-9223372036854775808) (-(a : Int)) (i : Int)) (resR l minus (vg2 t a))
  | [], i, a, ht, ha, hi => by
    have hle : l.length ≤ i := by simpa using ht
    cases minus with
    | true =>
      refine Ev.step (f := fun k => (racewayref22_Itoa.f k (-(a : Int))).bind fun t165 => (if t165.toList = (strOfNums l).toList then (some (-(a : Int), 0)) else (some (0, 5)))) (fun k => ?_) ?_
      · rw [racewayref22_Atoi.l0, strOfNums_size, if_neg (by omega), if_pos rfl, if_neg (by decide)]
      · refine Ev.bind (refItoa_ev (by omega) (by omega)) ?_
        simp only [sn_eq_iff (itoaL_byts _) hb]
        rw [vg2, resR, if_pos rfl]
        split <;> exact Ev.now _
    | false =>
      rw [vg2, resR, if_neg (by decide)]
      by_cases h63 : a = 9223372036854775808
      · rw [if_pos h63]
        refine Ev.step (f := fun _ => some (0, 5)) (fun k => ?_) (Ev.now _)
        rw [racewayref22_Atoi.l0, strOfNums_size, if_neg (by omega), if_pos rfl, if_pos (by omega)]
      · rw [if_neg h63]
        refine Ev.step (f := fun k => (racewayref22_Itoa.f k (a : Int)).bind fun t164 => (if t164.toList = (strOfNums l).toList then (some ((a : Int), 0)) else (some (0, 5)))) (fun k => ?_) ?_
        · have hw : wrap64 (-(-(a : Int))) = (a : Int) := by rw [Int.neg_neg]; exact wrap_id (by omega) (by omega)
          rw [racewayref22_Atoi.l0, strOfNums_size, if_neg (by omega), if_pos rfl, if_neg (by omega), hw]
        · refine Ev.bind (refItoa_ev (by omega) (by omega)) ?_
          simp only [sn_eq_iff (itoaL_byts _) hb]
          split <;> exact Ev.now _
  | x :: t, i, a, ht, ha, hi => by
    obtain ⟨hlt, ht', _⟩ := drop_cons ht
    have hx := bt_drop hb ht
    have hten : wrap64 (Int.tdiv (-9223372036854775808) 10) = -922337203685477580 := by (first | rfl | (unfold wrap64; rfl) | (unfold wrap64; decide) | decide +kernel)
    rw [vg2]
    by_cases hdg : 48 ≤ x ∧ x ≤ 57
    · rw [if_pos hdg]
      have hj : ∀ k, racewayref22_Atoi.l0 (k + 1) (strOfNums l) (if minus = true then 1 else 0) (-9223372036854775808) (-(a : Int)) (i : Int) = racewayref22_Atoi.j4 k (strOfNums l) (if minus = true then 1 else 0) (-9223372036854775808) (-(a : Int)) (i : Int) false := by
        intro k
        rw [racewayref22_Atoi.l0, strOfNums_size, if_pos (by omega), if_pos (by omega), hx, if_neg (by omega), decide_eq_false (by omega)]
      refine Ev.step hj ?_
      have hm : (x - 48) % 256 = x - 48 := by omega
      by_cases hle : 10 * a + (x - 48).toNat ≤ 9223372036854775808
      · rw [if_pos hle]
        refine Ev.step (fun k => ?_) (refAtoi_l0 hb hl minus t (i + 1) _ ht' hle (by omega))
        have e1 : wrap64 (wrap64 (10 * -(a : Int)) - (x - 48)) = -((10 * a + (x - 48).toNat : Nat) : Int) := by
          rw [wrap_id (n := 10 * -(a : Int)) (by omega) (by omega), wrap_id (by omega) (by omega)]; omega
        have e2 : wrap64 ((i : Int) + 1) = ((i + 1 : Nat) : Int) := by rw [wrap_id (by omega) (by omega)]; omega
        rw [racewayref22_Atoi.j4, if_neg (by decide), if_pos (by omega), strOfNums_size, if_pos (by omega), hten, hx, hm, if_neg (by omega), e1, e2]
        by_cases h7 : -(a : Int) = -922337203685477580
        · rw [if_pos h7, if_neg (by omega)]
        · rw [if_neg h7]
      · rw [if_neg hle]
        refine Ev.step (f := fun _ => some (0, 5)) (fun k => ?_) (Ev.now _)
        rw [racewayref22_Atoi.j4, if_neg (by decide), if_pos (by omega), strOfNums_size, if_pos (by omega), hten, hx, hm]
        by_cases h6 : -(a : Int) < -922337203685477580
        · rw [if_pos h6]
        · rw [if_neg h6, if_pos (by omega), if_pos (by omega)]
    · rw [if_neg hdg]
      refine Ev.step (f := fun k => racewayref22_Atoi.j4 k (strOfNums l) (if minus = true then 1 else 0) (-9223372036854775808) (-(a : Int)) (i : Int) true) (fun k => ?_) ?_
      · rw [racewayref22_Atoi.l0, strOfNums_size, if_pos (by omega), if_pos (by omega), hx]
        by_cases h1 : x < 48
        · rw [if_pos h1]
        · rw [if_neg h1, decide_eq_true (by omega)]
      · refine Ev.step (f := fun _ => some (0, 5)) (fun k => ?_) (Ev.now _)
        rw [racewayref22_Atoi.j4, if_pos rfl]
theorem take1_45 {l : List Int} (h : l.take 1 = [45]) : ∃ t, l = 45 :: t := by
  cases l with
  | nil => simp at h
  | cons a t => simp at h; exact ⟨t, by rw [h]⟩
/-- Both readings say the same. -/
theorem atoi_same {l : List Int} (hl : 1 ≤ l.length) : (if body l = [] then ((0, 5) : Int × Int) else if 19 < (body l).length then (0, 5) else resR l (decide (l.take 1 = [45])) (vg2 (body l) 0)) = atoiS l := by
  unfold atoiS
  by_cases h0 : body l = []
  · rw [if_pos h0, if_pos h0]
  rw [if_neg h0, if_neg h0]
  by_cases h19 : 19 < (body l).length
  · rw [if_pos h19, if_pos h19]
  rw [if_neg h19, if_neg h19, vg2_eq _ _ (by decide)]
  have hpos : 1 ≤ (body l).length := List.length_pos_iff.2 h0
  by_cases h45 : l.take 1 = [45]
  · obtain ⟨d, rfl⟩ := take1_45 h45
    have hbd : body (45 :: d) = d := by unfold body; rw [if_pos h45]; rfl
    rw [hbd] at h0 h19 hpos ⊢
    rw [decide_eq_true h45]
    cases hv : vg d 0 with
    | none =>
      rw [Option.bind_none, resR, resB]
      split <;> rfl
    | some u =>
      rw [Option.bind_some]
      have hi := dec_iff hpos hv
      by_cases h48 : d.take 1 = [48]
      · have hR : (if d.take 1 = [48] ∧ (1 < d.length ∨ (45 :: d).take 1 = [45]) then ((0, 5) : Int × Int) else resB true (some u)) = (0, 5) := if_pos ⟨h48, .inr h45⟩
        rw [hR]
        by_cases h63 : u ≤ 9223372036854775808
        · rw [if_pos h63, resR, if_pos rfl, if_neg]
          intro he
          rcases Nat.eq_zero_or_pos u with hu | hu
          · subst hu
            have : itoaL (-((0 : Nat) : Int)) = [48] := by rw [show (-((0 : Nat) : Int)) = ((0 : Nat) : Int) from rfl, itoa_pos, dec_zero]
            rw [this] at he
            simp at he
          · rw [itoa_neg hu] at he
            have he2 : decD u [] = d := by injection he
            exact dec_head u hu (by rw [he2]; exact h48)
        · rw [if_neg h63]; rfl
      · have hR : (if d.take 1 = [48] ∧ (1 < d.length ∨ (45 :: d).take 1 = [45]) then ((0, 5) : Int × Int) else resB true (some u)) = resB true (some u) := if_neg (fun h => h48 h.1)
        rw [hR]
        have hd := hi.2 (.inr h48)
        have hu : 1 ≤ u := (dec_vg d.length d u rfl hpos hv (.inr h48)).2 h48
        by_cases h63 : u ≤ 9223372036854775808
        · rw [if_pos h63, resB, if_pos rfl, if_pos h63, resR, if_pos rfl, if_pos (by rw [itoa_neg hu, hd])]
        · rw [if_neg h63, resB, if_pos rfl, if_neg h63]; rfl
  · have hbd : body l = l := by unfold body; rw [if_neg h45]
    rw [hbd] at h0 h19 hpos ⊢
    rw [decide_eq_false h45]
    cases hv : vg l 0 with
    | none =>
      rw [Option.bind_none, resR, resB]
      split <;> rfl
    | some u =>
      rw [Option.bind_some]
      have hi := dec_iff hpos hv
      by_cases hbad : l.take 1 = [48] ∧ (1 < l.length ∨ l.take 1 = [45])
      · have hR : (if l.take 1 = [48] ∧ (1 < l.length ∨ l.take 1 = [45]) then ((0, 5) : Int × Int) else resB false (some u)) = (0, 5) := if_pos hbad
        rw [hR]
        by_cases h63 : u ≤ 9223372036854775808
        · rw [if_pos h63, resR, if_neg (by decide)]
          split
          · rfl
          · rw [if_neg]
            rw [itoa_pos, hi]
            rintro (h | h)
            · rcases hbad.2 with h2 | h2
              · omega
              · exact h45 h2
            · exact h hbad.1
        · rw [if_neg h63]; rfl
      · have hR : (if l.take 1 = [48] ∧ (1 < l.length ∨ l.take 1 = [45]) then ((0, 5) : Int × Int) else resB false (some u)) = resB false (some u) := if_neg hbad
        rw [hR]
        have hd : decD u [] = l := hi.2 (by
          by_cases h48 : l.take 1 = [48]
          · exact .inl (by have : ¬ 1 < l.length := fun h => hbad ⟨h48, .inl h⟩; omega)
          · exact .inr h48)
        have hB : resB false (some u) = if u ≤ 9223372036854775807 then ((u : Int), 0) else (0, 5) := by rw [resB, if_neg (by decide)]
        by_cases h63 : u ≤ 9223372036854775808
        · rw [if_pos h63, resR, if_neg (by decide), hB]
          by_cases he : u = 9223372036854775808
          · rw [if_pos he, if_neg (by omega)]
          · rw [if_neg he, if_pos (by rw [itoa_pos, hd]), if_pos (by omega)]
        · rw [if_neg h63, hB, if_neg (by omega)]; rfl
theorem refAtoi_ev {l : List Int} (hb : Byts l) (hl : l.length ≤ 300) : Ev (fun k => racewayref22_Atoi.f k (strOfNums l)) (atoiS l) := by
  unfold racewayref22_Atoi.f
  cases l with
  | nil =>
    refine Ev.step (f := fun k => racewayref22_Atoi.j1 k (strOfNums []) 0) (fun k => ?_) ?_
    · rfl
    · refine Ev.step (f := fun k => racewayref22_Atoi.j2 k (strOfNums []) 0 true) (fun k => ?_) ?_
      · rfl
      · refine Ev.step (f := fun _ => some (0, 5)) (fun k => ?_) (Ev.now _)
        rfl
  | cons x t =>
    rw [← atoi_same (by simp)]
    have hx : bt (strOfNums (x :: t)) 0 = x := bt_drop (i := 0) hb rfl
    simp only [strOfNums_size, if_pos (show ((x :: t).length : Int) > 0 by rw [List.length_cons]; omega), if_pos (show 0 < ((x :: t).length : Int) by rw [List.length_cons]; omega), hx]
    have hmin : (x == 45) = decide ((x :: t).take 1 = [45]) := by rw [Bool.eq_iff_iff]; simp
    rw [hmin]
    obtain ⟨mb, hm⟩ : ∃ mb, decide ((x :: t).take 1 = [45]) = mb := ⟨_, rfl⟩
    have hm' : ((x :: t).take 1 = [45]) ↔ mb = true := by rw [← hm]; simp
    have hbl : (body (x :: t)).length = (x :: t).length - (if mb = true then 1 else 0) ∧ (x :: t).drop (if mb = true then 1 else 0) = body (x :: t) := by
      unfold body
      by_cases h : (x :: t).take 1 = [45]
      · rw [if_pos h, if_pos (hm'.1 h)]; exact ⟨by simp, rfl⟩
      · rw [if_neg h, if_neg (fun h' => h (hm'.2 h'))]; exact ⟨by simp, rfl⟩
    simp only [hm]
    obtain ⟨hbl1, hbl2⟩ := hbl
    have hw : ((if mb = true then 1 else 0 : Int)) = (((if mb = true then 1 else 0 : Nat) : Nat) : Int) := by cases mb <;> rfl
    refine Ev.step (f := fun k => racewayref22_Atoi.j1 k (strOfNums (x :: t)) (if mb = true then 1 else 0)) (fun k => ?_) ?_
    · rw [racewayref22_Atoi.j0]; cases mb <;> rfl
    have hge : (if mb = true then 1 else 0 : Nat) ≤ (x :: t).length := by split <;> simp
    have hnil : body (x :: t) = [] ↔ (if mb = true then 1 else 0 : Nat) = (x :: t).length := by
      rw [← List.length_eq_zero_iff, hbl1]; omega
    have hl' : (x :: t).length ≤ 300 := hl
    by_cases h0 : body (x :: t) = []
    · rw [if_pos h0]
      refine Ev.step (f := fun k => racewayref22_Atoi.j2 k (strOfNums (x :: t)) (if mb = true then 1 else 0) true) (fun k => ?_) ?_
      · rw [racewayref22_Atoi.j1, if_pos (by rw [strOfNums_size, hw, ← hnil.1 h0])]
      · refine Ev.step (f := fun _ => some (0, 5)) (fun k => ?_) (Ev.now _)
        rw [racewayref22_Atoi.j2, if_pos rfl]
    · rw [if_neg h0]
      have hne : ¬ (if mb = true then 1 else 0 : Nat) = (x :: t).length := fun h => h0 (hnil.2 h)
      refine Ev.step (f := fun k => racewayref22_Atoi.j2 k (strOfNums (x :: t)) (if mb = true then 1 else 0) (decide (19 < (body (x :: t)).length))) (fun k => ?_) ?_
      · rw [racewayref22_Atoi.j1, if_neg (by rw [strOfNums_size, hw]; omega)]
        congr 1
        rw [decide_eq_decide, strOfNums_size, hw, wrap_id (by omega) (by omega)]
        omega
      · by_cases h19 : 19 < (body (x :: t)).length
        · rw [if_pos h19, decide_eq_true h19]
          refine Ev.step (f := fun _ => some (0, 5)) (fun k => ?_) (Ev.now _)
          rw [racewayref22_Atoi.j2, if_pos rfl]
        · rw [if_neg h19, decide_eq_false h19]
          have h := refAtoi_l0 hb hl' mb (body (x :: t)) (if mb = true then 1 else 0) 0 hbl2 (by decide) hge
          refine Ev.step (f := fun k => racewayref22_Atoi.l0 k (strOfNums (x :: t)) (if mb = true then 1 else 0) (-9223372036854775808) 0 (if mb = true then 1 else 0)) (fun k => ?_) ?_
          · rw [racewayref22_Atoi.j2, if_neg (by decide)]
          · rw [← hw] at h
            exact h
theorem of_text (s : ByteArray) : ∃ L, s = strOfNums L ∧ Byts L ∧ L.length = s.size := ⟨Bas.bytesOf s, (sn_bytesOf s).symm, bytesOf_byts s, Bas.bytesOf_length s⟩
end Go.Proofs.Ytgopfelmhlgglaa.Bas

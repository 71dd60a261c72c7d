/- Plain laws of the printed octet functions: what num, Num, ReadNum and the reference's compute. Conditions: bytes from 0 to 255, lengths below the machine's. -/
import Derived.Test.YtjjpglkmkemkeaaPAx5
namespace Go.Proofs.Ytjjpglkmkemkeaa.Oct
open Go.RowKit Go.Proofs.Ytjjpglkmkemkeaa.PA Go.Proofs.YtjjpglkmkemkeaaW.PrintWords Go.Proofs.YtjjpglkmkemkeaaW.PrintLast Go.Proofs.YtjjpglkmkemkeaaW.PrintMore
set_option linter.unusedVariables false
set_option linter.unusedSimpArgs false

/-- Bytes, as numbers. -/
def Byts (l : List Int) : Prop := ∀ x ∈ l, 0 ≤ x ∧ x < 256
theorem Byts.nil : Byts [] := fun _ h => by simp at h
theorem Byts.append {a b : List Int} (ha : Byts a) (hb : Byts b) : Byts (a ++ b) := fun x h => (List.mem_append.1 h).elim (ha x) (hb x)
theorem Byts.take {a : List Int} (ha : Byts a) (n : Nat) : Byts (a.take n) := fun x h => ha x (List.mem_of_mem_take h)
theorem Byts.drop {a : List Int} (ha : Byts a) (n : Nat) : Byts (a.drop n) := fun x h => ha x (List.mem_of_mem_drop h)
theorem Byts.of_wf {l : List Int} (h : ∀ x ∈ l, (Lit.int .u8 x).wf = true) : Byts l := by
  intro x hx
  have := h x hx
  simp [Lit.wf, IntKind.min, IntKind.max, IntKind.signed, IntKind.bits] at this
  omega
theorem i64_of_wf {n : Int} (h : (Lit.int .i64 n).wf = true) : -9223372036854775808 ≤ n ∧ n ≤ 9223372036854775807 := by
  simp [Lit.wf, IntKind.min, IntKind.max, IntKind.signed, IntKind.bits] at h
  omega

/-! ### few -/
theorem few_some' (l : List Int) (h : l.length ≤ maxLen) : racewaylaw01_few.f l = some (l.take 6000) := by
  simp only [maxLen] at h
  unfold racewaylaw01_few.f
  simp only [Option.bind_some]
  have hm : mn (l.length : Int) 6000 = ((min l.length 6000 : Nat) : Int) := by unfold mn; split <;> omega
  rw [hm, if_pos (by omega), if_pos (by omega), if_pos (by simp; omega)]
  simp only [List.nil_append, Int.toNat_natCast, Option.some.injEq]
  rcases Nat.le_total l.length 6000 with h6 | h6
  · rw [Nat.min_eq_left h6, List.take_length, List.take_of_length_le h6]
  · rw [Nat.min_eq_right h6]

theorem few_some (l : List Int) (h : l.length ≤ 140737488351232) : racewaylaw01_few.f l = some (l.take 6000) := few_some' l (by simp only [maxLen]; omega)

/-! ### a number's bytes -/
def enc (n : Nat) : List Int := if n < 128 then [(n : Int)] else (((n % 128 + 128 : Nat)) : Int) :: enc (n / 128)
termination_by n
decreasing_by omega
theorem enc_lo {n : Nat} (h : n < 128) : enc n = [(n : Int)] := by rw [enc, if_pos h]
theorem enc_hi {n : Nat} (h : 128 ≤ n) : enc n = (((n % 128 + 128 : Nat)) : Int) :: enc (n / 128) := by rw [enc, if_neg (by omega)]
theorem enc_len : ∀ (k n : Nat), n < 128 ^ (k + 1) → (enc n).length ≤ k + 1
  | 0, n, h => by rw [enc_lo (by simpa using h)]; simp
  | k + 1, n, h => by
    rcases Nat.lt_or_ge n 128 with hl | hl
    · rw [enc_lo hl]; simp
    · rw [enc_hi hl]
      have : n / 128 < 128 ^ (k + 1) := by rw [Nat.div_lt_iff_lt_mul (by decide), ← Nat.pow_succ]; exact h
      have := enc_len k (n / 128) this
      simp; omega
theorem enc_byts (n : Nat) : Byts (enc n) := by
  induction n using Nat.strongRecOn with
  | _ n ih =>
    rcases Nat.lt_or_ge n 128 with hl | hl
    · rw [enc_lo hl]; intro x hx; simp at hx; omega
    · rw [enc_hi hl]
      intro x hx
      rcases List.mem_cons.1 hx with rfl | hx
      · omega
      · exact ih (n / 128) (by omega) x hx
theorem enc_ne (n : Nat) : enc n ≠ [] := by
  rcases Nat.lt_or_ge n 128 with hl | hl
  · rw [enc_lo hl]; simp
  · rw [enc_hi hl]; simp

theorem or128 (x : Int) (h0 : 0 ≤ x) (h : x < 256) : Go.bits .or .u8 x 128 = x % 128 + 128 := by
  have key : ∀ n : Fin 256, Go.bits .or .u8 ((n.val : Nat) : Int) 128 = ((n.val : Nat) : Int) % 128 + 128 := by decide +kernel
  have := key ⟨x.toNat, by omega⟩
  rwa [show ((x.toNat : Nat) : Int) = x by omega] at this

theorem num_l0 : ∀ (k n : Nat) (x : List Int), n < 128 ^ (k + 1) → x.length + k + 1 < 140737488355328 → octet_num.l0 (k + 1) x (n : Int) = some (x ++ enc n)
  | 0, n, x, h, hl => by
    have h' : n < 128 := by simpa using h
    simp only [octet_num.l0]
    rw [if_neg (by omega), if_pos (by omega), enc_lo h', show (n : Int) % 256 = n by omega]
  | k + 1, n, x, h, hl => by
    rcases Nat.lt_or_ge n 128 with h' | h'
    · rw [octet_num.l0, if_neg (by omega), if_pos (by omega), enc_lo h', show (n : Int) % 256 = n by omega]
    · rw [octet_num.l0, if_pos (by omega), if_pos (by omega), or128 _ (by omega) (by omega), show (n : Int) / 128 = ((n / 128 : Nat) : Int) by omega]
      rw [num_l0 k (n / 128) _ (by rw [Nat.div_lt_iff_lt_mul (by decide), ← Nat.pow_succ]; exact h) (by simp; omega), enc_hi h', List.append_assoc, List.singleton_append,
        show (n : Int) % 256 % 128 + 128 = ((n % 128 + 128 : Nat) : Int) by omega]

/-- What Num tells. -/
def numS (l : List Int) (n : Int) : List Int × Int := if n < 0 ∨ 4611686018427387904 < n then ([], 2) else (l ++ enc n.toNat, 0)

theorem lt_9 {n : Nat} (h : n ≤ 4611686018427387904) : n < 128 ^ (8 + 1) := Nat.lt_of_le_of_lt h (by decide)

theorem clone_some (l : List Int) (h : l.length < 140737488355328) : slices_Clone_byte_byte.f l = some l := by
  unfold slices_Clone_byte_byte.f; rw [if_pos h]

theorem wrap_u64 {n : Int} (h0 : 0 ≤ n) (h : n < 18446744073709551616) : IntKind.u64.wrap n = n := by
  simp [IntKind.wrap, IntKind.bits, IntKind.signed]; omega

theorem num_ev (l : List Int) (n : Nat) (hn : n ≤ 4611686018427387904) (hl : l.length + 9 < 140737488355328) : Ev (fun k => octet_num.f k l (n : Int)) (l ++ enc n) :=
  Ev.of (fun k => octet_num.mono l n k) (k := 9) (by unfold octet_num.f; exact num_l0 8 n l (lt_9 hn) (by omega))

theorem Num_ev (l : List Int) (n : Int) (hl : l.length + 9 < 140737488355328) : Ev (fun k => octet_Num.f k l n) (numS l n) := by
  refine Ev.of (fun k => octet_Num.mono l n k) (k := 10) ?_
  unfold octet_Num.f numS
  by_cases h : n < 0
  · rw [if_pos h, if_pos (.inl h)]
    simp [octet_Num.j0]
  · rw [if_neg h]
    by_cases h2 : n > 4611686018427387904
    · rw [if_pos (.inr h2), decide_eq_true h2]
      simp [octet_Num.j0]
    · rw [if_neg (by omega), decide_eq_false h2]
      simp only [octet_Num.j0, Bool.false_eq_true, if_false, clone_some l (by omega), Option.bind_some]
      rw [wrap_u64 (by omega) (by omega)]
      obtain ⟨m, rfl⟩ := Int.eq_ofNat_of_zero_le (show 0 ≤ n by omega)
      unfold octet_num.f
      rw [num_l0 8 m l (lt_9 (by omega)) (by omega)]
      simp

theorem refNum_l0 : ∀ (k n : Nat) (x : List Int), n < 128 ^ (k + 1) → n < 9223372036854775808 → x.length + k + 1 < 140737488355328 → racewayref01_Num.l0 (k + 1) (n : Int) x = some (x ++ enc n, 0)
  | 0, n, x, h, _, hl => by
    have h' : n < 128 := by simpa using h
    simp only [racewayref01_Num.l0]
    rw [if_neg (by omega), if_pos (by omega), enc_lo h', show (n : Int) % 256 = n by omega]
  | k + 1, n, x, h, hb, hl => by
    rcases Nat.lt_or_ge n 128 with h' | h'
    · rw [racewayref01_Num.l0, if_neg (by omega), if_pos (by omega), enc_lo h', show (n : Int) % 256 = n by omega]
    · have e1 : Int.tdiv (n : Int) 128 = ((n / 128 : Nat) : Int) := by rw [Int.tdiv_eq_ediv_of_nonneg (by omega)]; omega
      have e2 : Int.tmod (n : Int) 128 = ((n % 128 : Nat) : Int) := by rw [Int.tmod_eq_emod_of_nonneg (by omega)]; omega
      rw [racewayref01_Num.l0, if_pos (by omega), if_pos (by omega), e1, e2]
      rw [show wrap64 ((n / 128 : Nat) : Int) = ((n / 128 : Nat) : Int) by unfold wrap64; omega, show wrap64 (((n % 128 : Nat) : Int) + 128) % 256 = ((n % 128 + 128 : Nat) : Int) by unfold wrap64; omega]
      rw [refNum_l0 k (n / 128) _ (by rw [Nat.div_lt_iff_lt_mul (by decide), ← Nat.pow_succ]; exact h) (by omega) (by simp; omega), enc_hi h', List.append_assoc, List.singleton_append]

theorem refNum_ev (l : List Int) (n : Int) (hl : l.length + 9 < 140737488355328) : Ev (fun k => racewayref01_Num.f k l n) (numS l n) := by
  refine Ev.of (fun k => racewayref01_Num.mono l n k) (k := 10) ?_
  unfold racewayref01_Num.f numS
  by_cases h : n < 0
  · rw [if_pos h, if_pos (.inl h)]
    simp [racewayref01_Num.j0]
  · rw [if_neg h]
    by_cases h2 : n > 4611686018427387904
    · rw [if_pos (.inr h2), decide_eq_true h2]
      simp [racewayref01_Num.j0]
    · rw [if_neg (by omega), decide_eq_false h2]
      simp only [racewayref01_Num.j0, Bool.false_eq_true, if_false, Option.bind_some, List.nil_append, List.length_nil]
      rw [if_pos (by omega)]
      obtain ⟨m, rfl⟩ := Int.eq_ofNat_of_zero_le (show 0 ≤ n by omega)
      rw [refNum_l0 8 m l (lt_9 (by omega)) (by omega) (by omega)]
      simp

/-! ### a number that is read -/
def rdN : List Int → Nat → Int → Int × Int × Int
  | [], _, _ => (0, 0, 4)
  | b :: t, i, n =>
    if i = 9 ∨ (0 < i ∧ b = 0) then (0, 0, 5)
    else if 4611686018427387904 < n + b % 128 * 128 ^ i then (0, 0, 5)
    else if b < 128 then (n + b % 128 * 128 ^ i, (i : Int) + 1, 0)
    else rdN t (i + 1) (n + b % 128 * 128 ^ i)

theorem and127 (x : Int) (h0 : 0 ≤ x) (h : x < 256) : Go.bits .and .u8 x 127 = x % 128 := bits_mask .u8 8 (by decide) wraps_u8 7 (by decide) x h0 (by omega)

theorem wraps_i64 (n : Int) (h₀ : 0 ≤ n) (h₁ : n < 2 ^ 63) : IntKind.i64.wrap n = n := by rw [IntKind.wrap_i64]; omega

theorem or_comm_bits (x y : Int) : Go.bits .or .i64 x y = Go.bits .or .i64 y x := by
  unfold Go.bits; simp only [BitVec.or_comm]

/-- A seven-bit group joined behind lower ones. -/
theorem or_join (i : Nat) (hi : i ≤ 8) (n d : Int) (hn0 : 0 ≤ n) (hn : n < 128 ^ i) (hd0 : 0 ≤ d) (hd : d < 128) : Go.bits .or .i64 n (d * 128 ^ i) = n + d * 128 ^ i := by
  have hp : (128 : Int) ^ i = 2 ^ (7 * i) := by rw [Int.pow_mul]; rfl
  have hb : (128 : Int) ^ i ≤ 72057594037927936 := by
    have : i = 0 ∨ i = 1 ∨ i = 2 ∨ i = 3 ∨ i = 4 ∨ i = 5 ∨ i = 6 ∨ i = 7 ∨ i = 8 := by omega
    rcases this with rfl | rfl | rfl | rfl | rfl | rfl | rfl | rfl | rfl <;> decide
  have hpos : (0 : Int) < 128 ^ i := Int.pow_pos (by decide)
  have hmul : d * 128 ^ i ≤ 127 * 72057594037927936 := by
    have h1 : d * 128 ^ i ≤ 127 * 128 ^ i := Int.mul_le_mul_of_nonneg_right (by omega) (by omega)
    omega
  have hmul0 : 0 ≤ d * 128 ^ i := Int.mul_nonneg hd0 (by omega)
  rw [or_comm_bits, bits_join .i64 63 (by decide) wraps_i64 (7 * i) (d * 128 ^ i) n hmul0 (by rw [hp]; exact Int.mul_emod_left _ _) (by omega) hn0 (by rw [← hp]; exact hn) (by omega)]
  omega

theorem shl_join (i : Nat) (hi : i ≤ 8) (d : Int) (hd0 : 0 ≤ d) (hd : d < 128) : shl .i64 d (7 * (i : Int)) = d * 128 ^ i := by
  have hp : (2 : Int) ^ (7 * i) = 128 ^ i := by rw [Int.pow_mul]; rfl
  unfold shl
  rw [show (7 * (i : Int)).toNat = 7 * i by omega, Nat.min_eq_left (by simp [IntKind.bits]; omega), hp]
  have hb : (128 : Int) ^ i ≤ 72057594037927936 := by
    have : i = 0 ∨ i = 1 ∨ i = 2 ∨ i = 3 ∨ i = 4 ∨ i = 5 ∨ i = 6 ∨ i = 7 ∨ i = 8 := by omega
    rcases this with rfl | rfl | rfl | rfl | rfl | rfl | rfl | rfl | rfl <;> decide
  have hpos : (0 : Int) < 128 ^ i := Int.pow_pos (by decide)
  have h1 : d * 128 ^ i ≤ 127 * 128 ^ i := Int.mul_le_mul_of_nonneg_right (by omega) (by omega)
  exact wraps_i64 _ (Int.mul_nonneg hd0 (by omega)) (by omega)

theorem rd_drop {l t : List Int} {b : Int} {i : Nat} (h : l.drop i = b :: t) : rd l (i : Int) = b ∧ i < l.length ∧ l.drop (i + 1) = t := by
  have hlt : i < l.length := by
    rcases Nat.lt_or_ge i l.length with h' | h'
    · exact h'
    · rw [List.drop_eq_nil_of_le h'] at h; simp at h
  rw [List.drop_eq_getElem_cons hlt] at h
  injection h with h1 h2
  exact ⟨by unfold rd; simp [List.getD_eq_getElem?_getD, List.getElem?_eq_getElem hlt, h1], hlt, h2⟩

theorem pow_bound {i : Nat} {n b : Int} (hn0 : 0 ≤ n) (hn : n < 128 ^ i) : n + b % 128 * 128 ^ i < 128 ^ (i + 1) ∧ 0 ≤ n + b % 128 * 128 ^ i := by
  have hpos : (0 : Int) < 128 ^ i := Int.pow_pos (by decide)
  have h1 : b % 128 * 128 ^ i ≤ 127 * 128 ^ i := Int.mul_le_mul_of_nonneg_right (by omega) (by omega)
  have h2 : 0 ≤ b % 128 * 128 ^ i := Int.mul_nonneg (by omega) (by omega)
  rw [Int.pow_succ]
  omega

theorem ReadNum_l0 (l : List Int) (hl : l.length < 9223372036854775807) : ∀ (t : List Int) (i : Nat) (n : Int) (k : Nat), Byts t → l.drop i = t → 0 ≤ n → n < 128 ^ i → i ≤ 9 → 3 * t.length + 1 ≤ k → octet_ReadNum.l0 k n l (l.length : Int) (i : Int) = some (rdN t i n)
  | [], i, n, k, _, hd, _, _, _, hk => by
    obtain ⟨k, rfl⟩ : ∃ m, k = m + 1 := ⟨k - 1, by omega⟩
    have : l.length ≤ i := by simpa using hd
    rw [octet_ReadNum.l0, if_neg (by omega)]
    rfl
  | b :: t, i, n, k, hb, hd, hn0, hn, hi, hk => by
    obtain ⟨k, rfl⟩ : ∃ m, k = m + 3 := ⟨k - 3, by simp at hk; omega⟩
    obtain ⟨hr, hlt, hd'⟩ := rd_drop hd
    have hbb := hb b (by simp)
    rw [octet_ReadNum.l0, if_pos (by omega), if_pos (by omega), if_pos (by omega), hr]
    unfold rdN
    by_cases h9 : i = 9
    · rw [if_pos (by omega), if_pos (.inl h9), octet_ReadNum.j1, if_pos rfl]
    · rw [if_neg (by omega)]
      by_cases h0 : 0 < i ∧ b = 0
      · rw [if_pos h0.2, if_pos (.inr h0), decide_eq_true (by omega : (i : Int) > 0), octet_ReadNum.j1, if_pos rfl]
      · rw [if_neg (by omega : ¬ (i = 9 ∨ 0 < i ∧ b = 0))]
        have hj : (if b = 0 then octet_ReadNum.j1 (k + 2) n i b l (l.length : Int) i (decide ((i : Int) > 0)) else octet_ReadNum.j1 (k + 2) n i b l (l.length : Int) i false) = octet_ReadNum.j1 (k + 2) n i b l (l.length : Int) i false := by
          by_cases hb0 : b = 0
          · rw [if_pos hb0, decide_eq_false (by omega)]
          · rw [if_neg hb0]
        rw [hj, octet_ReadNum.j1, if_neg (by simp)]
        have hw : wrap64 (7 * (i : Int)) = 7 * (i : Int) := by unfold wrap64; omega
        have hw2 : wrap64 (b % 128) = b % 128 := by unfold wrap64; omega
        rw [hw, if_pos (by omega), and127 b hbb.1 hbb.2, hw2, shl_join i (by omega) _ (by omega) (by omega), or_join i (by omega) n _ hn0 hn (by omega) (by omega)]
        obtain ⟨hu, hl0⟩ := pow_bound (b := b) hn0 hn
        by_cases hm : n + b % 128 * 128 ^ i > 4611686018427387904
        · rw [if_pos hm, if_pos hm, octet_ReadNum.j2, if_pos rfl]
        · rw [if_neg hm, if_neg hm, decide_eq_false (by omega), octet_ReadNum.j2, if_neg (by simp)]
          by_cases h128 : b < 128
          · rw [if_pos h128, if_pos h128, show wrap64 ((i : Int) + 1) = (i : Int) + 1 by unfold wrap64; omega]
          · rw [if_neg h128, if_neg h128, show wrap64 ((i : Int) + 1) = ((i + 1 : Nat) : Int) by unfold wrap64; omega]
            exact ReadNum_l0 l hl t (i + 1) _ k (fun x hx => hb x (by simp [hx])) hd' hl0 hu (by omega) (by simp at hk; omega)

theorem ReadNum_ev (l : List Int) (hb : Byts l) (hl : l.length < 9223372036854775807) : Ev (fun k => octet_ReadNum.f k l) (rdN l 0 0) := by
  refine Ev.of (fun k => octet_ReadNum.mono l k) (k := 3 * l.length + 1) ?_
  unfold octet_ReadNum.f
  exact ReadNum_l0 l hl l 0 0 _ hb rfl (by omega) (by simp) (by omega) (by omega)

theorem refReadNum_l0 (l : List Int) (hl : l.length < 9223372036854775807) : ∀ (t : List Int) (i : Nat) (n : Int) (k : Nat), Byts t → l.drop i = t → 0 ≤ n → n < 128 ^ i → i ≤ 9 → 3 * t.length + 1 ≤ k → racewayref01_ReadNum.l0 k l n (128 ^ min i 8) (i : Int) = some (rdN t i n)
  | [], i, n, k, _, hd, _, _, _, hk => by
    obtain ⟨k, rfl⟩ : ∃ m, k = m + 1 := ⟨k - 1, by omega⟩
    have : l.length ≤ i := by simpa using hd
    rw [racewayref01_ReadNum.l0, if_neg (by omega)]
    rfl
  | b :: t, i, n, k, hb, hd, hn0, hn, hi, hk => by
    obtain ⟨k, rfl⟩ : ∃ m, k = m + 3 := ⟨k - 3, by simp at hk; omega⟩
    obtain ⟨hr, hlt, hd'⟩ := rd_drop hd
    have hbb := hb b (by simp)
    rw [racewayref01_ReadNum.l0, if_pos (by omega), hr]
    unfold rdN
    by_cases h9 : i = 9
    · rw [if_pos (by omega), if_pos (.inl h9), racewayref01_ReadNum.j1, if_pos rfl]
    · rw [if_neg (by omega)]
      by_cases h0 : 0 < i ∧ b = 0
      · rw [if_pos (by omega), if_pos (by omega), if_pos (.inr h0), beq_iff_eq.2 h0.2, racewayref01_ReadNum.j1, if_pos rfl]
      · rw [if_neg (by omega : ¬ (i = 9 ∨ 0 < i ∧ b = 0))]
        have hj : (if (i : Int) > 0 then if 0 ≤ (i : Int) then racewayref01_ReadNum.j1 (k + 2) l n (128 ^ min i 8) i (b == 0) else none else racewayref01_ReadNum.j1 (k + 2) l n (128 ^ min i 8) i false) = racewayref01_ReadNum.j1 (k + 2) l n (128 ^ min i 8) i false := by
          by_cases hi0 : (i : Int) > 0
          · rw [if_pos hi0, if_pos (by omega), beq_eq_false_iff_ne.2 (by omega)]
          · rw [if_neg hi0]
        have hm8 : min i 8 = i := by omega
        rw [hj, racewayref01_ReadNum.j1, if_neg (by simp), if_pos (by omega), if_pos (by omega), hr, hm8]
        have hw2 : wrap64 (Int.tmod b 128) = b % 128 := by rw [Int.tmod_eq_emod_of_nonneg hbb.1]; unfold wrap64; omega
        rw [hw2]
        obtain ⟨hu, hl0⟩ := pow_bound (b := b) hn0 hn
        have hpb : (128 : Int) ^ i ≤ 72057594037927936 := by
          have : i = 0 ∨ i = 1 ∨ i = 2 ∨ i = 3 ∨ i = 4 ∨ i = 5 ∨ i = 6 ∨ i = 7 ∨ i = 8 := by omega
          rcases this with rfl | rfl | rfl | rfl | rfl | rfl | rfl | rfl | rfl <;> decide
        have hpos : (0 : Int) < 128 ^ i := Int.pow_pos (by decide)
        -- the test
        have test : ∀ q : Bool, (q = true ↔ 4611686018427387904 < n + b % 128 * 128 ^ i) → racewayref01_ReadNum.j2 (k + 1) l n (128 ^ i) (i : Int) (b % 128) q =
            some (if 4611686018427387904 < n + b % 128 * 128 ^ i then (0, 0, 5) else if b < 128 then (n + b % 128 * 128 ^ i, (i : Int) + 1, 0) else rdN t (i + 1) (n + b % 128 * 128 ^ i)) := by
          intro q hq
          rw [racewayref01_ReadNum.j2]
          by_cases hm : 4611686018427387904 < n + b % 128 * 128 ^ i
          · rw [if_pos (hq.2 hm), if_pos hm]
          · rw [if_neg (fun h => hm (hq.1 h)), if_neg hm, if_pos (by omega), if_pos (by omega), hr]
            have hd1 : b % 128 * 128 ^ i ≤ 127 * 128 ^ i := Int.mul_le_mul_of_nonneg_right (by omega) (by omega)
            have hd2 : 0 ≤ b % 128 * 128 ^ i := Int.mul_nonneg (by omega) (by omega)
            have hs : wrap64 (n + wrap64 (b % 128 * 128 ^ i)) = n + b % 128 * 128 ^ i := by
              rw [show wrap64 (b % 128 * 128 ^ i) = b % 128 * 128 ^ i by unfold wrap64; omega]
              unfold wrap64; omega
            rw [hs]
            by_cases h128 : b < 128
            · rw [if_pos h128, if_pos h128, show wrap64 ((i : Int) + 1) = (i : Int) + 1 by unfold wrap64; omega]
            · rw [if_neg h128, if_neg h128, show wrap64 ((i : Int) + 1) = ((i + 1 : Nat) : Int) by unfold wrap64; omega]
              have ih := refReadNum_l0 l hl t (i + 1) (n + b % 128 * 128 ^ i) k (fun x hx => hb x (by simp [hx])) hd' hl0 hu (by omega) (by simp at hk; omega)
              by_cases h8 : (i : Int) < 8
              · rw [if_pos h8]
                rw [show min (i + 1) 8 = i + 1 by omega, Int.pow_succ] at ih
                have hpb7 : (128 : Int) ^ i ≤ 562949953421312 := by
                  have : i = 0 ∨ i = 1 ∨ i = 2 ∨ i = 3 ∨ i = 4 ∨ i = 5 ∨ i = 6 ∨ i = 7 := by omega
                  rcases this with rfl | rfl | rfl | rfl | rfl | rfl | rfl | rfl <;> decide
                rw [show wrap64 ((128 : Int) ^ i * 128) = 128 ^ i * 128 by unfold wrap64; omega]
                exact ih
              · rw [if_neg h8]
                rw [show min (i + 1) 8 = i by omega] at ih
                exact ih
        -- which test is asked
        by_cases hi8 : i = 8
        · subst hi8
          have hp8 : (128 : Int) ^ 8 = 72057594037927936 := by decide
          by_cases hd0 : b % 128 > 0
          · rw [if_pos hd0, if_pos (by omega)]
            by_cases h64 : b % 128 > 64
            · rw [if_pos h64]; exact test true (by rw [hp8]; simp; omega)
            · rw [if_neg h64]
              by_cases h65 : b % 128 = 64
              · rw [if_pos h65]; exact test _ (by rw [hp8, h65]; simp; omega)
              · rw [if_neg h65]; exact test false (by rw [hp8] at *; simp; omega)
          · rw [if_neg hd0]; exact test false (by rw [hp8] at *; simp; omega)
        · have hno : ¬ 4611686018427387904 < n + b % 128 * 128 ^ i := by
            have : (128 : Int) ^ (i + 1) ≤ 72057594037927936 := by
              have : i = 0 ∨ i = 1 ∨ i = 2 ∨ i = 3 ∨ i = 4 ∨ i = 5 ∨ i = 6 ∨ i = 7 := by omega
              rcases this with rfl | rfl | rfl | rfl | rfl | rfl | rfl | rfl <;> decide
            omega
          have tf := test false (by simp; omega)
          by_cases hd0 : b % 128 > 0
          · rw [if_pos hd0, if_neg (by omega)]; exact tf
          · rw [if_neg hd0]; exact tf

theorem refReadNum_ev (l : List Int) (hb : Byts l) (hl : l.length < 9223372036854775807) : Ev (fun k => racewayref01_ReadNum.f k l) (rdN l 0 0) := by
  refine Ev.of (fun k => racewayref01_ReadNum.mono l k) (k := 3 * l.length + 1) ?_
  unfold racewayref01_ReadNum.f
  exact refReadNum_l0 l hl l 0 0 _ hb rfl (by omega) (by simp) (by omega) (by omega)

/-! ### the chapter's example -/
theorem works_ev : Ev (fun k => racewaylaw01_works.f k) true := Ev.of (fun k => racewaylaw01_works.mono k) (k := 12) (by decide +kernel)

end Go.Proofs.Ytjjpglkmkemkeaa.Oct

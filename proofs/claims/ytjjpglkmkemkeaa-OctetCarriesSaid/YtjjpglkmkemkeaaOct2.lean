/- Plain laws: a number's bytes are read back, cut they are short; texts. Conditions: as in each theorem. -/
import Derived.Test.YtjjpglkmkemkeaaOct1
import Derived.Test.YtjjpglkmkemkeaaPAx7
namespace Go.Proofs.Ytjjpglkmkemkeaa.Oct
open Go.RowKit Go.Proofs.Ytjjpglkmkemkeaa.PA Go.Proofs.YtjjpglkmkemkeaaW.PrintWords Go.Proofs.YtjjpglkmkemkeaaW.PrintLast Go.Proofs.YtjjpglkmkemkeaaW.PrintMore
set_option linter.unusedVariables false
set_option linter.unusedSimpArgs false

theorem div_step (m : Nat) (acc : Int) (i : Nat) : acc + ((m % 128 : Nat) : Int) * 128 ^ i + ((m / 128 : Nat) : Int) * 128 ^ (i + 1) = acc + (m : Int) * 128 ^ i := by
  have h : (m : Int) = ((m % 128 : Nat) : Int) + ((m / 128 : Nat) : Int) * 128 := by omega
  rw [Int.pow_succ, Int.add_assoc]
  congr 1
  conv => rhs; rw [h]
  rw [Int.add_mul, Int.mul_assoc, Int.mul_comm (128 ^ i) 128]

theorem enc_len_pos (m : Nat) : 0 < (enc m).length := by
  have := enc_ne m
  cases h : enc m with
  | nil => exact absurd h this
  | cons => simp

theorem rd_enc : ∀ (m i : Nat) (acc : Int) (rest : List Int), 0 ≤ acc → acc + (m : Int) * 128 ^ i ≤ 4611686018427387904 → i + (enc m).length ≤ 9 → (0 < i → m ≠ 0) →
    rdN (enc m ++ rest) i acc = (acc + (m : Int) * 128 ^ i, (i : Int) + (enc m).length, 0) := by
  intro m
  induction m using Nat.strongRecOn with
  | _ m ih =>
    intro i acc rest ha hm hlen h0
    have hp := enc_len_pos m
    rcases Nat.lt_or_ge m 128 with hl | hl
    · rw [enc_lo hl, List.singleton_append, rdN]
      rw [if_neg (by omega), show (m : Int) % 128 = m by omega, if_neg (by omega), if_pos (by omega)]
      simp
    · have hq := enc_len_pos (m / 128)
      rw [enc_hi hl] at hlen ⊢
      simp only [List.length_cons] at hlen
      have hpos : (0 : Int) < 128 ^ (i + 1) := Int.pow_pos (by decide)
      have hd := div_step m acc i
      have hge : 0 ≤ ((m / 128 : Nat) : Int) * 128 ^ (i + 1) := Int.mul_nonneg (by omega) (by omega)
      have hge2 : 0 ≤ ((m % 128 : Nat) : Int) * 128 ^ i := Int.mul_nonneg (by omega) (Int.le_of_lt (Int.pow_pos (by decide)))
      rw [List.cons_append, rdN]
      rw [if_neg (by omega), show ((m % 128 + 128 : Nat) : Int) % 128 = ((m % 128 : Nat) : Int) by omega, if_neg (by omega), if_neg (by omega)]
      rw [ih (m / 128) (by omega) (i + 1) _ rest (by omega) (by omega) (by omega) (by omega), hd]
      simp only [Prod.mk.injEq, List.length_cons, and_true, true_and]
      omega

theorem rd_enc_cut : ∀ (m i j : Nat) (acc : Int), 0 ≤ acc → acc + (m : Int) * 128 ^ i ≤ 4611686018427387904 → i + (enc m).length ≤ 9 → j < (enc m).length →
    rdN ((enc m).take j) i acc = (0, 0, 4) := by
  intro m
  induction m using Nat.strongRecOn with
  | _ m ih =>
    intro i j acc ha hm hlen hj
    cases j with
    | zero => simp [rdN]
    | succ j =>
      rcases Nat.lt_or_ge m 128 with hl | hl
      · rw [enc_lo hl] at hj; simp at hj
      · have hq := enc_len_pos (m / 128)
        rw [enc_hi hl] at hlen hj ⊢
        simp only [List.length_cons] at hlen hj
        have hpos : (0 : Int) < 128 ^ (i + 1) := Int.pow_pos (by decide)
        have hd := div_step m acc i
        have hge : 0 ≤ ((m / 128 : Nat) : Int) * 128 ^ (i + 1) := Int.mul_nonneg (by omega) (by omega)
        have hge2 : 0 ≤ ((m % 128 : Nat) : Int) * 128 ^ i := Int.mul_nonneg (by omega) (Int.le_of_lt (Int.pow_pos (by decide)))
        rw [List.take_succ_cons, rdN]
        rw [if_neg (by omega), show ((m % 128 + 128 : Nat) : Int) % 128 = ((m % 128 : Nat) : Int) by omega, if_neg (by omega), if_neg (by omega)]
        exact ih (m / 128) (by omega) (i + 1) j _ (by omega) (by omega) (by omega) (by omega)

theorem enc_len9 {n : Nat} (h : n ≤ 4611686018427387904) : (enc n).length ≤ 9 := enc_len 8 n (lt_9 h)

theorem rd_enc0 {n : Nat} (h : n ≤ 4611686018427387904) (rest : List Int) : rdN (enc n ++ rest) 0 0 = ((n : Int), ((enc n).length : Int), 0) := by
  have := enc_len9 h
  rw [rd_enc n 0 0 rest (by omega) (by simp; omega) (by omega) (by omega)]
  simp
theorem rd_enc_cut0 {n : Nat} (h : n ≤ 4611686018427387904) {j : Nat} (hj : j < (enc n).length) : rdN ((enc n).take j) 0 0 = (0, 0, 4) := by
  have := enc_len9 h
  exact rd_enc_cut n 0 j 0 (by omega) (by simp; omega) (by omega) hj

/-- What a reading tells lies in its bounds. -/
theorem rdN_bounds : ∀ (t : List Int) (i : Nat) (n : Int), 0 ≤ n → ∀ x k e, rdN t i n = (x, k, e) → 0 ≤ x ∧ x ≤ 4611686018427387904 ∧ 0 ≤ k ∧ k ≤ i + t.length ∧ (e = 0 → (i : Int) < k) ∧ (e = 0 ∨ e = 4 ∨ e = 5)
  | [], i, n, _, x, k, e, h => by simp only [rdN, Prod.mk.injEq] at h; obtain ⟨rfl, rfl, rfl⟩ := h; simp
  | b :: t, i, n, hn, x, k, e, h => by
    rw [rdN] at h
    have hge : 0 ≤ b % 128 * 128 ^ i := Int.mul_nonneg (by omega) (Int.le_of_lt (Int.pow_pos (by decide)))
    split at h
    · simp only [Prod.mk.injEq] at h; obtain ⟨rfl, rfl, rfl⟩ := h; exact ⟨by omega, by omega, by omega, by rw [List.length_cons]; omega, fun h => by omega, by omega⟩
    · split at h
      · simp only [Prod.mk.injEq] at h; obtain ⟨rfl, rfl, rfl⟩ := h; exact ⟨by omega, by omega, by omega, by rw [List.length_cons]; omega, fun h => by omega, by omega⟩
      · split at h
        · simp only [Prod.mk.injEq] at h; obtain ⟨rfl, rfl, rfl⟩ := h; exact ⟨by omega, by omega, by omega, by rw [List.length_cons]; omega, fun h => by omega, by omega⟩
        · have := rdN_bounds t (i + 1) _ (by omega) x k e h
          simp only [List.length_cons]; omega

/-! ### texts -/
def textS (l : List Int) (s : ByteArray) : List Int × Int := if 4096 < s.size then ([], 3) else (l ++ enc s.size ++ bytesOf s, 0)

theorem Text_ev (l : List Int) (s : ByteArray) (hl : l.length + 9 + 4096 < 140737488355328) : Ev (fun k => octet_Text.f k l s) (textS l s) := by
  unfold octet_Text.f textS
  by_cases h : 4096 < s.size
  · simp only [if_pos h, if_pos (show (s.size : Int) > 4096 by omega)]
    exact Ev.now _
  · simp only [if_neg h, if_neg (show ¬ (s.size : Int) > 4096 by omega), clone_some l (by omega), Option.bind_some, wrap_u64 (show 0 ≤ (s.size : Int) by omega) (by omega)]
    have := enc_len9 (show s.size ≤ 4611686018427387904 by omega)
    refine Ev.bind (num_ev l s.size (by omega) (by omega)) ?_
    rw [if_pos (by simp; omega)]
    exact Ev.now _

theorem refText_ev (l : List Int) (s : ByteArray) (hl : l.length + 9 + 4096 < 140737488355328) : Ev (fun k => racewayref01_Text.f k l s) (textS l s) := by
  unfold racewayref01_Text.f textS
  by_cases h : 4096 < s.size
  · simp only [if_pos h, if_pos (show (s.size : Int) > 4096 by omega)]
    exact Ev.now _
  · simp only [if_neg h, if_neg (show ¬ (s.size : Int) > 4096 by omega)]
    have := enc_len9 (show s.size ≤ 4611686018427387904 by omega)
    have hS : numS l (s.size : Int) = (l ++ enc s.size, 0) := by unfold numS; rw [if_neg (by omega)]; simp
    refine Ev.bind (refNum_ev l s.size (by omega)) ?_
    rw [hS, if_pos (by simp; omega)]
    exact Ev.now _

/-- What ReadText tells. -/
def rdT (l : List Int) : ByteArray × Int × Int :=
  if (rdN l 0 0).2.2 ≠ 0 then (⟨#[]⟩, 0, (rdN l 0 0).2.2)
  else if 4096 < (rdN l 0 0).1 then (⟨#[]⟩, 0, 3)
  else if (l.length : Int) - (rdN l 0 0).2.1 < (rdN l 0 0).1 then (⟨#[]⟩, 0, 4)
  else (strOfNums ((l.take ((rdN l 0 0).2.1 + (rdN l 0 0).1).toNat).drop (rdN l 0 0).2.1.toNat), (rdN l 0 0).2.1 + (rdN l 0 0).1, 0)

theorem ReadText_ev (l : List Int) (hb : Byts l) (hl : l.length < 140737488355328) : Ev (fun k => octet_ReadText.f k l) (rdT l) := by
  unfold octet_ReadText.f rdT
  refine Ev.bind (ReadNum_ev l hb (by omega)) ?_
  obtain ⟨b0, b1, b2, b3, b4, b5⟩ := rdN_bounds l 0 0 (by omega) _ _ _ rfl
  generalize (rdN l 0 0).1 = n at *
  generalize (rdN l 0 0).2.1 = j at *
  generalize (rdN l 0 0).2.2 = e at *
  have w1 : wrap64 ((l.length : Int) - j) = (l.length : Int) - j := by unfold wrap64; omega
  by_cases he : e = 0
  · simp only [if_pos he, if_neg (show ¬ e ≠ 0 by omega)]
    by_cases h1 : 4096 < n
    · simp only [if_pos h1, if_pos (show n > 4096 from h1)]; exact Ev.now _
    · have w2 : wrap64 (j + n) = j + n := by unfold wrap64; omega
      simp only [if_neg h1, if_neg (show ¬ n > 4096 from h1), w1, w2]
      by_cases h2 : (l.length : Int) - j < n
      · simp only [if_pos h2, gt_iff_lt]; exact Ev.now _
      · simp only [if_neg h2, gt_iff_lt, if_pos b2, if_pos (show j ≤ j + n by omega), if_pos (show j + n ≤ (l.length : Int) by omega)]; exact Ev.now _
  · simp only [if_neg he, if_pos (show e ≠ 0 from he)]; exact Ev.now _

theorem refReadText_ev (l : List Int) (hb : Byts l) (hl : l.length < 140737488355328) : Ev (fun k => racewayref01_ReadText.f k l) (rdT l) := by
  unfold racewayref01_ReadText.f rdT
  refine Ev.bind (refReadNum_ev l hb (by omega)) ?_
  obtain ⟨b0, b1, b2, b3, b4, b5⟩ := rdN_bounds l 0 0 (by omega) _ _ _ rfl
  generalize (rdN l 0 0).1 = n at *
  generalize (rdN l 0 0).2.1 = j at *
  generalize (rdN l 0 0).2.2 = e at *
  have w1 : wrap64 ((l.length : Int) - j) = (l.length : Int) - j := by unfold wrap64; omega
  by_cases he : e = 0
  · simp only [if_pos he, if_neg (show ¬ e ≠ 0 by omega)]
    by_cases h1 : 4096 < n
    · simp only [if_pos h1, if_pos (show n > 4096 from h1)]; exact Ev.now _
    · have w2 : wrap64 (j + n) = j + n := by unfold wrap64; omega
      simp only [if_neg h1, if_neg (show ¬ n > 4096 from h1), w1, w2]
      by_cases h2 : (l.length : Int) - j < n
      · simp only [if_pos h2, gt_iff_lt]; exact Ev.now _
      · simp only [if_neg h2, gt_iff_lt, if_pos b2, if_pos (show j ≤ j + n by omega), if_pos (show j + n ≤ (l.length : Int) by omega)]; exact Ev.now _
  · simp only [if_neg he, if_pos (show e ≠ 0 from he)]; exact Ev.now _

end Go.Proofs.Ytjjpglkmkemkeaa.Oct

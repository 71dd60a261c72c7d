/- Plain laws: bytes that are written in base 64: the reference's bits, six by six, are the program's signs. Conditions: as in each theorem. -/
import Derived.Test.YtgopfelmhlgglaaBas3
namespace Go.Proofs.Ytgopfelmhlgglaa.Bas
open Go.RowKit Go.Proofs.Ytgopfelmhlgglaa.PA Go.Proofs.YtgopfelmhlgglaaEnc Go.Proofs.YtgopfelmhlgglaaW.PrintWords Go.Proofs.YtgopfelmhlgglaaW.PrintLast Go.Proofs.YtgopfelmhlgglaaW.PrintMore
set_option linter.unusedVariables false
set_option linter.unusedSimpArgs false
/-- A byte's bits. -/
def bitsB (b : Int) : List Int := [b / 128 % 2, b / 64 % 2, b / 32 % 2, b / 16 % 2, b / 8 % 2, b / 4 % 2, b / 2 % 2, b / 1 % 2]
def bitsL (l : List Int) : List Int := l.flatMap bitsB
def Bits (l : List Int) : Prop := ∀ x ∈ l, 0 ≤ x ∧ x ≤ 1
theorem bitsL_len (l : List Int) : (bitsL l).length = 8 * l.length := by
  unfold bitsL
  induction l with
  | nil => rfl
  | cons a t ih => rw [List.flatMap_cons, List.length_append, ih]; simp [bitsB]; omega
theorem bitsL_bits (l : List Int) : Bits (bitsL l) := fun x h => by
  obtain ⟨b, _, h2⟩ := List.mem_flatMap.1 h
  simp only [bitsB, List.mem_cons, List.not_mem_nil, or_false] at h2
  omega
theorem enc_l1_step {L : List Int} (hb : Byts L) {b : Int} {t : List Int} {i : Nat} (ht : L.drop i = b :: t) (x3 : List Int) (h3 : x3.length < 1000000) (c : Int) (hc : 0 < c ∧ c ≤ 128) (k : Nat) :
    racewayref22_Encode.l1 (k + 1) L x3 (i : Int) c = racewayref22_Encode.l1 k L (x3 ++ [b / c % 2]) (i : Int) (c / 2) := by
  obtain ⟨hlt, _, _⟩ := drop_cons ht
  have hbb := hb b (by rw [← List.take_append_drop i L, ht]; simp)
  have hr := rd_drop ht
  have hd : 0 ≤ b / c := Int.ediv_nonneg hbb.1 (by omega)
  have hd2 : b / c ≤ b := Int.ediv_le_self _ hbb.1
  have e1 : wrap64 b = b := wrap_id (by omega) (by omega)
  have e2 : wrap64 (Int.tdiv b c) = b / c := by rw [Int.tdiv_eq_ediv_of_nonneg hbb.1, wrap_id (by omega) (by omega)]
  have e3 : Int.tmod (b / c) 2 = b / c % 2 := Int.tmod_eq_emod_of_nonneg hd
  have e4 : wrap64 (Int.tdiv c 2) = c / 2 := by rw [Int.tdiv_eq_ediv_of_nonneg (by omega), wrap_id (by omega) (by omega)]
  rw [racewayref22_Encode.l1, hr, e1, e2, e3, e4, if_pos (by omega), if_pos (by omega), if_pos (by omega), if_neg (by omega), if_pos (by omega)]
theorem enc_l1 {L : List Int} (hb : Byts L) (hL : L.length ≤ 100000) {b : Int} {t : List Int} {i : Nat} (ht : L.drop i = b :: t) (x3 : List Int) (h3 : x3.length + 8 < 1000000) {r : ByteArray}
    (h : Ev (fun k => racewayref22_Encode.l0 k L (x3 ++ bitsB b) ((i + 1 : Nat) : Int)) r) : Ev (fun k => racewayref22_Encode.l1 k L x3 (i : Int) 128) r := by
  obtain ⟨hlt, _, _⟩ := drop_cons ht
  refine Ev.step (enc_l1_step hb ht x3 (by omega) 128 (by decide)) ?_
  refine Ev.step (enc_l1_step hb ht _ (by simp; omega) (128 / 2) (by decide)) ?_
  refine Ev.step (enc_l1_step hb ht _ (by simp; omega) (128 / 2 / 2) (by decide)) ?_
  refine Ev.step (enc_l1_step hb ht _ (by simp; omega) (128 / 2 / 2 / 2) (by decide)) ?_
  refine Ev.step (enc_l1_step hb ht _ (by simp; omega) (128 / 2 / 2 / 2 / 2) (by decide)) ?_
  refine Ev.step (enc_l1_step hb ht _ (by simp; omega) (128 / 2 / 2 / 2 / 2 / 2) (by decide)) ?_
  refine Ev.step (enc_l1_step hb ht _ (by simp; omega) (128 / 2 / 2 / 2 / 2 / 2 / 2) (by decide)) ?_
  refine Ev.step (enc_l1_step hb ht _ (by simp; omega) (128 / 2 / 2 / 2 / 2 / 2 / 2 / 2) (by decide)) ?_
  refine Ev.step (fun k => ?_) h
  rw [racewayref22_Encode.l1, if_neg (by decide), wrap_id (by omega) (by omega)]
  congr 1
  simp [bitsB]
theorem enc_l0 {L : List Int} (hb : Byts L) (hL : L.length ≤ 100000) {r : ByteArray} : ∀ (t : List Int) (i : Nat) (x3 : List Int), L.drop i = t → x3.length + 8 * t.length < 1000000 →
    Ev (fun k => racewayref22_Encode.l2 k (x3 ++ bitsL t)) r → Ev (fun k => racewayref22_Encode.l0 k L x3 (i : Int)) r := by
  intro t
  induction t with
  | nil =>
    intro i x3 ht h3 h
    have hle : L.length ≤ i := by simpa using ht
    rw [show x3 ++ bitsL [] = x3 from List.append_nil _] at h
    refine Ev.step (fun k => ?_) h
    rw [racewayref22_Encode.l0, if_neg (by omega)]
  | cons b t ih =>
    intro i x3 ht h3 h
    obtain ⟨hlt, ht', _⟩ := drop_cons ht
    simp only [List.length_cons] at h3
    refine Ev.step (f := fun k => racewayref22_Encode.l1 k L x3 (i : Int) 128) (fun k => ?_) ?_
    · rw [racewayref22_Encode.l0, if_pos (by omega)]
    · refine enc_l1 hb hL ht x3 (by omega) (ih (i + 1) _ ht' (by simp [bitsB]; omega) ?_)
      rw [show x3 ++ bitsL (b :: t) = x3 ++ bitsB b ++ bitsL t from by unfold bitsL; rw [List.flatMap_cons, List.append_assoc]] at h
      exact h
/-- Noughts behind the bits. -/
def padB (l : List Int) : List Int := l ++ List.replicate ((6 - l.length % 6) % 6) 0
theorem enc_l2 {r : ByteArray} : ∀ (n : Nat) (x3 : List Int), (6 - x3.length % 6) % 6 = n → x3.length + n < 1000000 → Ev (fun k => racewayref22_Encode.l3 k (x3 ++ List.replicate n 0) ⟨#[]⟩ 0) r → Ev (fun k => racewayref22_Encode.l2 k x3) r := by
  intro n
  induction n with
  | zero =>
    intro x3 hn h3 h
    rw [List.replicate_zero, List.append_nil] at h
    refine Ev.step (fun k => ?_) h
    rw [racewayref22_Encode.l2, if_pos (by omega)]
  | succ n ih =>
    intro x3 hn h3 h
    refine Ev.step (f := fun k => racewayref22_Encode.l2 k (x3 ++ [0])) (fun k => ?_) ?_
    · rw [racewayref22_Encode.l2, if_neg (by omega), if_pos (by omega)]
    · refine ih (x3 ++ [0]) (by rw [List.length_append, List.length_singleton]; omega) (by rw [List.length_append, List.length_singleton]; omega) ?_
      rw [List.append_assoc, show ([0] : List Int) ++ List.replicate n 0 = List.replicate (n + 1) 0 from rfl]
      exact h
theorem signs_extract {n : Nat} (h : n < 64) : (⟨#[65, 66, 67, 68, 69, 70, 71, 72, 73, 74, 75, 76, 77, 78, 79, 80, 81, 82, 83, 84, 85, 86, 87, 88, 89, 90, 97, 98, 99, 100, 101, 102, 103, 104, 105, 106, 107, 108, 109, 110, 111, 112, 113, 114, 115, 116, 117, 118, 119, 120, 121, 122, 48, 49, 50, 51, 52, 53, 54, 55, 56, 57, 43, 47]⟩ : ByteArray).extract n (n + 1) = strOfNums [sgn n] := by
  have key : ∀ n : Fin 64, (⟨#[65, 66, 67, 68, 69, 70, 71, 72, 73, 74, 75, 76, 77, 78, 79, 80, 81, 82, 83, 84, 85, 86, 87, 88, 89, 90, 97, 98, 99, 100, 101, 102, 103, 104, 105, 106, 107, 108, 109, 110, 111, 112, 113, 114, 115, 116, 117, 118, 119, 120, 121, 122, 48, 49, 50, 51, 52, 53, 54, 55, 56, 57, 43, 47]⟩ : ByteArray).extract n.val (n.val + 1) = strOfNums [sgn n.val] := by decide +kernel
  exact key ⟨n, h⟩
def val6 (b0 b1 b2 b3 b4 b5 : Int) : Int := 2 * (2 * (2 * (2 * (2 * (2 * 0 + b0) + b1) + b2) + b3) + b4) + b5
theorem enc_l4_step {x3 t : List Int} {b : Int} {i j : Nat} (ht : x3.drop (i + j) = b :: t) (hb : 0 ≤ b ∧ b ≤ 1) (h3 : x3.length < 1000000) (hj : j < 6) (x6 : ByteArray) (x8 : Int) (h8 : 0 ≤ x8 ∧ x8 < 64) (k : Nat) :
    racewayref22_Encode.l4 (k + 1) x3 x6 (i : Int) x8 (j : Int) = racewayref22_Encode.l4 k x3 x6 (i : Int) (2 * x8 + b) ((j + 1 : Nat) : Int) := by
  obtain ⟨hlt, _, _⟩ := drop_cons ht
  have hr := rd_drop ht
  have e1 : wrap64 ((i : Int) + (j : Int)) = ((i + j : Nat) : Int) := by rw [wrap_id (by omega) (by omega)]; omega
  have e2 : wrap64 (2 * x8) = 2 * x8 := wrap_id (by omega) (by omega)
  have e3 : wrap64 (2 * x8 + b) = 2 * x8 + b := wrap_id (by omega) (by omega)
  have e4 : wrap64 ((j : Int) + 1) = ((j + 1 : Nat) : Int) := by rw [wrap_id (by omega) (by omega)]; omega
  rw [racewayref22_Encode.l4, e1, hr, e2, e3, e4, if_pos (by omega), if_pos (by omega), if_pos (by omega)]
theorem drop_more {l : List Int} {i j : Nat} {t u : List Int} (h : l.drop i = t) (hj : t.drop j = u) : l.drop (i + j) = u := by rw [← hj, ← h, List.drop_drop]
theorem enc_l4 {x3 : List Int} {i : Nat} {b0 b1 b2 b3 b4 b5 : Int} {t : List Int} (ht : x3.drop i = b0 :: b1 :: b2 :: b3 :: b4 :: b5 :: t) (hbits : Bits x3) (h3 : x3.length < 1000000) (out : List Int) (ho : out.length < 1000000) {r : ByteArray}
    (h : Ev (fun k => racewayref22_Encode.l3 k x3 (strOfNums (out ++ [sgn (val6 b0 b1 b2 b3 b4 b5).toNat])) ((i + 6 : Nat) : Int)) r) : Ev (fun k => racewayref22_Encode.l4 k x3 (strOfNums out) (i : Int) 0 0) r := by
  have hm : ∀ b ∈ x3.drop i, 0 ≤ b ∧ b ≤ 1 := fun b hb => hbits b (List.mem_of_mem_drop hb)
  rw [ht] at hm
  have m0 := hm b0 (by simp); have m1 := hm b1 (by simp); have m2 := hm b2 (by simp); have m3 := hm b3 (by simp); have m4 := hm b4 (by simp); have m5 := hm b5 (by simp)
  have hlen : i + 6 ≤ x3.length := by have := congrArg List.length ht; simp at this; omega
  refine Ev.step (enc_l4_step (j := 0) (drop_more ht rfl) m0 h3 (by decide) _ 0 (by decide)) ?_
  refine Ev.step (enc_l4_step (j := 1) (drop_more ht rfl) m1 h3 (by decide) _ _ (by omega)) ?_
  refine Ev.step (enc_l4_step (j := 2) (drop_more ht rfl) m2 h3 (by decide) _ _ (by omega)) ?_
  refine Ev.step (enc_l4_step (j := 3) (drop_more ht rfl) m3 h3 (by decide) _ _ (by omega)) ?_
  refine Ev.step (enc_l4_step (j := 4) (drop_more ht rfl) m4 h3 (by decide) _ _ (by omega)) ?_
  refine Ev.step (enc_l4_step (j := 5) (drop_more ht rfl) m5 h3 (by decide) _ _ (by omega)) ?_
  refine Ev.step (fun k => ?_) h
  have hv : 0 ≤ val6 b0 b1 b2 b3 b4 b5 ∧ val6 b0 b1 b2 b3 b4 b5 < 64 := by unfold val6; omega
  show racewayref22_Encode.l4 (k + 1) x3 (strOfNums out) (i : Int) (val6 b0 b1 b2 b3 b4 b5) ((5 + 1 : Nat) : Int) = _
  obtain ⟨v, hv1, hv2⟩ : ∃ v : Nat, val6 b0 b1 b2 b3 b4 b5 = (v : Int) ∧ v < 64 := ⟨(val6 b0 b1 b2 b3 b4 b5).toNat, by omega, by omega⟩
  rw [hv1, Int.toNat_natCast]
  have e1 : wrap64 ((v : Int) + 1) = ((v + 1 : Nat) : Int) := by rw [wrap_id (by omega) (by omega)]; omega
  have e2 : wrap64 ((i : Int) + 6) = ((i + 6 : Nat) : Int) := by rw [wrap_id (by omega) (by omega)]; omega
  have c1 : strOfNums out ++ strOfNums [sgn v] = strOfNums (out ++ [sgn v]) := sn_append _ _
  have s1 : (strOfNums [sgn v]).size = 1 := strOfNums_size _
  have s2 : (strOfNums out).size = out.length := strOfNums_size _
  rw [racewayref22_Encode.l4, if_neg (by decide), e1, Int.toNat_natCast, Int.toNat_natCast, signs_extract hv2, c1, e2, s1, s2]
  clear c1 s1 s2 e1 e2 hv1 hv h ht hm hbits
  rw [if_pos (by omega), if_pos (by omega), if_pos (by omega), if_pos (by omega)]
/-- The signs of bits. -/
def sx : List Int → List Int
  | b0 :: b1 :: b2 :: b3 :: b4 :: b5 :: t => sgn (val6 b0 b1 b2 b3 b4 b5).toNat :: sx t
  | _ => []
theorem enc_l3 {x3 : List Int} (hbits : Bits x3) (h3 : x3.length < 1000000) {r : ByteArray} : ∀ (n i : Nat) (t out : List Int), x3.drop i = t → t.length = 6 * n → out.length + n < 1000000 →
    Ev (fun k => racewayref22_Encode.l5 k (strOfNums (out ++ sx t))) r → Ev (fun k => racewayref22_Encode.l3 k x3 (strOfNums out) (i : Int)) r := by
  intro n
  induction n with
  | zero =>
    intro i t out ht hn ho h
    have : t = [] := List.eq_nil_of_length_eq_zero (by omega)
    subst this
    have hle : x3.length ≤ i := by simpa using ht
    rw [show out ++ sx [] = out from List.append_nil _] at h
    refine Ev.step (fun k => ?_) h
    rw [racewayref22_Encode.l3, if_neg (by omega)]
  | succ n ih =>
    intro i t out ht hn ho h
    match t, hn with
    | b0 :: b1 :: b2 :: b3 :: b4 :: b5 :: t, hn =>
      obtain ⟨hlt, _, _⟩ := drop_cons ht
      refine Ev.step (f := fun k => racewayref22_Encode.l4 k x3 (strOfNums out) (i : Int) 0 0) (fun k => ?_) ?_
      · rw [racewayref22_Encode.l3, if_pos (by omega)]
      · refine enc_l4 ht hbits h3 out (by omega) (ih (i + 6) t _ (drop_more ht rfl) (by simp at hn; omega) (by simp; omega) ?_)
        rw [List.append_assoc]
        exact h
theorem enc_l5 : ∀ (n : Nat) (out : List Int), (4 - out.length % 4) % 4 = n → out.length + n < 1000000 → Ev (fun k => racewayref22_Encode.l5 k (strOfNums out)) (strOfNums (out ++ List.replicate n 61)) := by
  intro n
  induction n with
  | zero =>
    intro out hn ho
    rw [List.replicate_zero, List.append_nil]
    refine Ev.step (f := fun _ => some (strOfNums out)) (fun k => ?_) (Ev.now _)
    rw [racewayref22_Encode.l5, strOfNums_size, if_pos (by omega)]
  | succ n ih =>
    intro out hn ho
    refine Ev.step (f := fun k => racewayref22_Encode.l5 k (strOfNums (out ++ [61]))) (fun k => ?_) ?_
    · rw [racewayref22_Encode.l5, strOfNums_size, if_neg (by omega), if_pos (by omega)]
      exact congrArg _ (sn_append out [61])
    · have h := ih (out ++ [61]) (by rw [List.length_append, List.length_singleton]; omega) (by rw [List.length_append, List.length_singleton]; omega)
      rw [List.append_assoc, show ([61] : List Int) ++ List.replicate n 61 = List.replicate (n + 1) 61 from rfl] at h
      exact h
def padE (l : List Int) : List Int := l ++ List.replicate ((4 - l.length % 4) % 4) 61
theorem v0 {a : Int} (ha : 0 ≤ a ∧ a < 256) : val6 (a / 128 % 2) (a / 64 % 2) (a / 32 % 2) (a / 16 % 2) (a / 8 % 2) (a / 4 % 2) = a / 4 := by unfold val6; omega
theorem v1 {a b : Int} (ha : 0 ≤ a ∧ a < 256) (hb : 0 ≤ b ∧ b < 256) : val6 (a / 2 % 2) (a / 1 % 2) (b / 128 % 2) (b / 64 % 2) (b / 32 % 2) (b / 16 % 2) = a % 4 * 16 + b / 16 := by unfold val6; omega
theorem v2 {b c : Int} (hb : 0 ≤ b ∧ b < 256) (hc : 0 ≤ c ∧ c < 256) : val6 (b / 8 % 2) (b / 4 % 2) (b / 2 % 2) (b / 1 % 2) (c / 128 % 2) (c / 64 % 2) = b % 16 * 4 + c / 64 := by unfold val6; omega
theorem v3 {c : Int} (hc : 0 ≤ c ∧ c < 256) : val6 (c / 32 % 2) (c / 16 % 2) (c / 8 % 2) (c / 4 % 2) (c / 2 % 2) (c / 1 % 2) = c % 64 := by unfold val6; omega
theorem w1 {a : Int} (ha : 0 ≤ a ∧ a < 256) : val6 (a / 2 % 2) (a / 1 % 2) 0 0 0 0 = a % 4 * 16 := by unfold val6; omega
theorem w2 {b : Int} (hb : 0 ≤ b ∧ b < 256) : val6 (b / 8 % 2) (b / 4 % 2) (b / 2 % 2) (b / 1 % 2) 0 0 = b % 16 * 4 := by unfold val6; omega
theorem sx_3 (a b c : Int) (t : List Int) : sx (bitsB a ++ (bitsB b ++ (bitsB c ++ t))) = sgn (val6 (a / 128 % 2) (a / 64 % 2) (a / 32 % 2) (a / 16 % 2) (a / 8 % 2) (a / 4 % 2)).toNat :: sgn (val6 (a / 2 % 2) (a / 1 % 2) (b / 128 % 2) (b / 64 % 2) (b / 32 % 2) (b / 16 % 2)).toNat :: sgn (val6 (b / 8 % 2) (b / 4 % 2) (b / 2 % 2) (b / 1 % 2) (c / 128 % 2) (c / 64 % 2)).toNat :: sgn (val6 (c / 32 % 2) (c / 16 % 2) (c / 8 % 2) (c / 4 % 2) (c / 2 % 2) (c / 1 % 2)).toNat :: sx t := rfl
theorem padB_at {l : List Int} {p : Nat} (h : (6 - l.length % 6) % 6 = p) : padB l = l ++ List.replicate p 0 := by unfold padB; rw [h]
theorem padE_at {l : List Int} {p : Nat} (h : (4 - l.length % 4) % 4 = p) : padE l = l ++ List.replicate p 61 := by unfold padE; rw [h]
/-- The bits, six by six, padded, are the program's signs. -/
theorem encL_bits : ∀ (n : Nat) (L : List Int), L.length ≤ n → Byts L → padE (sx (padB (bitsL L))) = encL L := by
  intro n
  induction n with
  | zero =>
    intro L hn hb
    have : L = [] := List.eq_nil_of_length_eq_zero (by omega)
    subst this
    unfold encL; rw [chunks, dif_pos rfl]; rfl
  | succ n ih =>
    intro L hn hb
    match L, hn, hb with
    | [], _, _ => unfold encL; rw [chunks, dif_pos rfl]; rfl
    | [a], _, hb =>
      have ha := hb a (by simp)
      unfold encL; rw [chunks_cons (by simp), show ([a] : List Int).drop 3 = [] from rfl, chunks, dif_pos rfl]
      rw [padB_at (p := 4) (by rw [bitsL_len]; simp only [List.length_cons, List.length_nil])]
      rw [show sx (bitsL [a] ++ List.replicate 4 0) = [sgn (val6 (a / 128 % 2) (a / 64 % 2) (a / 32 % 2) (a / 16 % 2) (a / 8 % 2) (a / 4 % 2)).toNat, sgn (val6 (a / 2 % 2) (a / 1 % 2) 0 0 0 0).toNat] from rfl, padE_at (p := 2) rfl]
      show [sgn (val6 (a / 128 % 2) (a / 64 % 2) (a / 32 % 2) (a / 16 % 2) (a / 8 % 2) (a / 4 % 2)).toNat, sgn (val6 (a / 2 % 2) (a / 1 % 2) 0 0 0 0).toNat, 61, 61] = [sgn (a.toNat / 4), sgn (a.toNat % 4 * 16), 61, 61]
      rw [v0 ha, w1 ha, show (a / 4).toNat = a.toNat / 4 from by omega, show (a % 4 * 16).toNat = a.toNat % 4 * 16 from by omega]
    | [a, b], _, hb =>
      have ha := hb a (by simp)
      have hb' := hb b (by simp)
      unfold encL; rw [chunks_cons (by simp), show ([a, b] : List Int).drop 3 = [] from rfl, chunks, dif_pos rfl]
      rw [padB_at (p := 2) (by rw [bitsL_len]; simp only [List.length_cons, List.length_nil])]
      rw [show sx (bitsL [a, b] ++ List.replicate 2 0) = [sgn (val6 (a / 128 % 2) (a / 64 % 2) (a / 32 % 2) (a / 16 % 2) (a / 8 % 2) (a / 4 % 2)).toNat, sgn (val6 (a / 2 % 2) (a / 1 % 2) (b / 128 % 2) (b / 64 % 2) (b / 32 % 2) (b / 16 % 2)).toNat, sgn (val6 (b / 8 % 2) (b / 4 % 2) (b / 2 % 2) (b / 1 % 2) 0 0).toNat] from rfl, padE_at (p := 1) rfl]
      show [sgn (val6 (a / 128 % 2) (a / 64 % 2) (a / 32 % 2) (a / 16 % 2) (a / 8 % 2) (a / 4 % 2)).toNat, sgn (val6 (a / 2 % 2) (a / 1 % 2) (b / 128 % 2) (b / 64 % 2) (b / 32 % 2) (b / 16 % 2)).toNat, sgn (val6 (b / 8 % 2) (b / 4 % 2) (b / 2 % 2) (b / 1 % 2) 0 0).toNat, 61] = [sgn (a.toNat / 4), sgn (a.toNat % 4 * 16 + b.toNat / 16), sgn (b.toNat % 16 * 4), 61]
      rw [v0 ha, v1 ha hb', w2 hb', show (a / 4).toNat = a.toNat / 4 from by omega, show (a % 4 * 16 + b / 16).toNat = a.toNat % 4 * 16 + b.toNat / 16 from by omega, show (b % 16 * 4).toNat = b.toNat % 16 * 4 from by omega]
    | a :: b :: c :: t, hn, hb =>
      have ha := hb a (by simp)
      have hb' := hb b (by simp)
      have hc := hb c (by simp)
      have h := ih t (by simp at hn; omega) (hb.drop 3)
      have e1 : encL (a :: b :: c :: t) = enc3 [a, b, c] ++ encL t := by
        unfold encL; rw [chunks_cons (by simp)]; rfl
      have e2 : padB (bitsL (a :: b :: c :: t)) = bitsB a ++ (bitsB b ++ (bitsB c ++ padB (bitsL t))) := by
        unfold padB
        have hl : (bitsL (a :: b :: c :: t)).length = (bitsL t).length + 24 := by rw [bitsL_len, bitsL_len]; simp; omega
        rw [hl, show (6 - ((bitsL t).length + 24) % 6) % 6 = (6 - (bitsL t).length % 6) % 6 from by omega]
        unfold bitsL
        simp only [List.flatMap_cons, List.append_assoc]
      rw [e2, sx_3, e1, ← h]
      unfold padE
      simp only [List.length_cons]
      rw [show (4 - ((sx (padB (bitsL t))).length + 1 + 1 + 1 + 1) % 4) % 4 = (4 - (sx (padB (bitsL t))).length % 4) % 4 from by omega]
      rw [v0 ha, v1 ha hb', v2 hb' hc, v3 hc, show (a / 4).toNat = a.toNat / 4 from by omega, show (a % 4 * 16 + b / 16).toNat = a.toNat % 4 * 16 + b.toNat / 16 from by omega, show (b % 16 * 4 + c / 64).toNat = b.toNat % 16 * 4 + c.toNat / 64 from by omega, show (c % 64).toNat = c.toNat % 64 from by omega]
      rfl
theorem padB_len (l : List Int) : (padB l).length = l.length + (6 - l.length % 6) % 6 := by unfold padB; simp
theorem padB_bits {l : List Int} (h : Bits l) : Bits (padB l) := fun x hx => by
  unfold padB at hx
  rcases List.mem_append.1 hx with hx | hx
  · exact h x hx
  · have := (List.mem_replicate.1 hx).2; omega
theorem sx_len : ∀ (n : Nat) (t : List Int), t.length = 6 * n → (sx t).length = n := by
  intro n
  induction n with
  | zero => intro t h; have : t = [] := List.eq_nil_of_length_eq_zero (by omega); subst this; rfl
  | succ n ih =>
    intro t h
    match t, h with
    | b0 :: b1 :: b2 :: b3 :: b4 :: b5 :: t, h => rw [sx, List.length_cons, ih t (by simp at h; omega)]
theorem refEncode_ev {L : List Int} (hb : Byts L) (hL : L.length ≤ 100000) : Ev (fun k => racewayref22_Encode.f k L) (strOfNums (encL L)) := by
  have h8 := bitsL_len L
  have hpl := padB_len (bitsL L)
  have hn : ∃ n, (padB (bitsL L)).length = 6 * n := ⟨((bitsL L).length + (6 - (bitsL L).length % 6) % 6) / 6, by rw [hpl]; omega⟩
  obtain ⟨n, hn⟩ := hn
  unfold racewayref22_Encode.f
  refine enc_l0 hb hL L 0 [] rfl (by simp; omega) ?_
  rw [List.nil_append]
  refine enc_l2 _ (bitsL L) rfl (by omega) ?_
  refine enc_l3 (padB_bits (bitsL_bits L)) (by omega) n 0 (padB (bitsL L)) [] rfl hn (by simp; omega) ?_
  rw [List.nil_append, ← encL_bits L.length L (Nat.le_refl _) hb]
  exact enc_l5 _ _ rfl (by rw [sx_len n _ hn]; omega)
theorem Encode_some {L : List Int} (hb : Byts L) (hL : L.length ≤ 1000000) : basic_Encode.f L = some (strOfNums (encL L)) := by
  unfold basic_Encode.f
  rw [if_pos hL, if_pos]
  rw [List.all_eq_true]
  intro x hx
  have := hb x hx
  simp [this.1, this.2]
theorem few_some {l : List Int} (hl : l.length ≤ 140737488351232) : racewaylaw22_few.f l = some (l.take 1000) := by
  have hmn : 0 ≤ mn (l.length : Int) 1000 ∧ mn (l.length : Int) 1000 ≤ (l.length : Int) ∧ mn (l.length : Int) 1000 ≤ 1000 := by unfold mn; split <;> omega
  unfold racewaylaw22_few.f
  simp only [Option.bind_some, if_pos hmn.1, if_pos hmn.2.1]
  rw [if_pos (by simp; omega), List.nil_append]
  congr 1
  unfold mn
  split
  · rfl
  · rw [Int.toNat_natCast, List.take_length, List.take_of_length_le (by omega)]
end Go.Proofs.Ytgopfelmhlgglaa.Bas

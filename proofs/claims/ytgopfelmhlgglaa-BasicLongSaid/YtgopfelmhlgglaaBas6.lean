/- Plain laws: texts that are read as bytes in base 64, by the program; there and back. Conditions: as in each theorem. -/
import Derived.Test.YtgopfelmhlgglaaBas5
namespace Go.Proofs.Ytgopfelmhlgglaa.Bas
open Go.RowKit Go.Proofs.Ytgopfelmhlgglaa.PA Go.Proofs.YtgopfelmhlgglaaEnc Go.Proofs.YtgopfelmhlgglaaW.PrintWords Go.Proofs.YtgopfelmhlgglaaW.PrintLast Go.Proofs.YtgopfelmhlgglaaW.PrintMore
set_option linter.unusedVariables false
set_option linter.unusedSimpArgs false
def sixS (c : Int) : Int := if 65 ≤ c ∧ c ≤ 90 then c - 65 else if 97 ≤ c ∧ c ≤ 122 then c - 71 else if 48 ≤ c ∧ c ≤ 57 then c + 4 else if c = 43 then 62 else if c = 47 then 63 else -1
theorem six_ev {c : Int} (h : 0 ≤ c ∧ c < 256) : Ev (fun k => basic_six.f k c) (sixS c) := by
  have key : ∀ n : Fin 256, basic_six.f 5 (n.val : Int) = some (sixS (n.val : Int)) := by decide +kernel
  have := key ⟨c.toNat, by omega⟩
  rw [show ((c.toNat : Nat) : Int) = c from by omega] at this
  exact Ev.of (fun k => basic_six.mono c k) this
theorem sixS_lt (c : Int) : sixS c < 64 ∧ -1 ≤ sixS c := by unfold sixS; (repeat' split) <;> omega
theorem six_sgn {n : Nat} (h : n < 64) : sixS (sgn n) = n := by
  have key : ∀ n : Fin 64, sixS (sgn n.val) = (n.val : Int) := by decide
  exact key ⟨n, h⟩
theorem sgn_six {c : Int} (h : 0 ≤ sixS c) : sgn (sixS c).toNat = c := by
  have hc : 0 ≤ c ∧ c < 256 := by
    unfold sixS at h
    (repeat' split at h) <;> omega
  have key : ∀ n : Fin 256, 0 ≤ sixS (n.val : Int) → sgn (sixS (n.val : Int)).toNat = (n.val : Int) := by decide +kernel
  have h2 := key ⟨c.toNat, by omega⟩
  simp only [show ((c.toNat : Nat) : Int) = c from by omega] at h2
  exact h2 h
theorem sgn_ne (n : Nat) (h : n < 64) : sgn n ≠ 61 := by
  have key : ∀ n : Fin 64, sgn n.val ≠ 61 := by decide
  exact key ⟨n, h⟩
theorem eq61 : (⟨#[61]⟩ : ByteArray) = strOfNums [61] := rfl
attribute [local irreducible] sixS bt strOfNums sgn
/-- The bytes of signs, some bits standing ahead. -/
def dl : List Int → Int → Nat → Option (List Int)
  | [], b, _ => if b = 0 then some [] else none
  | c :: t, b, n => if sixS c < 0 then none else if 2 ≤ n then (dl t ((b * 64 + sixS c) % 2 ^ (n - 2)) (n - 2)).map (((b * 64 + sixS c) / 2 ^ (n - 2) % 256) :: ·) else dl t (b * 64 + sixS c) (n + 6)
def dlR (out : List Int) : Option (List Int) → List Int × Int
  | some r => (out ++ r, 0)
  | none => ([], 5)
theorem or64 {h m : Int} (h1 : 0 ≤ h ∧ h < 64) (h2 : 0 ≤ m ∧ m < 64) : Go.bits .or .i64 (h * 64) m = h * 64 + m := by
  have key : ∀ (n m : Fin 64), Go.bits .or .i64 ((n.val : Int) * 64) (m.val : Int) = (n.val : Int) * 64 + (m.val : Int) := by decide +kernel
  have := key ⟨h.toNat, by omega⟩ ⟨m.toNat, by omega⟩
  rwa [show ((h.toNat : Nat) : Int) = h from by omega, show ((m.toNat : Nat) : Int) = m from by omega] at this
theorem mask_at {y : Int} (h : 0 ≤ y ∧ y < 4096) : Go.bits .and .i64 y (wrap64 ((shl .i64 1 0) - 1)) = y % 2 ^ 0 ∧ Go.bits .and .i64 y (wrap64 ((shl .i64 1 2) - 1)) = y % 2 ^ 2 ∧ Go.bits .and .i64 y (wrap64 ((shl .i64 1 4) - 1)) = y % 2 ^ 4 := by
  have key : ∀ (n m : Fin 64), Go.bits .and .i64 (64 * (n.val : Int) + (m.val : Int)) (wrap64 ((shl .i64 1 0) - 1)) = (64 * (n.val : Int) + (m.val : Int)) % 2 ^ 0 ∧ Go.bits .and .i64 (64 * (n.val : Int) + (m.val : Int)) (wrap64 ((shl .i64 1 2) - 1)) = (64 * (n.val : Int) + (m.val : Int)) % 2 ^ 2 ∧ Go.bits .and .i64 (64 * (n.val : Int) + (m.val : Int)) (wrap64 ((shl .i64 1 4) - 1)) = (64 * (n.val : Int) + (m.val : Int)) % 2 ^ 4 := by decide +kernel
  have := key ⟨y.toNat / 64, by omega⟩ ⟨y.toNat % 64, by omega⟩
  rwa [show 64 * ((y.toNat / 64 : Nat) : Int) + ((y.toNat % 64 : Nat) : Int) = y from by omega] at this
theorem shr_at (y : Int) : shr .i64 y 0 = y / 2 ^ 0 ∧ shr .i64 y 2 = y / 2 ^ 2 ∧ shr .i64 y 4 = y / 2 ^ 4 := ⟨rfl, rfl, rfl⟩
theorem dec_n : wrap64 (((0 : Nat) : Int) + 6) = 6 ∧ wrap64 (((2 : Nat) : Int) + 6) = 8 ∧ wrap64 (((4 : Nat) : Int) + 6) = 10 ∧ wrap64 (((6 : Nat) : Int) + 6) = 12 ∧ wrap64 (8 - 8) = 0 ∧ wrap64 (10 - 8) = 2 ∧ wrap64 (12 - 8) = 4 := by decide +kernel
theorem Decode_l0 {l : List Int} (hb : Byts l) (hl : l.length ≤ 1000000) : ∀ (t : List Int) (i : Nat) (out : List Int) (b : Int) (n : Nat), l.drop i = t → (n = 0 ∨ n = 2 ∨ n = 4 ∨ n = 6) → 0 ≤ b → b < 2 ^ n → out.length + t.length ≤ 2000000 →
    Ev (fun k => basic_Decode.l0 k (strOfNums l) out b (n : Int) (l.length : Int) (i : Int)) (dlR out (dl t b n)) := by
  intro t
  induction t with
  | nil =>
    intro i out b n ht hn hb0 hb1 ho
    have hle : l.length ≤ i := by simpa using ht
    refine Ev.step (f := fun _ => some (if b = 0 then (out, 0) else ([], 5))) (fun k => ?_) ?_
    · rw [basic_Decode.l0, if_neg (by omega)]
      split <;> rfl
    · rw [dl]
      by_cases h0 : b = 0
      · rw [if_pos h0, if_pos h0, dlR, List.append_nil]; exact Ev.now _
      · rw [if_neg h0, if_neg h0]; exact Ev.now _
  | cons c t ih =>
    intro i out b n ht hn hb0 hb1 ho
    obtain ⟨hlt, ht', _⟩ := drop_cons ht
    have hc := bt_drop hb ht
    have hbc := hb c (by rw [← List.take_append_drop i l, ht]; simp)
    have a0 := sixS_lt c
    have g1 : (i : Int) < (l.length : Int) := by omega
    have g2 : (0 : Int) ≤ (i : Int) := by omega
    have hi2 : i < 4000000000000000000 := by omega
    have s0 := strOfNums_size l
    simp only [List.length_cons] at ho
    have go : out.length < 140737488355328 := by omega
    have hb64 : b < 64 := by rcases hn with rfl | rfl | rfl | rfl <;> omega
    obtain ⟨x, hx⟩ : ∃ x, sixS c = x := ⟨_, rfl⟩
    have hw : wrap64 (b * 64) = b * 64 := wrap_id (by omega) (by omega)
    refine Ev.step (f := fun k => (basic_six.f k c).bind fun t178 => (if t178 < 0 then (some (([] : List Int), 5)) else (if (wrap64 ((n : Int) + 6)) ≥ 8 then (if 0 ≤ (wrap64 ((wrap64 ((n : Int) + 6)) - 8)) then (basic_Decode.l0 k (strOfNums l) (out ++ [(shr .i64 (Go.bits .or .i64 (b * 64) t178) (wrap64 ((wrap64 ((n : Int) + 6)) - 8))) % 256]) (Go.bits .and .i64 (Go.bits .or .i64 (b * 64) t178) (wrap64 ((shl .i64 1 (wrap64 ((wrap64 ((n : Int) + 6)) - 8))) - 1))) (wrap64 ((wrap64 ((n : Int) + 6)) - 8)) (l.length : Int) ((i + 1 : Nat) : Int)) else none) else (basic_Decode.l0 k (strOfNums l) out (Go.bits .or .i64 (b * 64) t178) (wrap64 ((n : Int) + 6)) (l.length : Int) ((i + 1 : Nat) : Int))))) (fun k => ?_) ?_
    · rw [basic_Decode.l0, s0, hc, wr1 hi2, hw, if_pos g1, if_pos g2, if_pos g1]
      simp only [if_pos go]
    · refine Ev.bind (six_ev hbc) ?_
      rw [hx, dl, hx]
      rw [hx] at a0
      clear hx hc s0 hw g1 g2 hi2
      by_cases hneg : x < 0
      · simp only [if_pos hneg]; exact Ev.now _
      · simp only [if_neg hneg]
        have ho64 := or64 (h := b) (m := x) ⟨hb0, hb64⟩ ⟨by omega, by omega⟩
        have hy : 0 ≤ b * 64 + x ∧ b * 64 + x < 4096 := by omega
        rw [ho64]
        obtain ⟨m0, m2, m4⟩ := mask_at hy
        obtain ⟨r0, r2, r4⟩ := shr_at (b * 64 + x)
        obtain ⟨n0, n2, n4, n6, q0, q2, q4⟩ := dec_n
        have fin : ∀ (m : Nat) (z : Int), (m = 0 ∨ m = 2 ∨ m = 4) → z = (b * 64 + x) / 2 ^ m % 256 → Ev (fun k => basic_Decode.l0 k (strOfNums l) (out ++ [z]) ((b * 64 + x) % 2 ^ m) (m : Int) (l.length : Int) ((i + 1 : Nat) : Int)) (dlR out ((dl t ((b * 64 + x) % 2 ^ m) m).map (((b * 64 + x) / 2 ^ m % 256) :: ·))) := by
          intro m z hm hz
          have hp : (0 : Int) < 2 ^ m := Int.pow_pos (by decide)
          have h := ih (i + 1) (out ++ [z]) ((b * 64 + x) % 2 ^ m) m ht' (by omega) (Int.emod_nonneg _ (by omega)) (Int.emod_lt_of_pos _ hp) (by simp; omega)
          subst hz
          cases hd : dl t ((b * 64 + x) % 2 ^ m) m with
          | none => rw [hd] at h; exact h
          | some r => rw [hd] at h; simp only [Option.map_some, dlR, List.append_assoc] at h ⊢; exact h
        rcases hn with rfl | rfl | rfl | rfl
        · simp only [n0, if_neg (show ¬ (6 : Int) ≥ 8 by decide), if_neg (show ¬ 2 ≤ 0 by decide)]
          have := ih (i + 1) out (b * 64 + x) 6 ht' (by omega) hy.1 (by omega) (by omega)
          exact this
        · simp only [n2, q0, if_pos (show (8 : Int) ≥ 8 by decide), if_pos (show (0 : Int) ≤ 0 by decide), if_pos (show 2 ≤ 2 by decide), m0, r0]
          exact fin 0 _ (by omega) rfl
        · simp only [n4, q2, if_pos (show (10 : Int) ≥ 8 by decide), if_pos (show (0 : Int) ≤ 2 by decide), if_pos (show 2 ≤ 4 by decide), m2, r2]
          exact fin 2 _ (by omega) rfl
        · simp only [n6, q4, if_pos (show (12 : Int) ≥ 8 by decide), if_pos (show (0 : Int) ≤ 4 by decide), if_pos (show 2 ≤ 6 by decide), m4, r4]
          exact fin 4 _ (by omega) rfl
/-- A text without one sign '=' behind. -/
def trim1 (l : List Int) : List Int := if l.drop (l.length - 1) = [61] then l.take (l.length - 1) else l
theorem hasS {l : List Int} (hb : Byts l) (hl : l.length ≤ 1000000) : strings_HasSuffix.f (strOfNums l) ⟨#[61]⟩ = some (decide (l.drop (l.length - 1) = [61])) := by
  have h61 := eq61
  have hs1 : (strOfNums [61]).size = 1 := strOfNums_size _
  have hbt : Byts [61] := Byts.cons (by decide) Byts.nil
  unfold strings_HasSuffix.f stringslite_HasSuffix.f
  rw [h61, hs1, strOfNums_size]
  by_cases h : 1 ≤ l.length
  · have e : wrap64 ((l.length : Int) - ((1 : Nat) : Int)) = ((l.length - 1 : Nat) : Int) := by rw [wrap_id (by omega) (by omega)]; omega
    rw [e, if_pos (by omega), if_pos (by omega), if_pos (by omega), Option.bind_some, Int.toNat_natCast, sn_extract, List.take_length, sn_beq (hb.drop _) hbt]
  · have : l = [] := List.eq_nil_of_length_eq_zero (by omega)
    subst this
    rfl
theorem trimS {l : List Int} (hb : Byts l) (hl : l.length ≤ 1000000) : strings_TrimSuffix.f (strOfNums l) ⟨#[61]⟩ = some (strOfNums (trim1 l)) := by
  have h := hasS hb hl
  have hs1 : (⟨#[61]⟩ : ByteArray).size = 1 := rfl
  unfold strings_HasSuffix.f at h
  unfold strings_TrimSuffix.f stringslite_TrimSuffix.f trim1
  cases hh : stringslite_HasSuffix.f (strOfNums l) ⟨#[61]⟩ with
  | none => rw [hh] at h; simp at h
  | some v =>
    rw [hh, Option.bind_some] at h
    obtain rfl := Option.some.inj h
    rw [Option.bind_some]
    by_cases hd : l.drop (l.length - 1) = [61]
    · have hpos : 1 ≤ l.length := by
        rcases Nat.lt_or_ge 0 l.length with h | h
        · omega
        · have : l = [] := List.eq_nil_of_length_eq_zero (by omega)
          subst this; simp at hd
      have e : wrap64 ((l.length : Int) - ((1 : Nat) : Int)) = ((l.length - 1 : Nat) : Int) := by rw [wrap_id (by omega) (by omega)]; omega
      rw [decide_eq_true hd, if_pos rfl, if_pos hd, hs1, strOfNums_size, e, if_pos (by omega), if_pos (by omega), Int.toNat_natCast, sn_extract, List.drop_zero]
      rfl
    · rw [decide_eq_false hd, if_neg (by decide), if_neg hd]; rfl
def core (l : List Int) : List Int := trim1 (trim1 l)
/-- What a text is read as in base 64. -/
def decS (l : List Int) : List Int × Int :=
  if 131072 < l.length then ([], 3) else if l.length % 4 ≠ 0 then ([], 5) else
  if (core l).length % 4 = 1 ∨ (core l).drop ((core l).length - 1) = [61] ∨ l.length - (core l).length ≠ (4 - (core l).length % 4) % 4 then ([], 5) else dlR [] (dl (core l) 0 0)
theorem trim1_byts {l : List Int} (hb : Byts l) : Byts (trim1 l) := by unfold trim1; split
                                                                       · exact hb.take _
                                                                       · exact hb
theorem trim1_le (l : List Int) : (trim1 l).length ≤ l.length := by unfold trim1; split <;> simp
theorem Decode_ev {l : List Int} (hb : Byts l) (hl : l.length ≤ 1000000) : Ev (fun k => basic_Decode.f k (strOfNums l)) (decS l) := by
  unfold basic_Decode.f decS
  rw [strOfNums_size]
  have hb1 := trim1_byts hb
  have hl1 := trim1_le l
  have hb2 := trim1_byts hb1
  have hl2 := trim1_le (trim1 l)
  by_cases h1 : 131072 < l.length
  · simp only [if_pos (show (l.length : Int) > 131072 by omega), if_pos h1]; exact Ev.now _
  · simp only [if_neg (show ¬ (l.length : Int) > 131072 by omega), if_neg h1]
    by_cases h2 : l.length % 4 = 0
    · simp only [if_pos (show (l.length : Int) % 4 = 0 by omega), if_neg (show ¬ l.length % 4 ≠ 0 from fun h => h h2)]
      simp only [trimS hb hl, Option.bind_some, trimS hb1 (by omega), strOfNums_size]
      change Ev (fun k => if ((core l).length : Int) % 4 = 1 then basic_Decode.j0 k (strOfNums (core l)) true else (strings_HasSuffix.f (strOfNums (core l)) ⟨#[61]⟩).bind fun t => if t = true then basic_Decode.j0 k (strOfNums (core l)) true else basic_Decode.j0 k (strOfNums (core l)) (wrap64 ((l.length : Int) - ((core l).length : Int)) != (4 - ((core l).length : Int) % 4) % 4)) _
      have hcb : Byts (core l) := hb2
      have hcl : (core l).length ≤ l.length := Nat.le_trans hl2 hl1
      generalize core l = t at *
      simp only [hasS hcb (by omega), Option.bind_some]
      have hT : Ev (fun k => basic_Decode.j0 k (strOfNums t) true) ([], 5) :=
        Ev.step (f := fun _ => some ([], 5)) (fun k => by rw [basic_Decode.j0, if_pos rfl]) (Ev.now _)
      by_cases h3 : t.length % 4 = 1
      · simp only [if_pos (show (t.length : Int) % 4 = 1 by omega)]
        rw [if_pos (.inl h3)]; exact hT
      · simp only [if_neg (show ¬ (t.length : Int) % 4 = 1 by omega)]
        by_cases h4 : t.drop (t.length - 1) = [61]
        · simp only [decide_eq_true h4, if_true]
          rw [if_pos (.inr (.inl h4))]; exact hT
        · simp only [decide_eq_false h4, Bool.false_eq_true, if_false]
          have e : wrap64 ((l.length : Int) - (t.length : Int)) = ((l.length - t.length : Nat) : Int) := by rw [wrap_id (by omega) (by omega)]; omega
          rw [e]
          by_cases h5 : l.length - t.length ≠ (4 - t.length % 4) % 4
          · rw [if_pos (.inr (.inr h5))]
            have : (((l.length - t.length : Nat) : Int) != (4 - (t.length : Int) % 4) % 4) = true := by rw [bne_iff_ne]; omega
            rw [this]; exact hT
          · rw [if_neg (fun h => h.elim h3 (fun h => h.elim h4 h5))]
            have : (((l.length - t.length : Nat) : Int) != (4 - (t.length : Int) % 4) % 4) = false := by rw [bne_eq_false_iff_eq]; omega
            rw [this]
            refine Ev.step (f := fun k => basic_Decode.l0 k (strOfNums t) [] 0 0 (t.length : Int) 0) (fun k => ?_) ?_
            · rw [basic_Decode.j0, if_neg (by decide), strOfNums_size]
            · exact Decode_l0 hcb (by omega) t 0 [] 0 0 rfl (by omega) (by decide) (by decide) (by simp; omega)
    · simp only [if_neg (show ¬ (l.length : Int) % 4 = 0 by omega), if_pos (show l.length % 4 ≠ 0 from h2)]; exact Ev.now _
/-! ### there and back -/
/-- The signs alone. -/
def encN : List Int → List Int
  | a :: b :: c :: t => sgn (a.toNat / 4) :: sgn (a.toNat % 4 * 16 + b.toNat / 16) :: sgn (b.toNat % 16 * 4 + c.toNat / 64) :: sgn (c.toNat % 64) :: encN t
  | [a, b] => [sgn (a.toNat / 4), sgn (a.toNat % 4 * 16 + b.toNat / 16), sgn (b.toNat % 16 * 4)]
  | [a] => [sgn (a.toNat / 4), sgn (a.toNat % 4 * 16)]
  | [] => []
theorem encL_pad : ∀ (n : Nat) (L : List Int), L.length ≤ n → encL L = padE (encN L) := by
  intro n
  induction n with
  | zero =>
    intro L hn
    have : L = [] := List.eq_nil_of_length_eq_zero (by omega)
    subst this
    unfold encL; rw [chunks, dif_pos rfl]; rfl
  | succ n ih =>
    intro L hn
    match L, hn with
    | [], _ => unfold encL; rw [chunks, dif_pos rfl]; rfl
    | [a], _ => unfold encL; rw [chunks_cons (by simp), show ([a] : List Int).drop 3 = [] from rfl, chunks, dif_pos rfl]; rfl
    | [a, b], _ => unfold encL; rw [chunks_cons (by simp), show ([a, b] : List Int).drop 3 = [] from rfl, chunks, dif_pos rfl]; rfl
    | a :: b :: c :: t, hn =>
      have h := ih t (by simp at hn; omega)
      have e1 : encL (a :: b :: c :: t) = enc3 [a, b, c] ++ encL t := by unfold encL; rw [chunks_cons (by simp)]; rfl
      rw [e1, h, encN]
      unfold padE
      simp only [List.length_cons]
      rw [show (4 - ((encN t).length + 1 + 1 + 1 + 1) % 4) % 4 = (4 - (encN t).length % 4) % 4 from by omega]
      rfl
theorem encN_len : ∀ (n : Nat) (L : List Int), L.length ≤ n → (encN L).length = (4 * L.length + 2) / 3 := by
  intro n
  induction n with
  | zero => intro L hn; have : L = [] := List.eq_nil_of_length_eq_zero (by omega); subst this; rfl
  | succ n ih =>
    intro L hn
    match L, hn with
    | [], _ => rfl
    | [a], _ => rw [encN]; simp only [List.length_cons, List.length_nil]
    | [a, b], _ => rw [encN]; simp only [List.length_cons, List.length_nil]
    | a :: b :: c :: t, hn =>
      have h := ih t (by simp at hn; omega)
      rw [encN]
      simp only [List.length_cons, h]
      omega
theorem encN_six : ∀ (n : Nat) (L : List Int), L.length ≤ n → Byts L → ∀ x ∈ encN L, ∃ m : Nat, m < 64 ∧ x = sgn m := by
  intro n
  induction n with
  | zero => intro L hn hb x hx; have : L = [] := List.eq_nil_of_length_eq_zero (by omega); subst this; simp [encN] at hx
  | succ n ih =>
    intro L hn hb x hx
    match L, hn, hb, hx with
    | [], _, _, hx => simp [encN] at hx
    | [a], _, hb, hx =>
      have ha := hb a (by simp)
      simp only [encN, List.mem_cons, List.not_mem_nil, or_false] at hx
      rcases hx with rfl | rfl <;> exact ⟨_, by omega, rfl⟩
    | [a, b], _, hb, hx =>
      have ha := hb a (by simp)
      have hb' := hb b (by simp)
      simp only [encN, List.mem_cons, List.not_mem_nil, or_false] at hx
      rcases hx with rfl | rfl | rfl <;> exact ⟨_, by omega, rfl⟩
    | a :: b :: c :: t, hn, hb, hx =>
      have ha := hb a (by simp)
      have hb' := hb b (by simp)
      have hc := hb c (by simp)
      simp only [encN, List.mem_cons] at hx
      rcases hx with rfl | rfl | rfl | rfl | hx
      · exact ⟨_, by omega, rfl⟩
      · exact ⟨_, by omega, rfl⟩
      · exact ⟨_, by omega, rfl⟩
      · exact ⟨_, by omega, rfl⟩
      · exact ih t (by simp at hn; omega) (hb.drop 3) x hx
theorem dl_cons {x : Int} {m : Nat} (hx : sixS x = (m : Int)) (t : List Int) (b : Int) (n : Nat) : dl (x :: t) b n = if 2 ≤ n then (dl t ((b * 64 + (m : Int)) % 2 ^ (n - 2)) (n - 2)).map (((b * 64 + (m : Int)) / 2 ^ (n - 2) % 256) :: ·) else dl t (b * 64 + (m : Int)) (n + 6) := by
  rw [dl, hx, if_neg (by omega)]
/-- Four signs at a bytes' border are three bytes. -/
theorem dl_four {c0 c1 c2 c3 : Int} {x0 x1 x2 x3 : Nat} (h0 : sixS c0 = (x0 : Int)) (h1 : sixS c1 = (x1 : Int)) (h2 : sixS c2 = (x2 : Int)) (h3 : sixS c3 = (x3 : Int)) (l0 : x0 < 64) (l1 : x1 < 64) (l2 : x2 < 64) (l3 : x3 < 64) (t : List Int) :
    dl (c0 :: c1 :: c2 :: c3 :: t) 0 0 = (dl t 0 0).map fun r => ((x0 : Int) * 4 + (x1 : Int) / 16) :: ((x1 : Int) % 16 * 16 + (x2 : Int) / 4) :: ((x2 : Int) % 4 * 64 + (x3 : Int)) :: r := by
  rw [dl_cons h0, if_neg (by decide), dl_cons h1, if_pos (by decide), dl_cons h2, if_pos (by decide), dl_cons h3, if_pos (by decide)]
  simp only [Option.map_map]
  have p0 : (0 + 6 - 2 - 2 - 2 : Nat) = 0 := rfl
  have p1 : (0 + 6 - 2 - 2 : Nat) = 2 := rfl
  have p2 : (0 + 6 - 2 : Nat) = 4 := rfl
  rw [p0, p1, p2]
  simp only [Int.pow_zero, Int.emod_one, Int.ediv_one, show (2 : Int) ^ 2 = 4 from rfl, show (2 : Int) ^ 4 = 16 from rfl]
  congr 1
  funext r
  simp only [Function.comp]
  congr 1
  · omega
  · congr 1
    · omega
    · congr 1
      omega
theorem dl_two {c0 c1 : Int} {x0 x1 : Nat} (h0 : sixS c0 = (x0 : Int)) (h1 : sixS c1 = (x1 : Int)) (l0 : x0 < 64) (l1 : x1 < 64) : dl [c0, c1] 0 0 = if x1 % 16 = 0 then some [(x0 : Int) * 4 + (x1 : Int) / 16] else none := by
  rw [dl_cons h0, if_neg (by decide), dl_cons h1, if_pos (by decide), dl]
  rw [show (0 + 6 - 2 : Nat) = 4 from rfl, show (2 : Int) ^ 4 = 16 from rfl]
  by_cases h : x1 % 16 = 0
  · rw [if_pos h, if_pos (by omega), Option.map_some]; congr 2; omega
  · rw [if_neg h, if_neg (by omega)]; rfl
theorem dl_three {c0 c1 c2 : Int} {x0 x1 x2 : Nat} (h0 : sixS c0 = (x0 : Int)) (h1 : sixS c1 = (x1 : Int)) (h2 : sixS c2 = (x2 : Int)) (l0 : x0 < 64) (l1 : x1 < 64) (l2 : x2 < 64) : dl [c0, c1, c2] 0 0 = if x2 % 4 = 0 then some [(x0 : Int) * 4 + (x1 : Int) / 16, (x1 : Int) % 16 * 16 + (x2 : Int) / 4] else none := by
  rw [dl_cons h0, if_neg (by decide), dl_cons h1, if_pos (by decide), dl_cons h2, if_pos (by decide), dl]
  rw [show (0 + 6 - 2 - 2 : Nat) = 2 from rfl, show (0 + 6 - 2 : Nat) = 4 from rfl, show (2 : Int) ^ 4 = 16 from rfl, show (2 : Int) ^ 2 = 4 from rfl]
  by_cases h : x2 % 4 = 0
  · rw [if_pos h, if_pos (by omega), Option.map_some, Option.map_some]
    congr 2
    · omega
    · congr 1; omega
  · rw [if_neg h, if_neg (by omega)]; rfl
theorem dl_enc : ∀ (n : Nat) (L : List Int), L.length ≤ n → Byts L → dl (encN L) 0 0 = some L := by
  intro n
  induction n with
  | zero => intro L hn hb; have : L = [] := List.eq_nil_of_length_eq_zero (by omega); subst this; rfl
  | succ n ih =>
    intro L hn hb
    match L, hn, hb with
    | [], _, _ => rfl
    | [a], _, hb =>
      have ha := hb a (by simp)
      rw [encN, dl_two (six_sgn (by omega)) (six_sgn (by omega)) (by omega) (by omega), if_pos (by omega)]
      congr 2; omega
    | [a, b], _, hb =>
      have ha := hb a (by simp)
      have hb' := hb b (by simp)
      rw [encN, dl_three (six_sgn (by omega)) (six_sgn (by omega)) (six_sgn (by omega)) (by omega) (by omega) (by omega), if_pos (by omega)]
      congr 2
      · omega
      · congr 1; omega
    | a :: b :: c :: t, hn, hb =>
      have ha := hb a (by simp)
      have hb' := hb b (by simp)
      have hc := hb c (by simp)
      rw [encN, dl_four (six_sgn (by omega)) (six_sgn (by omega)) (six_sgn (by omega)) (six_sgn (by omega)) (by omega) (by omega) (by omega) (by omega), ih t (by simp at hn; omega) (hb.drop 3), Option.map_some]
      congr 2
      · omega
      · congr 1
        · omega
        · congr 1; omega
theorem trim_sgn {u : List Int} (h : ∀ x ∈ u, x ≠ 61) : trim1 u = u := by
  unfold trim1
  rw [if_neg]
  intro hd
  have : (61 : Int) ∈ u.drop (u.length - 1) := by rw [hd]; simp
  exact h 61 (List.mem_of_mem_drop this) rfl
theorem trim_61 (u : List Int) : trim1 (u ++ [61]) = u := by
  unfold trim1
  rw [List.length_append, List.length_singleton, Nat.add_sub_cancel, List.drop_left, if_pos rfl, List.take_left]
theorem core_enc {u : List Int} (h : ∀ x ∈ u, x ≠ 61) (h1 : u.length % 4 ≠ 1) : core (padE u) = u := by
  have hq : (4 - u.length % 4) % 4 = 0 ∨ (4 - u.length % 4) % 4 = 1 ∨ (4 - u.length % 4) % 4 = 2 := by omega
  unfold core padE
  rcases hq with hq | hq | hq <;> rw [hq]
  · rw [List.replicate_zero, List.append_nil, trim_sgn h, trim_sgn h]
  · rw [show List.replicate 1 (61 : Int) = [61] from rfl, trim_61, trim_sgn h]
  · rw [show List.replicate 2 (61 : Int) = [61] ++ [61] from rfl, ← List.append_assoc, trim_61, trim_61]
theorem padE_len (u : List Int) : (padE u).length = u.length + (4 - u.length % 4) % 4 := by unfold padE; simp
theorem dec_enc {L : List Int} (hb : Byts L) (hL : L.length ≤ 20000) : decS (encL L) = (L, 0) := by
  have hp := encL_pad L.length L (Nat.le_refl _)
  have hl := encN_len L.length L (Nat.le_refl _)
  have hn : ∀ x ∈ encN L, x ≠ 61 := fun x hx => by
    obtain ⟨m, h1, rfl⟩ := encN_six L.length L (Nat.le_refl _) hb x hx
    exact sgn_ne m h1
  have hpl := padE_len (encN L)
  have hc := core_enc hn (by omega)
  have hd := dl_enc L.length L (Nat.le_refl _) hb
  rw [hp]
  unfold decS
  rw [hc, hd, if_neg (by omega), if_neg (by omega), if_neg]
  · rfl
  · rintro (h | h | h)
    · omega
    · have : (61 : Int) ∈ (encN L).drop ((encN L).length - 1) := by rw [h]; simp
      exact hn 61 (List.mem_of_mem_drop this) rfl
    · omega
theorem encL_len {L : List Int} : (encL L).length = (L.length + 2) / 3 * 4 := by
  rw [encL_pad L.length L (Nat.le_refl _), padE_len, encN_len L.length L (Nat.le_refl _)]
  omega
end Go.Proofs.Ytgopfelmhlgglaa.Bas

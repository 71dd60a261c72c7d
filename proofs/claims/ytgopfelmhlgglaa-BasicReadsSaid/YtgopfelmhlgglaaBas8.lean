/- Plain laws: the reference's reading of texts as bytes is the program's. Conditions: as in each theorem. -/
import Derived.Test.YtgopfelmhlgglaaBas7
namespace Go.Proofs.Ytgopfelmhlgglaa.Bas
open Go.RowKit Go.Proofs.Ytgopfelmhlgglaa.PA Go.Proofs.YtgopfelmhlgglaaEnc Go.Proofs.YtgopfelmhlgglaaW.PrintWords Go.Proofs.YtgopfelmhlgglaaW.PrintLast Go.Proofs.YtgopfelmhlgglaaW.PrintMore
set_option linter.unusedVariables false
set_option linter.unusedSimpArgs false
theorem at_tens {c : Int} (h : 0 ≤ c ∧ c < 256) : Ev (fun k => racewayref22_at.f k (⟨#[48, 49, 50, 51, 52, 53, 54, 55, 56, 57, 97, 98, 99, 100, 101, 102]⟩ : ByteArray) c) (hxS c) := by
  have key : ∀ n : Fin 256, racewayref22_at.f 20 (⟨#[48, 49, 50, 51, 52, 53, 54, 55, 56, 57, 97, 98, 99, 100, 101, 102]⟩ : ByteArray) (n.val : Int) = some (hxS (n.val : Int)) := by decide +kernel
  have := key ⟨c.toNat, by omega⟩
  rw [show ((c.toNat : Nat) : Int) = c from by omega] at this
  exact Ev.of (fun k => racewayref22_at.mono _ _ k) this
theorem at_signs {c : Int} (h : 0 ≤ c ∧ c < 256) : Ev (fun k => racewayref22_at.f k (⟨#[65, 66, 67, 68, 69, 70, 71, 72, 73, 74, 75, 76, 77, 78, 79, 80, 81, 82, 83, 84, 85, 86, 87, 88, 89, 90, 97, 98, 99, 100, 101, 102, 103, 104, 105, 106, 107, 108, 109, 110, 111, 112, 113, 114, 115, 116, 117, 118, 119, 120, 121, 122, 48, 49, 50, 51, 52, 53, 54, 55, 56, 57, 43, 47]⟩ : ByteArray) c) (sixS c) := by
  have key : ∀ n : Fin 256, racewayref22_at.f 70 (⟨#[65, 66, 67, 68, 69, 70, 71, 72, 73, 74, 75, 76, 77, 78, 79, 80, 81, 82, 83, 84, 85, 86, 87, 88, 89, 90, 97, 98, 99, 100, 101, 102, 103, 104, 105, 106, 107, 108, 109, 110, 111, 112, 113, 114, 115, 116, 117, 118, 119, 120, 121, 122, 48, 49, 50, 51, 52, 53, 54, 55, 56, 57, 43, 47]⟩ : ByteArray) (n.val : Int) = some (sixS (n.val : Int)) := by decide +kernel
  have := key ⟨c.toNat, by omega⟩
  rw [show ((c.toNat : Nat) : Int) = c from by omega] at this
  exact Ev.of (fun k => racewayref22_at.mono _ _ k) this
attribute [local irreducible] sixS hxS bt strOfNums sgn
def uhO (odd : Bool) (out : List Int) : Option (List Int) → List Int × Int
  | some r => if odd = true then ([], 5) else (out ++ r, 0)
  | none => ([], 5)
theorem refUnhex_l0 {l : List Int} (hb : Byts l) (hl : l.length ≤ 1000000) : ∀ (n : Nat) (t : List Int) (i : Nat) (out : List Int), t.length = n → l.drop i = t → i ≤ l.length → out.length + n ≤ 2000000 →
    Ev (fun k => racewayref22_Unhex.l0 k (strOfNums l) out (i : Int)) (uhO (decide (l.length % 2 = 1)) out (uh t)) := by
  intro n
  induction n using Nat.strongRecOn with
  | _ n ih =>
    intro t i out hn ht hil ho
    have s0 := strOfNums_size l
    have hi2 : i < 4000000000000000000 := by omega
    match t, hn with
    | x :: y :: t, hn =>
      obtain ⟨hlt, ht1, _⟩ := drop_cons ht
      obtain ⟨hlt1, ht2, _⟩ := drop_cons ht1
      have hx := bt_drop hb ht
      have hy := bt_drop hb ht1
      have hbx := hb x (by rw [← List.take_append_drop i l, ht]; simp)
      have hby := hb y (by rw [← List.take_append_drop i l, ht]; simp)
      have ax := hxS_lt x
      have ay := hxS_lt y
      have g1 : (i : Int) < (l.length : Int) := by omega
      have g2 : (0 : Int) ≤ (i : Int) := by omega
      have g3 : (0 : Int) ≤ ((i + 1 : Nat) : Int) := by omega
      have g4 : ((i + 1 : Nat) : Int) < (l.length : Int) := by omega
      have go : out.length < 140737488355328 := by omega
      refine Ev.step (f := fun k => (racewayref22_at.f k (⟨#[48, 49, 50, 51, 52, 53, 54, 55, 56, 57, 97, 98, 99, 100, 101, 102]⟩ : ByteArray) x).bind fun t199 => ((racewayref22_at.f k (⟨#[48, 49, 50, 51, 52, 53, 54, 55, 56, 57, 97, 98, 99, 100, 101, 102]⟩ : ByteArray) y).bind fun t200 => (if t199 < 0 then (some (([] : List Int), 5)) else (if t200 < 0 then (some (([] : List Int), 5)) else (racewayref22_Unhex.l0 k (strOfNums l) (out ++ [(wrap64 ((wrap64 (16 * t199)) + t200)) % 256]) ((i + 1 + 1 : Nat) : Int)))))) (fun k => ?_) ?_
      · rw [racewayref22_Unhex.l0, s0, wr1 hi2, wr2 hi2, hx, hy, if_pos g4, if_pos g2, if_pos g1]
        simp only [if_pos g3, if_pos go]
      · refine Ev.bind (at_tens hbx) (Ev.bind (at_tens hby) ?_)
        rw [uh]
        by_cases h1 : hxS x < 0
        · simp only [if_pos h1]; rw [if_pos (.inl h1)]; exact Ev.now _
        · by_cases h2 : hxS y < 0
          · simp only [if_neg h1, if_pos h2]; rw [if_pos (.inr h2)]; exact Ev.now _
          · simp only [if_neg h1, if_neg h2]
            rw [if_neg (fun h => h.elim h1 h2)]
            obtain ⟨p, hp⟩ : ∃ p, hxS x = p := ⟨_, rfl⟩
            obtain ⟨q, hq⟩ := (⟨_, rfl⟩ : ∃ q, hxS y = q)
            rw [hp] at ax h1; rw [hq] at ay h2
            rw [hp, hq]
            have e3 : wrap64 (wrap64 (16 * p) + q) % 256 = 16 * p + q := by rw [wrap_id (n := 16 * p) (by omega) (by omega), wrap_id (by omega) (by omega)]; omega
            rw [e3]
            have h := ih t.length (by simp at hn; omega) t (i + 1 + 1) (out ++ [16 * p + q]) rfl ht2 (by omega) (by simp at hn ⊢; omega)
            cases hu : uh t with
            | none => rw [hu] at h; exact h
            | some r => rw [hu] at h; simp only [Option.map_some, uhO, List.append_assoc] at h ⊢; exact h
    | [], hn =>
      have hle : l.length ≤ i := by simpa using ht
      refine Ev.step (f := fun _ => some (if (l.length : Int) % 2 = 1 then ([], 5) else (out, 0))) (fun k => ?_) ?_
      · rw [racewayref22_Unhex.l0, s0, wr1 hi2, if_neg (by omega)]
        split <;> rfl
      · rw [uh_nil, uhO, List.append_nil]
        by_cases hodd : l.length % 2 = 1
        · rw [if_pos (by omega), decide_eq_true hodd, if_pos rfl]; exact Ev.now _
        · rw [if_neg (by omega), decide_eq_false hodd, if_neg (by decide)]; exact Ev.now _
    | [x], hn =>
      obtain ⟨hlt, ht1, _⟩ := drop_cons ht
      have hle : l.length ≤ i + 1 := by simpa using ht1
      refine Ev.step (f := fun _ => some (if (l.length : Int) % 2 = 1 then ([], 5) else (out, 0))) (fun k => ?_) ?_
      · rw [racewayref22_Unhex.l0, s0, wr1 hi2, if_neg (by omega)]
        split <;> rfl
      · rw [show uh [x] = some [] from rfl, uhO, List.append_nil]
        by_cases hodd : l.length % 2 = 1
        · rw [if_pos (by omega), decide_eq_true hodd, if_pos rfl]; exact Ev.now _
        · rw [if_neg (by omega), decide_eq_false hodd, if_neg (by decide)]; exact Ev.now _
theorem refUnhex_ev {l : List Int} (hb : Byts l) (hl : l.length ≤ 1000000) : Ev (fun k => racewayref22_Unhex.f k (strOfNums l)) (unhexS l) := by
  unfold racewayref22_Unhex.f unhexS
  rw [strOfNums_size]
  by_cases h1 : 131072 < l.length
  · simp only [if_pos (show (l.length : Int) > 131072 by omega), if_pos h1]; exact Ev.now _
  · simp only [if_neg (show ¬ (l.length : Int) > 131072 by omega), if_neg h1]
    have h := refUnhex_l0 hb hl l.length l 0 [] rfl rfl (by omega) (by simp; omega)
    by_cases h2 : l.length % 2 = 0
    · rw [if_pos h2]
      rw [decide_eq_false (by omega)] at h
      cases hu : uh l with
      | none => rw [hu] at h; exact h
      | some r => rw [hu, uhO, if_neg (by decide)] at h; exact h
    · rw [if_neg h2]
      rw [decide_eq_true (by omega)] at h
      cases hu : uh l with
      | none => rw [hu] at h; exact h
      | some r => rw [hu, uhO, if_pos rfl] at h; exact h
/-! ### base 64 -/
def bits6 (x : Int) : List Int := [x / 32 % 2, x / 16 % 2, x / 8 % 2, x / 4 % 2, x / 2 % 2, x / 1 % 2]
theorem bits6_bits (x : Int) : ∀ b ∈ bits6 x, 0 ≤ b ∧ b ≤ 1 := fun b hb => by
  simp only [bits6, List.mem_cons, List.not_mem_nil, or_false] at hb
  omega
/-- The signs' bits; none: one is no sign. -/
def sb : List Int → Option (List Int)
  | [] => some []
  | c :: t => if sixS c < 0 then none else (sb t).map (bits6 (sixS c) ++ ·)
def val8 (b0 b1 b2 b3 b4 b5 b6 b7 : Int) : Int := 2 * (2 * (2 * (2 * (2 * (2 * (2 * (2 * 0 + b0) + b1) + b2) + b3) + b4) + b5) + b6) + b7
def by8 : List Int → List Int
  | b0 :: b1 :: b2 :: b3 :: b4 :: b5 :: b6 :: b7 :: t => val8 b0 b1 b2 b3 b4 b5 b6 b7 % 256 :: by8 t
  | _ => []
def stripN (l : List Int) : Nat → Nat
  | 0 => 0
  | i + 1 => if l.getD i 0 = 61 then stripN l i else i + 1
theorem stripN_le (l : List Int) : ∀ i, stripN l i ≤ i
  | 0 => Nat.le_refl _
  | i + 1 => by
    rw [stripN]; split
    · have := stripN_le l i; omega
    · omega
theorem rdec_l0 {l : List Int} (hb : Byts l) (hl : l.length ≤ 1000000) {r : List Int × Int} : ∀ (i : Nat), i ≤ l.length → Ev (fun k => racewayref22_Decode.j1 k (strOfNums l) [] ((stripN l i : Nat) : Int)) r → Ev (fun k => racewayref22_Decode.l0 k (strOfNums l) (i : Int)) r := by
  intro i
  induction i with
  | zero =>
    intro _ h
    refine Ev.step (fun k => ?_) h
    rw [racewayref22_Decode.l0, if_neg (by decide)]; rfl
  | succ i ih =>
    intro hi h
    have s0 := strOfNums_size l
    have e : wrap64 (((i + 1 : Nat) : Int) - 1) = (i : Int) := by rw [wrap_id (by omega) (by omega)]; omega
    have hbt : bt (strOfNums l) (i : Int) = l.getD i 0 := sn_bt hb (by omega)
    rw [stripN] at h
    by_cases hc : l.getD i 0 = 61
    · rw [if_pos hc] at h
      refine Ev.step (fun k => ?_) (ih (by omega) h)
      rw [racewayref22_Decode.l0, if_pos (by omega), e, s0, hbt, if_pos (by omega), if_pos (by omega), if_pos hc]
    · rw [if_neg hc] at h
      refine Ev.step (fun k => ?_) h
      rw [racewayref22_Decode.l0, if_pos (by omega), e, s0, hbt, if_pos (by omega), if_pos (by omega), if_neg hc]
theorem rdec_l2 {s : ByteArray} {x4 : List Int} {m i x : Int} (hx : 0 ≤ x ∧ x < 64) (h4 : x4.length < 1000000) (hi : 0 ≤ i ∧ i < 1000000) {r : List Int × Int}
    (h : Ev (fun k => racewayref22_Decode.l1 k s (x4 ++ bits6 x) m (i + 1)) r) : Ev (fun k => racewayref22_Decode.l2 k s x4 m i x 32) r := by
  have step : ∀ (y : List Int) (c : Int), y.length < 2000000 → 0 < c → c ≤ 32 → ∀ k, racewayref22_Decode.l2 (k + 1) s y m i x c = racewayref22_Decode.l2 k s (y ++ [x / c % 2]) m i x (c / 2) := by
    intro y c hy hc hc2 k
    have hd : 0 ≤ x / c := Int.ediv_nonneg hx.1 (by omega)
    have hd2 : x / c ≤ x := Int.ediv_le_self _ hx.1
    have e2 : wrap64 (Int.tdiv x c) = x / c := by rw [Int.tdiv_eq_ediv_of_nonneg hx.1, wrap_id (by omega) (by omega)]
    have e3 : Int.tmod (x / c) 2 = x / c % 2 := Int.tmod_eq_emod_of_nonneg hd
    have e4 : wrap64 (Int.tdiv c 2) = c / 2 := by rw [Int.tdiv_eq_ediv_of_nonneg (by omega), wrap_id (by omega) (by omega)]
    rw [racewayref22_Decode.l2, e2, e3, e4, if_pos hc, if_neg (by omega), if_pos (by omega)]
  refine Ev.step (step x4 32 (by omega) (by decide) (by decide)) ?_
  refine Ev.step (step _ (32 / 2) (by simp; omega) (by decide) (by decide)) ?_
  refine Ev.step (step _ (32 / 2 / 2) (by simp; omega) (by decide) (by decide)) ?_
  refine Ev.step (step _ (32 / 2 / 2 / 2) (by simp; omega) (by decide) (by decide)) ?_
  refine Ev.step (step _ (32 / 2 / 2 / 2 / 2) (by simp; omega) (by decide) (by decide)) ?_
  refine Ev.step (step _ (32 / 2 / 2 / 2 / 2 / 2) (by simp; omega) (by decide) (by decide)) ?_
  refine Ev.step (fun k => ?_) h
  rw [racewayref22_Decode.l2, if_neg (by decide), wrap_id (by omega) (by omega)]
  congr 1
  simp [bits6]
def sbR (f : List Int → List Int × Int) : Option (List Int) → List Int × Int
  | none => ([], 5)
  | some b => f b
theorem rdec_l1 {l : List Int} (hb : Byts l) (hl : l.length ≤ 10000) {m : Nat} (hm : m ≤ l.length) (f : List Int → List Int × Int) (hf : ∀ bits, (∀ b ∈ bits, 0 ≤ b ∧ b ≤ 1) → bits.length < 100000 → Ev (fun k => racewayref22_Decode.l3 k (strOfNums l) bits [] 0) (f bits)) : ∀ (t : List Int) (i : Nat) (x4 : List Int), (l.take m).drop i = t → i ≤ m → x4.length + 6 * t.length < 100000 → (∀ b ∈ x4, 0 ≤ b ∧ b ≤ 1) →
    Ev (fun k => racewayref22_Decode.l1 k (strOfNums l) x4 (m : Int) (i : Int)) (sbR (fun b => f (x4 ++ b)) (sb t)) := by
  intro t
  induction t with
  | nil =>
    intro i x4 ht hi h4 hx4
    have hle : m ≤ i := by have := congrArg List.length ht; simp at this; omega
    rw [sb, sbR, List.append_nil]
    refine Ev.step (fun k => ?_) (hf x4 hx4 (by omega))
    rw [racewayref22_Decode.l1, if_neg (by omega)]
  | cons c t ih =>
    intro i x4 ht hi h4 hx4
    obtain ⟨hlt, ht', hget⟩ := drop_cons ht
    have hltm : i < m := by simp at hlt; omega
    have hc : bt (strOfNums l) (i : Int) = c := by
      rw [sn_bt hb (by omega), List.getD_eq_getElem?_getD]
      rw [List.getElem?_take, if_pos hltm] at hget
      rw [hget]; rfl
    have hbc : 0 ≤ c ∧ c < 256 := by rw [← hc]; have := bt_range (strOfNums l) (i : Int); omega
    have s0 := strOfNums_size l
    have a0 := sixS_lt c
    simp only [List.length_cons] at h4
    have g1 : (i : Int) < (m : Int) := by omega
    have g2 : (0 : Int) ≤ (i : Int) := by omega
    have g3 : (i : Int) < (l.length : Int) := by omega
    refine Ev.step (f := fun k => (racewayref22_at.f k (⟨#[65, 66, 67, 68, 69, 70, 71, 72, 73, 74, 75, 76, 77, 78, 79, 80, 81, 82, 83, 84, 85, 86, 87, 88, 89, 90, 97, 98, 99, 100, 101, 102, 103, 104, 105, 106, 107, 108, 109, 110, 111, 112, 113, 114, 115, 116, 117, 118, 119, 120, 121, 122, 48, 49, 50, 51, 52, 53, 54, 55, 56, 57, 43, 47]⟩ : ByteArray) c).bind fun t185 => (if t185 < 0 then (some (([] : List Int), 5)) else (racewayref22_Decode.l2 k (strOfNums l) x4 (m : Int) (i : Int) t185 32))) (fun k => ?_) ?_
    · rw [racewayref22_Decode.l1, s0, hc, if_pos g1, if_pos g2, if_pos g3]
    · refine Ev.bind (at_signs hbc) ?_
      rw [sb]
      by_cases hneg : sixS c < 0
      · simp only [if_pos hneg]; exact Ev.now _
      · simp only [if_neg hneg]
        refine rdec_l2 ⟨by omega, by omega⟩ (by omega) ⟨by omega, by omega⟩ ?_
        have h := ih (i + 1) (x4 ++ bits6 (sixS c)) ht' (by omega) (by simp [bits6]; omega) (fun b hb => (List.mem_append.1 hb).elim (hx4 b) (bits6_bits _ b))
        cases hs : sb t with
        | none => rw [hs] at h; exact h
        | some b => rw [hs] at h; simp only [Option.map_some, sbR, List.append_assoc] at h ⊢; exact h
theorem rdec_l4 {s : ByteArray} {x4 : List Int} {i : Nat} {b0 b1 b2 b3 b4 b5 b6 b7 : Int} {t : List Int} (ht : x4.drop i = b0 :: b1 :: b2 :: b3 :: b4 :: b5 :: b6 :: b7 :: t) (hm : ∀ b ∈ x4, 0 ≤ b ∧ b ≤ 1) (h4 : x4.length < 1000000) (out : List Int) (ho : out.length < 1000000) {r : List Int × Int}
    (h : Ev (fun k => racewayref22_Decode.l3 k s x4 (out ++ [val8 b0 b1 b2 b3 b4 b5 b6 b7 % 256]) ((i + 8 : Nat) : Int)) r) : Ev (fun k => racewayref22_Decode.l4 k s x4 out (i : Int) 0 0) r := by
  have step : ∀ (j : Nat) (b : Int) (u : List Int) (x8 : Int), x4.drop (i + j) = b :: u → j < 8 → 0 ≤ x8 → x8 < 256 → ∀ k, racewayref22_Decode.l4 (k + 1) s x4 out (i : Int) x8 (j : Int) = racewayref22_Decode.l4 k s x4 out (i : Int) (2 * x8 + b) ((j + 1 : Nat) : Int) := by
    intro j b u x8 hd hj h8 h82 k
    obtain ⟨hlt, _, _⟩ := drop_cons hd
    have hb := hm b (by rw [← List.take_append_drop (i + j) x4, hd]; simp)
    have hr := rd_drop hd
    have e1 : wrap64 ((i : Int) + (j : Int)) = ((i + j : Nat) : Int) := by rw [wrap_id (by omega) (by omega)]; omega
    have e2 : wrap64 (2 * x8) = 2 * x8 := wrap_id (by omega) (by omega)
    have e3 : wrap64 (2 * x8 + b) = 2 * x8 + b := wrap_id (by omega) (by omega)
    have g1 : (j : Int) < 8 := by omega
    have g2 : (0 : Int) ≤ ((i + j : Nat) : Int) := by omega
    have g3 : ((i + j : Nat) : Int) < (x4.length : Int) := by omega
    rw [racewayref22_Decode.l4, e1, hr, e2, e3, wr1 (by omega), if_pos g1, if_pos g2, if_pos g3]
  have hm' : ∀ b ∈ x4.drop i, 0 ≤ b ∧ b ≤ 1 := fun b hb => hm b (List.mem_of_mem_drop hb)
  rw [ht] at hm'
  have m0 := hm' b0 (by simp); have m1 := hm' b1 (by simp); have m2 := hm' b2 (by simp); have m3 := hm' b3 (by simp); have m4 := hm' b4 (by simp); have m5 := hm' b5 (by simp); have m6 := hm' b6 (by simp); have m7 := hm' b7 (by simp)
  have hlen : i + 8 ≤ x4.length := by have := congrArg List.length ht; simp at this; omega
  refine Ev.step (step 0 b0 _ 0 (drop_more ht rfl) (by decide) (by decide) (by decide)) ?_
  refine Ev.step (step 1 b1 _ _ (drop_more ht rfl) (by decide) (by omega) (by omega)) ?_
  refine Ev.step (step 2 b2 _ _ (drop_more ht rfl) (by decide) (by omega) (by omega)) ?_
  refine Ev.step (step 3 b3 _ _ (drop_more ht rfl) (by decide) (by omega) (by omega)) ?_
  refine Ev.step (step 4 b4 _ _ (drop_more ht rfl) (by decide) (by omega) (by omega)) ?_
  refine Ev.step (step 5 b5 _ _ (drop_more ht rfl) (by decide) (by omega) (by omega)) ?_
  refine Ev.step (step 6 b6 _ _ (drop_more ht rfl) (by decide) (by omega) (by omega)) ?_
  refine Ev.step (step 7 b7 _ _ (drop_more ht rfl) (by decide) (by omega) (by omega)) ?_
  refine Ev.step (fun k => ?_) h
  have e2 : wrap64 ((i : Int) + 8) = ((i + 8 : Nat) : Int) := by rw [wrap_id (by omega) (by omega)]; omega
  rw [racewayref22_Decode.l4, if_neg (by decide), if_pos (by omega), e2]
  rfl
def chk (l b : List Int) : List Int × Int := if encL b = l then (b, 0) else ([], 5)
theorem rdec_l3 {l : List Int} (hb : Byts l) {x4 : List Int} (hm : ∀ b ∈ x4, 0 ≤ b ∧ b ≤ 1) (h4 : x4.length < 100000) : ∀ (n : Nat) (i : Nat) (t out : List Int), x4.drop i = t → t.length ≤ n → i ≤ x4.length → out.length + n < 100000 → Byts out →
    Ev (fun k => racewayref22_Decode.l3 k (strOfNums l) x4 out (i : Int)) (chk l (out ++ by8 t)) := by
  intro n
  induction n using Nat.strongRecOn with
  | _ n ih =>
    intro i t out ht hn hi ho hbo
    have e2 : wrap64 ((i : Int) + 8) = ((i + 8 : Nat) : Int) := by rw [wrap_id (by omega) (by omega)]; omega
    have hlen : t.length = x4.length - i := by rw [← ht, List.length_drop]
    have hshort : t.length < 8 → by8 t = [] → Ev (fun k => racewayref22_Decode.l3 k (strOfNums l) x4 out (i : Int)) (chk l (out ++ by8 t)) := by
      intro h8 hn8
      rw [hn8, List.append_nil]
      refine Ev.step (f := fun k => (racewayref22_Encode.f k out).bind fun t189 => (if t189.toList = (strOfNums l).toList then (some (out, 0)) else (some (([] : List Int), 5)))) (fun k => ?_) ?_
      · rw [racewayref22_Decode.l3, e2, if_neg (by omega)]
      · refine Ev.bind (refEncode_ev hbo (by omega)) ?_
        simp only [sn_eq_iff (fun x hx => encL_range hx) hb]
        unfold chk
        split <;> exact Ev.now _
    match t, hn, hlen, hshort, ht with
    | b0 :: b1 :: b2 :: b3 :: b4 :: b5 :: b6 :: b7 :: t, hn, hlen, _, ht =>
      simp only [List.length_cons] at hn hlen
      refine Ev.step (f := fun k => racewayref22_Decode.l4 k (strOfNums l) x4 out (i : Int) 0 0) (fun k => ?_) ?_
      · rw [racewayref22_Decode.l3, e2, if_pos (by omega)]
      · refine rdec_l4 ht hm (by omega) out (by omega) ?_
        have h := ih t.length (by omega) (i + 8) t (out ++ [val8 b0 b1 b2 b3 b4 b5 b6 b7 % 256]) (drop_more ht rfl) (Nat.le_refl _) (by omega) (by simp; omega) (hbo.append (Byts.cons (by omega) Byts.nil))
        rw [List.append_assoc] at h
        exact h
    | [], _, _, hs, _ => exact hs (by decide) rfl
    | [_], _, _, hs, _ => exact hs (by simp) rfl
    | [_, _], _, _, hs, _ => exact hs (by simp) rfl
    | [_, _, _], _, _, hs, _ => exact hs (by simp) rfl
    | [_, _, _, _], _, _, hs, _ => exact hs (by simp) rfl
    | [_, _, _, _, _], _, _, hs, _ => exact hs (by simp) rfl
    | [_, _, _, _, _, _], _, _, hs, _ => exact hs (by simp) rfl
    | [_, _, _, _, _, _, _], _, _, hs, _ => exact hs (by simp) rfl
/-- What the reference reads. -/
def rdec (l : List Int) : List Int × Int := if 131072 < l.length then ([], 3) else sbR (fun b => chk l (by8 b)) (sb (l.take (stripN l l.length)))
theorem rdec_ev {l : List Int} (hb : Byts l) (hl : l.length ≤ 1500) : Ev (fun k => racewayref22_Decode.f k (strOfNums l)) (rdec l) := by
  unfold racewayref22_Decode.f rdec
  rw [strOfNums_size]
  have hs := stripN_le l l.length
  simp only [if_neg (show ¬ (l.length : Int) > 131072 by omega)]
  rw [if_neg (by omega)]
  refine rdec_l0 hb (by omega) l.length (Nat.le_refl _) ?_
  refine Ev.step (f := fun k => racewayref22_Decode.l1 k (strOfNums l) [] ((stripN l l.length : Nat) : Int) 0) (fun k => by rw [racewayref22_Decode.j1]) ?_
  exact rdec_l1 hb (by omega) hs (fun b => chk l (by8 b)) (fun bits h1 h2 => rdec_l3 hb h1 h2 bits.length 0 bits [] rfl (Nat.le_refl _) (by omega) (by simp; omega) Byts.nil) (l.take (stripN l l.length)) 0 [] rfl (by omega) (by rw [List.length_take]; simp; omega) (fun b hb => by simp at hb)
theorem sb_cons {c : Int} {x : Nat} (h : sixS c = (x : Int)) (t : List Int) : sb (c :: t) = (sb t).map (bits6 (x : Int) ++ ·) := by rw [sb, h, if_neg (by omega)]
theorem b0 {p q : Int} (hp : 0 ≤ p ∧ p < 64) (hq : 0 ≤ q ∧ q < 64) : val8 (p / 32 % 2) (p / 16 % 2) (p / 8 % 2) (p / 4 % 2) (p / 2 % 2) (p / 1 % 2) (q / 32 % 2) (q / 16 % 2) % 256 = p * 4 + q / 16 := by unfold val8; omega
theorem b1 {q r : Int} (hq : 0 ≤ q ∧ q < 64) (hr : 0 ≤ r ∧ r < 64) : val8 (q / 8 % 2) (q / 4 % 2) (q / 2 % 2) (q / 1 % 2) (r / 32 % 2) (r / 16 % 2) (r / 8 % 2) (r / 4 % 2) % 256 = q % 16 * 16 + r / 4 := by unfold val8; omega
theorem b2 {r s : Int} (hr : 0 ≤ r ∧ r < 64) (hs : 0 ≤ s ∧ s < 64) : val8 (r / 2 % 2) (r / 1 % 2) (s / 32 % 2) (s / 16 % 2) (s / 8 % 2) (s / 4 % 2) (s / 2 % 2) (s / 1 % 2) % 256 = r % 4 * 64 + s := by unfold val8; omega
theorem sb_enc : ∀ (n : Nat) (L : List Int), L.length ≤ n → Byts L → ∃ bits, sb (encN L) = some bits ∧ by8 bits = L := by
  intro n
  induction n with
  | zero => intro L hn hb; have : L = [] := List.eq_nil_of_length_eq_zero (by omega); subst this; exact ⟨[], rfl, rfl⟩
  | succ n ih =>
    intro L hn hb
    match L, hn, hb with
    | [], _, _ => exact ⟨[], rfl, rfl⟩
    | [a], _, hb =>
      have ha := hb a (by simp)
      rw [encN, sb_cons (six_sgn (by omega)), sb_cons (six_sgn (by omega)), sb]
      refine ⟨_, rfl, ?_⟩
      show [val8 _ _ _ _ _ _ _ _ % 256] = [a]
      congr 1
      refine Eq.trans (b0 ?_ ?_) ?_ <;> omega
    | [a, b], _, hb =>
      have ha := hb a (by simp)
      have hb' := hb b (by simp)
      rw [encN, sb_cons (six_sgn (by omega)), sb_cons (six_sgn (by omega)), sb_cons (six_sgn (by omega)), sb]
      refine ⟨_, rfl, ?_⟩
      show [val8 _ _ _ _ _ _ _ _ % 256, val8 _ _ _ _ _ _ _ _ % 256] = [a, b]
      congr 1
      · refine Eq.trans (b0 ?_ ?_) ?_ <;> omega
      · congr 1
        refine Eq.trans (b1 ?_ ?_) ?_ <;> omega
    | a :: b :: c :: t, hn, hb =>
      have ha := hb a (by simp)
      have hb' := hb b (by simp)
      have hc := hb c (by simp)
      obtain ⟨bits, h1, h2⟩ := ih t (by simp at hn; omega) (hb.drop 3)
      rw [encN, sb_cons (six_sgn (by omega)), sb_cons (six_sgn (by omega)), sb_cons (six_sgn (by omega)), sb_cons (six_sgn (by omega)), h1]
      refine ⟨_, rfl, ?_⟩
      show val8 _ _ _ _ _ _ _ _ % 256 :: val8 _ _ _ _ _ _ _ _ % 256 :: val8 _ _ _ _ _ _ _ _ % 256 :: by8 bits = a :: b :: c :: t
      rw [h2]
      congr 1
      · refine Eq.trans (b0 ?_ ?_) ?_ <;> omega
      · congr 1
        · refine Eq.trans (b1 ?_ ?_) ?_ <;> omega
        · congr 1
          refine Eq.trans (b2 ?_ ?_) ?_ <;> omega
theorem stripN_pad {u : List Int} (h : ∀ x ∈ u, x ≠ 61) : ∀ q, stripN (u ++ List.replicate q 61) (u.length + q) = u.length := by
  have low : ∀ q', stripN (u ++ List.replicate q' 61) u.length = u.length := by
    intro q'
    cases hu : u.length with
    | zero => rfl
    | succ n =>
      rw [stripN, if_neg]
      rw [List.getD_eq_getElem?_getD, List.getElem?_append_left (by omega), List.getElem?_eq_getElem (by omega)]
      exact h _ (List.getElem_mem _)
  have key : ∀ q q', q ≤ q' → stripN (u ++ List.replicate q' 61) (u.length + q) = u.length := by
    intro q
    induction q with
    | zero => intro q' _; exact low q'
    | succ q ih =>
      intro q' hq
      rw [← Nat.add_assoc, stripN, if_pos]
      · exact ih q' (by omega)
      · rw [List.getD_eq_getElem?_getD, List.getElem?_append_right (by omega), List.getElem?_replicate, if_pos (by omega)]; rfl
  exact fun q => key q q (Nat.le_refl _)
theorem by8_byts : ∀ (n : Nat) (b : List Int), b.length ≤ n → Byts (by8 b) := by
  intro n
  induction n using Nat.strongRecOn with
  | _ n ih =>
    intro b hn x hx
    unfold by8 at hx
    split at hx
    · rename_i t
      rcases List.mem_cons.1 hx with rfl | hx
      · omega
      · simp only [List.length_cons] at hn
        exact ih t.length (by omega) t (Nat.le_refl _) x hx
    · simp at hx
theorem rdec_dec {l : List Int} (hb : Byts l) (hl : l.length ≤ 1500) : rdec l = decS l := by
  by_cases h0 : (decS l).2 = 0
  · obtain ⟨h1, h2, h3⟩ := enc_dec hb h0
    have hd : decS l = ((decS l).1, 0) := Prod.ext rfl h0
    rw [hd]
    generalize (decS l).1 = L at *
    have hp := encL_pad L.length L (Nat.le_refl _)
    have hn : ∀ x ∈ encN L, x ≠ 61 := fun x hx => by
      obtain ⟨m, e1, rfl⟩ := encN_six L.length L (Nat.le_refl _) h2 x hx
      exact sgn_ne m e1
    obtain ⟨bits, e1, e2⟩ := sb_enc L.length L (Nat.le_refl _) h2
    have hl2 : l = encN L ++ List.replicate ((4 - (encN L).length % 4) % 4) 61 := by rw [← h1, hp]; rfl
    have hlen : l.length = (encN L).length + (4 - (encN L).length % 4) % 4 := by have e := congrArg List.length hl2; simpa using e
    have hs : l.take (stripN l l.length) = encN L := by
      rw [hlen]
      conv => lhs; rw [hl2]
      rw [stripN_pad hn]
      exact List.take_left
    unfold rdec
    rw [if_neg (by omega), hs, e1]
    show chk l (by8 bits) = _
    rw [e2, chk, if_pos h1]
  · have hd : decS l = ([], 5) := by
      have h5 : (decS l).2 = 5 := by
        unfold decS at h0 ⊢
        rw [if_neg (by omega)] at h0 ⊢
        split
        · rfl
        · rename_i h4
          rw [if_neg h4] at h0
          split
          · rfl
          · rename_i hc
            rw [if_neg hc] at h0
            cases hx : dl (core l) 0 0 with
            | none => rfl
            | some r => rw [hx] at h0; exact absurd rfl h0
      exact Prod.ext (dec_err h0) h5
    rw [hd]
    unfold rdec
    rw [if_neg (by omega)]
    cases hs : sb (l.take (stripN l l.length)) with
    | none => rfl
    | some bits =>
      show chk l (by8 bits) = _
      unfold chk
      rw [if_neg]
      intro he
      have hbb : Byts (by8 bits) := by8_byts bits.length bits (Nat.le_refl _)
      have hlb : (by8 bits).length ≤ 20000 := by
        have := encL_len (L := by8 bits)
        rw [he] at this
        omega
      have := dec_enc hbb hlb
      rw [he, hd] at this
      simp at this
end Go.Proofs.Ytgopfelmhlgglaa.Bas

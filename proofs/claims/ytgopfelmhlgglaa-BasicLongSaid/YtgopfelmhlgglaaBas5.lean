/- Plain laws: texts that are read as bytes, in base 16 and in base 64, by the program. Conditions: as in each theorem. -/
import Derived.Test.YtgopfelmhlgglaaBas4
import Derived.Test.YtgopfelmhlgglaaPAx14
namespace Go.Proofs.Ytgopfelmhlgglaa.Bas
open Go.RowKit Go.Proofs.Ytgopfelmhlgglaa.PA Go.Proofs.YtgopfelmhlgglaaEnc Go.Proofs.YtgopfelmhlgglaaW.PrintWords Go.Proofs.YtgopfelmhlgglaaW.PrintLast Go.Proofs.YtgopfelmhlgglaaW.PrintMore
set_option linter.unusedVariables false
set_option linter.unusedSimpArgs false
/-! ### base 16 -/
def hxS (c : Int) : Int := if 48 ≤ c ∧ c ≤ 57 then c - 48 else if 97 ≤ c ∧ c ≤ 102 then c - 87 else -1
theorem index_tens {c : Int} (h : 0 ≤ c ∧ c < 256) : strings_IndexByte.f (⟨#[48, 49, 50, 51, 52, 53, 54, 55, 56, 57, 97, 98, 99, 100, 101, 102]⟩ : ByteArray) c = some (hxS c) := by
  have key : ∀ n : Fin 256, strings_IndexByte.f (⟨#[48, 49, 50, 51, 52, 53, 54, 55, 56, 57, 97, 98, 99, 100, 101, 102]⟩ : ByteArray) (n.val : Int) = some (hxS (n.val : Int)) := by decide +kernel
  have := key ⟨c.toNat, by omega⟩
  rwa [show ((c.toNat : Nat) : Int) = c from by omega] at this
theorem hxS_lt (c : Int) : hxS c < 16 ∧ -1 ≤ hxS c := by unfold hxS; (repeat' split) <;> omega
theorem hx_dig {n : Nat} (h : n < 16) : hxS (dig n) = n := by
  have key : ∀ n : Fin 16, hxS (dig n.val) = (n.val : Int) := by decide
  exact key ⟨n, h⟩
theorem dig_hx {c : Int} (h : 0 ≤ hxS c) : dig (hxS c).toNat = c := by
  have hc : (48 ≤ c ∧ c ≤ 57) ∨ (97 ≤ c ∧ c ≤ 102) := by
    unfold hxS at h; split at h
    · exact .inl (by assumption)
    · split at h
      · exact .inr (by assumption)
      · omega
  have key : ∀ n : Fin 256, 0 ≤ hxS (n.val : Int) → dig (hxS (n.val : Int)).toNat = (n.val : Int) := by decide +kernel
  have h2 := key ⟨c.toNat, by omega⟩
  simp only [show ((c.toNat : Nat) : Int) = c from by omega] at h2
  exact h2 h
attribute [local irreducible] hxS bt strOfNums dig sgn itoaL
/-- Bytes out of pairs of digits. -/
def uh : List Int → Option (List Int)
  | x :: y :: t => if hxS x < 0 ∨ hxS y < 0 then none else (uh t).map fun r => (16 * hxS x + hxS y) :: r
  | _ => some []
theorem uh_nil : uh [] = some [] := rfl
theorem wr1 {i : Nat} (h : i < 4000000000000000000) : wrap64 ((i : Int) + 1) = ((i + 1 : Nat) : Int) := by rw [wrap_id (by omega) (by omega)]; omega
theorem wr2 {i : Nat} (h : i < 4000000000000000000) : wrap64 ((i : Int) + 2) = ((i + 1 + 1 : Nat) : Int) := by rw [wrap_id (by omega) (by omega)]; omega
def uhR (out : List Int) : Option (List Int) → List Int × Int
  | some r => (out ++ r, 0)
  | none => ([], 5)
theorem or16 {h m : Int} (h1 : 0 ≤ h ∧ h < 16) (h2 : 0 ≤ m ∧ m < 16) : Go.bits .or .i64 (h * 16) m = 16 * h + m := by
  have key : ∀ (n m : Fin 16), Go.bits .or .i64 ((n.val : Int) * 16) (m.val : Int) = 16 * (n.val : Int) + (m.val : Int) := by decide +kernel
  have := key ⟨h.toNat, by omega⟩ ⟨m.toNat, by omega⟩
  rwa [show ((h.toNat : Nat) : Int) = h from by omega, show ((m.toNat : Nat) : Int) = m from by omega] at this
theorem Unhex_l0 {l : List Int} (hb : Byts l) (hl : l.length ≤ 1000000) : ∀ (n : Nat) (t : List Int) (i : Nat) (out : List Int), t.length = 2 * n → l.drop i = t → out.length + n ≤ 2000000 →
    Ev (fun k => basic_Unhex.l0 k (strOfNums l) out (i : Int)) (uhR out (uh t)) := by
  intro n
  induction n with
  | zero =>
    intro t i out hn ht ho
    have : t = [] := List.eq_nil_of_length_eq_zero (by omega)
    subst this
    have hle : l.length ≤ i := by simpa using ht
    refine Ev.step (f := fun _ => some (out, 0)) (fun k => ?_) (by rw [uh_nil, uhR, List.append_nil]; exact Ev.now _)
    rw [basic_Unhex.l0, strOfNums_size, if_neg (by omega)]
  | succ n ih =>
    intro t i out hn ht ho
    match t, hn with
    | x :: y :: t, hn =>
      obtain ⟨hlt, ht1, _⟩ := drop_cons ht
      obtain ⟨hlt1, ht2, _⟩ := drop_cons ht1
      have hx := bt_drop hb ht
      have hy := bt_drop hb ht1
      have hbx := hb x (by rw [← List.take_append_drop i l, ht]; simp)
      have hby := hb y (by rw [← List.take_append_drop i l, ht]; simp)
      have ax := hxS_lt x
      have ay := hxS_lt y
      have g1 : (i : Int) < (l.length : Int) := by omega
      have g2 : (0 : Int) ≤ (i : Int) := by omega
      have g3 : (0 : Int) ≤ ((i + 1 : Nat) : Int) := by omega
      have g4 : ((i + 1 : Nat) : Int) < (l.length : Int) := by omega
      have hi2 : i < 4000000000000000000 := by omega
      have s0 := strOfNums_size l
      have ix := index_tens hbx
      have iy := index_tens hby
      have hstep : ∀ k, basic_Unhex.l0 (k + 1) (strOfNums l) out (i : Int) = if hxS x < 0 then some ([], 5) else if hxS y < 0 then some ([], 5) else if out.length < 140737488355328 then basic_Unhex.l0 k (strOfNums l) (out ++ [Go.bits .or .i64 (wrap64 (hxS x * 16)) (hxS y) % 256]) ((i + 1 + 1 : Nat) : Int) else none := by
        intro k
        rw [basic_Unhex.l0, s0, hx, ix, Option.bind_some, wr1 hi2, hy, iy, Option.bind_some, wr2 hi2]
        rw [if_pos g1, if_pos g2, if_pos g3, if_pos g4]
      rw [uh]
      by_cases h1 : hxS x < 0
      · rw [if_pos (.inl h1)]
        exact Ev.step (f := fun _ => some ([], 5)) (fun k => by rw [hstep, if_pos h1]) (Ev.now _)
      · by_cases h2 : hxS y < 0
        · rw [if_pos (.inr h2)]
          exact Ev.step (f := fun _ => some ([], 5)) (fun k => by rw [hstep, if_neg h1, if_pos h2]) (Ev.now _)
        · rw [if_neg (fun h => h.elim h1 h2)]
          have e3 : Go.bits .or .i64 (wrap64 (hxS x * 16)) (hxS y) % 256 = 16 * hxS x + hxS y := by rw [wrap_id (by omega) (by omega), or16 (by omega) (by omega)]; omega
          have h := ih t (i + 1 + 1) (out ++ [16 * hxS x + hxS y]) (by simp at hn; omega) ht2 (by simp; omega)
          refine Ev.step (f := fun k => basic_Unhex.l0 k (strOfNums l) (out ++ [16 * hxS x + hxS y]) ((i + 1 + 1 : Nat) : Int)) (fun k => by rw [hstep, if_neg h1, if_neg h2, if_pos (by omega), e3]) ?_
          cases hu : uh t with
          | none => rw [hu] at h; exact h
          | some r => rw [hu] at h; simp only [Option.map_some, uhR, List.append_assoc] at h ⊢; exact h
/-- What a text is read as in base 16. -/
def unhexS (l : List Int) : List Int × Int := if 131072 < l.length then ([], 3) else if l.length % 2 = 0 then uhR [] (uh l) else ([], 5)
theorem Unhex_ev {l : List Int} (hb : Byts l) (hl : l.length ≤ 1000000) : Ev (fun k => basic_Unhex.f k (strOfNums l)) (unhexS l) := by
  unfold basic_Unhex.f unhexS
  rw [strOfNums_size]
  by_cases h1 : 131072 < l.length
  · simp only [if_pos (show (l.length : Int) > 131072 by omega), if_pos h1]; exact Ev.now _
  · simp only [if_neg (show ¬ (l.length : Int) > 131072 by omega), if_neg h1]
    by_cases h2 : l.length % 2 = 0
    · simp only [if_pos (show (l.length : Int) % 2 = 0 by omega), if_pos h2]
      exact Unhex_l0 hb hl (l.length / 2) l 0 [] (by omega) rfl (by simp; omega)
    · simp only [if_neg (show ¬ (l.length : Int) % 2 = 0 by omega), if_neg h2]; exact Ev.now _
theorem uh_hex : ∀ (L : List Int), Byts L → uh (hexL L) = some L
  | [], _ => rfl
  | b :: t, hb => by
    have h := uh_hex t (hb.drop 1)
    have hbb := hb b (by simp)
    show uh (dig (b / 16).toNat :: dig (b % 16).toNat :: hexL t) = _
    rw [uh, hx_dig (by omega), hx_dig (by omega), if_neg (by omega), h, Option.map_some]
    congr 2
    omega
theorem unhex_hex {L : List Int} (hb : Byts L) (hL : L.length ≤ 1000) : unhexS (hexL L) = (L, 0) := by
  have hl := hexL_len L
  unfold unhexS
  rw [if_neg (by omega), if_pos (by omega), uh_hex L hb, uhR]; rfl
theorem hex_uh : ∀ (n : Nat) (l b : List Int), l.length = 2 * n → uh l = some b → hexL b = l ∧ Byts b ∧ b.length = n := by
  intro n
  induction n with
  | zero =>
    intro l b hn h
    have : l = [] := List.eq_nil_of_length_eq_zero (by omega)
    subst this
    rw [uh_nil] at h
    obtain rfl := Option.some.inj h
    exact ⟨rfl, Byts.nil, rfl⟩
  | succ n ih =>
    intro l b hn h
    match l, hn with
    | x :: y :: t, hn =>
      rw [uh] at h
      split at h
      · simp at h
      · rename_i hxy
        have ax := hxS_lt x
        have ay := hxS_lt y
        cases hu : uh t with
        | none => rw [hu] at h; simp at h
        | some r =>
          rw [hu, Option.map_some] at h
          obtain rfl := Option.some.inj h
          obtain ⟨h1, h2, h3⟩ := ih t r (by simp at hn; omega) hu
          have hx0 : 0 ≤ hxS x := by omega
          have hy0 : 0 ≤ hxS y := by omega
          refine ⟨?_, Byts.cons (by omega) h2, by simp [h3]⟩
          show dig ((16 * hxS x + hxS y) / 16).toNat :: dig ((16 * hxS x + hxS y) % 16).toNat :: hexL r = _
          rw [show ((16 * hxS x + hxS y) / 16).toNat = (hxS x).toNat from by omega, show ((16 * hxS x + hxS y) % 16).toNat = (hxS y).toNat from by omega, dig_hx hx0, dig_hx hy0, h1]
/-! ### numbers there and back -/
theorem vg_dec : ∀ (n : Nat), vg (decD n []) 0 = some n := by
  intro n
  induction n using Nat.strongRecOn with
  | _ n ih =>
    by_cases h : n < 10
    · rw [decD_lt h, vg, if_pos (by omega), vg]; congr 1; omega
    · rw [decD_ge h, decD_append, vg_snoc, ih (n / 10) (by omega), Option.bind_some, if_pos (by omega)]; congr 1; omega
theorem dec_take (n : Nat) : (decD n []).take 1 ≠ [45] := by
  intro h
  have hp := decD_pos n
  cases hd : decD n [] with
  | nil => rw [hd] at hp; simp at hp
  | cons x t =>
    have := decD_digits n x (by rw [hd]; simp)
    rw [hd] at h
    simp at h
    omega
theorem atoi_itoa {n : Int} (h1 : -9223372036854775808 ≤ n) (h2 : n ≤ 9223372036854775807) : atoiS (itoaL n) = (n, 0) := by
  by_cases hn : n < 0
  · obtain ⟨u, rfl, hu⟩ : ∃ u : Nat, n = -(u : Int) ∧ 1 ≤ u := ⟨(-n).toNat, by omega, by omega⟩
    have hlen := decD_len_le 18 u (by omega)
    rw [itoa_neg hu]
    unfold atoiS
    have hb : body (45 :: decD u []) = decD u [] := by unfold body; rw [if_pos (by simp)]; rfl
    rw [hb, if_neg (fun e => by have := decD_pos u; rw [e] at this; simp at this), if_neg (by omega), if_neg (fun h => dec_head u hu h.1), vg_dec]
    rw [show decide ((45 :: decD u []).take 1 = [45]) = true from decide_eq_true (by simp), resB, if_pos rfl, if_pos (by omega)]
  · obtain ⟨u, rfl⟩ : ∃ u : Nat, n = (u : Int) := ⟨n.toNat, by omega⟩
    have hlen := decD_len_le 18 u (by omega)
    rw [itoa_pos]
    unfold atoiS
    have h45 := dec_take u
    have hb : body (decD u []) = decD u [] := by unfold body; rw [if_neg h45]
    rw [hb, if_neg (fun e => by have := decD_pos u; rw [e] at this; simp at this), if_neg (by omega), decide_eq_false h45, vg_dec, if_neg]
    · rw [resB, if_neg (by decide), if_pos (by omega)]
    · rintro ⟨h48, h | h⟩
      · rcases Nat.eq_zero_or_pos u with h0 | h0
        · subst h0; rw [dec_zero] at h; simp at h
        · exact dec_head u h0 h48
      · exact h45 h
end Go.Proofs.Ytgopfelmhlgglaa.Bas

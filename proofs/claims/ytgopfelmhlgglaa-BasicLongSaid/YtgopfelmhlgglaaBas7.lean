/- Plain laws: what a text is read as has, written, just that text. Conditions: as in each theorem. -/
import Derived.Test.YtgopfelmhlgglaaBas6
namespace Go.Proofs.Ytgopfelmhlgglaa.Bas
open Go.RowKit Go.Proofs.Ytgopfelmhlgglaa.PA Go.Proofs.YtgopfelmhlgglaaEnc Go.Proofs.YtgopfelmhlgglaaW.PrintWords Go.Proofs.YtgopfelmhlgglaaW.PrintLast Go.Proofs.YtgopfelmhlgglaaW.PrintMore
set_option linter.unusedVariables false
set_option linter.unusedSimpArgs false
attribute [local irreducible] sixS bt strOfNums sgn
theorem dl_neg {c : Int} (h : sixS c < 0) (t : List Int) (b : Int) (n : Nat) : dl (c :: t) b n = none := by rw [dl, if_pos h]
theorem six_nat {c : Int} (h : ¬ sixS c < 0) : ∃ m : Nat, sixS c = (m : Int) ∧ m < 64 ∧ sgn m = c := by
  have a := sixS_lt c
  refine ⟨(sixS c).toNat, by omega, by omega, sgn_six (by omega)⟩
theorem dl_some_pos {c : Int} {t : List Int} {b : Int} {n : Nat} {r : List Int} (h : dl (c :: t) b n = some r) : ¬ sixS c < 0 := fun hn => by rw [dl_neg hn] at h; simp at h
theorem enc_dl : ∀ (n : Nat) (t r : List Int), t.length ≤ n → t.length % 4 ≠ 1 → dl t 0 0 = some r → encN r = t ∧ Byts r := by
  intro n
  induction n with
  | zero =>
    intro t r hn h1 h
    have : t = [] := List.eq_nil_of_length_eq_zero (by omega)
    subst this
    rw [dl, if_pos rfl] at h
    obtain rfl := Option.some.inj h
    exact ⟨rfl, Byts.nil⟩
  | succ n ih =>
    intro t r hn h1 h
    match t, hn, h1, h with
    | [], _, _, h =>
      rw [dl, if_pos rfl] at h
      obtain rfl := Option.some.inj h
      exact ⟨rfl, Byts.nil⟩
    | [_], _, h1, _ => simp at h1
    | [c0, c1], _, _, h =>
      obtain ⟨x0, e0, l0, s0⟩ := six_nat (dl_some_pos h)
      have hc1 : ¬ sixS c1 < 0 := fun hn => by rw [dl_cons e0, if_neg (by decide), dl_neg hn] at h; simp at h
      obtain ⟨x1, e1, l1, s1⟩ := six_nat hc1
      rw [dl_two e0 e1 l0 l1] at h
      split at h
      · rename_i hz
        obtain rfl := Option.some.inj h
        refine ⟨?_, Byts.cons (by omega) Byts.nil⟩
        rw [encN, ← s0, ← s1]
        congr 1
        · congr 1; omega
        · congr 2; omega
      · simp at h
    | [c0, c1, c2], _, _, h =>
      obtain ⟨x0, e0, l0, s0⟩ := six_nat (dl_some_pos h)
      have hc1 : ¬ sixS c1 < 0 := fun hn => by rw [dl_cons e0, if_neg (by decide), dl_neg hn] at h; simp at h
      obtain ⟨x1, e1, l1, s1⟩ := six_nat hc1
      have hc2 : ¬ sixS c2 < 0 := fun hn => by rw [dl_cons e0, if_neg (by decide), dl_cons e1, if_pos (by decide), dl_neg hn] at h; simp at h
      obtain ⟨x2, e2, l2, s2⟩ := six_nat hc2
      rw [dl_three e0 e1 e2 l0 l1 l2] at h
      split at h
      · rename_i hz
        obtain rfl := Option.some.inj h
        refine ⟨?_, Byts.cons (by omega) (Byts.cons (by omega) Byts.nil)⟩
        rw [encN, ← s0, ← s1, ← s2]
        congr 1
        · congr 1; omega
        · congr 1
          · congr 1; omega
          · congr 2; omega
      · simp at h
    | c0 :: c1 :: c2 :: c3 :: t, hn, h1, h =>
      obtain ⟨x0, e0, l0, s0⟩ := six_nat (dl_some_pos h)
      have hc1 : ¬ sixS c1 < 0 := fun hn => by rw [dl_cons e0, if_neg (by decide), dl_neg hn] at h; simp at h
      obtain ⟨x1, e1, l1, s1⟩ := six_nat hc1
      have hc2 : ¬ sixS c2 < 0 := fun hn => by rw [dl_cons e0, if_neg (by decide), dl_cons e1, if_pos (by decide), dl_neg hn] at h; simp at h
      obtain ⟨x2, e2, l2, s2⟩ := six_nat hc2
      have hc3 : ¬ sixS c3 < 0 := fun hn => by rw [dl_cons e0, if_neg (by decide), dl_cons e1, if_pos (by decide), dl_cons e2, if_pos (by decide), dl_neg hn] at h; simp at h
      obtain ⟨x3, e3, l3, s3⟩ := six_nat hc3
      rw [dl_four e0 e1 e2 e3 l0 l1 l2 l3] at h
      cases hd : dl t 0 0 with
      | none => rw [hd] at h; simp at h
      | some r' =>
        rw [hd, Option.map_some] at h
        obtain rfl := Option.some.inj h
        obtain ⟨h2, h3⟩ := ih t r' (by simp at hn; omega) (by simp at h1; omega) hd
        refine ⟨?_, Byts.cons (by omega) (Byts.cons (by omega) (Byts.cons (by omega) h3))⟩
        rw [encN, h2, ← s0, ← s1, ← s2, ← s3]
        congr 1
        · congr 1; omega
        · congr 1
          · congr 1; omega
          · congr 1
            · congr 1; omega
            · congr 2; omega
theorem trim1_form (l : List Int) : ∃ q, l = trim1 l ++ List.replicate q 61 := by
  unfold trim1
  split
  · rename_i h
    exact ⟨1, by rw [show List.replicate 1 (61 : Int) = l.drop (l.length - 1) from h.symm, List.take_append_drop]⟩
  · exact ⟨0, by simp⟩
theorem core_form (l : List Int) : ∃ q, l = core l ++ List.replicate q 61 := by
  obtain ⟨q1, h1⟩ := trim1_form l
  obtain ⟨q2, h2⟩ := trim1_form (trim1 l)
  refine ⟨q2 + q1, ?_⟩
  conv => lhs; rw [h1, h2]
  rw [List.append_assoc, List.replicate_append_replicate]
  rfl
theorem enc_dec {l : List Int} (hb : Byts l) : (decS l).2 = 0 → encL (decS l).1 = l ∧ Byts (decS l).1 ∧ (decS l).1.length ≤ 100000 := by
  intro h
  have key : ∀ p : List Int × Int, decS l = p → p.2 = 0 → encL p.1 = l ∧ Byts p.1 ∧ p.1.length ≤ 100000 := by
    intro p hp h0
    unfold decS at hp
    split at hp
    · subst hp; simp at h0
    · rename_i hlen
      split at hp
      · subst hp; simp at h0
      · rename_i h4
        split at hp
        · subst hp; simp at h0
        · rename_i hc
          cases hd : dl (core l) 0 0 with
          | none => rw [hd] at hp; subst hp; simp [dlR] at h0
          | some r =>
            rw [hd] at hp
            subst hp
            rw [show (dlR [] (some r)).1 = r from rfl]
            have c1 : (core l).length % 4 ≠ 1 := fun e => hc (.inl e)
            obtain ⟨h1, h2⟩ := enc_dl (core l).length (core l) r (Nat.le_refl _) c1 hd
            obtain ⟨q, hq⟩ := core_form l
            have hql : l.length = (core l).length + q := by have := congrArg List.length hq; simpa using this
            have hq2 : l.length - (core l).length = (4 - (core l).length % 4) % 4 := Decidable.byContradiction fun e => hc (.inr (.inr e))
            have he : encL r = l := by
              rw [encL_pad r.length r (Nat.le_refl _), h1]
              unfold padE
              rw [← hq2, hql, Nat.add_sub_cancel_left]
              exact hq.symm
            refine ⟨he, h2, ?_⟩
            have := encL_len (L := r)
            rw [he] at this
            omega
  exact key _ rfl h
theorem dec_err {l : List Int} : (decS l).2 ≠ 0 → (decS l).1 = [] := by
  unfold decS
  split
  · intro _; rfl
  · split
    · intro _; rfl
    · split
      · intro _; rfl
      · cases dl (core l) 0 0 with
        | none => intro _; rfl
        | some r => intro h; exact absurd rfl h
theorem hex_unhex {l : List Int} : (unhexS l).2 = 0 → hexL (unhexS l).1 = l ∧ Byts (unhexS l).1 ∧ (unhexS l).1.length ≤ 100000 := by
  have key : ∀ p : List Int × Int, unhexS l = p → p.2 = 0 → hexL p.1 = l ∧ Byts p.1 ∧ p.1.length ≤ 100000 := by
    intro p hp h0
    unfold unhexS at hp
    split at hp
    · subst hp; simp at h0
    · split at hp
      · rename_i h1 h2
        cases hu : uh l with
        | none => rw [hu] at hp; subst hp; simp [uhR] at h0
        | some r =>
          rw [hu] at hp
          subst hp
          obtain ⟨e1, e2, e3⟩ := hex_uh (l.length / 2) l r (by omega) hu
          exact ⟨e1, e2, by show r.length ≤ _; omega⟩
      · subst hp; simp at h0
  exact key _ rfl
theorem unhex_err {l : List Int} : (unhexS l).2 ≠ 0 → (unhexS l).1 = [] := by
  unfold unhexS
  split
  · intro _; rfl
  · split
    · cases uh l with
      | none => intro _; rfl
      | some r => intro h; exact absurd rfl h
    · intro _; rfl
theorem vg_bound {t : List Int} {u : Nat} (h : vg t 0 = some u) : u < 10 ^ t.length := by
  have := vg_lt t 0 u 0 h (by decide)
  rwa [Nat.zero_add] at this
theorem itoa_atoi {l : List Int} : ((atoiS l).2 = 0 → itoaL (atoiS l).1 = l ∧ -9223372036854775808 ≤ (atoiS l).1 ∧ (atoiS l).1 ≤ 9223372036854775807) ∧ ((atoiS l).2 ≠ 0 → (atoiS l).1 = 0) := by
  have key : ∀ p : Int × Int, atoiS l = p → (p.2 = 0 → itoaL p.1 = l ∧ -9223372036854775808 ≤ p.1 ∧ p.1 ≤ 9223372036854775807) ∧ (p.2 ≠ 0 → p.1 = 0) := by
    intro p hp
    unfold atoiS at hp
    have bad : ((0, 5) : Int × Int) = p → (p.2 = 0 → itoaL p.1 = l ∧ -9223372036854775808 ≤ p.1 ∧ p.1 ≤ 9223372036854775807) ∧ (p.2 ≠ 0 → p.1 = 0) := by
      intro h; subst h; exact ⟨fun h => by simp at h, fun _ => rfl⟩
    split at hp
    · exact bad hp
    · rename_i h0
      split at hp
      · exact bad hp
      · split at hp
        · exact bad hp
        · rename_i hc
          have hpos : 1 ≤ (body l).length := List.length_pos_iff.2 h0
          cases hv : vg (body l) 0 with
          | none => rw [hv] at hp; exact bad hp
          | some u =>
            rw [hv, resB] at hp
            have hi := dec_iff hpos hv
            by_cases h45 : l.take 1 = [45]
            · rw [decide_eq_true h45, if_pos rfl] at hp
              obtain ⟨d, rfl⟩ := take1_45 h45
              have hbd : body (45 :: d) = d := by unfold body; rw [if_pos h45]; rfl
              rw [hbd] at h0 hc hpos hv hi
              split at hp
              · have h48 : d.take 1 ≠ [48] := fun e => hc ⟨e, .inr h45⟩
                have hu : 1 ≤ u := (dec_vg d.length d u rfl hpos hv (.inr h48)).2 h48
                subst hp
                refine ⟨fun _ => ⟨?_, by show _ ≤ -(u : Int); omega, by show -(u : Int) ≤ _; omega⟩, fun h => absurd rfl h⟩
                show itoaL (-(u : Int)) = _
                rw [itoa_neg hu, hi.2 (.inr h48)]
              · exact bad hp
            · rw [decide_eq_false h45, if_neg (by decide)] at hp
              have hbd : body l = l := by unfold body; rw [if_neg h45]
              rw [hbd] at h0 hc hpos hv hi
              split at hp
              · subst hp
                refine ⟨fun _ => ⟨?_, by show _ ≤ (u : Int); omega, by show (u : Int) ≤ _; omega⟩, fun h => absurd rfl h⟩
                show itoaL (u : Int) = _
                rw [itoa_pos, hi.2]
                by_cases h48 : l.take 1 = [48]
                · exact .inl (by have : ¬ 1 < l.length := fun h => hc ⟨h48, .inl h⟩; omega)
                · exact .inr h48
              · exact bad hp
  exact key _ rfl
end Go.Proofs.Ytgopfelmhlgglaa.Bas

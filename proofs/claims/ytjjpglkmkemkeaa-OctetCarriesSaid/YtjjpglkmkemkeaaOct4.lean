/- Plain laws: what bytes are read as has, written, just those bytes. Conditions: bytes from 0 to 255. -/
import Derived.Test.YtjjpglkmkemkeaaOct3
namespace Go.Proofs.Ytjjpglkmkemkeaa.Oct
open Go.RowKit Go.Proofs.Ytjjpglkmkemkeaa.PA Go.Proofs.YtjjpglkmkemkeaaW.PrintWords Go.Proofs.YtjjpglkmkemkeaaW.PrintLast Go.Proofs.YtjjpglkmkemkeaaW.PrintMore
set_option linter.unusedVariables false
set_option linter.unusedSimpArgs false

theorem rd_back : ∀ (t : List Int) (i : Nat) (acc x k : Int), Byts t → rdN t i acc = (x, k, 0) →
    ∃ m : Nat, x = acc + (m : Int) * 128 ^ i ∧ t.take (k.toNat - i) = enc m ∧ (0 < i → m ≠ 0) ∧ (i : Int) < k
  | [], i, acc, x, k, _, h => by simp [rdN] at h
  | b :: t, i, acc, x, k, hb, h => by
    have hbb := hb b (by simp)
    rw [rdN] at h
    split at h
    · simp at h
    · rename_i h9
      split at h
      · simp at h
      · split at h
        · rename_i h128
          simp only [Prod.mk.injEq, and_true] at h
          obtain ⟨rfl, rfl⟩ := h
          refine ⟨b.toNat, ?_, ?_, by omega, by omega⟩
          · rw [show ((b.toNat : Nat) : Int) = b by omega, show b % 128 = b by omega]
          · rw [show ((i : Int) + 1).toNat - i = 1 by omega, enc_lo (by omega), show ((b.toNat : Nat) : Int) = b by omega]
            simp
        · rename_i h128
          obtain ⟨m, hx, ht, hm, hk⟩ := rd_back t (i + 1) _ x k (fun y hy => hb y (by simp [hy])) h
          have hm0 := hm (by omega)
          refine ⟨(b % 128).toNat + 128 * m, ?_, ?_, by omega, by omega⟩
          · rw [hx, ← div_step ((b % 128).toNat + 128 * m) acc i]
            rw [show (((b % 128).toNat + 128 * m) % 128 : Nat) = (b % 128).toNat by omega, show (((b % 128).toNat + 128 * m) / 128 : Nat) = m by omega, show (((b % 128).toNat : Nat) : Int) = b % 128 by omega]
          · rw [show k.toNat - i = (k.toNat - (i + 1)) + 1 by omega, List.take_succ_cons, ht, enc_hi (n := (b % 128).toNat + 128 * m) (by omega)]
            rw [show ((((b % 128).toNat + 128 * m) % 128 + 128 : Nat) : Int) = b by omega, show (((b % 128).toNat + 128 * m) / 128 : Nat) = m by omega]

theorem rd_back0 {l : List Int} (hb : Byts l) (h : (rdN l 0 0).2.2 = 0) : enc (rdN l 0 0).1.toNat = l.take (rdN l 0 0).2.1.toNat ∧ ∀ out, numS out (rdN l 0 0).1 = (out ++ l.take (rdN l 0 0).2.1.toNat, 0) := by
  obtain ⟨b0, b1, b2, b3, b4, b5⟩ := rdN_b0 l
  obtain ⟨m, hx, ht, _, _⟩ := rd_back l 0 0 (rdN l 0 0).1 (rdN l 0 0).2.1 hb (Prod.ext rfl (Prod.ext rfl h))
  simp only [Int.zero_add, Int.pow_zero, Int.mul_one, Nat.sub_zero] at hx ht
  have e : (rdN l 0 0).1.toNat = m := by omega
  refine ⟨by rw [e, ht], fun out => ?_⟩
  unfold numS
  rw [if_neg (by omega), e, ht]

theorem bytesOf_strOfNums {xs : List Int} (h : Byts xs) : bytesOf (strOfNums xs) = xs := by
  unfold bytesOf strOfNums
  simp only [List.map_map]
  conv => rhs; rw [← List.map_id xs]
  refine List.map_congr_left fun x hx => ?_
  have := h x hx
  simp only [Function.comp, id, UInt8.toNat_ofNat']
  omega

theorem take_mid (l : List Int) (a b : Nat) (h : a ≤ b) : l.take a ++ (l.take b).drop a = l.take b := by
  conv => rhs; rw [← List.take_append_drop a (l.take b)]
  rw [List.take_take, Nat.min_eq_left h]

theorem rdT_back {l : List Int} (hb : Byts l) (h : (rdT l).2.2 = 0) : ∀ out, textS out (rdT l).1 = (out ++ l.take (rdT l).2.1.toNat, 0) := by
  obtain ⟨b0, b1, b2, b3, b4, b5⟩ := rdN_b0 l
  have key : ∀ x, rdT l = x → x.2.2 = 0 → ∀ out, textS out x.1 = (out ++ l.take x.2.1.toNat, 0) := by
    intro x hx h0 out
    unfold rdT at hx
    split at hx
    · rename_i he; subst hx; exact absurd h0 he
    · rename_i he
      have he0 : (rdN l 0 0).2.2 = 0 := by omega
      have hbk := (rd_back0 hb he0).1
      generalize (rdN l 0 0).1 = n at *
      generalize (rdN l 0 0).2.1 = j at *
      split at hx
      · subst hx; simp at h0
      · split at hx
        · subst hx; simp at h0
        · subst hx
          have hsz : (strOfNums ((l.take (j + n).toNat).drop j.toNat)).size = n.toNat := by
            rw [strOfNums_size, List.length_drop, List.length_take]; omega
          unfold textS
          simp only [hsz]
          rw [if_neg (by omega), bytesOf_strOfNums ((hb.take _).drop _), hbk, List.append_assoc, take_mid l _ _ (by omega)]
  exact key _ rfl h

/-- The items that are read have, written, the bytes that were read. -/
theorem readsL_back {α : Type} (one : List Int → α × Int × Int) (wr : List Int → α → List Int × Int) (l : List Int) (hb : Byts l)
    (h1 : ∀ t : List Int, Byts t → (one t).2.2 = 0 → ∀ out, wr out (one t).1 = (out ++ t.take (one t).2.1.toNat, 0)) (h2 : ∀ t : List Int, 0 ≤ (one t).2.1 ∧ (one t).2.1 ≤ t.length) :
    ∀ (n : Nat) (pos : Int) (acc : List α), 0 ≤ pos → pos ≤ l.length → (readsL one l n pos acc).2.2 = 0 →
      ∃ items, (readsL one l n pos acc).1 = acc ++ items ∧ items.length = n ∧ pos ≤ (readsL one l n pos acc).2.1 ∧ (readsL one l n pos acc).2.1 ≤ l.length ∧ ∀ out, writesL wr items out = (out ++ (l.take (readsL one l n pos acc).2.1.toNat).drop pos.toNat, 0)
  | 0, pos, acc, hp0, hp, h => ⟨[], by simp [readsL], rfl, by simp [readsL], by simpa [readsL] using hp, fun out => by simp [writesL, readsL]⟩
  | n + 1, pos, acc, hp0, hp, h => by
    have hq := h2 (l.drop pos.toNat)
    simp only [List.length_drop] at hq
    rw [readsL] at h ⊢
    split at h
    · rename_i he
      rw [if_pos he]
      obtain ⟨items, hi1, hi2, hi3, hi4, hi5⟩ := readsL_back one wr l hb h1 h2 n (pos + (one (l.drop pos.toNat)).2.1) (acc ++ [(one (l.drop pos.toNat)).1]) (by omega) (by omega) h
      refine ⟨(one (l.drop pos.toNat)).1 :: items, by rw [hi1, List.append_assoc, List.singleton_append], by simp [hi2], by omega, hi4, fun out => ?_⟩
      have hw := h1 (l.drop pos.toNat) (hb.drop _) he out
      rw [writesL, hw]
      simp only [if_true]
      rw [hi5]
      generalize (readsL one l n (pos + (one (l.drop pos.toNat)).2.1) (acc ++ [(one (l.drop pos.toNat)).1])).2.1 = q at *
      generalize (one (l.drop pos.toNat)).2.1 = s at *
      simp only [Prod.mk.injEq, and_true, List.append_assoc, List.append_cancel_left_eq]
      have e1 : (l.drop pos.toNat).take s.toNat = ((l.take q.toNat).drop pos.toNat).take s.toNat := by
        rw [List.drop_take, List.take_take]
        congr 1
        omega
      have e2 : (l.take q.toNat).drop (pos + s).toNat = ((l.take q.toNat).drop pos.toNat).drop s.toNat := by
        rw [List.drop_drop]
        congr 1
        omega
      rw [e1, e2, List.take_append_drop]
    · rename_i he; exact absurd h he

theorem rdL_back {α : Type} (one : List Int → α × Int × Int) (wr : List Int → α → List Int × Int) (l : List Int) (hb : Byts l)
    (h1 : ∀ t : List Int, Byts t → (one t).2.2 = 0 → ∀ out, wr out (one t).1 = (out ++ t.take (one t).2.1.toNat, 0)) (h2 : ∀ t : List Int, 0 ≤ (one t).2.1 ∧ (one t).2.1 ≤ t.length)
    (h : (rdL one l).2.2 = 0) : 0 ≤ (rdL one l).2.1 ∧ (rdL one l).2.1 ≤ l.length ∧ listS wr [] (rdL one l).1 = (l.take (rdL one l).2.1.toNat, 0) := by
  obtain ⟨b0, b1, b2, b3, b4, b5⟩ := rdN_b0 l
  have key : ∀ x, rdL one l = x → x.2.2 = 0 → 0 ≤ x.2.1 ∧ x.2.1 ≤ l.length ∧ listS wr [] x.1 = (l.take x.2.1.toNat, 0) := by
    intro x hx h0
    unfold rdL at hx
    split at hx
    · rename_i he; subst hx; exact absurd h0 he
    · rename_i he
      have he0 : (rdN l 0 0).2.2 = 0 := by omega
      have hbk := (rd_back0 hb he0).1
      generalize (rdN l 0 0).1 = n at *
      generalize (rdN l 0 0).2.1 = j at *
      split at hx
      · subst hx; simp at h0
      · subst hx
        obtain ⟨items, hi1, hi2, hi3, hi4, hi5⟩ := readsL_back one wr l hb h1 h2 n.toNat j [] b2 b3 h0
        refine ⟨by omega, hi4, ?_⟩
        rw [hi1, List.nil_append]
        unfold listS
        rw [if_neg (by omega), hi5, hi2, List.nil_append, hbk]
        generalize (readsL one l n.toNat j []).2.1 = q at *
        rw [take_mid l _ _ (by omega)]
  exact key _ rfl h

end Go.Proofs.Ytjjpglkmkemkeaa.Oct

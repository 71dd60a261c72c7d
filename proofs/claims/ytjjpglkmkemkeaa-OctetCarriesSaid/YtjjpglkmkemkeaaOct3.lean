/- Plain laws: lists of numbers and of texts, written and read; what is read has just its bytes. Conditions: as in each theorem. -/
import Derived.Test.YtjjpglkmkemkeaaOct2
import Derived.Test.YtjjpglkmkemkeaaPAx9
import Derived.Test.YtjjpglkmkemkeaaPAx10
import Derived.Test.YtjjpglkmkemkeaaPAx14
namespace Go.Proofs.Ytjjpglkmkemkeaa.Oct
open Go.RowKit Go.Proofs.Ytjjpglkmkemkeaa.PA Go.Proofs.YtjjpglkmkemkeaaW.PrintWords Go.Proofs.YtjjpglkmkemkeaaW.PrintLast Go.Proofs.YtjjpglkmkemkeaaW.PrintMore
set_option linter.unusedVariables false
set_option linter.unusedSimpArgs false

/-! ### lists that are written -/
def writesL {α : Type} (one : List Int → α → List Int × Int) : List α → List Int → List Int × Int
  | [], out => (out, 0)
  | x :: t, out => if (one out x).2 = 0 then writesL one t (one out x).1 else ([], (one out x).2)
def listS {α : Type} (one : List Int → α → List Int × Int) (l : List Int) (items : List α) : List Int × Int :=
  if 1024 < items.length then ([], 3) else writesL one items (l ++ enc items.length)

theorem numS_len (l : List Int) (n : Int) : (numS l n).1.length ≤ l.length + 9 := by
  unfold numS
  split
  · simp
  · rename_i h
    have := enc_len9 (show n.toNat ≤ 4611686018427387904 by omega)
    simp; omega
theorem textS_len (l : List Int) (s : ByteArray) : (textS l s).1.length ≤ l.length + 4105 := by
  unfold textS
  split
  · simp
  · have := enc_len9 (show s.size ≤ 4611686018427387904 by omega)
    simp [bytesOf_length]; omega

theorem rd_cons {l t : List Int} {b : Int} {i : Nat} (h : l.drop i = b :: t) : rd l (i : Int) = b ∧ i < l.length ∧ l.drop (i + 1) = t := rd_drop h
theorem rdOf_cons {α : Type} {z : α} {l t : List α} {b : α} {i : Nat} (h : l.drop i = b :: t) : rdOf z l (i : Int) = b ∧ i < l.length ∧ l.drop (i + 1) = t := by
  have hlt : i < l.length := by
    rcases Nat.lt_or_ge i l.length with h' | h'
    · exact h'
    · rw [List.drop_eq_nil_of_le h'] at h; simp at h
  rw [List.drop_eq_getElem_cons hlt] at h
  injection h with h1 h2
  exact ⟨by unfold rdOf; simp [List.getD_eq_getElem?_getD, List.getElem?_eq_getElem hlt, h1], hlt, h2⟩
theorem wrap_succ {i : Nat} (h : i < 9223372036854775807) : wrap64 ((i : Int) + 1) = ((i + 1 : Nat) : Int) := by unfold wrap64; omega

theorem list_int_l0 (items : List Int) (hi : items.length ≤ 1024) : ∀ (t : List Int) (i : Nat) (out : List Int), items.drop i = t → out.length + 9 * t.length + 9 < 140737488355328 →
    Ev (fun k => octet_list_int.l0 k out items (items.length : Int) (i : Int)) (writesL numS t out)
  | [], i, out, hd, hl => by
    have : items.length ≤ i := by simpa using hd
    refine Ev.step (f := fun _ => some (out, 0)) (fun k => ?_) (Ev.now _)
    rw [octet_list_int.l0, if_neg (by omega)]
  | b :: t, i, out, hd, hl => by
    obtain ⟨hr, hlt, hd'⟩ := rd_cons hd
    have hlen := numS_len out b
    simp only [List.length_cons] at hl
    refine Ev.step (f := fun k => (octet_Num.f k out b).bind fun bt => if bt.2 = 0 then octet_list_int.l0 k bt.1 items (items.length : Int) ((i + 1 : Nat) : Int) else some (([] : List Int), bt.2)) (fun k => ?_) ?_
    · rw [octet_list_int.l0, if_pos (by omega), if_pos (by omega), if_pos (by omega), hr, wrap_succ (by omega)]
    · refine Ev.bind (Num_ev out b (by omega)) ?_
      rw [writesL]
      by_cases h0 : (numS out b).2 = 0
      · simp only [if_pos h0]; exact list_int_l0 items hi t (i + 1) _ hd' (by omega)
      · simp only [if_neg h0]; exact Ev.now _

theorem Nums_ev (l items : List Int) (hl : l.length ≤ 1000000) : Ev (fun k => octet_Nums.f k l items) (listS numS l items) := by
  unfold octet_Nums.f octet_list_int.f listS
  refine Ev.bind (a := listS numS l items) ?_ (Ev.now _)
  unfold listS
  by_cases h : 1024 < items.length
  · simp only [if_pos h, if_pos (show (items.length : Int) > 1024 by omega)]; exact Ev.now _
  · simp only [if_neg h, if_neg (show ¬ (items.length : Int) > 1024 by omega), clone_some l (by omega), Option.bind_some, wrap_u64 (show 0 ≤ (items.length : Int) by omega) (by omega)]
    have := enc_len9 (show items.length ≤ 4611686018427387904 by omega)
    refine Ev.bind (num_ev l items.length (by omega) (by omega)) ?_
    exact list_int_l0 items (by omega) items 0 _ rfl (by simp; omega)

theorem ref_nums_l0 (items : List Int) (hi : items.length ≤ 1024) : ∀ (t : List Int) (i : Nat) (out : List Int), items.drop i = t → out.length + 9 * t.length + 9 < 140737488355328 →
    Ev (fun k => racewayref01_Nums.l0 k items out (i : Int)) (writesL numS t out)
  | [], i, out, hd, hl => by
    have : items.length ≤ i := by simpa using hd
    refine Ev.step (f := fun _ => some (out, 0)) (fun k => ?_) (Ev.now _)
    rw [racewayref01_Nums.l0, if_neg (by omega)]
  | b :: t, i, out, hd, hl => by
    obtain ⟨hr, hlt, hd'⟩ := rd_cons hd
    have hlen := numS_len out b
    simp only [List.length_cons] at hl
    refine Ev.step (f := fun k => (racewayref01_Num.f k out b).bind fun bt => if bt.2 = 0 then racewayref01_Nums.l0 k items bt.1 ((i + 1 : Nat) : Int) else some (([] : List Int), bt.2)) (fun k => ?_) ?_
    · rw [racewayref01_Nums.l0, if_pos (by omega), if_pos (by omega), hr, wrap_succ (by omega)]
    · refine Ev.bind (refNum_ev out b (by omega)) ?_
      rw [writesL]
      by_cases h0 : (numS out b).2 = 0
      · simp only [if_pos h0]; exact ref_nums_l0 items hi t (i + 1) _ hd' (by omega)
      · simp only [if_neg h0]; exact Ev.now _

theorem refNums_ev (l items : List Int) (hl : l.length ≤ 1000000) : Ev (fun k => racewayref01_Nums.f k l items) (listS numS l items) := by
  unfold racewayref01_Nums.f listS
  by_cases h : 1024 < items.length
  · simp only [if_pos h, if_pos (show (items.length : Int) > 1024 by omega)]; exact Ev.now _
  · simp only [if_neg h, if_neg (show ¬ (items.length : Int) > 1024 by omega)]
    have := enc_len9 (show items.length ≤ 4611686018427387904 by omega)
    have hS : numS l (items.length : Int) = (l ++ enc items.length, 0) := by unfold numS; rw [if_neg (by omega)]; simp
    refine Ev.bind (refNum_ev l items.length (by omega)) ?_
    rw [hS]
    exact ref_nums_l0 items (by omega) items 0 _ rfl (by simp; omega)

theorem list_string_l0 (items : List ByteArray) (hi : items.length ≤ 1024) : ∀ (t : List ByteArray) (i : Nat) (out : List Int), items.drop i = t → out.length + 4105 * t.length + 4105 < 140737488355328 →
    Ev (fun k => octet_list_string.l0 k out items (items.length : Int) (i : Int)) (writesL textS t out)
  | [], i, out, hd, hl => by
    have : items.length ≤ i := by simpa using hd
    refine Ev.step (f := fun _ => some (out, 0)) (fun k => ?_) (Ev.now _)
    rw [octet_list_string.l0, if_neg (by omega)]
  | b :: t, i, out, hd, hl => by
    obtain ⟨hr, hlt, hd'⟩ := rdOf_cons (z := ByteArray.empty) hd
    have hlen := textS_len out b
    simp only [List.length_cons] at hl
    refine Ev.step (f := fun k => (octet_Text.f k out b).bind fun bt => if bt.2 = 0 then octet_list_string.l0 k bt.1 items (items.length : Int) ((i + 1 : Nat) : Int) else some (([] : List Int), bt.2)) (fun k => ?_) ?_
    · rw [octet_list_string.l0, if_pos (by omega), if_pos (by omega), if_pos (by omega), hr, wrap_succ (by omega)]
    · refine Ev.bind (Text_ev out b (by omega)) ?_
      rw [writesL]
      by_cases h0 : (textS out b).2 = 0
      · simp only [if_pos h0]; exact list_string_l0 items hi t (i + 1) _ hd' (by omega)
      · simp only [if_neg h0]; exact Ev.now _

theorem Texts_ev (l : List Int) (items : List ByteArray) (hl : l.length ≤ 1000000) : Ev (fun k => octet_Texts.f k l items) (listS textS l items) := by
  unfold octet_Texts.f octet_list_string.f listS
  refine Ev.bind (a := listS textS l items) ?_ (Ev.now _)
  unfold listS
  by_cases h : 1024 < items.length
  · simp only [if_pos h, if_pos (show (items.length : Int) > 1024 by omega)]; exact Ev.now _
  · simp only [if_neg h, if_neg (show ¬ (items.length : Int) > 1024 by omega), clone_some l (by omega), Option.bind_some, wrap_u64 (show 0 ≤ (items.length : Int) by omega) (by omega)]
    have := enc_len9 (show items.length ≤ 4611686018427387904 by omega)
    refine Ev.bind (num_ev l items.length (by omega) (by omega)) ?_
    exact list_string_l0 items (by omega) items 0 _ rfl (by simp; omega)

theorem ref_texts_l0 (items : List ByteArray) (hi : items.length ≤ 1024) : ∀ (t : List ByteArray) (i : Nat) (out : List Int), items.drop i = t → out.length + 4105 * t.length + 4105 < 140737488355328 →
    Ev (fun k => racewayref01_Texts.l0 k items out (i : Int)) (writesL textS t out)
  | [], i, out, hd, hl => by
    have : items.length ≤ i := by simpa using hd
    refine Ev.step (f := fun _ => some (out, 0)) (fun k => ?_) (Ev.now _)
    rw [racewayref01_Texts.l0, if_neg (by omega)]
  | b :: t, i, out, hd, hl => by
    obtain ⟨hr, hlt, hd'⟩ := rdOf_cons (z := ByteArray.empty) hd
    have hlen := textS_len out b
    simp only [List.length_cons] at hl
    refine Ev.step (f := fun k => (racewayref01_Text.f k out b).bind fun bt => if bt.2 = 0 then racewayref01_Texts.l0 k items bt.1 ((i + 1 : Nat) : Int) else some (([] : List Int), bt.2)) (fun k => ?_) ?_
    · rw [racewayref01_Texts.l0, if_pos (by omega), if_pos (by omega), hr, wrap_succ (by omega)]
    · refine Ev.bind (refText_ev out b (by omega)) ?_
      rw [writesL]
      by_cases h0 : (textS out b).2 = 0
      · simp only [if_pos h0]; exact ref_texts_l0 items hi t (i + 1) _ hd' (by omega)
      · simp only [if_neg h0]; exact Ev.now _

theorem refTexts_ev (l : List Int) (items : List ByteArray) (hl : l.length ≤ 1000000) : Ev (fun k => racewayref01_Texts.f k l items) (listS textS l items) := by
  unfold racewayref01_Texts.f listS
  by_cases h : 1024 < items.length
  · simp only [if_pos h, if_pos (show (items.length : Int) > 1024 by omega)]; exact Ev.now _
  · simp only [if_neg h, if_neg (show ¬ (items.length : Int) > 1024 by omega)]
    have := enc_len9 (show items.length ≤ 4611686018427387904 by omega)
    have hS : numS l (items.length : Int) = (l ++ enc items.length, 0) := by unfold numS; rw [if_neg (by omega)]; simp
    refine Ev.bind (refNum_ev l items.length (by omega)) ?_
    rw [hS]
    exact ref_texts_l0 items (by omega) items 0 _ rfl (by simp; omega)

/-! ### lists that are read -/
theorem rdN_b0 (l : List Int) : 0 ≤ (rdN l 0 0).1 ∧ (rdN l 0 0).1 ≤ 4611686018427387904 ∧ 0 ≤ (rdN l 0 0).2.1 ∧ (rdN l 0 0).2.1 ≤ l.length ∧ ((rdN l 0 0).2.2 = 0 → 0 < (rdN l 0 0).2.1) ∧ ((rdN l 0 0).2.2 = 0 ∨ (rdN l 0 0).2.2 = 4 ∨ (rdN l 0 0).2.2 = 5) := by
  have h := rdN_bounds l 0 0 (by omega) (rdN l 0 0).1 (rdN l 0 0).2.1 (rdN l 0 0).2.2 rfl
  simpa using h
def readsL {α : Type} (one : List Int → α × Int × Int) (l : List Int) : Nat → Int → List α → List α × Int × Int
  | 0, pos, acc => (acc, pos, 0)
  | n + 1, pos, acc => if (one (l.drop pos.toNat)).2.2 = 0 then readsL one l n (pos + (one (l.drop pos.toNat)).2.1) (acc ++ [(one (l.drop pos.toNat)).1]) else ([], 0, (one (l.drop pos.toNat)).2.2)
def rdL {α : Type} (one : List Int → α × Int × Int) (l : List Int) : List α × Int × Int :=
  if (rdN l 0 0).2.2 ≠ 0 then ([], 0, (rdN l 0 0).2.2) else if 1024 < (rdN l 0 0).1 then ([], 0, 3) else readsL one l (rdN l 0 0).1.toNat (rdN l 0 0).2.1 []
def rdN0 (l : List Int) : Int × Int × Int := rdN l 0 0

theorem rdT_bounds (l : List Int) : 0 ≤ (rdT l).2.1 ∧ (rdT l).2.1 ≤ l.length ∧ ((rdT l).2.2 = 0 ∨ (rdT l).2.2 = 3 ∨ (rdT l).2.2 = 4 ∨ (rdT l).2.2 = 5) := by
  obtain ⟨b0, b1, b2, b3, b4, b5⟩ := rdN_b0 l
  have key : ∀ x, rdT l = x → 0 ≤ x.2.1 ∧ x.2.1 ≤ l.length ∧ (x.2.2 = 0 ∨ x.2.2 = 3 ∨ x.2.2 = 4 ∨ x.2.2 = 5) := by
    intro x h
    unfold rdT at h
    generalize (rdN l 0 0).1 = n at *
    generalize (rdN l 0 0).2.1 = j at *
    generalize (rdN l 0 0).2.2 = e at *
    split at h
    · subst h; exact ⟨by simp, by simp, by simp only; omega⟩
    · split at h
      · subst h; exact ⟨by simp, by simp, by simp⟩
      · split at h
        · subst h; exact ⟨by simp, by simp, by simp⟩
        · subst h; exact ⟨by simp only; omega, by simp only; omega, by simp⟩
  exact key _ rfl
theorem rdN0_bounds (l : List Int) : 0 ≤ (rdN0 l).2.1 ∧ (rdN0 l).2.1 ≤ l.length := by
  obtain ⟨b0, b1, b2, b3, b4, b5⟩ := rdN_b0 l
  exact ⟨b2, by unfold rdN0; omega⟩

theorem read_int_l0 (l : List Int) (hb : Byts l) (hl : l.length < 140737488355328) (n : Int) (hn : n ≤ 1024) : ∀ (d : Nat) (i : Int) (pos : Int) (acc : List Int), i + d = n → 0 ≤ i → (acc.length : Int) ≤ i → 0 ≤ pos → pos ≤ l.length →
    Ev (fun k => octet_read_int.l0 k l acc pos n i) (readsL rdN0 l d pos acc)
  | 0, i, pos, acc, hd, h0, ha, hp0, hp => by
    refine Ev.step (f := fun _ => some (acc, pos, 0)) (fun k => ?_) (Ev.now _)
    rw [octet_read_int.l0, if_neg (by omega)]
  | d + 1, i, pos, acc, hd, h0, ha, hp0, hp => by
    have hq := rdN0_bounds (l.drop pos.toNat)
    simp only [List.length_drop] at hq
    refine Ev.step (f := fun k => (octet_ReadNum.f k (l.drop pos.toNat)).bind fun bt => if bt.2.2 = 0 then octet_read_int.l0 k l (acc ++ [bt.1]) (wrap64 (pos + bt.2.1)) n (i + 1) else some (([] : List Int), 0, bt.2.2)) (fun k => ?_) ?_
    · rw [octet_read_int.l0, if_pos (by omega), if_pos hp0, if_pos hp]
      simp only [if_pos (show acc.length < 17592186044416 by omega), show wrap64 (i + 1) = i + 1 by unfold wrap64; omega]
    · refine Ev.bind (a := rdN0 (l.drop pos.toNat)) (ReadNum_ev _ (hb.drop _) (by simp; omega)) ?_
      rw [readsL]
      by_cases he : (rdN0 (l.drop pos.toNat)).2.2 = 0
      · simp only [if_pos he, show wrap64 (pos + (rdN0 (l.drop pos.toNat)).2.1) = pos + (rdN0 (l.drop pos.toNat)).2.1 by unfold wrap64; omega]
        exact read_int_l0 l hb hl n hn d (i + 1) _ _ (by omega) (by omega) (by simp; omega) (by omega) (by omega)
      · simp only [if_neg he]; exact Ev.now _

theorem ReadNums_ev (l : List Int) (hb : Byts l) (hl : l.length < 140737488355328) : Ev (fun k => octet_ReadNums.f k l) (rdL rdN0 l) := by
  unfold octet_ReadNums.f octet_read_int.f
  refine Ev.bind (a := rdL rdN0 l) ?_ (Ev.now _)
  refine Ev.bind (ReadNum_ev l hb (by omega)) ?_
  obtain ⟨b0, b1, b2, b3, b4, b5⟩ := rdN_b0 l
  unfold rdL
  by_cases he : (rdN l 0 0).2.2 = 0
  · simp only [if_pos he, if_neg (show ¬ (rdN l 0 0).2.2 ≠ 0 by omega), gt_iff_lt]
    by_cases h1 : 1024 < (rdN l 0 0).1
    · simp only [if_pos h1]; exact Ev.now _
    · simp only [if_neg h1]
      exact read_int_l0 l hb hl _ (by omega) _ 0 _ [] (by omega) (by omega) (by simp) b2 (by omega)
  · simp only [if_neg he, if_pos (show (rdN l 0 0).2.2 ≠ 0 from he)]; exact Ev.now _

theorem ref_readnums_l0 (l : List Int) (hb : Byts l) (hl : l.length < 140737488355328) (n : Int) (hn : n ≤ 1024) : ∀ (d : Nat) (i : Int) (pos : Int) (acc : List Int), i + d = n → 0 ≤ i → (acc.length : Int) ≤ i → 0 ≤ pos → pos ≤ l.length →
    Ev (fun k => racewayref01_ReadNums.l0 k l n pos acc i) (readsL rdN0 l d pos acc)
  | 0, i, pos, acc, hd, h0, ha, hp0, hp => by
    refine Ev.step (f := fun _ => some (acc, pos, 0)) (fun k => ?_) (Ev.now _)
    rw [racewayref01_ReadNums.l0, if_neg (by omega)]
  | d + 1, i, pos, acc, hd, h0, ha, hp0, hp => by
    have hq := rdN0_bounds (l.drop pos.toNat)
    simp only [List.length_drop] at hq
    refine Ev.step (f := fun k => (racewayref01_ReadNum.f k (l.drop pos.toNat)).bind fun bt => if bt.2.2 = 0 then racewayref01_ReadNums.l0 k l n (wrap64 (pos + bt.2.1)) (acc ++ [bt.1]) (i + 1) else some (([] : List Int), 0, bt.2.2)) (fun k => ?_) ?_
    · rw [racewayref01_ReadNums.l0, if_pos (by omega), if_pos hp0, if_pos hp]
      simp only [if_pos (show acc.length < 17592186044416 by omega), show wrap64 (i + 1) = i + 1 by unfold wrap64; omega]
    · refine Ev.bind (a := rdN0 (l.drop pos.toNat)) (refReadNum_ev _ (hb.drop _) (by simp; omega)) ?_
      rw [readsL]
      by_cases he : (rdN0 (l.drop pos.toNat)).2.2 = 0
      · simp only [if_pos he, show wrap64 (pos + (rdN0 (l.drop pos.toNat)).2.1) = pos + (rdN0 (l.drop pos.toNat)).2.1 by unfold wrap64; omega]
        exact ref_readnums_l0 l hb hl n hn d (i + 1) _ _ (by omega) (by omega) (by simp; omega) (by omega) (by omega)
      · simp only [if_neg he]; exact Ev.now _

theorem refReadNums_ev (l : List Int) (hb : Byts l) (hl : l.length < 140737488355328) : Ev (fun k => racewayref01_ReadNums.f k l) (rdL rdN0 l) := by
  unfold racewayref01_ReadNums.f
  refine Ev.bind (refReadNum_ev l hb (by omega)) ?_
  obtain ⟨b0, b1, b2, b3, b4, b5⟩ := rdN_b0 l
  unfold rdL
  by_cases he : (rdN l 0 0).2.2 = 0
  · simp only [if_pos he, if_neg (show ¬ (rdN l 0 0).2.2 ≠ 0 by omega), gt_iff_lt]
    by_cases h1 : 1024 < (rdN l 0 0).1
    · simp only [if_pos h1]; exact Ev.now _
    · simp only [if_neg h1]
      exact ref_readnums_l0 l hb hl _ (by omega) _ 0 _ [] (by omega) (by omega) (by simp) b2 (by omega)
  · simp only [if_neg he, if_pos (show (rdN l 0 0).2.2 ≠ 0 from he)]; exact Ev.now _

theorem read_string_l0 (l : List Int) (hb : Byts l) (hl : l.length < 140737488355328) (n : Int) (hn : n ≤ 1024) : ∀ (d : Nat) (i : Int) (pos : Int) (acc : List ByteArray), i + d = n → 0 ≤ i → (acc.length : Int) ≤ i → 0 ≤ pos → pos ≤ l.length →
    Ev (fun k => octet_read_string.l0 k l acc pos n i) (readsL rdT l d pos acc)
  | 0, i, pos, acc, hd, h0, ha, hp0, hp => by
    refine Ev.step (f := fun _ => some (acc, pos, 0)) (fun k => ?_) (Ev.now _)
    rw [octet_read_string.l0, if_neg (by omega)]
  | d + 1, i, pos, acc, hd, h0, ha, hp0, hp => by
    have hq := rdT_bounds (l.drop pos.toNat)
    simp only [List.length_drop] at hq
    refine Ev.step (f := fun k => (octet_ReadText.f k (l.drop pos.toNat)).bind fun bt => if bt.2.2 = 0 then octet_read_string.l0 k l (acc ++ [bt.1]) (wrap64 (pos + bt.2.1)) n (i + 1) else some (([] : List ByteArray), 0, bt.2.2)) (fun k => ?_) ?_
    · rw [octet_read_string.l0, if_pos (by omega), if_pos hp0, if_pos hp]
      simp only [if_pos (show acc.length < 8796093022208 by omega), show wrap64 (i + 1) = i + 1 by unfold wrap64; omega]
    · refine Ev.bind (a := rdT (l.drop pos.toNat)) (ReadText_ev _ (hb.drop _) (by simp; omega)) ?_
      rw [readsL]
      by_cases he : (rdT (l.drop pos.toNat)).2.2 = 0
      · simp only [if_pos he, show wrap64 (pos + (rdT (l.drop pos.toNat)).2.1) = pos + (rdT (l.drop pos.toNat)).2.1 by unfold wrap64; omega]
        exact read_string_l0 l hb hl n hn d (i + 1) _ _ (by omega) (by omega) (by simp; omega) (by omega) (by omega)
      · simp only [if_neg he]; exact Ev.now _

theorem ReadTexts_ev (l : List Int) (hb : Byts l) (hl : l.length < 140737488355328) : Ev (fun k => octet_ReadTexts.f k l) (rdL rdT l) := by
  unfold octet_ReadTexts.f octet_read_string.f
  refine Ev.bind (a := rdL rdT l) ?_ (Ev.now _)
  refine Ev.bind (ReadNum_ev l hb (by omega)) ?_
  obtain ⟨b0, b1, b2, b3, b4, b5⟩ := rdN_b0 l
  unfold rdL
  by_cases he : (rdN l 0 0).2.2 = 0
  · simp only [if_pos he, if_neg (show ¬ (rdN l 0 0).2.2 ≠ 0 by omega), gt_iff_lt]
    by_cases h1 : 1024 < (rdN l 0 0).1
    · simp only [if_pos h1]; exact Ev.now _
    · simp only [if_neg h1]
      exact read_string_l0 l hb hl _ (by omega) _ 0 _ [] (by omega) (by omega) (by simp) b2 (by omega)
  · simp only [if_neg he, if_pos (show (rdN l 0 0).2.2 ≠ 0 from he)]; exact Ev.now _

theorem ref_readtexts_l0 (l : List Int) (hb : Byts l) (hl : l.length < 140737488355328) (n : Int) (hn : n ≤ 1024) : ∀ (d : Nat) (i : Int) (pos : Int) (acc : List ByteArray), i + d = n → 0 ≤ i → (acc.length : Int) ≤ i → 0 ≤ pos → pos ≤ l.length →
    Ev (fun k => racewayref01_ReadTexts.l0 k l n pos acc i) (readsL rdT l d pos acc)
  | 0, i, pos, acc, hd, h0, ha, hp0, hp => by
    refine Ev.step (f := fun _ => some (acc, pos, 0)) (fun k => ?_) (Ev.now _)
    rw [racewayref01_ReadTexts.l0, if_neg (by omega)]
  | d + 1, i, pos, acc, hd, h0, ha, hp0, hp => by
    have hq := rdT_bounds (l.drop pos.toNat)
    simp only [List.length_drop] at hq
    refine Ev.step (f := fun k => (racewayref01_ReadText.f k (l.drop pos.toNat)).bind fun bt => if bt.2.2 = 0 then racewayref01_ReadTexts.l0 k l n (wrap64 (pos + bt.2.1)) (acc ++ [bt.1]) (i + 1) else some (([] : List ByteArray), 0, bt.2.2)) (fun k => ?_) ?_
    · rw [racewayref01_ReadTexts.l0, if_pos (by omega), if_pos hp0, if_pos hp]
      simp only [if_pos (show acc.length < 8796093022208 by omega), show wrap64 (i + 1) = i + 1 by unfold wrap64; omega]
    · refine Ev.bind (a := rdT (l.drop pos.toNat)) (refReadText_ev _ (hb.drop _) (by simp; omega)) ?_
      rw [readsL]
      by_cases he : (rdT (l.drop pos.toNat)).2.2 = 0
      · simp only [if_pos he, show wrap64 (pos + (rdT (l.drop pos.toNat)).2.1) = pos + (rdT (l.drop pos.toNat)).2.1 by unfold wrap64; omega]
        exact ref_readtexts_l0 l hb hl n hn d (i + 1) _ _ (by omega) (by omega) (by simp; omega) (by omega) (by omega)
      · simp only [if_neg he]; exact Ev.now _

theorem refReadTexts_ev (l : List Int) (hb : Byts l) (hl : l.length < 140737488355328) : Ev (fun k => racewayref01_ReadTexts.f k l) (rdL rdT l) := by
  unfold racewayref01_ReadTexts.f
  refine Ev.bind (refReadNum_ev l hb (by omega)) ?_
  obtain ⟨b0, b1, b2, b3, b4, b5⟩ := rdN_b0 l
  unfold rdL
  by_cases he : (rdN l 0 0).2.2 = 0
  · simp only [if_pos he, if_neg (show ¬ (rdN l 0 0).2.2 ≠ 0 by omega), gt_iff_lt]
    by_cases h1 : 1024 < (rdN l 0 0).1
    · simp only [if_pos h1]; exact Ev.now _
    · simp only [if_neg h1]
      exact ref_readtexts_l0 l hb hl _ (by omega) _ 0 _ [] (by omega) (by omega) (by simp) b2 (by omega)
  · simp only [if_neg he, if_pos (show (rdN l 0 0).2.2 ≠ 0 from he)]; exact Ev.now _

/-! ### a list is like itself -/
theorem sameNums_ev (a : List Int) (ha : a.length < 9223372036854775807) : Ev (fun k => racewayref01_SameNums.f k a a) true := by
  unfold racewayref01_SameNums.f
  simp only [if_true]
  have loop : ∀ (d i : Nat), i + d = a.length → Ev (fun k => racewayref01_SameNums.l0 k a a (i : Int)) true := by
    intro d
    induction d with
    | zero =>
      intro i h
      refine Ev.step (f := fun _ => some true) (fun k => ?_) (Ev.now _)
      rw [racewayref01_SameNums.l0, if_neg (by omega)]
    | succ d ih =>
      intro i h
      refine Ev.step (f := fun k => racewayref01_SameNums.l0 k a a ((i + 1 : Nat) : Int)) (fun k => ?_) (ih (i + 1) (by omega))
      rw [racewayref01_SameNums.l0, if_pos (by omega), if_pos (by omega), if_pos (by omega), if_pos rfl, wrap_succ (by omega)]
  exact loop a.length 0 (by omega)
theorem sameTexts_ev (a : List ByteArray) (ha : a.length < 9223372036854775807) : Ev (fun k => racewayref01_SameTexts.f k a a) true := by
  unfold racewayref01_SameTexts.f
  simp only [if_true]
  have loop : ∀ (d i : Nat), i + d = a.length → Ev (fun k => racewayref01_SameTexts.l0 k a a (i : Int)) true := by
    intro d
    induction d with
    | zero =>
      intro i h
      refine Ev.step (f := fun _ => some true) (fun k => ?_) (Ev.now _)
      rw [racewayref01_SameTexts.l0, if_neg (by omega)]
    | succ d ih =>
      intro i h
      refine Ev.step (f := fun k => racewayref01_SameTexts.l0 k a a ((i + 1 : Nat) : Int)) (fun k => ?_) (ih (i + 1) (by omega))
      rw [racewayref01_SameTexts.l0, if_pos (by omega), if_pos (by omega), if_pos (by omega), if_pos rfl, wrap_succ (by omega)]
  exact loop a.length 0 (by omega)
theorem readsL_len {α : Type} (one : List Int → α × Int × Int) (l : List Int) : ∀ (n : Nat) (pos : Int) (acc : List α), (readsL one l n pos acc).1.length ≤ acc.length + n
  | 0, pos, acc => by simp [readsL]
  | n + 1, pos, acc => by
    rw [readsL]
    split
    · have := readsL_len one l n (pos + (one (l.drop pos.toNat)).2.1) (acc ++ [(one (l.drop pos.toNat)).1])
      simp at this; omega
    · simp
theorem rdL_len {α : Type} (one : List Int → α × Int × Int) (l : List Int) : (rdL one l).1.length ≤ 1024 := by
  obtain ⟨b0, b1, b2, b3, b4, b5⟩ := rdN_b0 l
  unfold rdL
  split
  · simp
  · split
    · simp
    · have := readsL_len one l (rdN l 0 0).1.toNat (rdN l 0 0).2.1 []
      simp at this; omega

end Go.Proofs.Ytjjpglkmkemkeaa.Oct

/- Plain laws: texts that are written are read as they were, whatever stands behind; cut anywhere they are short. Conditions: as in each theorem. -/
import Derived.Test.YtjjpglkmkemkeaaOct4
namespace Go.Proofs.Ytjjpglkmkemkeaa.Oct
open Go.RowKit Go.Proofs.Ytjjpglkmkemkeaa.PA Go.Proofs.YtjjpglkmkemkeaaW.PrintWords Go.Proofs.YtjjpglkmkemkeaaW.PrintLast Go.Proofs.YtjjpglkmkemkeaaW.PrintMore
/-- A text as it is written. -/
def wT (s : ByteArray) : List Int := enc s.size ++ bytesOf s
/-- Texts as they are written, one behind the other. -/
def wTs : List ByteArray → List Int
  | [] => []
  | s :: t => wT s ++ wTs t
theorem strOfNums_bytesOf' (t : ByteArray) : strOfNums (bytesOf t) = t := by
  refine ByteArray.ext (Array.toList_inj.1 ?_)
  rw [strOfNums_data]
  unfold bytesOf
  rw [List.map_map]
  conv => rhs; rw [← List.map_id t.data.toList]
  exact List.map_congr_left fun b _ => by simp
theorem bytesOf_byts' (s : ByteArray) : Byts (bytesOf s) := fun x hx => by
  unfold bytesOf at hx
  obtain ⟨b, _, rfl⟩ := List.mem_map.1 hx
  have := b.toNat_lt
  omega
theorem wT_len (s : ByteArray) (h : s.size ≤ 200) : (wT s).length ≤ 209 ∧ 0 < (wT s).length := by
  unfold wT
  rw [List.length_append, bytesOf_length]
  have := enc_len9 (show s.size ≤ 4611686018427387904 by omega)
  have := enc_len_pos s.size
  omega
theorem wTs_byts : ∀ l : List ByteArray, Byts (wTs l)
  | [] => Byts.nil
  | s :: t => (((enc_byts _).append (bytesOf_byts' s)).append (wTs_byts t))
theorem wTs_len : ∀ l : List ByteArray, (∀ s ∈ l, s.size ≤ 200) → (wTs l).length ≤ 209 * l.length
  | [], _ => by simp [wTs]
  | s :: t, h => by
    have h1 := wT_len s (h s (by simp))
    have h2 := wTs_len t (fun x hx => h x (by simp [hx]))
    simp only [wTs, List.length_append, List.length_cons]
    omega
theorem writes_T : ∀ (l : List ByteArray) (out : List Int), (∀ s ∈ l, s.size ≤ 200) → writesL textS l out = (out ++ wTs l, 0)
  | [], out, _ => by simp [writesL, wTs]
  | s :: t, out, h => by
    have hs := h s (by simp)
    have e : textS out s = (out ++ enc s.size ++ bytesOf s, 0) := by unfold textS; rw [if_neg (by omega)]
    rw [writesL, e]
    simp only [if_true]
    rw [writes_T t _ (fun x hx => h x (by simp [hx]))]
    simp [wTs, wT]
theorem list_T (l : List ByteArray) (out : List Int) (hl : l.length ≤ 1024) (h : ∀ s ∈ l, s.size ≤ 200) : listS textS out l = (out ++ (enc l.length ++ wTs l), 0) := by
  unfold listS
  rw [if_neg (by omega), writes_T l _ h, List.append_assoc]
theorem rdT_w (t : ByteArray) (h : t.size ≤ 200) (rest : List Int) : rdT (wT t ++ rest) = (t, ((wT t).length : Int), 0) := by
  have hbl : (bytesOf t).length = t.size := bytesOf_length t
  unfold wT
  rw [List.append_assoc]
  unfold rdT
  rw [rd_enc0 (by omega) (bytesOf t ++ rest)]
  dsimp only
  rw [if_neg (by omega), if_neg (by omega), if_neg (by simp only [List.length_append, hbl]; omega)]
  have e1 : ((((enc t.size).length : Nat) : Int) + ((t.size : Nat) : Int)).toNat = (enc t.size).length + t.size := by omega
  rw [e1, Int.toNat_natCast, List.take_append, List.take_of_length_le (by omega), show (enc t.size).length + t.size - (enc t.size).length = (bytesOf t).length from by omega, List.take_left, List.drop_left]
  rw [strOfNums_bytesOf', List.length_append, hbl]
  simp
theorem rdT_cut (t : ByteArray) (h : t.size ≤ 200) (j : Nat) (hj : j < (wT t).length) : (rdT ((wT t).take j)).2.2 = 4 := by
  have hbl : (bytesOf t).length = t.size := bytesOf_length t
  unfold wT at hj ⊢
  rw [List.length_append, hbl] at hj
  unfold rdT
  rw [List.take_append]
  rcases Nat.lt_or_ge j (enc t.size).length with h1 | h1
  · rw [show j - (enc t.size).length = 0 from by omega, List.take_zero, List.append_nil, rd_enc_cut0 (by omega) h1]
    simp
  · rw [List.take_of_length_le h1, rd_enc0 (by omega)]
    dsimp only
    rw [if_neg (by omega), if_neg (by omega), if_pos (by simp only [List.length_append, List.length_take, hbl]; omega)]
theorem reads_T (L : List Int) : ∀ (l : List ByteArray) (pos : Nat) (acc : List ByteArray) (rest : List Int), (∀ s ∈ l, s.size ≤ 200) → L.drop pos = wTs l ++ rest →
    readsL rdT L l.length (pos : Int) acc = (acc ++ l, ((pos + (wTs l).length : Nat) : Int), 0)
  | [], pos, acc, rest, _, _ => by simp [readsL, wTs]
  | s :: t, pos, acc, rest, h, hd => by
    have hs := h s (by simp)
    have hd2 : L.drop pos = wT s ++ (wTs t ++ rest) := by rw [hd, wTs, List.append_assoc]
    have e := rdT_w s hs (wTs t ++ rest)
    rw [← hd2] at e
    have hd3 : L.drop (pos + (wT s).length) = wTs t ++ rest := by rw [← List.drop_drop, hd2, List.drop_left]
    rw [List.length_cons, readsL, Int.toNat_natCast, e]
    dsimp only
    rw [if_pos rfl]
    have := reads_T L t (pos + (wT s).length) (acc ++ [s]) rest (fun x hx => h x (by simp [hx])) hd3
    rw [show ((pos : Int) + ((wT s).length : Int)) = ((pos + (wT s).length : Nat) : Int) from by omega, this]
    simp only [List.append_assoc, List.singleton_append, wTs, List.length_append, Prod.mk.injEq, and_true, true_and]
    omega
theorem rdL_T (l : List ByteArray) (rest : List Int) (hl : l.length ≤ 1024) (h : ∀ s ∈ l, s.size ≤ 200) : rdL rdT ((enc l.length ++ wTs l) ++ rest) = (l, ((enc l.length ++ wTs l).length : Int), 0) := by
  unfold rdL
  rw [List.append_assoc, rd_enc0 (by omega)]
  dsimp only
  rw [if_neg (by omega), if_neg (by omega), Int.toNat_natCast]
  have := reads_T (enc l.length ++ (wTs l ++ rest)) l (enc l.length).length [] rest h (by rw [List.drop_left])
  rw [this, List.length_append]
  simp
theorem reads_cut (L : List Int) : ∀ (l : List ByteArray) (pos j : Nat) (acc : List ByteArray), (∀ s ∈ l, s.size ≤ 200) → L.drop pos = (wTs l).take j → j < (wTs l).length →
    readsL rdT L l.length (pos : Int) acc = ([], 0, 4)
  | [], pos, j, acc, _, _, hj => by simp [wTs] at hj
  | s :: t, pos, j, acc, h, hd, hj => by
    have hs := h s (by simp)
    rw [List.length_cons, readsL, Int.toNat_natCast]
    rw [wTs, List.take_append] at hd
    rw [wTs, List.length_append] at hj
    rcases Nat.lt_or_ge j (wT s).length with h1 | h1
    · rw [show j - (wT s).length = 0 from by omega, List.take_zero, List.append_nil] at hd
      have e := rdT_cut s hs j h1
      rw [← hd] at e
      rw [e, if_neg (by omega)]
    · rw [List.take_of_length_le h1] at hd
      have e := rdT_w s hs ((wTs t).take (j - (wT s).length))
      rw [← hd] at e
      rw [e]
      dsimp only
      rw [if_pos rfl, show ((pos : Int) + ((wT s).length : Int)) = ((pos + (wT s).length : Nat) : Int) from by omega]
      exact reads_cut L t (pos + (wT s).length) (j - (wT s).length) _ (fun x hx => h x (by simp [hx])) (by rw [← List.drop_drop, hd, List.drop_left]) (by omega)
theorem rdL_cut (l : List ByteArray) (j : Nat) (hl : l.length ≤ 1024) (h : ∀ s ∈ l, s.size ≤ 200) (hj : j < (enc l.length ++ wTs l).length) : rdL rdT ((enc l.length ++ wTs l).take j) = ([], 0, 4) := by
  unfold rdL
  rw [List.take_append]
  rw [List.length_append] at hj
  rcases Nat.lt_or_ge j (enc l.length).length with h1 | h1
  · rw [show j - (enc l.length).length = 0 from by omega, List.take_zero, List.append_nil, rd_enc_cut0 (by omega) h1]
    simp
  · rw [List.take_of_length_le h1, rd_enc0 (by omega)]
    dsimp only
    rw [if_neg (by omega), if_neg (by omega), Int.toNat_natCast]
    exact reads_cut _ l (enc l.length).length (j - (enc l.length).length) [] h (by rw [List.drop_left]) (by omega)
end Go.Proofs.Ytjjpglkmkemkeaa.Oct

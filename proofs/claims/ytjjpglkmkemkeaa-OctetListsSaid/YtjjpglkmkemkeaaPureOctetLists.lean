/- The plain statement of OctetLists: both texts of a list of numbers, and of a list of texts, are the same bytes. For every list of bytes, of numbers and of texts. -/
import Derived.Test.YtjjpglkmkemkeaaOct3
import Derived.Test.YtjjpglkmkemkeaaPAx11
namespace Go.Proofs.Ytjjpglkmkemkeaa.Pure
open Go.RowKit Go.Proofs.Ytjjpglkmkemkeaa.PA Go.Proofs.Ytjjpglkmkemkeaa.Oct Go.Proofs.YtjjpglkmkemkeaaW.PrintWords Go.Proofs.YtjjpglkmkemkeaaW.PrintLast
set_option linter.unusedSimpArgs false

theorem lists_l0 (x0 x1 : List Int) (hl : x0.length ≤ 6000) (l : List ByteArray) (hll : l.length ≤ 1100) (hs : ∀ s ∈ l, s.size ≤ maxLen) : ∀ (d i : Nat) (m : List ByteArray), i + d = l.length → m.length ≤ i →
    Ev (fun k => racewaylaw01_OctetLists.l0 k x0 x1 m l (l.length : Int) (i : Int)) true
  | 0, i, m, h, hm => by
    refine Ev.step (fun k => by rw [racewaylaw01_OctetLists.l0, if_neg (by omega)]) ?_
    refine Ev.bind (Nums_ev x0 x1 (by omega)) (Ev.bind (refNums_ev x0 x1 (by omega)) (Ev.bind (Texts_ev x0 m (by omega)) (Ev.bind (refTexts_ev x0 m (by omega)) ?_)))
    simp only [if_true]
    exact Ev.bind works_ev (Ev.now true)
  | d + 1, i, m, h, hm => by
    have hmem : rdOf ByteArray.empty l (i : Int) ∈ l := by
      unfold rdOf
      rw [Int.toNat_natCast, List.getD_eq_getElem?_getD, List.getElem?_eq_getElem (show i < l.length by omega)]
      exact List.getElem_mem _
    have hz := hs _ hmem
    simp only [maxLen] at hz
    have hmn : 0 ≤ mn ((rdOf ByteArray.empty l (i : Int)).size : Int) 4100 ∧ mn ((rdOf ByteArray.empty l (i : Int)).size : Int) 4100 ≤ ((rdOf ByteArray.empty l (i : Int)).size : Int) := by unfold mn; split <;> omega
    refine Ev.step (fun k => by rw [racewaylaw01_OctetLists.l0, if_pos (by omega), if_pos (by omega), if_pos (by omega), if_pos hmn.1, if_pos hmn.2, if_pos (by omega), wrap_succ (by omega)]) ?_
    exact lists_l0 x0 x1 hl l hll hs d (i + 1) _ (by omega) (by simp; omega)

theorem take_some {α : Type} (l : List α) (n : Nat) : 0 ≤ mn (l.length : Int) n ∧ mn (l.length : Int) n ≤ (l.length : Int) ∧ (l.take (mn (l.length : Int) n).toNat).length ≤ n := by
  refine ⟨?_, ?_, ?_⟩
  · unfold mn; split <;> omega
  · unfold mn; split <;> omega
  · rw [List.length_take]; unfold mn; split <;> omega

theorem OctetLists : racewaylaw01_OctetLists.Pure := by
  intro l0 l1 l2 ⟨h0, w0⟩ ⟨h1, w1⟩ ⟨h2, w2⟩
  have hl' : (l0.take 6000).length ≤ 6000 := by simp; omega
  obtain ⟨a1, a2, a3⟩ := take_some l1 1100
  obtain ⟨b1, b2, b3⟩ := take_some l2 1100
  have b4 : (l2.take (mn (l2.length : Int) 1100).toNat).length ≤ 1100 := b3
  refine Ev.rounds ?_
  unfold racewaylaw01_OctetLists.f
  have hfew : racewaylaw01_few.f l0 = some (l0.take 6000) := few_some' l0 h0
  simp only [hfew, Option.bind_some]
  simp only [if_pos (show 0 ≤ mn (l1.length : Int) 1100 from a1), if_pos (show mn (l1.length : Int) 1100 ≤ (l1.length : Int) from a2), if_pos (show 0 ≤ mn (l2.length : Int) 1100 from b1), if_pos (show mn (l2.length : Int) 1100 ≤ (l2.length : Int) from b2)]
  exact lists_l0 _ _ hl' _ b4 (fun s hs => w2 s (List.mem_of_mem_take hs)) (l2.take (mn (l2.length : Int) 1100).toNat).length 0 [] (by omega) (by simp)

end Go.Proofs.Ytjjpglkmkemkeaa.Pure

/- The plain statement of OctetOnce: what bytes are read as has, written, just those bytes. For every list of bytes. -/
import Derived.Test.YtjjpglkmkemkeaaOct4
import Derived.Test.YtjjpglkmkemkeaaPAx15
namespace Go.Proofs.Ytjjpglkmkemkeaa.Pure
open Go.RowKit Go.Proofs.Ytjjpglkmkemkeaa.PA Go.Proofs.Ytjjpglkmkemkeaa.Oct Go.Proofs.YtjjpglkmkemkeaaW.PrintWords Go.Proofs.YtjjpglkmkemkeaaW.PrintLast
set_option linter.unusedSimpArgs false

theorem once_j1 (t : List Int) (hb : Byts t) (hl : t.length ≤ 6000) : Ev (fun k => racewaylaw01_OctetOnce.j1 k t) true := by
  refine Ev.step (fun k => by rw [racewaylaw01_OctetOnce.j1]) ?_
  refine Ev.bind (ReadNums_ev t hb (by omega)) ?_
  by_cases he : (rdL rdN0 t).2.2 = 0
  · simp only [if_pos he]
    obtain ⟨h1, h2, h3⟩ := rdL_back rdN0 numS t hb (fun u hu hz => (rd_back0 hu hz).2) rdN0_bounds he
    refine Ev.bind (Nums_ev [] _ (by simp)) ?_
    rw [h3]
    simp only [if_true, if_pos h1, if_pos h2]
    exact Ev.bind works_ev (Ev.now true)
  · simp only [if_neg he]
    exact Ev.bind works_ev (Ev.now true)

theorem once_j0 (t : List Int) (hb : Byts t) (hl : t.length ≤ 6000) : Ev (fun k => racewaylaw01_OctetOnce.j0 k t) true := by
  refine Ev.step (fun k => by rw [racewaylaw01_OctetOnce.j0]) ?_
  refine Ev.bind (ReadText_ev t hb (by omega)) ?_
  obtain ⟨h1, h2, _⟩ := rdT_bounds t
  by_cases he : (rdT t).2.2 = 0
  · simp only [if_pos he]
    have h3 := rdT_back hb he []
    refine Ev.bind (Text_ev [] _ (by simp)) ?_
    rw [h3]
    simp only [if_true, if_pos h1, if_pos h2, List.nil_append]
    exact once_j1 t hb hl
  · simp only [if_neg he]
    exact once_j1 t hb hl

theorem OctetOnce : racewaylaw01_OctetOnce.Pure := by
  intro l hl _ hw
  have hb := (Byts.of_wf hw).take 6000
  have hlen : l.length ≤ 140737488351232 := by omega
  have hl' : (l.take 6000).length ≤ 6000 := by simp; omega
  refine Ev.rounds ?_
  unfold racewaylaw01_OctetOnce.f
  simp only [few_some l hlen, Option.bind_some]
  generalize l.take 6000 = t at *
  refine Ev.bind (ReadNum_ev t hb (by omega)) ?_
  obtain ⟨b0, b1, b2, b3, b4, b5⟩ := rdN_b0 t
  by_cases he : (rdN t 0 0).2.2 = 0
  · simp only [if_pos he]
    have h3 := (rd_back0 hb he).2 []
    have := b4 he
    refine Ev.bind (Num_ev [] _ (by simp)) ?_
    rw [h3]
    simp only [if_true, if_neg (show ¬ (rdN t 0 0).2.1 < 1 by omega), if_neg (show ¬ (rdN t 0 0).2.1 > (t.length : Int) by omega), if_pos b2, if_pos b3, List.nil_append]
    exact once_j0 t hb hl'
  · simp only [if_neg he]
    exact once_j0 t hb hl'

end Go.Proofs.Ytjjpglkmkemkeaa.Pure

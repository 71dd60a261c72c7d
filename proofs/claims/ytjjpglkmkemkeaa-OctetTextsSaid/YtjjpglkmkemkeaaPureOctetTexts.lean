/- The plain statement of OctetTexts: both texts of a string are the same bytes, both readings the same texts. For every list of bytes and every string. -/
import Derived.Test.YtjjpglkmkemkeaaOct2
import Derived.Test.YtjjpglkmkemkeaaPAx8
namespace Go.Proofs.Ytjjpglkmkemkeaa.Pure
open Go.RowKit Go.Proofs.Ytjjpglkmkemkeaa.PA Go.Proofs.Ytjjpglkmkemkeaa.Oct Go.Proofs.YtjjpglkmkemkeaaW.PrintWords Go.Proofs.YtjjpglkmkemkeaaW.PrintLast
set_option linter.unusedVariables false
set_option linter.unusedSimpArgs false

theorem OctetTexts : racewaylaw01_OctetTexts.Pure := by
  intro l s hl _ hw hs
  have hb := (Byts.of_wf hw).take 6000
  have hlen : l.length ≤ 140737488351232 := by omega
  have hl' : (l.take 6000).length ≤ 6000 := by simp; omega
  have hmn : 0 ≤ mn (s.size : Int) 5000 ∧ mn (s.size : Int) 5000 ≤ (s.size : Int) := by unfold mn; split <;> omega
  refine Ev.rounds ?_
  unfold racewaylaw01_OctetTexts.f
  simp only [few_some l hlen, Option.bind_some]
  simp only [if_pos hmn.1, if_pos hmn.2]
  generalize l.take 6000 = t at *
  generalize s.extract 0 _ = u
  refine Ev.bind (Text_ev t u (by omega)) (Ev.bind (refText_ev t u (by omega)) (Ev.bind (ReadText_ev t hb (by omega)) (Ev.bind (refReadText_ev t hb (by omega)) ?_)))
  simp only [if_true]
  exact Ev.bind works_ev (Ev.now true)

end Go.Proofs.Ytjjpglkmkemkeaa.Pure

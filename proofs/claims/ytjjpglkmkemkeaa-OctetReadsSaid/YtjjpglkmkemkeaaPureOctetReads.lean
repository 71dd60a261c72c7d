/- The plain statement of OctetReads: bytes are read as the same lists of numbers and of texts, or refused alike. For every list of bytes. -/
import Derived.Test.YtjjpglkmkemkeaaOct3
namespace Go.Proofs.Ytjjpglkmkemkeaa.Pure
open Go.RowKit Go.Proofs.Ytjjpglkmkemkeaa.PA Go.Proofs.Ytjjpglkmkemkeaa.Oct Go.Proofs.YtjjpglkmkemkeaaW.PrintWords Go.Proofs.YtjjpglkmkemkeaaW.PrintLast

theorem OctetReads : racewaylaw01_OctetReads.Pure := by
  intro l hl _ hw
  have hb := (Byts.of_wf hw).take 6000
  have hlen : l.length ≤ 140737488351232 := by omega
  have hl' : (l.take 6000).length ≤ 6000 := by simp; omega
  refine Ev.rounds ?_
  unfold racewaylaw01_OctetReads.f
  simp only [few_some l hlen, Option.bind_some]
  generalize l.take 6000 = t at *
  have l1 := rdL_len rdN0 t
  have l2 := rdL_len rdT t
  refine Ev.bind (ReadNums_ev t hb (by omega)) (Ev.bind (refReadNums_ev t hb (by omega)) (Ev.bind (ReadTexts_ev t hb (by omega)) (Ev.bind (refReadTexts_ev t hb (by omega)) (Ev.bind (sameNums_ev _ (by omega)) ?_))))
  simp only [if_true]
  refine Ev.bind (sameTexts_ev _ (by omega)) ?_
  simp only [if_true]
  exact Ev.bind works_ev (Ev.now true)

end Go.Proofs.Ytjjpglkmkemkeaa.Pure

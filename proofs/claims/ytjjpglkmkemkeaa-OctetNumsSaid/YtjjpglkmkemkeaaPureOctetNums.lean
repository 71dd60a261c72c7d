/- The plain statement of OctetNums: both texts of a number are the same bytes, both readings the same numbers. For every list of bytes and every number. -/
import Derived.Test.YtjjpglkmkemkeaaOct1
namespace Go.Proofs.Ytjjpglkmkemkeaa.Pure
open Go.RowKit Go.Proofs.Ytjjpglkmkemkeaa.PA Go.Proofs.Ytjjpglkmkemkeaa.Oct Go.Proofs.YtjjpglkmkemkeaaW.PrintWords Go.Proofs.YtjjpglkmkemkeaaW.PrintLast

theorem OctetNums : racewaylaw01_OctetNums.Pure := by
  intro l n hl _ hw hn
  have hb := Byts.of_wf hw
  have hlen : l.length ≤ 140737488351232 := by omega
  have hb' := hb.take 6000
  have hl' : (l.take 6000).length ≤ 6000 := by simp; omega
  obtain ⟨K1, h1⟩ := Num_ev (l.take 6000) n (by omega)
  obtain ⟨K2, h2⟩ := refNum_ev (l.take 6000) n (by omega)
  obtain ⟨K3, h3⟩ := ReadNum_ev (l.take 6000) hb' (by omega)
  obtain ⟨K4, h4⟩ := refReadNum_ev (l.take 6000) hb' (by omega)
  obtain ⟨K5, h5⟩ := works_ev
  refine ⟨K1 + K2 + K3 + K4 + K5, ?_⟩
  unfold racewaylaw01_OctetNums.f
  rw [few_some l hlen]
  simp only [Option.bind_some, h1 _ (show K1 ≤ K1 + K2 + K3 + K4 + K5 by omega), h2 _ (show K2 ≤ K1 + K2 + K3 + K4 + K5 by omega), h3 _ (show K3 ≤ K1 + K2 + K3 + K4 + K5 by omega), h4 _ (show K4 ≤ K1 + K2 + K3 + K4 + K5 by omega), h5 _ (show K5 ≤ K1 + K2 + K3 + K4 + K5 by omega), if_true]

end Go.Proofs.Ytjjpglkmkemkeaa.Pure

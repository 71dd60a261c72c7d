/- The plain statement of BasicWrites: both texts of bytes are the same, in base 64 and in base 16. For every list of bytes. -/
import Derived.Test.YtgopfelmhlgglaaBas4
namespace Go.Proofs.Ytgopfelmhlgglaa.Pure
open Go.RowKit Go.Proofs.Ytgopfelmhlgglaa.PA Go.Proofs.Ytgopfelmhlgglaa.Bas Go.Proofs.YtgopfelmhlgglaaW.PrintWords Go.Proofs.YtgopfelmhlgglaaW.PrintLast Go.Proofs.YtgopfelmhlgglaaW.PrintMore
theorem BasicWrites : racewaylaw22_BasicWrites.Pure := by
  intro l hl hl2 hw
  have hb := (Byts.of_wf hw).take 1000
  refine Ev.rounds ?_
  unfold racewaylaw22_BasicWrites.f
  have hlen : (l.take 1000).length ≤ 1000 := by rw [List.length_take]; omega
  simp only [few_some (by omega : l.length ≤ 140737488351232), Option.bind_some]
  generalize l.take 1000 = t at *
  simp only [Encode_some hb (by omega), Option.bind_some]
  refine Ev.bind (refEncode_ev hb (by omega)) ?_
  simp only [if_true]
  refine Ev.bind (Hex_ev hb (by omega)) (Ev.bind (refHex_ev hb (by omega)) ?_)
  simp only [if_true, works_some, Option.bind_some]
  exact Ev.now true
end Go.Proofs.Ytgopfelmhlgglaa.Pure

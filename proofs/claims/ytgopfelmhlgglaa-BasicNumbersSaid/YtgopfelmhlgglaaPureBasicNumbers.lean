/- The plain statement of BasicNumbers: both texts of a number are the same bytes, with noughts ahead, too. For every two numbers. -/
import Derived.Test.YtgopfelmhlgglaaBas1
namespace Go.Proofs.Ytgopfelmhlgglaa.Pure
open Go.RowKit Go.Proofs.Ytgopfelmhlgglaa.PA Go.Proofs.Ytgopfelmhlgglaa.Bas Go.Proofs.YtgopfelmhlgglaaW.PrintWords Go.Proofs.YtgopfelmhlgglaaW.PrintLast
theorem BasicNumbers : racewaylaw22_BasicNumbers.Pure := by
  intro n w hn hw
  obtain ⟨n1, n2⟩ := wf64 hn
  obtain ⟨w1, w2⟩ := wf64 hw
  refine Ev.rounds ?_
  unfold racewaylaw22_BasicNumbers.f
  simp only [Itoa_some n1 n2, Option.bind_some]
  refine Ev.bind (refItoa_ev n1 n2) ?_
  simp only [if_true, Pad_some n1 n2 w1 w2, Option.bind_some]
  refine Ev.bind (refPad_ev n1 n2) ?_
  simp only [if_true, works_some, Option.bind_some]
  exact Ev.now true
end Go.Proofs.Ytgopfelmhlgglaa.Pure

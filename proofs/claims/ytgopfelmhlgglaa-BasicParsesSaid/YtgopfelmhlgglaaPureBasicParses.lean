/- The plain statement of BasicParses: both readings of a text as a number say the same. For every text. -/
import Derived.Test.YtgopfelmhlgglaaBas2
namespace Go.Proofs.Ytgopfelmhlgglaa.Pure
open Go.RowKit Go.Proofs.Ytgopfelmhlgglaa.PA Go.Proofs.Ytgopfelmhlgglaa.Bas Go.Proofs.YtgopfelmhlgglaaW.PrintWords Go.Proofs.YtgopfelmhlgglaaW.PrintLast Go.Proofs.YtgopfelmhlgglaaW.PrintMore
theorem BasicParses : racewaylaw22_BasicParses.Pure := by
  intro s hs
  obtain ⟨L, rfl, hb0, hL⟩ := of_text s
  rw [← hL] at hs
  have hmn : 0 ≤ mn (L.length : Int) 200 ∧ mn (L.length : Int) 200 ≤ (L.length : Int) ∧ mn (L.length : Int) 200 ≤ 200 := by unfold mn; split <;> omega
  refine Ev.rounds ?_
  unfold racewaylaw22_BasicParses.f
  simp only [strOfNums_size, if_pos hmn.1, if_pos hmn.2.1, sn_extract, List.drop_zero]
  have hb := hb0.take (mn (L.length : Int) 200).toNat
  have hl : (L.take (mn (L.length : Int) 200).toNat).length ≤ 200 := by rw [List.length_take]; omega
  generalize L.take _ = l at *
  refine Ev.bind (Atoi_ev hb (by omega)) (Ev.bind (refAtoi_ev hb (by omega)) ?_)
  simp only [if_true, works_some, Option.bind_some]
  exact Ev.now true
end Go.Proofs.Ytgopfelmhlgglaa.Pure

/- The plain statement of BasicReads: both readings of a text as bytes say the same, in base 64 and in base 16. For every text. -/
import Derived.Test.YtgopfelmhlgglaaBas8
namespace Go.Proofs.Ytgopfelmhlgglaa.Pure
open Go.RowKit Go.Proofs.Ytgopfelmhlgglaa.PA Go.Proofs.Ytgopfelmhlgglaa.Bas Go.Proofs.YtgopfelmhlgglaaEnc Go.Proofs.YtgopfelmhlgglaaW.PrintWords Go.Proofs.YtgopfelmhlgglaaW.PrintLast Go.Proofs.YtgopfelmhlgglaaW.PrintMore
theorem BasicReads : racewaylaw22_BasicReads.Pure := by
  intro s hs
  obtain ⟨L, rfl, hb0, hL⟩ := of_text s
  rw [← hL] at hs
  have hmn : 0 ≤ mn (L.length : Int) 1500 ∧ mn (L.length : Int) 1500 ≤ (L.length : Int) ∧ mn (L.length : Int) 1500 ≤ 1500 := by unfold mn; split <;> omega
  refine Ev.rounds ?_
  unfold racewaylaw22_BasicReads.f
  simp only [strOfNums_size, if_pos hmn.1, if_pos hmn.2.1, sn_extract, List.drop_zero]
  have hb := hb0.take (mn (L.length : Int) 1500).toNat
  have hl : (L.take (mn (L.length : Int) 1500).toNat).length ≤ 1500 := by rw [List.length_take]; omega
  generalize L.take _ = l at *
  refine Ev.bind (Decode_ev hb (by omega)) (Ev.bind (rdec_ev hb hl) (Ev.bind (Unhex_ev hb (by omega)) (Ev.bind (refUnhex_ev hb (by omega)) ?_)))
  rw [rdec_dec hb hl]
  simp only [if_true, works_some, Option.bind_some]
  exact Ev.now true
end Go.Proofs.Ytgopfelmhlgglaa.Pure

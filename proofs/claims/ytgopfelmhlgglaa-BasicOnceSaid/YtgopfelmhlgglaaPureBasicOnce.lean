/- The plain statement of BasicOnce: what a text is read as has, written, just that text. For every text. -/
import Derived.Test.YtgopfelmhlgglaaBas7
import Derived.Test.YtgopfelmhlgglaaPAx15
namespace Go.Proofs.Ytgopfelmhlgglaa.Pure
open Go.RowKit Go.Proofs.Ytgopfelmhlgglaa.PA Go.Proofs.Ytgopfelmhlgglaa.Bas Go.Proofs.YtgopfelmhlgglaaEnc Go.Proofs.YtgopfelmhlgglaaW.PrintWords Go.Proofs.YtgopfelmhlgglaaW.PrintLast Go.Proofs.YtgopfelmhlgglaaW.PrintMore
theorem once_j1 {l : List Int} (hb : Byts l) (hl : l.length ≤ 1500) : Ev (fun k => racewaylaw22_BasicOnce.j1 k (strOfNums l) false) true := by
  refine Ev.step (f := fun k => (basic_Atoi.f k (strOfNums l)).bind fun bt249 => (if bt249.2 = 0 then ((basic_Itoa.f bt249.1).bind fun t251 => (if t251.toList = (strOfNums l).toList then (some true) else (some false))) else (if bt249.1 = 0 then (some true) else (some false)))) (fun k => by rw [racewaylaw22_BasicOnce.j1, if_neg (by decide)]; rfl) ?_
  refine Ev.bind (Atoi_ev hb (by omega)) ?_
  obtain ⟨h1, h2⟩ := itoa_atoi (l := l)
  by_cases h : (atoiS l).2 = 0
  · obtain ⟨e, b1, b2⟩ := h1 h
    simp only [if_pos h, Itoa_some b1 b2, Option.bind_some, e, if_true]
    exact Ev.now true
  · simp only [if_neg h, if_pos (h2 h)]
    exact Ev.now true
theorem once_j0 {l : List Int} (hb : Byts l) (hl : l.length ≤ 1500) : Ev (fun k => racewaylaw22_BasicOnce.j0 k (strOfNums l) false) true := by
  refine Ev.step (f := fun k => (basic_Unhex.f k (strOfNums l)).bind fun bt244 => (if bt244.2 = 0 then ((basic_Hex.f k bt244.1).bind fun t248 => (if t248.toList = (strOfNums l).toList then (racewaylaw22_BasicOnce.j1 k (strOfNums l) false) else (racewaylaw22_BasicOnce.j1 k (strOfNums l) true))) else (racewaylaw22_BasicOnce.j1 k (strOfNums l) (decide ((bt244.1.length : Int) > 0))))) (fun k => by rw [racewaylaw22_BasicOnce.j0, if_neg (by decide)]) ?_
  refine Ev.bind (Unhex_ev hb (by omega)) ?_
  by_cases h : (unhexS l).2 = 0
  · obtain ⟨e, b1, b2⟩ := hex_unhex h
    simp only [if_pos h]
    refine Ev.bind (Hex_ev b1 (by omega)) ?_
    simp only [e, if_true]
    exact once_j1 hb hl
  · simp only [if_neg h, unhex_err h, List.length_nil]
    exact once_j1 hb hl
theorem BasicOnce : racewaylaw22_BasicOnce.Pure := by
  intro s hs
  obtain ⟨L, rfl, hb0, hL⟩ := of_text s
  rw [← hL] at hs
  have hmn : 0 ≤ mn (L.length : Int) 1500 ∧ mn (L.length : Int) 1500 ≤ (L.length : Int) ∧ mn (L.length : Int) 1500 ≤ 1500 := by unfold mn; split <;> omega
  refine Ev.rounds ?_
  unfold racewaylaw22_BasicOnce.f
  simp only [strOfNums_size, if_pos hmn.1, if_pos hmn.2.1, sn_extract, List.drop_zero]
  have hb := hb0.take (mn (L.length : Int) 1500).toNat
  have hl : (L.take (mn (L.length : Int) 1500).toNat).length ≤ 1500 := by rw [List.length_take]; omega
  generalize L.take _ = l at *
  refine Ev.bind (Decode_ev hb (by omega)) ?_
  by_cases h : (decS l).2 = 0
  · obtain ⟨e, b1, b2⟩ := enc_dec hb h
    simp only [if_pos h, Encode_some b1 (by omega : (decS l).1.length ≤ 1000000), Option.bind_some, e, if_true]
    exact once_j0 hb hl
  · simp only [if_neg h, dec_err h, List.length_nil]
    exact once_j0 hb hl
end Go.Proofs.Ytgopfelmhlgglaa.Pure

/- The plain statement of BasicBack: what is written is read as it was. For every list of bytes and every number. -/
import Derived.Test.YtgopfelmhlgglaaBas6
namespace Go.Proofs.Ytgopfelmhlgglaa.Pure
open Go.RowKit Go.Proofs.Ytgopfelmhlgglaa.PA Go.Proofs.Ytgopfelmhlgglaa.Bas Go.Proofs.YtgopfelmhlgglaaEnc Go.Proofs.YtgopfelmhlgglaaW.PrintWords Go.Proofs.YtgopfelmhlgglaaW.PrintLast Go.Proofs.YtgopfelmhlgglaaW.PrintMore
theorem BasicBack : racewaylaw22_BasicBack.Pure := by
  intro l n hl hl2 hw hn
  obtain ⟨n1, n2⟩ := wf64 hn
  have hb := (Byts.of_wf hw).take 1000
  refine Ev.rounds ?_
  unfold racewaylaw22_BasicBack.f
  have hlen : (l.take 1000).length ≤ 1000 := by rw [List.length_take]; omega
  simp only [few_some (by omega : l.length ≤ 140737488351232), Option.bind_some]
  generalize l.take 1000 = t at *
  have he := encL_len (L := t)
  have heb : Byts (encL t) := fun x hx => encL_range hx
  have hhl := hexL_len t
  simp only [Encode_some hb (by omega), Option.bind_some]
  refine Ev.bind (Decode_ev heb (by omega)) (Ev.bind (Hex_ev hb (by omega)) (Ev.bind (Unhex_ev (hexL_byts hb) (by omega)) ?_))
  simp only [Itoa_some n1 n2, Option.bind_some]
  have hil := itoaL_len n1 n2
  refine Ev.bind (Atoi_ev (itoaL_byts n) (by omega)) ?_
  rw [dec_enc hb (by omega), unhex_hex hb hlen, atoi_itoa n1 n2]
  have e1 : ((strOfNums (encL t)).size : Int) = wrap64 ((wrap64 (Int.tdiv (wrap64 ((t.length : Int) + 2)) 3)) * 4) := by
    rw [strOfNums_size, he, wrap_id (n := (t.length : Int) + 2) (by omega) (by omega), Int.tdiv_eq_ediv_of_nonneg (by omega), wrap_id (n := ((t.length : Int) + 2) / 3) (by omega) (by omega), wrap_id (by omega) (by omega)]
    omega
  simp only [if_true, if_pos e1]
  refine Ev.bind (Hex_ev hb (by omega)) ?_
  have e2 : ((strOfNums (hexL t)).size : Int) = wrap64 (2 * (t.length : Int)) := by
    rw [strOfNums_size, hhl, wrap_id (by omega) (by omega)]; omega
  simp only [if_pos e2, works_some, Option.bind_some]
  exact Ev.now true
end Go.Proofs.Ytgopfelmhlgglaa.Pure

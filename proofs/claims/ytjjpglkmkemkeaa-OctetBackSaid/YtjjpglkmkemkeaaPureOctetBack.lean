/- The plain statement of OctetBack: a number's bytes are read as that number, with their length, whatever stands behind; cut anywhere they are short. For every number and every list of bytes. -/
import Derived.Test.YtjjpglkmkemkeaaOct2
import Derived.Test.YtjjpglkmkemkeaaPAx6
namespace Go.Proofs.Ytjjpglkmkemkeaa.Pure
open Go.RowKit Go.Proofs.Ytjjpglkmkemkeaa.PA Go.Proofs.Ytjjpglkmkemkeaa.Oct Go.Proofs.YtjjpglkmkemkeaaW.PrintWords Go.Proofs.YtjjpglkmkemkeaaW.PrintLast
set_option linter.unusedVariables false
set_option linter.unusedSimpArgs false

theorem back_loop (n : Nat) (hn : n ≤ 4611686018427387904) : ∀ (d i : Nat), i + d = (enc n).length → Ev (fun k => racewaylaw01_OctetBack.l0 k (enc n) ((enc n).length : Int) (i : Int)) true
  | 0, i, h => by
    refine Ev.step (f := fun k => (racewaylaw01_works.f k).bind fun t => some t) (fun k => ?_) ?_
    · rw [racewaylaw01_OctetBack.l0, if_neg (by omega)]
    · exact Ev.bind works_ev (Ev.now true)
  | d + 1, i, h => by
    have hlen := enc_len9 hn
    have ih := back_loop n hn d (i + 1) (by omega)
    refine Ev.step (f := fun k => (octet_ReadNum.f k ((enc n).take i)).bind fun bt => if bt.1 = 0 then (if bt.2.1 = 0 then (if bt.2.2 = 4 then racewaylaw01_OctetBack.l0 k (enc n) ((enc n).length : Int) ((i + 1 : Nat) : Int) else some false) else some false) else some false) (fun k => ?_) ?_
    · rw [racewaylaw01_OctetBack.l0, if_pos (by omega), if_pos (by omega), if_pos (by omega)]
      simp only [Int.toNat_natCast]
      rw [show wrap64 ((i : Int) + 1) = ((i + 1 : Nat) : Int) by unfold wrap64; omega]
    · refine Ev.bind (ReadNum_ev _ ((enc_byts n).take i) (by simp; omega)) ?_
      rw [rd_enc_cut0 hn (by omega)]
      simp only [if_true]
      exact ih

theorem OctetBack : racewaylaw01_OctetBack.Pure := by
  intro n l hn hl _ hw
  have hb := (Byts.of_wf hw).take 6000
  have hlen : l.length ≤ 140737488351232 := by omega
  have hl' : (l.take 6000).length ≤ 6000 := by simp; omega
  have hn' := i64_of_wf hn
  refine Ev.rounds ?_
  unfold racewaylaw01_OctetBack.f
  simp only [few_some l hlen, Option.bind_some]
  generalize l.take 6000 = t at *
  refine Ev.bind (Num_ev [] n (by simp)) ?_
  unfold numS
  by_cases hbad : n < 0 ∨ 4611686018427387904 < n
  · rw [if_pos hbad]
    simp only [show ¬ ((2 : Int) = 0) by decide, if_false, if_true, List.length_nil]
    simp only [show ((0 : Nat) : Int) = 0 from rfl, if_true]
    by_cases h0 : n < 0
    · simp only [if_pos h0]; exact Ev.bind works_ev (Ev.now true)
    · simp only [if_neg h0, if_pos (show n > 4611686018427387904 by omega)]; exact Ev.bind works_ev (Ev.now true)
  · rw [if_neg hbad]
    obtain ⟨m, rfl⟩ := Int.eq_ofNat_of_zero_le (show 0 ≤ n by omega)
    have hm : m ≤ 4611686018427387904 := by omega
    have he := enc_len9 hm
    simp only [if_true, List.nil_append, List.length_nil, Int.toNat_natCast]
    simp only [if_pos (show 0 + (enc m).length < 140737488355328 by omega), if_pos (show (enc m).length + t.length < 140737488355328 by omega)]
    refine Ev.bind (ReadNum_ev _ ((enc_byts m).append hb) (by simp; omega)) ?_
    rw [rd_enc0 hm]
    simp only [if_true, if_neg (show ¬ (m : Int) < 0 by omega), decide_eq_false (show ¬ ((enc m).length : Int) > 9 by omega)]
    refine Ev.step (f := fun k => racewaylaw01_OctetBack.l0 k (enc m) ((enc m).length : Int) ((0 : Nat) : Int)) (fun k => ?_) (back_loop m hm (enc m).length 0 (by omega))
    rw [racewaylaw01_OctetBack.j0, if_neg (by simp)]
    rfl

end Go.Proofs.Ytjjpglkmkemkeaa.Pure

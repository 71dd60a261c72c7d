/- The statement NetAt: the call returns true and turns nothing that was there. Conditions: numbers of 64 bits. -/
import Derived.Test.YtmlnjelhiemlpaaNetW
namespace Go.Proofs.Ytmlnjelhiemlpaa
open Go.RowKit Go.Proofs.YtmlnjelhiemlpaaW.PrintWords Go.Proofs.YtmlnjelhiemlpaaW.PrintLast Go.Proofs.YtmlnjelhiemlpaaW.PrintMore
theorem atF_in (n size : Int) (h : 0 < size) : 0 ≤ atF n size ∧ atF n size < size := by
  unfold atF
  rw [if_neg (by omega)]
  exact ⟨Int.emod_nonneg _ (by omega), Int.emod_lt_of_pos _ h⟩
set_option maxHeartbeats 2000000 in
set_option maxRecDepth 100000 in
theorem walk_at (w : World) (n : Int) (_hn : (Lit.int .i64 n).wf = true) (size : Int) (hs : (Lit.int .i64 size).wf = true) :
    Calls Try.prog 3 #[.int .i64 n, .int .i64 size] w fun e w' => e = .returned (.bool true) ∧ Below w.heap.size w w' := by
  have hs1 : size ≤ 9223372036854775807 := by
    simp [Lit.wf, IntKind.min, IntKind.max, IntKind.signed, IntKind.bits] at hs
    omega
  have HA := Aside.mk (T.At n size w hs1)
  have HR := Aside.mk (T.refAt n size w hs1)
  have HW := Aside.mk (T.works w)
  by_cases h : 0 < size
  · obtain ⟨h0, h1⟩ := atF_in n size h
    clear hs hs1
    generalize atF n size = a at *
    go_enter Try.func3, Try.ntmps3
    go_wp2_with (first | (go_at_call 8; refine HA.out.mono ?_; rintro e w' ⟨rfl, hw⟩; subst w') | (go_at_call 9; refine HR.out.mono ?_; rintro e w' ⟨rfl, hw⟩; subst w') | (go_at_call 10; refine HW.out.mono ?_; rintro e w' ⟨rfl, h1⟩; have H1 := Aside.mk h1; clear h1))
    go_ret
    exact ⟨rfl, H1.out⟩
  · clear hs hs1
    generalize atF n size = a at *
    have h' : size ≤ 0 := by omega
    clear h
    go_enter Try.func3, Try.ntmps3
    go_wp2_with (first | (go_at_call 8; refine HA.out.mono ?_; rintro e w' ⟨rfl, hw⟩; subst w') | (go_at_call 9; refine HR.out.mono ?_; rintro e w' ⟨rfl, hw⟩; subst w') | (go_at_call 10; refine HW.out.mono ?_; rintro e w' ⟨rfl, h1⟩; have H1 := Aside.mk h1; clear h1))
    go_ret
    exact ⟨rfl, H1.out⟩
end Go.Proofs.Ytmlnjelhiemlpaa

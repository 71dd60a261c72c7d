/- What All hands back, called with a closure. Conditions: what the closure keeps. -/
import Derived.Test.YtmlnjelhiemlpaaNetW
namespace Go.Proofs.Ytmlnjelhiemlpaa
open Go.RowKit Go.Proofs.YtmlnjelhiemlpaaW.PrintWords Go.Proofs.YtmlnjelhiemlpaaW.PrintLast Go.Proofs.YtmlnjelhiemlpaaW.PrintMore
set_option maxHeartbeats 4000000 in
set_option maxRecDepth 100000 in
theorem AllFn (fn : Nat) (caps : Array Value) (Bn H base : Nat) (v : Value) (L : List Int) (hL : L.length ≤ 1000000) (eg : ∀ args w, (callFunc fn args).run Try.prog w = .ok (.enter fn args) w) (J Jx : Nat → World → Prop) (Own : World → Nat → Prop) (W : World)
    (hY : ∀ k x W1, J k W1 → L[k]? = some x → Calls Try.prog fn (#[.int .i64 (k : Nat), .int .i64 x] ++ caps) W1 fun e W' =>
      ((e = .returned (.bool true) ∧ J (k + 1) W') ∨ (e = .returned (.bool false) ∧ Jx (k + 1) W')) ∧ W1.heap.size ≤ W'.heap.size ∧ (∀ g, g < W1.heap.size → ¬ Own W1 g → W'.heap[g]? = W1.heap[g]?) ∧ ∀ g, Own W' g → Own W1 g ∨ W1.heap.size ≤ g)
    (hJ0 : ∀ W', Below W.heap.size W W' → J 0 W' ∧ ∀ g, Own W' g → g < W.heap.size)
    (hBn : W.cell? ⟨Bn, 0, none⟩ = some (.pointer (some ⟨H, 0, none⟩))) (hB : BagI W H base v L) :
    Calls Try.prog 36 #[.func (.func fn) #[] caps, .pointer (some ⟨Bn, 0, none⟩)] W fun e W' => e = .returned (.tuple #[]) ∧ (J L.length W' ∨ ∃ k, 1 ≤ k ∧ k ≤ L.length ∧ Jx k W') := by
  have hc := hB.cell
  obtain ⟨A, nn, c, rfl, hnn⟩ := hB.2.1.shape
  subst hnn
  have HB := Aside.mk hB
  have HL := Aside.mk hL
  have HY := Aside.mk hY
  have HJ0 := Aside.mk hJ0
  have hlm : L.length ≤ 9223372036854775807 := by omega
  clear hB hL hY hJ0
  go_enter Try.func36, Try.ntmps36
  go_wp2_with (go_at_call 37; refine (T.CloneI A c base L W HB.out.2.1 HL.out).mono ?_; rintro e W2 ⟨v2, rfl, hr2, hb2⟩; obtain ⟨A2, nn2, c2, rfl, hnn2⟩ := hr2.shape; subst hnn2; have HR2 := Aside.mk hr2; have HJ2 := Aside.mk (HJ0.out W2 hb2); clear hr2 hb2)
  clear hc hBn
  go_loopg [13] L.length (fun kq v13 wr => ∃ k : Nat, k + kq = L.length ∧ v13 = .int .i64 (k : Int) ∧ Aside (J k wr) ∧ Aside (∀ g, W.heap.size ≤ g → g < W2.heap.size → wr.heap[g]? = W2.heap[g]? ∧ ¬ Own wr g) ∧ Aside (W2.heap.size ≤ wr.heap.size))
  case atStart => exact ⟨0, by omega, rfl, ⟨HJ2.out.1⟩, ⟨fun g h1 _ => ⟨rfl, fun h => by have := HJ2.out.2 g h; omega⟩⟩, ⟨Nat.le_refl _⟩⟩
  case round =>
    obtain ⟨k, hk, rfl, hJs, hF, hS⟩ := hrel
    have HK := Aside.mk hk
    by_cases hlt : k < L.length
    · rcases HR2.out.slice with ⟨_, h2⟩ | ⟨g, c3, cur, he, hgb, hc3, _, hh, hSr⟩
      · rw [h2] at hlt; exact absurd hlt (by simp)
      · obtain ⟨rfl, rfl⟩ : A2 = some ⟨g, 0, none⟩ ∧ c2 = c3 := by simpa using he
        obtain ⟨x, hx⟩ : ∃ x, L[k]? = some x := ⟨_, List.getElem?_eq_getElem hlt⟩
        have hcx : wr.cell? ⟨g, k, none⟩ = some (.int .i64 x) := by
          obtain ⟨b, o, he2, hcl⟩ := hSr k x hx
          obtain ⟨rfl, rfl⟩ : g = b ∧ 0 = o := by simpa using he2
          rw [Nat.zero_add] at hcl
          rw [← hcl]
          exact World.cell?_of_block (a := ⟨g, k, none⟩) (hF.out g hgb (Array.getElem?_eq_some_iff.1 hh).1).1
        have hYk := Aside.mk (HY.out k x wr hJs.out hx)
        have hlt' := Aside.mk hlt
        clear he hc3 hh hSr hx HJ2 hk hgb
        go_wp2_with fail
        refine hYk.out.mono ?_
        rintro e W3 ⟨⟨rfl, hJ3⟩ | ⟨rfl, hJx3⟩, h1, h2, h3⟩
        · have HJ3 := Aside.mk hJ3
          have HF3 := Aside.mk (show ∀ g, W.heap.size ≤ g → g < W2.heap.size → W3.heap[g]? = W2.heap[g]? ∧ ¬ Own W3 g from fun g hg1 hg2 => by
            have hg3 : g < wr.heap.size := Nat.lt_of_lt_of_le hg2 hS.out
            obtain ⟨a1, a2⟩ := hF.out g hg1 hg2
            refine ⟨(h2 g hg3 a2).trans a1, fun h => ?_⟩
            rcases h3 g h with h4 | h4
            · exact a2 h4
            · omega)
          have HS3 := Aside.mk (Nat.le_trans hS.out h1)
          clear hJ3 h1 h2 h3 hcx
          go_wp2
          go_roundg (gk - 1)
          case measure => have := HK.out; have := hlt'.out; omega
          case rel => exact ⟨k + 1, by have := HK.out; have := hlt'.out; omega, by go_num, HJ3, HF3, HS3⟩
        · have HX := Aside.mk hJx3
          clear hJx3 h1 h2 h3 hcx
          go_wp2
          refine bodyPost_ret (results_none rfl _ _ _) rfl ?_
          exact ⟨rfl, .inr ⟨k + 1, by omega, by have := hlt'.out; omega, HX.out⟩⟩
    · have hke : k = L.length := by omega
      clear hlt hk
      subst hke
      go_wp2
      go_end0
      exact ⟨rfl, .inl hJs.out⟩
end Go.Proofs.Ytmlnjelhiemlpaa

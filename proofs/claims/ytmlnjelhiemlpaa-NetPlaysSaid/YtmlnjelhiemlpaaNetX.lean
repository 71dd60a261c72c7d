/- slices.IndexFunc at whole numbers, called with a closure that reads. Conditions: what the closure keeps. -/
import Derived.Test.YtmlnjelhiemlpaaNetDR
namespace Go.Proofs.Ytmlnjelhiemlpaa
open Go.RowKit Go.Proofs.YtmlnjelhiemlpaaW.PrintWords Go.Proofs.YtmlnjelhiemlpaaW.PrintLast Go.Proofs.YtmlnjelhiemlpaaW.PrintMore
/-- Where the first number lies that p takes. -/
def firstP (p : Int → Bool) (l : List Int) (r : Int) : Prop := (r = -1 ∧ ∀ x ∈ l, p x = false) ∨ ∃ i : Nat, r = (i : Int) ∧ i < l.length ∧ (∀ x ∈ l.take i, p x = false) ∧ ∃ x, l[i]? = some x ∧ p x = true
set_option maxHeartbeats 4000000 in
set_option maxRecDepth 100000 in
theorem T.IndexFn (fn : Nat) (caps : Array Value) (p : Int → Bool) (eg : ∀ args w, (callFunc fn args).run Try.prog w = .ok (.enter fn args) w) (J : World → Prop)
    (hY : ∀ x W, J W → Calls Try.prog fn (#[.int .i64 x] ++ caps) W fun e W' => e = .returned (.bool (p x)) ∧ J W' ∧ Below W.heap.size W W')
    (A : Option Addr) (n c : Nat) (l : List Int) (w : World) (hn : l.length = n) (hl : n ≤ 900000) (hS : SrcA w A l) (hJ : J w) :
    Calls Try.prog 41 #[.slice A n c, .func (.func fn) #[] caps] w fun e w' => ∃ r, e = .returned (.int .i64 r) ∧ firstP p l r ∧ J w' ∧ Below w.heap.size w w' := by
  have HN := Aside.mk hn
  have HS := Aside.mk hS
  have HY := Aside.mk hY
  have HJ := Aside.mk hJ
  clear hn hS hY hJ
  go_enter Try.func41, Try.ntmps41
  go_wp2
  go_loopg [5, 8] n (fun kq _ v8 wr => ∃ k : Nat, k + kq = n ∧ v8 = .int .i64 (k : Int) ∧ Aside (J wr ∧ Below w.heap.size w wr ∧ ∀ x ∈ l.take k, p x = false))
  case atStart => exact ⟨0, by omega, rfl, ⟨HJ.out, Below.refl _ _, by simp⟩⟩
  case round =>
    obtain ⟨k, hk, rfl, hR⟩ := hrel
    have HK := Aside.mk hk
    by_cases hlt : k < n
    · obtain ⟨x, hx⟩ : ∃ x, l[k]? = some x := ⟨_, List.getElem?_eq_getElem (by rw [HN.out]; exact hlt)⟩
      obtain ⟨a, rfl, hcx⟩ := (HS.out.below hR.out.2.1) k x hx
      have hYk := Aside.mk (HY.out x wr hR.out.1)
      have hlt' := Aside.mk hlt
      have HX := Aside.mk hx
      clear hx hk
      go_wp2_with fail
      refine hYk.out.mono ?_
      rintro e W3 ⟨rfl, hJ3, hb3⟩
      have HJ3 := Aside.mk hJ3
      have HB3 := Aside.mk (hR.out.2.1.trans (hb3.mono hR.out.2.1.size))
      clear hJ3 hb3
      cases hpx : p x
      · have HP := Aside.mk hpx
        clear hpx
        go_wp2
        go_roundg (gk - 1)
        case measure => have := HK.out; have := hlt'.out; omega
        case rel => exact ⟨k + 1, by have := HK.out; have := hlt'.out; omega, by go_num, ⟨HJ3.out, HB3.out, fun y hy => by
          rw [List.take_add_one, HX.out] at hy
          rcases List.mem_append.1 hy with h | h
          · exact hR.out.2.2 y h
          · obtain rfl : y = x := by simpa using h
            exact HP.out⟩⟩
      · have HP := Aside.mk hpx
        clear hpx
        go_wp2
        go_ret
        exact ⟨(k : Int), rfl, .inr ⟨k, rfl, by rw [HN.out]; exact hlt'.out, hR.out.2.2, x, HX.out, HP.out⟩, HJ3.out, HB3.out⟩
    · have hke : k = n := by omega
      clear hlt hk
      subst hke
      go_wp2
      go_ret
      exact ⟨-1, rfl, .inl ⟨rfl, by have := hR.out.2.2; rwa [← HN.out, List.take_length] at this⟩, hR.out.1, hR.out.2.1⟩
end Go.Proofs.Ytmlnjelhiemlpaa

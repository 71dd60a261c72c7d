/- New; Start; what nobody does. Conditions: numbers in their bounds. -/
import Derived.Test.YtmepeolejlpehaaCtG
namespace Go.Proofs.Ytmepeolejlpehaa
open Go.RowKit Go.Maps Go.Proofs.YtmepeolejlpehaaW.PrintWords Go.Proofs.YtmepeolejlpehaaW.PrintLast Go.Proofs.YtmepeolejlpehaaW.PrintMore
def AS.new (id nodes retry : Int) : AS := ⟨id, nodes, retry, 0, 0, ⟨0, 0, 0, 0, 0, 0, .slice none 0 0⟩, false, false, 0⟩
def CS.new : CS := ⟨0, 0, 0, 0, 0, .slice none 0 0, 0, false⟩
set_option maxHeartbeats 4000000 in
set_option maxRecDepth 100000 in
theorem T.NewBad (w : World) : Calls Try.prog 6 #[.int .i64 1, .int .i64 0, .int .i64 1] w fun e w' => e = .returned (.tuple #[.pointer none, .int .i64 2]) ∧ w' = w := by
  have hA : Aside (Calls Try.prog 14 #[.int .i64 1, .int .i64 0, .int .i64 1] w fun e w' => e = .returned (.tuple #[.pointer none, .int .i64 2]) ∧ w' = w) := ⟨by
    go_enter Try.func14, Try.ntmps14
    go_wp2
    go_ret2
    exact ⟨rfl, rfl⟩⟩
  go_enter Try.func6, Try.ntmps6
  go_wp2_with (go_at_call 14; refine hA.out.mono ?_; rintro e w' ⟨rfl, hw⟩; subst w')
  go_ret2
  exact ⟨rfl, rfl⟩
set_option maxHeartbeats 4000000 in
set_option maxRecDepth 100000 in
theorem T.NewAsker (id nodes retry : Int) (w : World) (h1 : 1 ≤ id ∧ id ≤ 1099511627776) (h2 : 1 ≤ nodes ∧ nodes ≤ 5) (h3 : 1 ≤ retry ∧ retry ≤ 1000) :
    Calls Try.prog 14 #[.int .i64 id, .int .i64 nodes, .int .i64 retry] w fun e w' => e = .returned (.tuple #[.pointer (some ⟨w.heap.size + 1, 0, none⟩), .int .i64 0]) ∧ AK w' (w.heap.size + 1) w.heap.size 0 (AS.new id nodes retry) ∧ Below w.heap.size w w' ∧ w'.heap.size = w.heap.size + 2 := by
  have hmm := @run_makeMap Try.prog
  have b1 : decide (id < 1) = false := by simp; omega
  have b2 : decide (1099511627776 < id) = false := by simp; omega
  have b3 : decide (nodes < 1) = false := by simp; omega
  have b4 : decide (5 < nodes) = false := by simp; omega
  have b5 : decide (retry < 1) = false := by simp; omega
  have b6 : decide (1000 < retry) = false := by simp; omega
  have H := Aside.mk (And.intro h1 (And.intro h2 h3))
  clear h1 h2 h3
  go_enter Try.func14, Try.ntmps14
  go_wp2
  go_ret2
  have hM : MapF (w.alloc (.map #[] 0)) w.heap.size 0 (fun _ => 0) := MapF.made w
  have hs : (w.alloc (.map #[] 0)).heap.size = w.heap.size + 1 := by simp
  have hr := heap_alloc_new (w.alloc (.map #[] 0)) (.cells ((AS.new id nodes retry).cells w.heap.size) 77)
  rw [hs] at hr
  refine ⟨rfl, ⟨hr, ⟨_, hM.move ?_⟩, H.out.1, H.out.2.1, H.out.2.2, by simp [AS.new], by simp [AS.new], by simp [AS.new]⟩, ((Below.refl _ _).alloc (Nat.le_refl _) _).alloc (by simp) _, by simp⟩
  exact Below.heap_alloc _ _ _ (by simp)
set_option maxHeartbeats 4000000 in
set_option maxRecDepth 100000 in
theorem T.New (id nodes retry : Int) (w : World) (h1 : 1 ≤ id ∧ id ≤ 1099511627776) (h2 : 1 ≤ nodes ∧ nodes ≤ 5) (h3 : 1 ≤ retry ∧ retry ≤ 1000) :
    Calls Try.prog 6 #[.int .i64 id, .int .i64 nodes, .int .i64 retry] w fun e w' => e = .returned (.tuple #[.pointer (some ⟨w.heap.size + 2, 0, none⟩), .int .i64 0]) ∧ CJ w' (w.heap.size + 1) w.heap.size (w.heap.size + 2) (w.heap.size + 3) 0 (AS.new id nodes retry) CS.new [] [] ∧ Below w.heap.size w w' := by
  have hA := Aside.mk (T.NewAsker id nodes retry w h1 h2 h3)
  clear h1 h2 h3
  go_enter Try.func6, Try.ntmps6
  go_wp2_with (go_at_call 14; refine hA.out.mono ?_; rintro e w1 ⟨rfl, hA1, hb1, hs1⟩; have HA1 := Aside.mk hA1; have HB1 := Aside.mk hb1; have HS1 := Aside.mk hs1; clear hA1 hb1 hs1)
  go_ret2
  have hs := HS1.out
  have hr := heap_alloc_new w1 (.cells (CS.new.cells (some ⟨w.heap.size + 1, 0, none⟩)) 33)
  rw [hs] at hr
  have hf : FC [] w1 (w1.alloc (.cells (CS.new.cells (some ⟨w.heap.size + 1, 0, none⟩)) 33)) := (FC.refl _ _).alloc _
  refine ⟨by rw [hs]; rfl, ⟨HA1.out.of_fc hf (by simp) (by simp), hr, Kd.R_nil _ _ _ _ _, Kd.R_nil _ _ _ _ _, by omega, by omega, by omega, by simp; omega, by simp, by simp [CS.new], by simp [CS.new]⟩, HB1.out.alloc HB1.out.size _⟩
set_option maxHeartbeats 4000000 in
set_option maxRecDepth 100000 in
theorem T.StartNB (q : Option Addr) (lo hi fr tgo : Int) (w : World) (h : NB w q) : Calls Try.prog 8 #[.pointer q, .agg #[.int .i64 lo, .int .i64 hi], .int .i64 fr, .int .i64 tgo] w fun e w' => e = .returned (.int .i64 1) ∧ Below w.heap.size w w' := by
  have hb : Below w.heap.size w (w.alloc (.cells #[.int .i64 lo, .int .i64 hi] 23)) := (Below.refl _ _).alloc (Nat.le_refl _) _
  have hN := Aside.mk (T.nobodyT q _ (h.of hb))
  have HB := Aside.mk hb
  clear h hb
  go_enter Try.func8, Try.ntmps8
  go_wp2_with (go_at_call 15; refine hN.out.mono ?_; rintro e w' ⟨rfl, hw⟩; subst w')
  go_ret
  exact ⟨rfl, HB.out⟩
set_option maxHeartbeats 4000000 in
set_option maxRecDepth 100000 in
theorem T.TickNB (q : Option Addr) (w : World) (h : NB w q) : Calls Try.prog 9 #[.pointer q] w fun e w' => e = .returned (.slice none 0 0) ∧ w' = w := by
  have hN := Aside.mk (T.nobodyT q w h)
  clear h
  go_enter Try.func9, Try.ntmps9
  go_wp2_with (go_at_call 15; refine hN.out.mono ?_; rintro e w' ⟨rfl, hw⟩; subst w')
  go_ret
  exact ⟨rfl, rfl⟩
set_option maxHeartbeats 4000000 in
set_option maxRecDepth 100000 in
theorem T.RecvNB (q : Option Addr) (pv : Array Value) (w : World) (h : NB w q) : Calls Try.prog 10 #[.pointer q, .agg pv] w fun e w' => e = .returned (.int .i64 1) ∧ Below w.heap.size w w' := by
  have hb : Below w.heap.size w (w.alloc (.cells pv 57)) := (Below.refl _ _).alloc (Nat.le_refl _) _
  have hN := Aside.mk (T.nobodyT q _ (h.of hb))
  have HB := Aside.mk hb
  clear h hb
  go_enter Try.func10, Try.ntmps10
  go_wp2_with (go_at_call 15; refine hN.out.mono ?_; rintro e w' ⟨rfl, hw⟩; subst w')
  go_ret
  exact ⟨rfl, HB.out⟩
set_option maxHeartbeats 4000000 in
set_option maxRecDepth 100000 in
/-- The control's Tick is the asker's. -/
theorem T.TickC (Q P : Nat) (c : CS) (w : World) (h : CP w Q (some ⟨P, 0, none⟩) c) (Post : Ending → World → Prop) (hP : ∀ e w', Post e w' → ∃ v, e = .returned v) (hT : Calls Try.prog 19 #[.pointer (some ⟨P, 0, none⟩)] w Post) : Calls Try.prog 9 #[.pointer (some ⟨Q, 0, none⟩)] w Post := by
  have hN := Aside.mk (T.nobodyF Q ⟨P, 0, none⟩ c w h)
  have h0 : w.cell? ⟨Q, 0, none⟩ = some (.pointer (some ⟨P, 0, none⟩)) := h.cell 0
  have HT := Aside.mk hT
  have HP := Aside.mk hP
  clear h hT hP
  go_enter Try.func9, Try.ntmps9
  go_wp2_with (first | (go_at_call 15; refine hN.out.mono ?_; rintro e w' ⟨rfl, hw⟩; subst w') | (go_at_call 19; refine HT.out.mono ?_; intro e w' hp; obtain ⟨v, rfl⟩ := HP.out e w' hp; have HPP := Aside.mk hp; clear hp))
  exact HPP.out
end Go.Proofs.Ytmepeolejlpehaa

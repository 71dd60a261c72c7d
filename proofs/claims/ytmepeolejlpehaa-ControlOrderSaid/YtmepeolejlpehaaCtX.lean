/- The walk of ControlNobody. Conditions: where the act's texts lie. -/
import Derived.Test.YtmepeolejlpehaaCtW
namespace Go.Proofs.Ytmepeolejlpehaa
open Go.RowKit Go.Maps Go.Proofs.YtmepeolejlpehaaW.PrintWords Go.Proofs.YtmepeolejlpehaaW.PrintLast Go.Proofs.YtmepeolejlpehaaW.PrintMore
/-- Between the rounds. -/
structure NR (w w' : World) (X K B : Nat) (av : Array Value) : Prop where
  bel : Below w.heap.size w w'
  act : w'.heap[X]? = some (.cells av 26 (0, 0))
  tab : w'.heap[K]? = some (.cells #[.pointer none, .pointer (some ⟨B, 0, none⟩), .pointer none] 27 (0, 0))
  nb : CP w' B none CS.new
theorem NR.of {w a b : World} {X K B : Nat} {av : Array Value} (h : NR w a X K B av) (hb : Below a.heap.size a b) : NR w b X K B av :=
  ⟨h.bel.trans (hb.mono h.bel.size), (hb.block X (Array.getElem?_eq_some_iff.1 h.act).1).trans h.act, (hb.block K (Array.getElem?_eq_some_iff.1 h.tab).1).trans h.tab, (hb.block B (Array.getElem?_eq_some_iff.1 h.nb).1).trans h.nb⟩
set_option maxHeartbeats 8000000 in
set_option maxRecDepth 100000 in
theorem T.walk_nobody (kd fr tg er lo hi : Int) (own : Bool) (A : Option Addr) (c : Nat) (l : List ByteArray) (w : World) (hC : Kd.C Kd.string w A l.length l) (hc : l.length ≤ c) :
    Calls Try.prog 3 #[.agg (actV kd fr tg er own lo hi (.slice A l.length c))] w fun e w' => e = .returned (.bool true) ∧ Below w.heap.size w w' := by
  have HC := Aside.mk (And.intro hC hc)
  clear hC hc
  go_enter Try.func3, Try.ntmps3
  go_wp2_with fail
  refine (T.NewBad _).mono ?_
  rintro e w1 ⟨rfl, rfl⟩
  simp only [actV]
  go_wp2_with fail
  have hst : NR w (((w.alloc (Obj.cells #[.int .i64 kd, .int .i64 fr, .int .i64 tg, .int .i64 er, .bool own, .int .i64 lo, .int .i64 hi, .slice A l.length c] 26)).alloc (Obj.cells #[.pointer none, .int .i64 0, .int .i64 0, .int .i64 0, .int .i64 0, .int .i64 0, .slice none 0 0, .int .i64 0, .bool false] 33)).alloc (Obj.cells #[.pointer none, .pointer (some { block := w.heap.size + 1, off := 0 }), .pointer none] 27)) w.heap.size (w.heap.size + 1 + 1) (w.heap.size + 1) #[.int .i64 kd, .int .i64 fr, .int .i64 tg, .int .i64 er, .bool own, .int .i64 lo, .int .i64 hi, .slice A l.length c] := by
    refine ⟨(((Below.refl _ _).alloc (Nat.le_refl _) _).alloc (by simp) _).alloc (by simp; omega) _, ?_, ?_, ?_⟩
    · exact (Below.heap_alloc _ _ _ (by simp; omega)).trans (heap_alloc2_old w _ _)
    · have := heap_alloc_new ((w.alloc (Obj.cells #[.int .i64 kd, .int .i64 fr, .int .i64 tg, .int .i64 er, .bool own, .int .i64 lo, .int .i64 hi, .slice A l.length c] 26)).alloc (Obj.cells #[.pointer none, .int .i64 0, .int .i64 0, .int .i64 0, .int .i64 0, .int .i64 0, .slice none 0 0, .int .i64 0, .bool false] 33)) (Obj.cells #[.pointer none, .pointer (some { block := w.heap.size + 1, off := 0 }), .pointer none] 27)
      simpa using this
    · refine (Below.heap_alloc _ _ _ (by simp)).trans ?_
      have := heap_alloc_new (w.alloc (Obj.cells #[.int .i64 kd, .int .i64 fr, .int .i64 tg, .int .i64 er, .bool own, .int .i64 lo, .int .i64 hi, .slice A l.length c] 26)) (Obj.cells #[.pointer none, .int .i64 0, .int .i64 0, .int .i64 0, .int .i64 0, .int .i64 0, .slice none 0 0, .int .i64 0, .bool false] 33)
      rw [World.size_alloc] at this
      exact this
  generalize World.alloc (World.alloc (World.alloc w _) _) _ = w1 at hst ⊢
  obtain ⟨K, hK⟩ : ∃ K, K = w.heap.size + 1 + 1 := ⟨_, rfl⟩
  obtain ⟨B, hB⟩ : ∃ B, B = w.heap.size + 1 := ⟨_, rfl⟩
  obtain ⟨X, hX⟩ : ∃ X, X = w.heap.size := ⟨_, rfl⟩
  rw [← hK, ← hB, ← hX] at hst
  rw [← hK, ← hB, ← hX]
  clear hK hB hX
  go_loopg [18] 3 (fun k v18 wr => ∃ i : Nat, k + i = 3 ∧ v18 = .int .i64 i ∧ Aside (NR w wr X K B #[.int .i64 kd, .int .i64 fr, .int .i64 tg, .int .i64 er, .bool own, .int .i64 lo, .int .i64 hi, .slice A l.length c]))
  case atStart => exact ⟨0, rfl, rfl, ⟨hst⟩⟩
  case round =>
    clear hst
    obtain ⟨i, hik, rfl, hR⟩ := hrel
    have hcase : i = 0 ∨ i = 1 ∨ i = 2 ∨ i = 3 := by omega
    rcases hcase with rfl | rfl | rfl | rfl
    · have t : wr.cell? ⟨K, 0, none⟩ = some (.pointer none) := by rw [cell_of_row _ _ _ _ _ _ hR.out.tab]; rfl
      have hNB : ∀ w', NR w w' X K B #[.int .i64 kd, .int .i64 fr, .int .i64 tg, .int .i64 er, .bool own, .int .i64 lo, .int .i64 hi, .slice A l.length c] → NB w' (none) := fun w' h => .inl rfl
      have HNB := Aside.mk hNB
      clear hNB
      have y0 : World.cell? wr ⟨X, 0, none⟩ = some (.int .i64 kd) := by rw [cell_of_row _ _ _ _ _ _ hR.out.act]; rfl
      have y1 : World.cell? wr ⟨X, 1, none⟩ = some (.int .i64 fr) := by rw [cell_of_row _ _ _ _ _ _ hR.out.act]; rfl
      have y2 : World.cell? wr ⟨X, 2, none⟩ = some (.int .i64 tg) := by rw [cell_of_row _ _ _ _ _ _ hR.out.act]; rfl
      have y3 : World.cell? wr ⟨X, 3, none⟩ = some (.int .i64 er) := by rw [cell_of_row _ _ _ _ _ _ hR.out.act]; rfl
      have y4 : World.cell? wr ⟨X, 4, none⟩ = some (.bool own) := by rw [cell_of_row _ _ _ _ _ _ hR.out.act]; rfl
      have y5 : World.cell? wr ⟨X, 5, none⟩ = some (.int .i64 lo) := by rw [cell_of_row _ _ _ _ _ _ hR.out.act]; rfl
      have y6 : World.cell? wr ⟨X, 6, none⟩ = some (.int .i64 hi) := by rw [cell_of_row _ _ _ _ _ _ hR.out.act]; rfl
      have y7 : World.cell? wr ⟨X, 7, none⟩ = some (.slice A l.length c) := by rw [cell_of_row _ _ _ _ _ _ hR.out.act]; rfl
      go_wp2_with fail
      refine (T.ResultNB _ wr (HNB.out _ hR.out)).mono ?_
      rintro e w' ⟨rfl, hw⟩
      subst w'
      go_wp2_with fail
      refine (T.StartNB _ lo hi fr tg wr (HNB.out _ hR.out)).mono ?_
      rintro e w2 ⟨rfl, hb2⟩
      clear t
      clear y0 y1 y2 y3 y4 y5 y6 y7
      have H2 := Aside.mk (hR.out.of hb2)
      clear hb2
      have y0 : World.cell? w2 ⟨X, 0, none⟩ = some (.int .i64 kd) := by rw [cell_of_row _ _ _ _ _ _ H2.out.act]; rfl
      have y1 : World.cell? w2 ⟨X, 1, none⟩ = some (.int .i64 fr) := by rw [cell_of_row _ _ _ _ _ _ H2.out.act]; rfl
      have y2 : World.cell? w2 ⟨X, 2, none⟩ = some (.int .i64 tg) := by rw [cell_of_row _ _ _ _ _ _ H2.out.act]; rfl
      have y3 : World.cell? w2 ⟨X, 3, none⟩ = some (.int .i64 er) := by rw [cell_of_row _ _ _ _ _ _ H2.out.act]; rfl
      have y4 : World.cell? w2 ⟨X, 4, none⟩ = some (.bool own) := by rw [cell_of_row _ _ _ _ _ _ H2.out.act]; rfl
      have y5 : World.cell? w2 ⟨X, 5, none⟩ = some (.int .i64 lo) := by rw [cell_of_row _ _ _ _ _ _ H2.out.act]; rfl
      have y6 : World.cell? w2 ⟨X, 6, none⟩ = some (.int .i64 hi) := by rw [cell_of_row _ _ _ _ _ _ H2.out.act]; rfl
      have y7 : World.cell? w2 ⟨X, 7, none⟩ = some (.slice A l.length c) := by rw [cell_of_row _ _ _ _ _ _ H2.out.act]; rfl
      go_wp2_with fail
      refine (T.TickNB _ w2 (HNB.out _ H2.out)).mono ?_
      rintro e w' ⟨rfl, hw⟩
      subst w'
      go_wp2_with fail
      have hp := T.packet kd fr tg er lo hi 1 1 1 own A c l w2 (Kd.C_below HC.out.1 H2.out.bel) HC.out.2
      simp only [actV] at hp
      have hp2 : Calls Try.prog 11 #[.agg #[.int .i64 kd, .int .i64 fr, .int .i64 tg, .int .i64 er, .bool own, .int .i64 lo, .int .i64 hi, .slice A l.length c], .int .i64 1, .int .i64 1, .int .i64 1] w2 fun e w' => ∃ pv, e = .returned (.agg pv) ∧ Below w2.heap.size w2 w' := hp.mono (by rintro e w' ⟨d, rfl, _, hb⟩; exact ⟨_, rfl, hb⟩)
      refine hp2.mono ?_
      rintro e w3 ⟨pv, rfl, hb3⟩
      clear y0 y1 y2 y3 y4 y5 y6 y7
      have H3 := Aside.mk (H2.out.of hb3)
      clear hb3 hp hp2
      go_wp2_with fail
      refine (T.RecvNB _ _ w3 (HNB.out _ H3.out)).mono ?_
      rintro e w4 ⟨rfl, hb4⟩
      have H4 := Aside.mk (H3.out.of hb4)
      clear hb4
      go_wp2_with fail
      refine (T.StageNB _ w4 (HNB.out _ H4.out)).mono ?_
      rintro e w' ⟨rfl, hw⟩
      subst w'
      go_wp2_with fail
      go_roundg (gk - 1)
      case measure => omega
      case rel => exact ⟨0 + 1, by omega, by go_num, H4⟩

    · have t : wr.cell? ⟨K, 1, none⟩ = some (.pointer (some ⟨B, 0, none⟩)) := by rw [cell_of_row _ _ _ _ _ _ hR.out.tab]; rfl
      have hNB : ∀ w', NR w w' X K B #[.int .i64 kd, .int .i64 fr, .int .i64 tg, .int .i64 er, .bool own, .int .i64 lo, .int .i64 hi, .slice A l.length c] → NB w' (some ⟨B, 0, none⟩) := fun w' h => .inr ⟨B, CS.new, rfl, h.nb⟩
      have HNB := Aside.mk hNB
      clear hNB
      have y0 : World.cell? wr ⟨X, 0, none⟩ = some (.int .i64 kd) := by rw [cell_of_row _ _ _ _ _ _ hR.out.act]; rfl
      have y1 : World.cell? wr ⟨X, 1, none⟩ = some (.int .i64 fr) := by rw [cell_of_row _ _ _ _ _ _ hR.out.act]; rfl
      have y2 : World.cell? wr ⟨X, 2, none⟩ = some (.int .i64 tg) := by rw [cell_of_row _ _ _ _ _ _ hR.out.act]; rfl
      have y3 : World.cell? wr ⟨X, 3, none⟩ = some (.int .i64 er) := by rw [cell_of_row _ _ _ _ _ _ hR.out.act]; rfl
      have y4 : World.cell? wr ⟨X, 4, none⟩ = some (.bool own) := by rw [cell_of_row _ _ _ _ _ _ hR.out.act]; rfl
      have y5 : World.cell? wr ⟨X, 5, none⟩ = some (.int .i64 lo) := by rw [cell_of_row _ _ _ _ _ _ hR.out.act]; rfl
      have y6 : World.cell? wr ⟨X, 6, none⟩ = some (.int .i64 hi) := by rw [cell_of_row _ _ _ _ _ _ hR.out.act]; rfl
      have y7 : World.cell? wr ⟨X, 7, none⟩ = some (.slice A l.length c) := by rw [cell_of_row _ _ _ _ _ _ hR.out.act]; rfl
      go_wp2_with fail
      refine (T.ResultNB _ wr (HNB.out _ hR.out)).mono ?_
      rintro e w' ⟨rfl, hw⟩
      subst w'
      go_wp2_with fail
      refine (T.StartNB _ lo hi fr tg wr (HNB.out _ hR.out)).mono ?_
      rintro e w2 ⟨rfl, hb2⟩
      clear t
      clear y0 y1 y2 y3 y4 y5 y6 y7
      have H2 := Aside.mk (hR.out.of hb2)
      clear hb2
      have y0 : World.cell? w2 ⟨X, 0, none⟩ = some (.int .i64 kd) := by rw [cell_of_row _ _ _ _ _ _ H2.out.act]; rfl
      have y1 : World.cell? w2 ⟨X, 1, none⟩ = some (.int .i64 fr) := by rw [cell_of_row _ _ _ _ _ _ H2.out.act]; rfl
      have y2 : World.cell? w2 ⟨X, 2, none⟩ = some (.int .i64 tg) := by rw [cell_of_row _ _ _ _ _ _ H2.out.act]; rfl
      have y3 : World.cell? w2 ⟨X, 3, none⟩ = some (.int .i64 er) := by rw [cell_of_row _ _ _ _ _ _ H2.out.act]; rfl
      have y4 : World.cell? w2 ⟨X, 4, none⟩ = some (.bool own) := by rw [cell_of_row _ _ _ _ _ _ H2.out.act]; rfl
      have y5 : World.cell? w2 ⟨X, 5, none⟩ = some (.int .i64 lo) := by rw [cell_of_row _ _ _ _ _ _ H2.out.act]; rfl
      have y6 : World.cell? w2 ⟨X, 6, none⟩ = some (.int .i64 hi) := by rw [cell_of_row _ _ _ _ _ _ H2.out.act]; rfl
      have y7 : World.cell? w2 ⟨X, 7, none⟩ = some (.slice A l.length c) := by rw [cell_of_row _ _ _ _ _ _ H2.out.act]; rfl
      go_wp2_with fail
      refine (T.TickNB _ w2 (HNB.out _ H2.out)).mono ?_
      rintro e w' ⟨rfl, hw⟩
      subst w'
      go_wp2_with fail
      have hp := T.packet kd fr tg er lo hi 1 1 1 own A c l w2 (Kd.C_below HC.out.1 H2.out.bel) HC.out.2
      simp only [actV] at hp
      have hp2 : Calls Try.prog 11 #[.agg #[.int .i64 kd, .int .i64 fr, .int .i64 tg, .int .i64 er, .bool own, .int .i64 lo, .int .i64 hi, .slice A l.length c], .int .i64 1, .int .i64 1, .int .i64 1] w2 fun e w' => ∃ pv, e = .returned (.agg pv) ∧ Below w2.heap.size w2 w' := hp.mono (by rintro e w' ⟨d, rfl, _, hb⟩; exact ⟨_, rfl, hb⟩)
      refine hp2.mono ?_
      rintro e w3 ⟨pv, rfl, hb3⟩
      clear y0 y1 y2 y3 y4 y5 y6 y7
      have H3 := Aside.mk (H2.out.of hb3)
      clear hb3 hp hp2
      go_wp2_with fail
      refine (T.RecvNB _ _ w3 (HNB.out _ H3.out)).mono ?_
      rintro e w4 ⟨rfl, hb4⟩
      have H4 := Aside.mk (H3.out.of hb4)
      clear hb4
      go_wp2_with fail
      refine (T.StageNB _ w4 (HNB.out _ H4.out)).mono ?_
      rintro e w' ⟨rfl, hw⟩
      subst w'
      go_wp2_with fail
      go_roundg (gk - 1)
      case measure => omega
      case rel => exact ⟨1 + 1, by omega, by go_num, H4⟩

    · have t : wr.cell? ⟨K, 2, none⟩ = some (.pointer none) := by rw [cell_of_row _ _ _ _ _ _ hR.out.tab]; rfl
      have hNB : ∀ w', NR w w' X K B #[.int .i64 kd, .int .i64 fr, .int .i64 tg, .int .i64 er, .bool own, .int .i64 lo, .int .i64 hi, .slice A l.length c] → NB w' (none) := fun w' h => .inl rfl
      have HNB := Aside.mk hNB
      clear hNB
      have y0 : World.cell? wr ⟨X, 0, none⟩ = some (.int .i64 kd) := by rw [cell_of_row _ _ _ _ _ _ hR.out.act]; rfl
      have y1 : World.cell? wr ⟨X, 1, none⟩ = some (.int .i64 fr) := by rw [cell_of_row _ _ _ _ _ _ hR.out.act]; rfl
      have y2 : World.cell? wr ⟨X, 2, none⟩ = some (.int .i64 tg) := by rw [cell_of_row _ _ _ _ _ _ hR.out.act]; rfl
      have y3 : World.cell? wr ⟨X, 3, none⟩ = some (.int .i64 er) := by rw [cell_of_row _ _ _ _ _ _ hR.out.act]; rfl
      have y4 : World.cell? wr ⟨X, 4, none⟩ = some (.bool own) := by rw [cell_of_row _ _ _ _ _ _ hR.out.act]; rfl
      have y5 : World.cell? wr ⟨X, 5, none⟩ = some (.int .i64 lo) := by rw [cell_of_row _ _ _ _ _ _ hR.out.act]; rfl
      have y6 : World.cell? wr ⟨X, 6, none⟩ = some (.int .i64 hi) := by rw [cell_of_row _ _ _ _ _ _ hR.out.act]; rfl
      have y7 : World.cell? wr ⟨X, 7, none⟩ = some (.slice A l.length c) := by rw [cell_of_row _ _ _ _ _ _ hR.out.act]; rfl
      go_wp2_with fail
      refine (T.ResultNB _ wr (HNB.out _ hR.out)).mono ?_
      rintro e w' ⟨rfl, hw⟩
      subst w'
      go_wp2_with fail
      refine (T.StartNB _ lo hi fr tg wr (HNB.out _ hR.out)).mono ?_
      rintro e w2 ⟨rfl, hb2⟩
      clear t
      clear y0 y1 y2 y3 y4 y5 y6 y7
      have H2 := Aside.mk (hR.out.of hb2)
      clear hb2
      have y0 : World.cell? w2 ⟨X, 0, none⟩ = some (.int .i64 kd) := by rw [cell_of_row _ _ _ _ _ _ H2.out.act]; rfl
      have y1 : World.cell? w2 ⟨X, 1, none⟩ = some (.int .i64 fr) := by rw [cell_of_row _ _ _ _ _ _ H2.out.act]; rfl
      have y2 : World.cell? w2 ⟨X, 2, none⟩ = some (.int .i64 tg) := by rw [cell_of_row _ _ _ _ _ _ H2.out.act]; rfl
      have y3 : World.cell? w2 ⟨X, 3, none⟩ = some (.int .i64 er) := by rw [cell_of_row _ _ _ _ _ _ H2.out.act]; rfl
      have y4 : World.cell? w2 ⟨X, 4, none⟩ = some (.bool own) := by rw [cell_of_row _ _ _ _ _ _ H2.out.act]; rfl
      have y5 : World.cell? w2 ⟨X, 5, none⟩ = some (.int .i64 lo) := by rw [cell_of_row _ _ _ _ _ _ H2.out.act]; rfl
      have y6 : World.cell? w2 ⟨X, 6, none⟩ = some (.int .i64 hi) := by rw [cell_of_row _ _ _ _ _ _ H2.out.act]; rfl
      have y7 : World.cell? w2 ⟨X, 7, none⟩ = some (.slice A l.length c) := by rw [cell_of_row _ _ _ _ _ _ H2.out.act]; rfl
      go_wp2_with fail
      refine (T.TickNB _ w2 (HNB.out _ H2.out)).mono ?_
      rintro e w' ⟨rfl, hw⟩
      subst w'
      go_wp2_with fail
      have hp := T.packet kd fr tg er lo hi 1 1 1 own A c l w2 (Kd.C_below HC.out.1 H2.out.bel) HC.out.2
      simp only [actV] at hp
      have hp2 : Calls Try.prog 11 #[.agg #[.int .i64 kd, .int .i64 fr, .int .i64 tg, .int .i64 er, .bool own, .int .i64 lo, .int .i64 hi, .slice A l.length c], .int .i64 1, .int .i64 1, .int .i64 1] w2 fun e w' => ∃ pv, e = .returned (.agg pv) ∧ Below w2.heap.size w2 w' := hp.mono (by rintro e w' ⟨d, rfl, _, hb⟩; exact ⟨_, rfl, hb⟩)
      refine hp2.mono ?_
      rintro e w3 ⟨pv, rfl, hb3⟩
      clear y0 y1 y2 y3 y4 y5 y6 y7
      have H3 := Aside.mk (H2.out.of hb3)
      clear hb3 hp hp2
      go_wp2_with fail
      refine (T.RecvNB _ _ w3 (HNB.out _ H3.out)).mono ?_
      rintro e w4 ⟨rfl, hb4⟩
      have H4 := Aside.mk (H3.out.of hb4)
      clear hb4
      go_wp2_with fail
      refine (T.StageNB _ w4 (HNB.out _ H4.out)).mono ?_
      rintro e w' ⟨rfl, hw⟩
      subst w'
      go_wp2_with fail
      go_roundg (gk - 1)
      case measure => omega
      case rel => exact ⟨2 + 1, by omega, by go_num, H4⟩

    · go_wp2_with fail
      refine (T.works wr).mono ?_
      rintro e w2 ⟨rfl, hb2⟩
      have H2 := Aside.mk hb2
      clear hb2
      go_wp2_with fail
      go_ret
      exact ⟨rfl, (hR.out.of H2.out).bel⟩
end Go.Proofs.Ytmepeolejlpehaa

/- The control's Start. Conditions: where it lies, numbers in their bounds. -/
import Derived.Test.YtmepeolejlpehaaCtH
namespace Go.Proofs.Ytmepeolejlpehaa
open Go.RowKit Go.Maps Go.Proofs.YtmepeolejlpehaaW.PrintWords Go.Proofs.YtmepeolejlpehaaW.PrintLast Go.Proofs.YtmepeolejlpehaaW.PrintMore
set_option maxHeartbeats 4000000 in
set_option maxRecDepth 100000 in
/-- Start of a move that may be, at a control that is idle. -/
theorem T.StartOk (P M Q base n : Nat) (s : AS) (c : CS) (sl cl : List ByteArray) (lo hi fr tg : Int) (w : World) (h : CJ w P M Q base n s c sl cl) (hb : s.busy = false) (hnum : s.num ≤ 80000) (hst : c.stage = 0) (hm : mayR lo hi = true) (hfr : 1 ≤ fr ∧ fr ≤ 6) (htg : 1 ≤ tg ∧ tg ≤ 6) (hne : (fr == tg) = false) :
    Calls Try.prog 8 #[.pointer (some ⟨Q, 0, none⟩), .agg #[.int .i64 lo, .int .i64 hi], .int .i64 fr, .int .i64 tg] w fun e w' => e = .returned (.int .i64 0) ∧ ∃ d, CJ w' P M Q base n { s with num := s.num + 1, group := fr, cmd := ⟨7, s.id, s.num + 1, lo, hi, 0, d⟩, busy := true, sent := false } ⟨1, lo, hi, fr, tg, .slice none 0 0, 0, false⟩ [] [] ∧ FC [P, Q] w w' := by
  obtain ⟨hPQ, hMQ⟩ := h.ne
  obtain ⟨stage, lo0, hi0, fr0, tg0, data0, ce0, en0⟩ := c
  dsimp only at hst
  subst hst
  have hbx : Below w.heap.size w (w.alloc (.cells #[.int .i64 lo, .int .i64 hi] 23)) := (Below.refl _ _).alloc (Nat.le_refl _) _
  have hQ1 : CP (w.alloc (.cells #[.int .i64 lo, .int .i64 hi] 23)) Q (some ⟨P, 0, none⟩) ⟨0, lo0, hi0, fr0, tg0, data0, ce0, en0⟩ := (hbx.block Q (Array.getElem?_eq_some_iff.1 h.ctl).1).trans h.ctl
  have hN := Aside.mk (T.nobodyF Q _ _ _ hQ1)
  have q1 := hQ1.cell 1
  simp only [CS.cells, List.getElem?_toArray, List.getElem?_cons_succ, List.getElem?_cons_zero] at q1
  have hMy := Aside.mk (T.May lo hi)
  rw [hm] at hMy
  have hI1 := Aside.mk (T.isC fr)
  rw [show decide (1 ≤ fr ∧ fr ≤ 6) = true by simp; omega] at hI1
  have hI2 := Aside.mk (T.isC tg)
  rw [show decide (1 ≤ tg ∧ tg ≤ 6) = true by simp; omega] at hI2
  have H := Aside.mk h
  have HQ1 := Aside.mk hQ1
  have HBX := Aside.mk hbx
  have HFR := Aside.mk hfr
  have HTG := Aside.mk htg
  clear h hm hfr htg hQ1 hbx
  go_enter Try.func8, Try.ntmps8
  go_wp2_with (first | (go_at_call 15; refine hN.out.mono ?_; rintro e w' ⟨rfl, hw⟩; subst w') | (go_at_call 16; refine (hMy.out _).mono ?_; rintro e w2 ⟨rfl, hb2⟩; have HB2 := Aside.mk hb2; have k2 := (hb2.block Q (Array.getElem?_eq_some_iff.1 HQ1.out).1).trans HQ1.out; have r0 : w2.cell? ⟨w.heap.size, 0, none⟩ = some (.int .i64 lo) := (by rw [cell_of_row _ _ _ _ _ _ ((hb2.block w.heap.size (by simp)).trans (heap_alloc_new w _))]; rfl); have r1 : w2.cell? ⟨w.heap.size, 1, none⟩ = some (.int .i64 hi) := (by rw [cell_of_row _ _ _ _ _ _ ((hb2.block w.heap.size (by simp)).trans (heap_alloc_new w _))]; rfl); have m2 : w2.cell? ⟨Q, 2, none⟩ = some (.int .i64 lo0) := (by rw [cell_of_row _ _ _ _ _ _ k2]; rfl); have m3 : w2.cell? ⟨Q, 3, none⟩ = some (.int .i64 hi0) := (by rw [cell_of_row _ _ _ _ _ _ k2]; rfl); have m4 : w2.cell? ⟨Q, 4, none⟩ = some (.int .i64 fr0) := (by rw [cell_of_row _ _ _ _ _ _ k2]; rfl); have m5 : w2.cell? ⟨Q, 5, none⟩ = some (.int .i64 tg0) := (by rw [cell_of_row _ _ _ _ _ _ k2]; rfl); have m6 : w2.cell? ⟨Q, 6, none⟩ = some data0 := (by rw [cell_of_row _ _ _ _ _ _ k2]; rfl); have m7 : w2.cell? ⟨Q, 7, none⟩ = some (.int .i64 ce0) := (by rw [cell_of_row _ _ _ _ _ _ k2]; rfl); have m8 : w2.cell? ⟨Q, 8, none⟩ = some (.bool en0) := (by rw [cell_of_row _ _ _ _ _ _ k2]; rfl); have fz : ∀ k, w2.frozen? ⟨Q, k, none⟩ = false := (fun k => frozen_of_row w2 Q k _ _ k2); have K2 := Aside.mk k2; clear k2 hb2) | (go_at_call 17; first | (refine (hI1.out _).mono ?_; rintro e w' ⟨rfl, hw⟩; subst w') | (refine (hI2.out _).mono ?_; rintro e w' ⟨rfl, hw⟩; subst w')))
  have hh := heap_setCell_same _ Q 8 _ _ (.bool false) (heap_setCell_same _ Q 7 _ _ (.int .i64 0) (heap_setCell_same _ Q 6 _ _ (.slice none 0 0) (heap_setCell_same _ Q 5 _ _ (.int .i64 tg) (heap_setCell_same _ Q 4 _ _ (.int .i64 fr) (heap_setCell_same _ Q 3 _ _ (.int .i64 hi) (heap_setCell_same _ Q 2 _ _ (.int .i64 lo) (K2.out)))))))
  simp only [CS.cells, List.setIfInBounds_toArray, List.set_cons_succ, List.set_cons_zero] at hh
  have hF2 : FC [Q] w w2 := FC.of (HBX.out.trans (HB2.out.mono HBX.out.size))
  have hF4 : FC [Q] w ((((((((w2).setCell ⟨Q, 2, none⟩ (.int .i64 lo)).setCell ⟨Q, 3, none⟩ (.int .i64 hi)).setCell ⟨Q, 4, none⟩ (.int .i64 fr)).setCell ⟨Q, 5, none⟩ (.int .i64 tg)).setCell ⟨Q, 6, none⟩ (.slice none 0 0)).setCell ⟨Q, 7, none⟩ (.int .i64 0)).setCell ⟨Q, 8, none⟩ (.bool false)) := (((((((hF2).setCell (p := ⟨Q, 2, none⟩) (.inl (by simp)) _).setCell (p := ⟨Q, 3, none⟩) (.inl (by simp)) _).setCell (p := ⟨Q, 4, none⟩) (.inl (by simp)) _).setCell (p := ⟨Q, 5, none⟩) (.inl (by simp)) _).setCell (p := ⟨Q, 6, none⟩) (.inl (by simp)) _).setCell (p := ⟨Q, 7, none⟩) (.inl (by simp)) _).setCell (p := ⟨Q, 8, none⟩) (.inl (by simp)) _
  clear m2 m3 m4 m5 m6 m7 m8 r0 r1 q1 fz
  generalize World.setCell (World.setCell (World.setCell _ _ _) _ _) ⟨Q, 8, none⟩ _ = w4 at *
  have hJ : CJ w4 P M Q base n s ⟨0, lo, hi, fr, tg, .slice none 0 0, 0, false⟩ sl [] :=
    ⟨H.out.ask.of_fc hF4 (by simpa using hPQ) (by simpa using hMQ), hh, R_fc H.out.srow hF4 (fun k hk => by have h1 := (show k = Q from by simpa using hk); have := H.out.hQ; omega), Kd.R_nil _ _ _ _ _, H.out.hP, H.out.hM, H.out.hQ, Nat.le_trans H.out.hbase hF4.size, ⟨H.out.hlen.1, by simp⟩, by have := HFR.out; show 0 ≤ fr ∧ fr ≤ 6; omega, by have := HTG.out; show 0 ≤ tg ∧ tg ≤ 6; omega⟩
  have HF4 := Aside.mk hF4
  refine (T.goes1 P M Q base n s _ sl [] w4 hJ hb hnum).mono ?_
  rintro e w5 ⟨rfl, d, hJ5, hF5⟩
  have HJ5 := Aside.mk hJ5
  have HF5 := Aside.mk hF5
  clear hJ hJ5 hF5 hF4 hh hF2
  go_wp2
  go_ret
  exact ⟨rfl, d, HJ5.out, (HF4.out.sub (by simp)).trans HF5.out⟩
end Go.Proofs.Ytmepeolejlpehaa

/- A control in memory: nobody, Stage, Result, end, May, is; what nobody does. Conditions: where it lies. -/
import Derived.Test.YtmepeolejlpehaaCtS
namespace Go.Proofs.Ytmepeolejlpehaa
open Go.RowKit Go.Maps Go.Proofs.YtmepeolejlpehaaW.PrintWords Go.Proofs.YtmepeolejlpehaaW.PrintLast Go.Proofs.YtmepeolejlpehaaW.PrintMore
/-- The control lies at Q. -/
def CP (w : World) (Q : Nat) (p : Option Addr) (c : CS) : Prop := w.heap[Q]? = some (.cells (c.cells p) 33 (0, 0))
theorem CP.cell {w : World} {Q : Nat} {p : Option Addr} {c : CS} (h : CP w Q p c) (j : Nat) : w.cell? ⟨Q, j, none⟩ = (c.cells p)[j]? := cell_of_row _ _ _ _ _ _ h
/-- A pointer to a control that is nobody: nil, or one without an asker. -/
def NB (w : World) (q : Option Addr) : Prop := q = none ∨ ∃ Q c, q = some ⟨Q, 0, none⟩ ∧ CP w Q none c
theorem NB.of {w w' : World} {q : Option Addr} (h : NB w q) (hb : Below w.heap.size w w') : NB w' q := by
  rcases h with h | ⟨Q, c, h1, h2⟩
  · exact .inl h
  · exact .inr ⟨Q, c, h1, (hb.block Q (Array.getElem?_eq_some_iff.1 h2).1).trans h2⟩
set_option maxHeartbeats 2000000 in
set_option maxRecDepth 100000 in
theorem T.nobodyT (q : Option Addr) (w : World) (h : NB w q) : Calls Try.prog 15 #[.pointer q] w fun e w' => e = .returned (.bool true) ∧ w' = w := by
  rcases h with rfl | ⟨Q, c, rfl, h⟩
  · go_enter Try.func15, Try.ntmps15
    go_wp2
    go_ret
    exact ⟨rfl, rfl⟩
  · have h0 : w.cell? ⟨Q, 0, none⟩ = some (.pointer none) := h.cell 0
    clear h
    go_enter Try.func15, Try.ntmps15
    go_wp2
    go_ret
    exact ⟨rfl, rfl⟩
set_option maxHeartbeats 2000000 in
set_option maxRecDepth 100000 in
theorem T.nobodyF (Q : Nat) (P : Addr) (c : CS) (w : World) (h : CP w Q (some P) c) : Calls Try.prog 15 #[.pointer (some ⟨Q, 0, none⟩)] w fun e w' => e = .returned (.bool false) ∧ w' = w := by
  have h0 : w.cell? ⟨Q, 0, none⟩ = some (.pointer (some P)) := h.cell 0
  clear h
  go_enter Try.func15, Try.ntmps15
  go_wp2
  go_ret
  exact ⟨rfl, rfl⟩
set_option maxHeartbeats 2000000 in
set_option maxRecDepth 100000 in
theorem T.StageNB (q : Option Addr) (w : World) (h : NB w q) : Calls Try.prog 12 #[.pointer q] w fun e w' => e = .returned (.int .i64 0) ∧ w' = w := by
  have hN := Aside.mk (T.nobodyT q w h)
  clear h
  go_enter Try.func12, Try.ntmps12
  go_wp2_with (go_at_call 15; refine hN.out.mono ?_; rintro e w' ⟨rfl, hw⟩; subst w')
  go_ret
  exact ⟨rfl, rfl⟩
set_option maxHeartbeats 2000000 in
set_option maxRecDepth 100000 in
theorem T.Stage (Q : Nat) (P : Addr) (c : CS) (w : World) (h : CP w Q (some P) c) : Calls Try.prog 12 #[.pointer (some ⟨Q, 0, none⟩)] w fun e w' => e = .returned (.int .i64 c.stage) ∧ w' = w := by
  have hN := Aside.mk (T.nobodyF Q P c w h)
  have h1 : w.cell? ⟨Q, 1, none⟩ = some (.int .i64 c.stage) := h.cell 1
  clear h
  go_enter Try.func12, Try.ntmps12
  go_wp2_with (go_at_call 15; refine hN.out.mono ?_; rintro e w' ⟨rfl, hw⟩; subst w')
  go_ret
  exact ⟨rfl, rfl⟩
set_option maxHeartbeats 2000000 in
set_option maxRecDepth 100000 in
theorem T.ResultNB (q : Option Addr) (w : World) (h : NB w q) : Calls Try.prog 7 #[.pointer q] w fun e w' => e = .returned (.tuple #[.int .i64 0, .bool false]) ∧ w' = w := by
  have hN := Aside.mk (T.nobodyT q w h)
  clear h
  go_enter Try.func7, Try.ntmps7
  go_wp2_with (go_at_call 15; refine hN.out.mono ?_; rintro e w' ⟨rfl, hw⟩; subst w')
  go_ret2
  exact ⟨rfl, rfl⟩
set_option maxHeartbeats 2000000 in
set_option maxRecDepth 100000 in
theorem T.Result (Q : Nat) (P : Addr) (c : CS) (w : World) (h : CP w Q (some P) c) : Calls Try.prog 7 #[.pointer (some ⟨Q, 0, none⟩)] w fun e w' => e = .returned (.tuple #[.int .i64 (if c.ended then c.e else 0), .bool c.ended]) ∧ w' = w := by
  have hN := Aside.mk (T.nobodyF Q P c w h)
  have h7 : w.cell? ⟨Q, 7, none⟩ = some (.int .i64 c.e) := h.cell 7
  have h8 : w.cell? ⟨Q, 8, none⟩ = some (.bool c.ended) := h.cell 8
  clear h
  obtain ⟨stage, lo, hi, fr, tgo, data, ce, ended⟩ := c
  dsimp only at h7 h8 ⊢
  cases ended
  · go_enter Try.func7, Try.ntmps7
    go_wp2_with (go_at_call 15; refine hN.out.mono ?_; rintro e w' ⟨rfl, hw⟩; subst w')
    go_ret2
    exact ⟨rfl, rfl⟩
  · go_enter Try.func7, Try.ntmps7
    go_wp2_with (go_at_call 15; refine hN.out.mono ?_; rintro e w' ⟨rfl, hw⟩; subst w')
    go_ret2
    exact ⟨rfl, rfl⟩
set_option maxHeartbeats 2000000 in
set_option maxRecDepth 100000 in
theorem T.endC (Q : Nat) (p : Option Addr) (c : CS) (e0 : Int) (w : World) (h : CP w Q p c) : Calls Try.prog 21 #[.pointer (some ⟨Q, 0, none⟩), .int .i64 e0] w fun e w' => e = .returned (.tuple #[]) ∧ CP w' Q p { c with stage := 0, e := e0, ended := true, data := .slice none 0 0 } ∧ FC [Q] w w' := by
  have h1 : w.cell? ⟨Q, 1, none⟩ = some (.int .i64 c.stage) := h.cell 1
  have h6 : w.cell? ⟨Q, 6, none⟩ = some c.data := h.cell 6
  have h7 : w.cell? ⟨Q, 7, none⟩ = some (.int .i64 c.e) := h.cell 7
  have h8 : w.cell? ⟨Q, 8, none⟩ = some (.bool c.ended) := h.cell 8
  have f1 := frozen_of_row w Q 1 _ _ h
  have f6 := frozen_of_row w Q 6 _ _ h
  have f7 := frozen_of_row w Q 7 _ _ h
  have f8 := frozen_of_row w Q 8 _ _ h
  have hh := heap_setCell_same _ Q 6 _ _ (.slice none 0 0) (heap_setCell_same _ Q 8 _ _ (.bool true) (heap_setCell_same _ Q 7 _ _ (.int .i64 e0) (heap_setCell_same w Q 1 _ _ (.int .i64 0) h)))
  simp only [CS.cells, List.setIfInBounds_toArray, List.set_cons_succ, List.set_cons_zero] at hh
  have HH := Aside.mk hh
  clear h hh
  go_enter Try.func21, Try.ntmps21
  go_wp2
  go_end0
  exact ⟨rfl, HH.out, (((((FC.refl [Q] w).setCell (p := ⟨Q, 1, none⟩) (.inl (by simp)) _).setCell (p := ⟨Q, 7, none⟩) (.inl (by simp)) _).setCell (p := ⟨Q, 8, none⟩) (.inl (by simp)) _).setCell (p := ⟨Q, 6, none⟩) (.inl (by simp)) _)⟩
set_option maxHeartbeats 2000000 in
set_option maxRecDepth 100000 in
theorem T.isC (n : Int) (w : World) : Calls Try.prog 17 #[.int .i64 n] w fun e w' => e = .returned (.bool (decide (1 ≤ n ∧ n ≤ 6))) ∧ w' = w := by
  by_cases h0 : 1 ≤ n
  · by_cases h1 : n ≤ 6
    · have hd : decide (1 ≤ n ∧ n ≤ 6) = true := by simp; omega
      rw [hd]; clear hd
      go_enter Try.func17, Try.ntmps17
      go_wp2
      go_ret
      exact ⟨rfl, rfl⟩
    · have hd : decide (1 ≤ n ∧ n ≤ 6) = false := by simp; omega
      rw [hd]; clear hd
      have h6 : decide (n ≤ 6) = false := by simp; omega
      clear h1
      go_enter Try.func17, Try.ntmps17
      go_wp2
      go_ret
      exact ⟨rfl, rfl⟩
  · have hd : decide (1 ≤ n ∧ n ≤ 6) = false := by simp; omega
    rw [hd]; clear hd
    have h0' : n < 1 := by omega
    clear h0
    go_enter Try.func17, Try.ntmps17
    go_wp2
    go_ret
    exact ⟨rfl, rfl⟩
def mayR (lo hi : Int) : Bool := decide (0 ≤ lo ∧ lo < hi ∧ hi ≤ 65536)
set_option maxHeartbeats 2000000 in
set_option maxRecDepth 100000 in
theorem T.May (lo hi : Int) (w : World) : Calls Try.prog 16 #[.agg #[.int .i64 lo, .int .i64 hi]] w fun e w' => e = .returned (.bool (mayR lo hi)) ∧ Below w.heap.size w w' := by
  have hb : Below w.heap.size w (w.alloc (.cells #[.int .i64 lo, .int .i64 hi] 23)) := (Below.refl _ _).alloc (Nat.le_refl _) _
  have HB := Aside.mk hb
  clear hb
  unfold mayR
  by_cases h0 : 0 ≤ lo
  · by_cases h1 : lo < hi
    · by_cases h2 : hi ≤ 65536
      · have hd : decide (0 ≤ lo ∧ lo < hi ∧ hi ≤ 65536) = true := by simp; omega
        rw [hd]; clear hd
        go_enter Try.func16, Try.ntmps16
        go_wp2
        go_ret
        exact ⟨rfl, HB.out⟩
      · have hd : decide (0 ≤ lo ∧ lo < hi ∧ hi ≤ 65536) = false := by simp; omega
        have h2' : decide (hi ≤ 65536) = false := by simp; omega
        rw [hd]; clear hd h2
        go_enter Try.func16, Try.ntmps16
        go_wp2
        go_ret
        exact ⟨rfl, HB.out⟩
    · have hd : decide (0 ≤ lo ∧ lo < hi ∧ hi ≤ 65536) = false := by simp; omega
      have h1' : decide (lo < hi) = false := by simp; omega
      rw [hd]; clear hd h1
      go_enter Try.func16, Try.ntmps16
      go_wp2
      go_ret
      exact ⟨rfl, HB.out⟩
  · have hd : decide (0 ≤ lo ∧ lo < hi ∧ hi ≤ 65536) = false := by simp; omega
    have h0' : decide (0 ≤ lo) = false := by simp; omega
    rw [hd]; clear hd h0
    go_enter Try.func16, Try.ntmps16
    go_wp2
    go_ret
    exact ⟨rfl, HB.out⟩
end Go.Proofs.Ytmepeolejlpehaa

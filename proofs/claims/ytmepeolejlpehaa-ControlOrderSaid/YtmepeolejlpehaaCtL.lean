/- The asker's Recv of a leader's name. Conditions: where it lies. -/
import Derived.Test.YtmepeolejlpehaaCtN
namespace Go.Proofs.Ytmepeolejlpehaa
open Go.RowKit Go.Maps Go.Proofs.YtmepeolejlpehaaW.PrintWords Go.Proofs.YtmepeolejlpehaaW.PrintLast Go.Proofs.YtmepeolejlpehaaW.PrintMore
set_option maxHeartbeats 8000000 in
set_option maxRecDepth 100000 in
theorem T.RecvL (P M n : Nat) (s : AS) (rn : Int) (A : Option Addr) (c : Nat) (dl : List ByteArray) (w : World) (h : AK w P M n s) (hb : s.busy = true) (hn : n ≤ 100000) (hd : Kd.C Kd.string w A dl.length dl) (hdl : dl.length ≤ 1000) (hAP : ∀ ad, A = some ad → ad.block ≠ P ∧ ad.block < w.heap.size) :
    Calls Try.prog 20 #[.pointer (some ⟨P, 0, none⟩), .agg (packV (-s.id) s.group s.id s.num 15 rn (.slice A dl.length c))] w fun e w' => e = .returned (.tuple #[.agg #[.int .i64 0, .int .i64 0, .int .i64 0, .slice none 0 0, .slice none 0 0, .slice none 0 0], .bool false]) ∧ (∃ n', n' ≤ n + 1 ∧ AK w' P M n' { s with sent := false }) ∧ FC [P, M] w w' := by
  have H := Aside.mk h
  have HD := Aside.mk hd
  have hA := h.at'
  have hidb := h.hid
  obtain ⟨id, nodes, retry, num, group, cmd, busy, sent, waited⟩ := s
  dsimp only at hb hidb
  subst hb
  have hng : IntKind.i64.wrap (-id) = -id := by simp [IntKind.wrap, IntKind.bits, IntKind.signed]; omega
  simp only [packV]
  have hbx : Below w.heap.size w ((w.alloc (.cells #[.int .i64 3, .int .i64 0, .int .i64 (-id), .int .i64 group, .int .i64 0, .int .i64 0, .int .i64 0, .int .i64 0, .int .i64 0, .int .i64 0, .slice none 0 0, .slice none 0 0, .int .i64 0, .int .i64 id, .int .i64 num, .int .i64 0, .int .i64 0, .string ⟨#[]⟩, .string ⟨#[]⟩, .string ⟨#[]⟩, .string ⟨#[]⟩, .int .i64 0, .int .i64 0, .int .i64 0, .string ⟨#[]⟩, .int .i64 0, .int .i64 0, .int .i64 0, .int .i64 0, .int .i64 0, .slice none 0 0, .int .i64 15, .int .i64 0, .int .i64 rn, .slice none 0 0, .slice A dl.length c, .slice none 0 0, .int .i64 0, .slice none 0 0, .slice none 0 0] 57)).alloc (.cells #[.int .i64 0, .int .i64 0, .int .i64 0, .slice none 0 0, .slice none 0 0, .slice none 0 0] 52)) := ((Below.refl _ _).alloc (Nat.le_refl _) _).alloc (by simp) _
  have hBl := heap_alloc2_old w (.cells #[.int .i64 3, .int .i64 0, .int .i64 (-id), .int .i64 group, .int .i64 0, .int .i64 0, .int .i64 0, .int .i64 0, .int .i64 0, .int .i64 0, .slice none 0 0, .slice none 0 0, .int .i64 0, .int .i64 id, .int .i64 num, .int .i64 0, .int .i64 0, .string ⟨#[]⟩, .string ⟨#[]⟩, .string ⟨#[]⟩, .string ⟨#[]⟩, .int .i64 0, .int .i64 0, .int .i64 0, .string ⟨#[]⟩, .int .i64 0, .int .i64 0, .int .i64 0, .int .i64 0, .int .i64 0, .slice none 0 0, .int .i64 15, .int .i64 0, .int .i64 rn, .slice none 0 0, .slice A dl.length c, .slice none 0 0, .int .i64 0, .slice none 0 0, .slice none 0 0] 57) (.cells #[.int .i64 0, .int .i64 0, .int .i64 0, .slice none 0 0, .slice none 0 0, .slice none 0 0] 52)
  clear h hd
  go_enter Try.func20, Try.ntmps20
  go_wp2_with fail
  generalize hw1 : World.alloc (World.alloc w _) _ = w1 at hbx hBl ⊢
  have hAP1 : AP w1 P M ⟨id, nodes, retry, num, group, cmd, true, sent, waited⟩ := (hbx.block P (Array.getElem?_eq_some_iff.1 hA).1).trans hA
  have hbox2 : w1.heap[w.heap.size + 1]? = some (.cells #[.int .i64 0, .int .i64 0, .int .i64 0, .slice none 0 0, .slice none 0 0, .slice none 0 0] 52 (0, 0)) := by
    rw [← hw1]
    have := heap_alloc_new (w.alloc (.cells #[.int .i64 3, .int .i64 0, .int .i64 (-id), .int .i64 group, .int .i64 0, .int .i64 0, .int .i64 0, .int .i64 0, .int .i64 0, .int .i64 0, .slice none 0 0, .slice none 0 0, .int .i64 0, .int .i64 id, .int .i64 num, .int .i64 0, .int .i64 0, .string ⟨#[]⟩, .string ⟨#[]⟩, .string ⟨#[]⟩, .string ⟨#[]⟩, .int .i64 0, .int .i64 0, .int .i64 0, .string ⟨#[]⟩, .int .i64 0, .int .i64 0, .int .i64 0, .int .i64 0, .int .i64 0, .slice none 0 0, .int .i64 15, .int .i64 0, .int .i64 rn, .slice none 0 0, .slice A dl.length c, .slice none 0 0, .int .i64 0, .slice none 0 0, .slice none 0 0] 57)) (.cells #[.int .i64 0, .int .i64 0, .int .i64 0, .slice none 0 0, .slice none 0 0, .slice none 0 0] 52)
    simpa using this
  have hsz1 : w1.heap.size = w.heap.size + 2 := by rw [← hw1]; simp
  clear hw1
  obtain ⟨X, hX⟩ : ∃ X, X = w.heap.size := ⟨_, rfl⟩
  obtain ⟨Y, hY⟩ : ∃ Y, Y = w.heap.size + 1 := ⟨_, rfl⟩
  rw [← hX] at hBl
  rw [← hY] at hbox2
  rw [← hY, ← hX]
  have x0 : w1.cell? ⟨X, 0, none⟩ = some (.int .i64 3) := by rw [cell_of_row _ _ _ _ _ _ hBl]; rfl
  have x2 : w1.cell? ⟨X, 2, none⟩ = some (.int .i64 (-id)) := by rw [cell_of_row _ _ _ _ _ _ hBl]; rfl
  have x3 : w1.cell? ⟨X, 3, none⟩ = some (.int .i64 group) := by rw [cell_of_row _ _ _ _ _ _ hBl]; rfl
  have x13 : w1.cell? ⟨X, 13, none⟩ = some (.int .i64 id) := by rw [cell_of_row _ _ _ _ _ _ hBl]; rfl
  have x14 : w1.cell? ⟨X, 14, none⟩ = some (.int .i64 num) := by rw [cell_of_row _ _ _ _ _ _ hBl]; rfl
  have x31 : w1.cell? ⟨X, 31, none⟩ = some (.int .i64 15) := by rw [cell_of_row _ _ _ _ _ _ hBl]; rfl
  have x32 : w1.cell? ⟨X, 32, none⟩ = some (.int .i64 0) := by rw [cell_of_row _ _ _ _ _ _ hBl]; rfl
  have x33 : w1.cell? ⟨X, 33, none⟩ = some (.int .i64 rn) := by rw [cell_of_row _ _ _ _ _ _ hBl]; rfl
  have x34 : w1.cell? ⟨X, 34, none⟩ = some (.slice none 0 0) := by rw [cell_of_row _ _ _ _ _ _ hBl]; rfl
  have x35 : w1.cell? ⟨X, 35, none⟩ = some (.slice A dl.length c) := by rw [cell_of_row _ _ _ _ _ _ hBl]; rfl
  have x36 : w1.cell? ⟨X, 36, none⟩ = some (.slice none 0 0) := by rw [cell_of_row _ _ _ _ _ _ hBl]; rfl
  have p0 : w1.cell? ⟨P, 0, none⟩ = some (.int .i64 id) := hAP1.cell 0
  have p3 : w1.cell? ⟨P, 3, none⟩ = some (.int .i64 num) := hAP1.cell 3
  have p4 : w1.cell? ⟨P, 4, none⟩ = some (.int .i64 group) := hAP1.cell 4
  have p24 : w1.cell? ⟨P, 24, none⟩ = some (.bool true) := hAP1.cell 24
  have f24 := frozen_of_row w1 P 24 _ _ hAP1
  have HBz := Aside.mk (show ∀ n, Calls Try.prog 23 #[.pointer (some ⟨P, 0, none⟩)] (w1.drewN n) fun e w' => e = .returned (.bool true) ∧ w' = w1.drewN n from fun n => T.Busy P M ⟨id, nodes, retry, num, group, cmd, true, sent, waited⟩ (w1.drewN n) hAP1 hidb.1)
  have HBX := Aside.mk hbx
  have HBl := Aside.mk hBl
  have HY2 := Aside.mk hbox2
  have HA1 := Aside.mk hAP1
  have HXY := Aside.mk (And.intro hX (And.intro hY hsz1))
  have hXP : P ≠ X := by have := (Array.getElem?_eq_some_iff.1 hA).1; omega
  have hYP : P ≠ Y := by have := (Array.getElem?_eq_some_iff.1 hA).1; omega
  have hXY : X ≠ Y := by omega
  clear hbx hBl hbox2 hAP1 hX hY hsz1 hA
  go_quiet ((go_at_call 23; with_reducible exact Calls.quiet_of_same (HBz.out _)))
  have hA2 : AP (w1.drewN nq) P M ⟨id, nodes, retry, num, group, cmd, true, sent, waited⟩ := HA1.out
  have hX2 : (w1.drewN nq).heap[X]? = _ := HBl.out
  have hY2 : (w1.drewN nq).heap[Y]? = _ := HY2.out
  have hF2 : FC [P] w (w1.drewN nq) := (FC.of HBX.out).trans (FC.of (pw_below_drewN (Below.refl _ _) nq))
  have hs2 : (w1.drewN nq).heap.size = w.heap.size + 2 := HXY.out.2.2
  clear x0 x2 x3 x13 x14 x31 x32 x33 x34 x35 x36 p0 p3 p4 p24 f24 HBz HBX HBl HY2 HA1
  generalize w1.drewN nq = w2 at *
  have x31 : w2.cell? ⟨X, 31, none⟩ = some (.int .i64 15) := by rw [cell_of_row _ _ _ _ _ _ hX2]; rfl
  have x32 : w2.cell? ⟨X, 32, none⟩ = some (.int .i64 0) := by rw [cell_of_row _ _ _ _ _ _ hX2]; rfl
  have x33 : w2.cell? ⟨X, 33, none⟩ = some (.int .i64 rn) := by rw [cell_of_row _ _ _ _ _ _ hX2]; rfl
  have x34 : w2.cell? ⟨X, 34, none⟩ = some (.slice none 0 0) := by rw [cell_of_row _ _ _ _ _ _ hX2]; rfl
  have x35 : w2.cell? ⟨X, 35, none⟩ = some (.slice A dl.length c) := by rw [cell_of_row _ _ _ _ _ _ hX2]; rfl
  have x36 : w2.cell? ⟨X, 36, none⟩ = some (.slice none 0 0) := by rw [cell_of_row _ _ _ _ _ _ hX2]; rfl
  have p24 : w2.cell? ⟨P, 24, none⟩ = some (.bool true) := hA2.cell 24
  have f24 := frozen_of_row w2 P 24 _ _ hA2
  have y0 : w2.cell? ⟨Y, 0, none⟩ = some (.int .i64 0) := by rw [cell_of_row _ _ _ _ _ _ hY2]; rfl
  have y1 : w2.cell? ⟨Y, 1, none⟩ = some (.int .i64 0) := by rw [cell_of_row _ _ _ _ _ _ hY2]; rfl
  have y2 : w2.cell? ⟨Y, 2, none⟩ = some (.int .i64 0) := by rw [cell_of_row _ _ _ _ _ _ hY2]; rfl
  have y3 : w2.cell? ⟨Y, 3, none⟩ = some (.slice none 0 0) := by rw [cell_of_row _ _ _ _ _ _ hY2]; rfl
  have y4 : w2.cell? ⟨Y, 4, none⟩ = some (.slice none 0 0) := by rw [cell_of_row _ _ _ _ _ _ hY2]; rfl
  have y5 : w2.cell? ⟨Y, 5, none⟩ = some (.slice none 0 0) := by rw [cell_of_row _ _ _ _ _ _ hY2]; rfl
  have fy0 := frozen_of_row w2 Y 0 _ _ hY2
  have fy1 := frozen_of_row w2 Y 1 _ _ hY2
  have fy2 := frozen_of_row w2 Y 2 _ _ hY2
  have fy3 := frozen_of_row w2 Y 3 _ _ hY2
  have fy4 := frozen_of_row w2 Y 4 _ _ hY2
  have fy5 := frozen_of_row w2 Y 5 _ _ hY2
  have HA2 := Aside.mk hA2
  have HY2 := Aside.mk hY2
  have HF2 := Aside.mk hF2
  have HS2 := Aside.mk hs2
  clear hA2 hX2 hY2 hF2 hs2
  have p25 : w2.cell? ⟨P, 25, none⟩ = some (.bool sent) := HA2.out.cell 25
  have f25 := frozen_of_row w2 P 25 _ _ HA2.out
  have p1 : w2.cell? ⟨P, 1, none⟩ = some (.int .i64 nodes) := HA2.out.cell 1
  clear p24 f24 x32 x34 x35 x36 y0 y1 y2 y3 y4 y5 fy0 fy1 fy2 fy3 fy4 fy5 HD hng hidb
  have hA3 : AP (w2.setCell ⟨P, 25, none⟩ (.bool false)) P M ⟨id, nodes, retry, num, group, cmd, true, false, waited⟩ := by
    have := heap_setCell_same w2 P 25 _ _ (.bool false) HA2.out
    simp only [AS.cells, List.setIfInBounds_toArray, List.set_cons_succ, List.set_cons_zero] at this
    exact this
  have hF3 : FC [P, M] w (w2.setCell ⟨P, 25, none⟩ (.bool false)) := (HF2.out.sub (by simp)).setCell (p := ⟨P, 25, none⟩) (.inl (by simp)) _
  have hMP := H.out.ne
  obtain ⟨f, hf⟩ := H.out.map
  have hM2 : M < w.heap.size := hf.lt
  have hf2 : MapF (w2.setCell ⟨P, 25, none⟩ (.bool false)) M n f := hf.move (by rw [Below.heap_setCell _ _ _ _ hMP.symm]; exact HF2.out.block M hM2 (by simpa using hMP.symm))
  have hY3 : (w2.setCell ⟨P, 25, none⟩ (.bool false)).heap[Y]? = _ := (Below.heap_setCell w2 ⟨P, 25, none⟩ (.bool false) Y hYP.symm).trans HY2.out
  have hAK3 : AK (w2.setCell ⟨P, 25, none⟩ (.bool false)) P M n ⟨id, nodes, retry, num, group, cmd, true, false, waited⟩ := ⟨hA3, ⟨f, hf2⟩, H.out.hid, H.out.hnodes, H.out.hretry, H.out.hnum, H.out.hgroup, H.out.hwaited⟩
  have HAK3 := Aside.mk hAK3
  have HF3 := Aside.mk hF3
  have HMF := Aside.mk hf2
  have HY3 := Aside.mk hY3
  have HM2 := Aside.mk hM2
  have HN := Aside.mk hn
  have hYM : Y ≠ M := by have := HXY.out; omega
  have hYw : w.heap.size ≤ Y := by have := HXY.out; omega
  have HYw := Aside.mk hYw
  have hl7 : (∀ w', Aside (AK w' P M (n + 1) ⟨id, nodes, retry, num, group, cmd, true, false, waited⟩) → Aside (FC [P, M] w w') → Aside (w'.heap[Y]? = some (.cells #[.int .i64 0, .int .i64 0, .int .i64 0, .slice none 0 0, .slice none 0 0, .slice none 0 0] 52 (0, 0))) → Aside (∀ n', n' ≤ n + 1 → AK w' P M n' ⟨id, nodes, retry, num, group, cmd, true, false, waited⟩ → True)) := fun _ _ _ _ => ⟨fun _ _ _ => trivial⟩
  clear hl7 hA3 hF3 hf hf2 hY3 hAK3 hM2 hn hYw hXY hMP
  have hc : rn < 1 ∨ (1 ≤ rn ∧ nodes < rn) ∨ (1 ≤ rn ∧ rn ≤ nodes) := by omega
  rcases hc with hc | ⟨hc, hc2⟩ | ⟨hc, hc2⟩
  · have hd1 : decide (1 ≤ rn) = false := by simp; omega
    clear hc
    go_wp2_with fail
    refine (T.next P M n _ _ HAK3.out HN.out).mono ?_
    rintro e w4 ⟨rfl, hA4, hF4⟩
    have hY4 := (hF4.block Y (Array.getElem?_eq_some_iff.1 HY3.out).1 (by simpa using hYM)).trans HY3.out
    replace hF4 : FC [P, M] w w4 := HF3.out.trans (hF4.sub (by simp))
    have y0 : w4.cell? ⟨Y, 0, none⟩ = some (.int .i64 0) := by rw [cell_of_row _ _ _ _ _ _ hY4]; rfl
    have y1 : w4.cell? ⟨Y, 1, none⟩ = some (.int .i64 0) := by rw [cell_of_row _ _ _ _ _ _ hY4]; rfl
    have y2 : w4.cell? ⟨Y, 2, none⟩ = some (.int .i64 0) := by rw [cell_of_row _ _ _ _ _ _ hY4]; rfl
    have y3 : w4.cell? ⟨Y, 3, none⟩ = some (.slice none 0 0) := by rw [cell_of_row _ _ _ _ _ _ hY4]; rfl
    have y4 : w4.cell? ⟨Y, 4, none⟩ = some (.slice none 0 0) := by rw [cell_of_row _ _ _ _ _ _ hY4]; rfl
    have y5 : w4.cell? ⟨Y, 5, none⟩ = some (.slice none 0 0) := by rw [cell_of_row _ _ _ _ _ _ hY4]; rfl
    have fy : ∀ k, w4.frozen? ⟨Y, k, none⟩ = false := fun k => frozen_of_row w4 Y k _ _ hY4
    have HA4 := Aside.mk hA4
    have HF4 := Aside.mk hF4
    clear hA4 hF4 hY4
    go_wp2
    refine bodyPost_ret (v := .tuple #[.agg #[.int .i64 0, .int .i64 0, .int .i64 0, .slice none 0 0, .slice none 0 0, .slice none 0 0], .bool false]) (by simp [results, Try.f20, go_sem, y0, y1, y2, y3, y4, y5]) rfl ?_
    have hF5 := ((((((FC.refl [Y] w4).setCell (p := ⟨Y, 0, none⟩) (.inl (by simp)) (.int .i64 0)).setCell (p := ⟨Y, 1, none⟩) (.inl (by simp)) (.int .i64 0)).setCell (p := ⟨Y, 2, none⟩) (.inl (by simp)) (.int .i64 0)).setCell (p := ⟨Y, 3, none⟩) (.inl (by simp)) (.slice none 0 0)).setCell (p := ⟨Y, 4, none⟩) (.inl (by simp)) (.slice none 0 0)).setCell (p := ⟨Y, 5, none⟩) (.inl (by simp)) (.slice none 0 0)
    have hF6 := ((((((HF4.out).setCell (p := ⟨Y, 0, none⟩) (.inr HYw.out) (.int .i64 0)).setCell (p := ⟨Y, 1, none⟩) (.inr HYw.out) (.int .i64 0)).setCell (p := ⟨Y, 2, none⟩) (.inr HYw.out) (.int .i64 0)).setCell (p := ⟨Y, 3, none⟩) (.inr HYw.out) (.slice none 0 0)).setCell (p := ⟨Y, 4, none⟩) (.inr HYw.out) (.slice none 0 0)).setCell (p := ⟨Y, 5, none⟩) (.inr HYw.out) (.slice none 0 0)
    exact ⟨rfl, ⟨_, Nat.le_refl _, HA4.out.of_fc hF5 (by simpa using hYP) (by simpa using hYM.symm)⟩, hF6⟩

  · have hd1 : decide (rn ≤ nodes) = false := by simp; omega
    go_wp2_with fail
    refine (T.next P M n _ _ HAK3.out HN.out).mono ?_
    rintro e w4 ⟨rfl, hA4, hF4⟩
    have hY4 := (hF4.block Y (Array.getElem?_eq_some_iff.1 HY3.out).1 (by simpa using hYM)).trans HY3.out
    replace hF4 : FC [P, M] w w4 := HF3.out.trans (hF4.sub (by simp))
    have y0 : w4.cell? ⟨Y, 0, none⟩ = some (.int .i64 0) := by rw [cell_of_row _ _ _ _ _ _ hY4]; rfl
    have y1 : w4.cell? ⟨Y, 1, none⟩ = some (.int .i64 0) := by rw [cell_of_row _ _ _ _ _ _ hY4]; rfl
    have y2 : w4.cell? ⟨Y, 2, none⟩ = some (.int .i64 0) := by rw [cell_of_row _ _ _ _ _ _ hY4]; rfl
    have y3 : w4.cell? ⟨Y, 3, none⟩ = some (.slice none 0 0) := by rw [cell_of_row _ _ _ _ _ _ hY4]; rfl
    have y4 : w4.cell? ⟨Y, 4, none⟩ = some (.slice none 0 0) := by rw [cell_of_row _ _ _ _ _ _ hY4]; rfl
    have y5 : w4.cell? ⟨Y, 5, none⟩ = some (.slice none 0 0) := by rw [cell_of_row _ _ _ _ _ _ hY4]; rfl
    have fy : ∀ k, w4.frozen? ⟨Y, k, none⟩ = false := fun k => frozen_of_row w4 Y k _ _ hY4
    have HA4 := Aside.mk hA4
    have HF4 := Aside.mk hF4
    clear hA4 hF4 hY4
    go_wp2
    refine bodyPost_ret (v := .tuple #[.agg #[.int .i64 0, .int .i64 0, .int .i64 0, .slice none 0 0, .slice none 0 0, .slice none 0 0], .bool false]) (by simp [results, Try.f20, go_sem, y0, y1, y2, y3, y4, y5]) rfl ?_
    have hF5 := ((((((FC.refl [Y] w4).setCell (p := ⟨Y, 0, none⟩) (.inl (by simp)) (.int .i64 0)).setCell (p := ⟨Y, 1, none⟩) (.inl (by simp)) (.int .i64 0)).setCell (p := ⟨Y, 2, none⟩) (.inl (by simp)) (.int .i64 0)).setCell (p := ⟨Y, 3, none⟩) (.inl (by simp)) (.slice none 0 0)).setCell (p := ⟨Y, 4, none⟩) (.inl (by simp)) (.slice none 0 0)).setCell (p := ⟨Y, 5, none⟩) (.inl (by simp)) (.slice none 0 0)
    have hF6 := ((((((HF4.out).setCell (p := ⟨Y, 0, none⟩) (.inr HYw.out) (.int .i64 0)).setCell (p := ⟨Y, 1, none⟩) (.inr HYw.out) (.int .i64 0)).setCell (p := ⟨Y, 2, none⟩) (.inr HYw.out) (.int .i64 0)).setCell (p := ⟨Y, 3, none⟩) (.inr HYw.out) (.slice none 0 0)).setCell (p := ⟨Y, 4, none⟩) (.inr HYw.out) (.slice none 0 0)).setCell (p := ⟨Y, 5, none⟩) (.inr HYw.out) (.slice none 0 0)
    exact ⟨rfl, ⟨_, Nat.le_refl _, HA4.out.of_fc hF5 (by simpa using hYP) (by simpa using hYM.symm)⟩, hF6⟩

  · go_wp2_with fail
    have p27 : (w2.setCell ⟨P, 25, none⟩ (.bool false)).cell? ⟨P, 27, none⟩ = some (.map (some M)) := HAK3.out.at'.cell 27
    have p4 : (w2.setCell ⟨P, 25, none⟩ (.bool false)).cell? ⟨P, 4, none⟩ = some (.int .i64 group) := HAK3.out.at'.cell 4
    clear p1 p25 f25 x31 x33
    have hw : wrap64 (rn - 1) = rn - 1 := by have h5 : nodes ≤ 5 := HAK3.out.hnodes.2; unfold wrap64; omega
    refine still_tail 10 (by kernel_rfl) (by decide +kernel) ?_
    simp only [List.take_succ_cons, List.take_zero, List.drop_succ_cons, List.drop_zero]
    repeat still_step
    refine wpStill_nil ?_
    refine MapF.put (w := World.drew _) (HMF.out.move rfl) rfl (.tmp 78) (.tmp 82) (.tmp 84) rfl group (rn - 1) rfl rfl (by first | rfl | (simp [Act.eval]; rw [IntKind.wrap_i64]; have h5 : nodes ≤ 5 := HAK3.out.hnodes.2; omega)) (wf_small (n := group) (by have h5 : 0 ≤ group ∧ group ≤ 6 := HAK3.out.hgroup; omega) (by have h5 : 0 ≤ group ∧ group ≤ 6 := HAK3.out.hgroup; omega)) (wf_small (n := rn - 1) (by omega) (by have h5 : 1 ≤ nodes ∧ nodes ≤ 5 := HAK3.out.hnodes; omega)) (by have := HN.out; omega) ?_
    intro w4 h4 hg4
    have hlt3 : ∀ k, k < w2.heap.size → k < (World.drew (w2.setCell ⟨P, 25, none⟩ (.bool false))).heap.size := fun k hk => by show k < (w2.setCell _ _).heap.size; rw [size_setCell]; exact hk
    have hY4 : w4.heap[Y]? = _ := (hg4.block Y (Array.getElem?_eq_some_iff.1 HY3.out).1 (fun e => hYM (Option.some.inj e))).trans HY3.out
    have hAP4 : AP w4 P M ⟨id, nodes, retry, num, group, cmd, true, false, waited⟩ := (hg4.block P (Array.getElem?_eq_some_iff.1 HAK3.out.at').1 (fun e => HAK3.out.ne (Option.some.inj e))).trans HAK3.out.at'
    have hA4 : AK w4 P M (n + 1) ⟨id, nodes, retry, num, group, cmd, true, false, waited⟩ := ⟨hAP4, ⟨_, h4⟩, HAK3.out.hid, HAK3.out.hnodes, HAK3.out.hretry, HAK3.out.hnum, HAK3.out.hgroup, HAK3.out.hwaited⟩
    have hF4 : FC [P, M] w w4 := HF3.out.trans ⟨hg4.os, hg4.tape, hg4.output, hg4.size, fun k hk hn => hg4.block k hk (fun e => hn (by simp [← Option.some.inj e]))⟩
    clear h4 hg4 hAP4 hlt3 p27 p4
    have y0 : w4.cell? ⟨Y, 0, none⟩ = some (.int .i64 0) := by rw [cell_of_row _ _ _ _ _ _ hY4]; rfl
    have y1 : w4.cell? ⟨Y, 1, none⟩ = some (.int .i64 0) := by rw [cell_of_row _ _ _ _ _ _ hY4]; rfl
    have y2 : w4.cell? ⟨Y, 2, none⟩ = some (.int .i64 0) := by rw [cell_of_row _ _ _ _ _ _ hY4]; rfl
    have y3 : w4.cell? ⟨Y, 3, none⟩ = some (.slice none 0 0) := by rw [cell_of_row _ _ _ _ _ _ hY4]; rfl
    have y4 : w4.cell? ⟨Y, 4, none⟩ = some (.slice none 0 0) := by rw [cell_of_row _ _ _ _ _ _ hY4]; rfl
    have y5 : w4.cell? ⟨Y, 5, none⟩ = some (.slice none 0 0) := by rw [cell_of_row _ _ _ _ _ _ hY4]; rfl
    have fy : ∀ k, w4.frozen? ⟨Y, k, none⟩ = false := fun k => frozen_of_row w4 Y k _ _ hY4
    have HA4 := Aside.mk hA4
    have HF4 := Aside.mk hF4
    clear hA4 hF4 hY4
    go_wp2
    refine bodyPost_ret (v := .tuple #[.agg #[.int .i64 0, .int .i64 0, .int .i64 0, .slice none 0 0, .slice none 0 0, .slice none 0 0], .bool false]) (by simp [results, Try.f20, go_sem, y0, y1, y2, y3, y4, y5]) rfl ?_
    have hF5 := ((((((FC.refl [Y] w4).setCell (p := ⟨Y, 0, none⟩) (.inl (by simp)) (.int .i64 0)).setCell (p := ⟨Y, 1, none⟩) (.inl (by simp)) (.int .i64 0)).setCell (p := ⟨Y, 2, none⟩) (.inl (by simp)) (.int .i64 0)).setCell (p := ⟨Y, 3, none⟩) (.inl (by simp)) (.slice none 0 0)).setCell (p := ⟨Y, 4, none⟩) (.inl (by simp)) (.slice none 0 0)).setCell (p := ⟨Y, 5, none⟩) (.inl (by simp)) (.slice none 0 0)
    have hF6 := ((((((HF4.out).setCell (p := ⟨Y, 0, none⟩) (.inr HYw.out) (.int .i64 0)).setCell (p := ⟨Y, 1, none⟩) (.inr HYw.out) (.int .i64 0)).setCell (p := ⟨Y, 2, none⟩) (.inr HYw.out) (.int .i64 0)).setCell (p := ⟨Y, 3, none⟩) (.inr HYw.out) (.slice none 0 0)).setCell (p := ⟨Y, 4, none⟩) (.inr HYw.out) (.slice none 0 0)).setCell (p := ⟨Y, 5, none⟩) (.inr HYw.out) (.slice none 0 0)
    exact ⟨rfl, ⟨_, Nat.le_refl _, HA4.out.of_fc hF5 (by simpa using hYP) (by simpa using hYM.symm)⟩, hF6⟩

end Go.Proofs.Ytmepeolejlpehaa

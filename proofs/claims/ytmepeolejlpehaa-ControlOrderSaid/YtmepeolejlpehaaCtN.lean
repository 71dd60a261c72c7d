/- The asker's Recv where it does not answer. Conditions: where it lies. -/
import Derived.Test.YtmepeolejlpehaaCtK
namespace Go.Proofs.Ytmepeolejlpehaa
open Go.RowKit Go.Maps Go.Proofs.YtmepeolejlpehaaW.PrintWords Go.Proofs.YtmepeolejlpehaaW.PrintLast Go.Proofs.YtmepeolejlpehaaW.PrintMore
set_option maxHeartbeats 8000000 in
set_option maxRecDepth 100000 in
theorem T.RecvN (P M n : Nat) (s : AS) (g2 n2 err rn : Int) (A : Option Addr) (c : Nat) (dl : List ByteArray) (w : World) (h : AK w P M n s) (hb : s.busy = true) (hne : (g2 == s.group) = false ∨ (g2 = s.group ∧ (n2 == s.num) = false)) (hd : Kd.C Kd.string w A dl.length dl) (hdl : dl.length ≤ 1000) (hAP : ∀ ad, A = some ad → ad.block ≠ P ∧ ad.block < w.heap.size) :
    Calls Try.prog 20 #[.pointer (some ⟨P, 0, none⟩), .agg (packV (-s.id) g2 s.id n2 err rn (.slice A dl.length c))] w fun e w' => e = .returned (.tuple #[.agg #[.int .i64 0, .int .i64 0, .int .i64 0, .slice none 0 0, .slice none 0 0, .slice none 0 0], .bool false]) ∧ Below w.heap.size w w' := by
  have H := Aside.mk h
  have HD := Aside.mk hd
  have hA := h.at'
  have hidb := h.hid
  obtain ⟨id, nodes, retry, num, group, cmd, busy, sent, waited⟩ := s
  dsimp only at hb hidb hne
  subst hb
  have hng : IntKind.i64.wrap (-id) = -id := by simp [IntKind.wrap, IntKind.bits, IntKind.signed]; omega
  simp only [packV]
  have hbx : Below w.heap.size w ((w.alloc (.cells #[.int .i64 3, .int .i64 0, .int .i64 (-id), .int .i64 g2, .int .i64 0, .int .i64 0, .int .i64 0, .int .i64 0, .int .i64 0, .int .i64 0, .slice none 0 0, .slice none 0 0, .int .i64 0, .int .i64 id, .int .i64 n2, .int .i64 0, .int .i64 0, .string ⟨#[]⟩, .string ⟨#[]⟩, .string ⟨#[]⟩, .string ⟨#[]⟩, .int .i64 0, .int .i64 0, .int .i64 0, .string ⟨#[]⟩, .int .i64 0, .int .i64 0, .int .i64 0, .int .i64 0, .int .i64 0, .slice none 0 0, .int .i64 err, .int .i64 0, .int .i64 rn, .slice none 0 0, .slice A dl.length c, .slice none 0 0, .int .i64 0, .slice none 0 0, .slice none 0 0] 57)).alloc (.cells #[.int .i64 0, .int .i64 0, .int .i64 0, .slice none 0 0, .slice none 0 0, .slice none 0 0] 52)) := ((Below.refl _ _).alloc (Nat.le_refl _) _).alloc (by simp) _
  have hBl := heap_alloc2_old w (.cells #[.int .i64 3, .int .i64 0, .int .i64 (-id), .int .i64 g2, .int .i64 0, .int .i64 0, .int .i64 0, .int .i64 0, .int .i64 0, .int .i64 0, .slice none 0 0, .slice none 0 0, .int .i64 0, .int .i64 id, .int .i64 n2, .int .i64 0, .int .i64 0, .string ⟨#[]⟩, .string ⟨#[]⟩, .string ⟨#[]⟩, .string ⟨#[]⟩, .int .i64 0, .int .i64 0, .int .i64 0, .string ⟨#[]⟩, .int .i64 0, .int .i64 0, .int .i64 0, .int .i64 0, .int .i64 0, .slice none 0 0, .int .i64 err, .int .i64 0, .int .i64 rn, .slice none 0 0, .slice A dl.length c, .slice none 0 0, .int .i64 0, .slice none 0 0, .slice none 0 0] 57) (.cells #[.int .i64 0, .int .i64 0, .int .i64 0, .slice none 0 0, .slice none 0 0, .slice none 0 0] 52)
  clear h hd
  go_enter Try.func20, Try.ntmps20
  go_wp2_with fail
  generalize hw1 : World.alloc (World.alloc w _) _ = w1 at hbx hBl ⊢
  have hAP1 : AP w1 P M ⟨id, nodes, retry, num, group, cmd, true, sent, waited⟩ := (hbx.block P (Array.getElem?_eq_some_iff.1 hA).1).trans hA
  have hbox2 : w1.heap[w.heap.size + 1]? = some (.cells #[.int .i64 0, .int .i64 0, .int .i64 0, .slice none 0 0, .slice none 0 0, .slice none 0 0] 52 (0, 0)) := by
    rw [← hw1]
    have := heap_alloc_new (w.alloc (.cells #[.int .i64 3, .int .i64 0, .int .i64 (-id), .int .i64 g2, .int .i64 0, .int .i64 0, .int .i64 0, .int .i64 0, .int .i64 0, .int .i64 0, .slice none 0 0, .slice none 0 0, .int .i64 0, .int .i64 id, .int .i64 n2, .int .i64 0, .int .i64 0, .string ⟨#[]⟩, .string ⟨#[]⟩, .string ⟨#[]⟩, .string ⟨#[]⟩, .int .i64 0, .int .i64 0, .int .i64 0, .string ⟨#[]⟩, .int .i64 0, .int .i64 0, .int .i64 0, .int .i64 0, .int .i64 0, .slice none 0 0, .int .i64 err, .int .i64 0, .int .i64 rn, .slice none 0 0, .slice A dl.length c, .slice none 0 0, .int .i64 0, .slice none 0 0, .slice none 0 0] 57)) (.cells #[.int .i64 0, .int .i64 0, .int .i64 0, .slice none 0 0, .slice none 0 0, .slice none 0 0] 52)
    simpa using this
  have hsz1 : w1.heap.size = w.heap.size + 2 := by rw [← hw1]; simp
  clear hw1
  obtain ⟨X, hX⟩ : ∃ X, X = w.heap.size := ⟨_, rfl⟩
  obtain ⟨Y, hY⟩ : ∃ Y, Y = w.heap.size + 1 := ⟨_, rfl⟩
  rw [← hX] at hBl
  rw [← hY] at hbox2
  rw [← hY, ← hX]
  have x0 : w1.cell? ⟨X, 0, none⟩ = some (.int .i64 3) := by rw [cell_of_row _ _ _ _ _ _ hBl]; rfl
  have x2 : w1.cell? ⟨X, 2, none⟩ = some (.int .i64 (-id)) := by rw [cell_of_row _ _ _ _ _ _ hBl]; rfl
  have x3 : w1.cell? ⟨X, 3, none⟩ = some (.int .i64 g2) := by rw [cell_of_row _ _ _ _ _ _ hBl]; rfl
  have x13 : w1.cell? ⟨X, 13, none⟩ = some (.int .i64 id) := by rw [cell_of_row _ _ _ _ _ _ hBl]; rfl
  have x14 : w1.cell? ⟨X, 14, none⟩ = some (.int .i64 n2) := by rw [cell_of_row _ _ _ _ _ _ hBl]; rfl
  have x31 : w1.cell? ⟨X, 31, none⟩ = some (.int .i64 err) := by rw [cell_of_row _ _ _ _ _ _ hBl]; rfl
  have x32 : w1.cell? ⟨X, 32, none⟩ = some (.int .i64 0) := by rw [cell_of_row _ _ _ _ _ _ hBl]; rfl
  have x33 : w1.cell? ⟨X, 33, none⟩ = some (.int .i64 rn) := by rw [cell_of_row _ _ _ _ _ _ hBl]; rfl
  have x34 : w1.cell? ⟨X, 34, none⟩ = some (.slice none 0 0) := by rw [cell_of_row _ _ _ _ _ _ hBl]; rfl
  have x35 : w1.cell? ⟨X, 35, none⟩ = some (.slice A dl.length c) := by rw [cell_of_row _ _ _ _ _ _ hBl]; rfl
  have x36 : w1.cell? ⟨X, 36, none⟩ = some (.slice none 0 0) := by rw [cell_of_row _ _ _ _ _ _ hBl]; rfl
  have p0 : w1.cell? ⟨P, 0, none⟩ = some (.int .i64 id) := hAP1.cell 0
  have p3 : w1.cell? ⟨P, 3, none⟩ = some (.int .i64 num) := hAP1.cell 3
  have p4 : w1.cell? ⟨P, 4, none⟩ = some (.int .i64 group) := hAP1.cell 4
  have p24 : w1.cell? ⟨P, 24, none⟩ = some (.bool true) := hAP1.cell 24
  have f24 := frozen_of_row w1 P 24 _ _ hAP1
  have HBz := Aside.mk (show ∀ n, Calls Try.prog 23 #[.pointer (some ⟨P, 0, none⟩)] (w1.drewN n) fun e w' => e = .returned (.bool true) ∧ w' = w1.drewN n from fun n => T.Busy P M ⟨id, nodes, retry, num, group, cmd, true, sent, waited⟩ (w1.drewN n) hAP1 hidb.1)
  have HBX := Aside.mk hbx
  have HBl := Aside.mk hBl
  have HY2 := Aside.mk hbox2
  have HA1 := Aside.mk hAP1
  have HXY := Aside.mk (And.intro hX (And.intro hY hsz1))
  have hXP : P ≠ X := by have := (Array.getElem?_eq_some_iff.1 hA).1; omega
  have hYP : P ≠ Y := by have := (Array.getElem?_eq_some_iff.1 hA).1; omega
  have hXY : X ≠ Y := by omega
  clear hbx hBl hbox2 hAP1 hX hsz1 hA
  have fin : Aside (∀ n, (w1.drewN n).heap[Y]? = some (.cells #[.int .i64 0, .int .i64 0, .int .i64 0, .slice none 0 0, .slice none 0 0, .slice none 0 0] 52 (0, 0)) ∧ Below w.heap.size w (w1.drewN n)) := ⟨fun n => ⟨HY2.out, pw_below_drewN HBX.out n⟩⟩
  clear HBX HBl HY2 HA1 HXY H HD
  rcases hne with hne | ⟨he, hne⟩
  · have hne2 : ¬ g2 = group := by simpa using hne
    have hne5 : (g2 != group) = true := by simp [bne, hne]
    go_quiet ((go_at_call 23; with_reducible exact Calls.quiet_of_same (HBz.out _)))
    obtain ⟨hY2, hB2⟩ := fin.out nq
    clear x0 x2 x3 x13 x14 x31 x32 x33 x34 x35 x36 p0 p3 p4 p24 f24 HBz
    generalize w1.drewN nq = w2 at *
    have y0 : w2.cell? ⟨Y, 0, none⟩ = some (.int .i64 0) := by rw [cell_of_row _ _ _ _ _ _ hY2]; rfl
    have y1 : w2.cell? ⟨Y, 1, none⟩ = some (.int .i64 0) := by rw [cell_of_row _ _ _ _ _ _ hY2]; rfl
    have y2 : w2.cell? ⟨Y, 2, none⟩ = some (.int .i64 0) := by rw [cell_of_row _ _ _ _ _ _ hY2]; rfl
    have y3 : w2.cell? ⟨Y, 3, none⟩ = some (.slice none 0 0) := by rw [cell_of_row _ _ _ _ _ _ hY2]; rfl
    have y4 : w2.cell? ⟨Y, 4, none⟩ = some (.slice none 0 0) := by rw [cell_of_row _ _ _ _ _ _ hY2]; rfl
    have y5 : w2.cell? ⟨Y, 5, none⟩ = some (.slice none 0 0) := by rw [cell_of_row _ _ _ _ _ _ hY2]; rfl
    have fy : ∀ k, w2.frozen? ⟨Y, k, none⟩ = false := fun k => frozen_of_row w2 Y k _ _ hY2
    have hYw : w.heap.size ≤ Y := by omega
    have HB2 := Aside.mk hB2
    have HY2 := Aside.mk hY2
    have HYw := Aside.mk hYw
    clear hB2 hY2 hYw hY
    go_wp2
    refine bodyPost_ret (v := .tuple #[.agg #[.int .i64 0, .int .i64 0, .int .i64 0, .slice none 0 0, .slice none 0 0, .slice none 0 0], .bool false]) (by simp [results, Try.f20, go_sem, y0, y1, y2, y3, y4, y5]) rfl ?_
    have hF := ((((((FC.of (S := []) HB2.out).setCell (p := ⟨Y, 0, none⟩) (.inr HYw.out) (.int .i64 0)).setCell (p := ⟨Y, 1, none⟩) (.inr HYw.out) (.int .i64 0)).setCell (p := ⟨Y, 2, none⟩) (.inr HYw.out) (.int .i64 0)).setCell (p := ⟨Y, 3, none⟩) (.inr HYw.out) (.slice none 0 0)).setCell (p := ⟨Y, 4, none⟩) (.inr HYw.out) (.slice none 0 0)).setCell (p := ⟨Y, 5, none⟩) (.inr HYw.out) (.slice none 0 0)
    exact ⟨rfl, hF.os, hF.tape, hF.output, hF.size, fun k hk => hF.block k hk (by simp)⟩
  · rw [he] at x3
    clear he
    have hne2 : ¬ n2 = num := by simpa using hne
    have hne5 : (n2 != num) = true := by simp [bne, hne]
    go_quiet ((go_at_call 23; with_reducible exact Calls.quiet_of_same (HBz.out _)))
    obtain ⟨hY2, hB2⟩ := fin.out nq
    clear x0 x2 x3 x13 x14 x31 x32 x33 x34 x35 x36 p0 p3 p4 p24 f24 HBz
    generalize w1.drewN nq = w2 at *
    have y0 : w2.cell? ⟨Y, 0, none⟩ = some (.int .i64 0) := by rw [cell_of_row _ _ _ _ _ _ hY2]; rfl
    have y1 : w2.cell? ⟨Y, 1, none⟩ = some (.int .i64 0) := by rw [cell_of_row _ _ _ _ _ _ hY2]; rfl
    have y2 : w2.cell? ⟨Y, 2, none⟩ = some (.int .i64 0) := by rw [cell_of_row _ _ _ _ _ _ hY2]; rfl
    have y3 : w2.cell? ⟨Y, 3, none⟩ = some (.slice none 0 0) := by rw [cell_of_row _ _ _ _ _ _ hY2]; rfl
    have y4 : w2.cell? ⟨Y, 4, none⟩ = some (.slice none 0 0) := by rw [cell_of_row _ _ _ _ _ _ hY2]; rfl
    have y5 : w2.cell? ⟨Y, 5, none⟩ = some (.slice none 0 0) := by rw [cell_of_row _ _ _ _ _ _ hY2]; rfl
    have fy : ∀ k, w2.frozen? ⟨Y, k, none⟩ = false := fun k => frozen_of_row w2 Y k _ _ hY2
    have hYw : w.heap.size ≤ Y := by omega
    have HB2 := Aside.mk hB2
    have HY2 := Aside.mk hY2
    have HYw := Aside.mk hYw
    clear hB2 hY2 hYw hY
    go_wp2
    refine bodyPost_ret (v := .tuple #[.agg #[.int .i64 0, .int .i64 0, .int .i64 0, .slice none 0 0, .slice none 0 0, .slice none 0 0], .bool false]) (by simp [results, Try.f20, go_sem, y0, y1, y2, y3, y4, y5]) rfl ?_
    have hF := ((((((FC.of (S := []) HB2.out).setCell (p := ⟨Y, 0, none⟩) (.inr HYw.out) (.int .i64 0)).setCell (p := ⟨Y, 1, none⟩) (.inr HYw.out) (.int .i64 0)).setCell (p := ⟨Y, 2, none⟩) (.inr HYw.out) (.int .i64 0)).setCell (p := ⟨Y, 3, none⟩) (.inr HYw.out) (.slice none 0 0)).setCell (p := ⟨Y, 4, none⟩) (.inr HYw.out) (.slice none 0 0)).setCell (p := ⟨Y, 5, none⟩) (.inr HYw.out) (.slice none 0 0)
    exact ⟨rfl, hF.os, hF.tape, hF.output, hF.size, fun k hk => hF.block k hk (by simp)⟩
end Go.Proofs.Ytmepeolejlpehaa

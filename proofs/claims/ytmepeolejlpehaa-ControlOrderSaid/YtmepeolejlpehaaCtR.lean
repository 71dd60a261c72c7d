/- The asker's Recv of an answer. Conditions: where it lies; the packet is about what it asks. -/
import Derived.Test.YtmepeolejlpehaaCtS
import Derived.Test.YtmepeolejlpehaaConfG
import Derived.Shelf.Abstract
namespace Go.Proofs.Ytmepeolejlpehaa
open Go.RowKit Go.Maps Go.Proofs.YtmepeolejlpehaaW.PrintWords Go.Proofs.YtmepeolejlpehaaW.PrintLast Go.Proofs.YtmepeolejlpehaaW.PrintMore
theorem C_fc {S : List Nat} {w w' : World} {A : Option Addr} {n : Nat} {l : List ByteArray} (h : Kd.C Kd.string w A n l) (f : FC S w w') (hS : ∀ ad, A = some ad → ad.block ∉ S) : Kd.C Kd.string w' A n l := by
  refine ⟨h.1, h.2.1, fun hp => ?_⟩
  obtain ⟨ad, e, hc⟩ := h.2.2 hp
  refine ⟨ad, e, fun j q hj => ?_⟩
  obtain ⟨cs, h1, h2, h3⟩ := hc j q hj
  refine ⟨cs, h1, h2, fun i u hu => ?_⟩
  have h4 := h3 i u hu
  rw [← h4]
  refine World.cell?_of_block (f.block _ (block_lt_of_cell h4) ?_)
  have hb : ∀ k, (ad.add k).block = ad.block := fun k => by unfold Addr.add; split <;> rfl
  rw [hb]
  exact hS ad e
/-- A packet that answers. -/
def packV (to' group client num err rn : Int) (data : Value) : Array Value := #[.int .i64 3, .int .i64 0, .int .i64 to', .int .i64 group, .int .i64 0, .int .i64 0, .int .i64 0, .int .i64 0, .int .i64 0, .int .i64 0, .slice none 0 0, .slice none 0 0, .int .i64 0, .int .i64 client, .int .i64 num, .int .i64 0, .int .i64 0, .string ⟨#[]⟩, .string ⟨#[]⟩, .string ⟨#[]⟩, .string ⟨#[]⟩, .int .i64 0, .int .i64 0, .int .i64 0, .string ⟨#[]⟩, .int .i64 0, .int .i64 0, .int .i64 0, .int .i64 0, .int .i64 0, .slice none 0 0, .int .i64 err, .int .i64 0, .int .i64 rn, .slice none 0 0, data, .slice none 0 0, .int .i64 0, .slice none 0 0, .slice none 0 0]
set_option maxHeartbeats 8000000 in
set_option maxRecDepth 100000 in
theorem T.RecvA (P M n : Nat) (s : AS) (err rn : Int) (A : Option Addr) (c : Nat) (dl : List ByteArray) (w : World) (h : AK w P M n s) (hb : s.busy = true) (herr : (err == 15) = false) (hd : Kd.C Kd.string w A dl.length dl) (hdl : dl.length ≤ 1000) (hAP : ∀ ad, A = some ad → ad.block ≠ P ∧ ad.block < w.heap.size) :
    Calls Try.prog 20 #[.pointer (some ⟨P, 0, none⟩), .agg (packV (-s.id) s.group s.id s.num err rn (.slice A dl.length c))] w fun e w' => ∃ d, e = .returned (.tuple #[.agg #[.int .i64 err, .int .i64 0, .int .i64 rn, .slice none 0 0, d, .slice none 0 0], .bool true]) ∧ Kd.R Kd.string 9 w' w.heap.size (fun _ => True) d dl ∧ AK w' P M n { s with busy := false } ∧ FC [P] w w' := by
  have H := Aside.mk h
  have HD := Aside.mk hd
  have hA := h.at'
  have hidb := h.hid
  obtain ⟨id, nodes, retry, num, group, cmd, busy, sent, waited⟩ := s
  dsimp only at hb hidb
  subst hb
  have hng : IntKind.i64.wrap (-id) = -id := by simp [IntKind.wrap, IntKind.bits, IntKind.signed]; omega
  simp only [packV]
  have hbx : Below w.heap.size w ((w.alloc (.cells #[.int .i64 3, .int .i64 0, .int .i64 (-id), .int .i64 group, .int .i64 0, .int .i64 0, .int .i64 0, .int .i64 0, .int .i64 0, .int .i64 0, .slice none 0 0, .slice none 0 0, .int .i64 0, .int .i64 id, .int .i64 num, .int .i64 0, .int .i64 0, .string ⟨#[]⟩, .string ⟨#[]⟩, .string ⟨#[]⟩, .string ⟨#[]⟩, .int .i64 0, .int .i64 0, .int .i64 0, .string ⟨#[]⟩, .int .i64 0, .int .i64 0, .int .i64 0, .int .i64 0, .int .i64 0, .slice none 0 0, .int .i64 err, .int .i64 0, .int .i64 rn, .slice none 0 0, .slice A dl.length c, .slice none 0 0, .int .i64 0, .slice none 0 0, .slice none 0 0] 57)).alloc (.cells #[.int .i64 0, .int .i64 0, .int .i64 0, .slice none 0 0, .slice none 0 0, .slice none 0 0] 52)) := ((Below.refl _ _).alloc (Nat.le_refl _) _).alloc (by simp) _
  have hBl := heap_alloc2_old w (.cells #[.int .i64 3, .int .i64 0, .int .i64 (-id), .int .i64 group, .int .i64 0, .int .i64 0, .int .i64 0, .int .i64 0, .int .i64 0, .int .i64 0, .slice none 0 0, .slice none 0 0, .int .i64 0, .int .i64 id, .int .i64 num, .int .i64 0, .int .i64 0, .string ⟨#[]⟩, .string ⟨#[]⟩, .string ⟨#[]⟩, .string ⟨#[]⟩, .int .i64 0, .int .i64 0, .int .i64 0, .string ⟨#[]⟩, .int .i64 0, .int .i64 0, .int .i64 0, .int .i64 0, .int .i64 0, .slice none 0 0, .int .i64 err, .int .i64 0, .int .i64 rn, .slice none 0 0, .slice A dl.length c, .slice none 0 0, .int .i64 0, .slice none 0 0, .slice none 0 0] 57) (.cells #[.int .i64 0, .int .i64 0, .int .i64 0, .slice none 0 0, .slice none 0 0, .slice none 0 0] 52)
  clear h hd
  go_enter Try.func20, Try.ntmps20
  go_wp2_with fail
  generalize hw1 : World.alloc (World.alloc w _) _ = w1 at hbx hBl ⊢
  have hAP1 : AP w1 P M ⟨id, nodes, retry, num, group, cmd, true, sent, waited⟩ := (hbx.block P (Array.getElem?_eq_some_iff.1 hA).1).trans hA
  have hbox2 : w1.heap[w.heap.size + 1]? = some (.cells #[.int .i64 0, .int .i64 0, .int .i64 0, .slice none 0 0, .slice none 0 0, .slice none 0 0] 52 (0, 0)) := by
    rw [← hw1]
    have := heap_alloc_new (w.alloc (.cells #[.int .i64 3, .int .i64 0, .int .i64 (-id), .int .i64 group, .int .i64 0, .int .i64 0, .int .i64 0, .int .i64 0, .int .i64 0, .int .i64 0, .slice none 0 0, .slice none 0 0, .int .i64 0, .int .i64 id, .int .i64 num, .int .i64 0, .int .i64 0, .string ⟨#[]⟩, .string ⟨#[]⟩, .string ⟨#[]⟩, .string ⟨#[]⟩, .int .i64 0, .int .i64 0, .int .i64 0, .string ⟨#[]⟩, .int .i64 0, .int .i64 0, .int .i64 0, .int .i64 0, .int .i64 0, .slice none 0 0, .int .i64 err, .int .i64 0, .int .i64 rn, .slice none 0 0, .slice A dl.length c, .slice none 0 0, .int .i64 0, .slice none 0 0, .slice none 0 0] 57)) (.cells #[.int .i64 0, .int .i64 0, .int .i64 0, .slice none 0 0, .slice none 0 0, .slice none 0 0] 52)
    simpa using this
  have hsz1 : w1.heap.size = w.heap.size + 2 := by rw [← hw1]; simp
  clear hw1
  obtain ⟨X, hX⟩ : ∃ X, X = w.heap.size := ⟨_, rfl⟩
  obtain ⟨Y, hY⟩ : ∃ Y, Y = w.heap.size + 1 := ⟨_, rfl⟩
  rw [← hX] at hBl
  rw [← hY] at hbox2
  rw [← hY, ← hX]
  have x0 : w1.cell? ⟨X, 0, none⟩ = some (.int .i64 3) := by rw [cell_of_row _ _ _ _ _ _ hBl]; rfl
  have x2 : w1.cell? ⟨X, 2, none⟩ = some (.int .i64 (-id)) := by rw [cell_of_row _ _ _ _ _ _ hBl]; rfl
  have x3 : w1.cell? ⟨X, 3, none⟩ = some (.int .i64 group) := by rw [cell_of_row _ _ _ _ _ _ hBl]; rfl
  have x13 : w1.cell? ⟨X, 13, none⟩ = some (.int .i64 id) := by rw [cell_of_row _ _ _ _ _ _ hBl]; rfl
  have x14 : w1.cell? ⟨X, 14, none⟩ = some (.int .i64 num) := by rw [cell_of_row _ _ _ _ _ _ hBl]; rfl
  have x31 : w1.cell? ⟨X, 31, none⟩ = some (.int .i64 err) := by rw [cell_of_row _ _ _ _ _ _ hBl]; rfl
  have x32 : w1.cell? ⟨X, 32, none⟩ = some (.int .i64 0) := by rw [cell_of_row _ _ _ _ _ _ hBl]; rfl
  have x33 : w1.cell? ⟨X, 33, none⟩ = some (.int .i64 rn) := by rw [cell_of_row _ _ _ _ _ _ hBl]; rfl
  have x34 : w1.cell? ⟨X, 34, none⟩ = some (.slice none 0 0) := by rw [cell_of_row _ _ _ _ _ _ hBl]; rfl
  have x35 : w1.cell? ⟨X, 35, none⟩ = some (.slice A dl.length c) := by rw [cell_of_row _ _ _ _ _ _ hBl]; rfl
  have x36 : w1.cell? ⟨X, 36, none⟩ = some (.slice none 0 0) := by rw [cell_of_row _ _ _ _ _ _ hBl]; rfl
  have p0 : w1.cell? ⟨P, 0, none⟩ = some (.int .i64 id) := hAP1.cell 0
  have p3 : w1.cell? ⟨P, 3, none⟩ = some (.int .i64 num) := hAP1.cell 3
  have p4 : w1.cell? ⟨P, 4, none⟩ = some (.int .i64 group) := hAP1.cell 4
  have p24 : w1.cell? ⟨P, 24, none⟩ = some (.bool true) := hAP1.cell 24
  have f24 := frozen_of_row w1 P 24 _ _ hAP1
  have HBz := Aside.mk (show ∀ n, Calls Try.prog 23 #[.pointer (some ⟨P, 0, none⟩)] (w1.drewN n) fun e w' => e = .returned (.bool true) ∧ w' = w1.drewN n from fun n => T.Busy P M ⟨id, nodes, retry, num, group, cmd, true, sent, waited⟩ (w1.drewN n) hAP1 hidb.1)
  have HBX := Aside.mk hbx
  have HBl := Aside.mk hBl
  have HY2 := Aside.mk hbox2
  have HA1 := Aside.mk hAP1
  have HXY := Aside.mk (And.intro hX (And.intro hY hsz1))
  have hXP : P ≠ X := by have := (Array.getElem?_eq_some_iff.1 hA).1; omega
  have hYP : P ≠ Y := by have := (Array.getElem?_eq_some_iff.1 hA).1; omega
  have hXY : X ≠ Y := by omega
  clear hbx hBl hbox2 hAP1 hX hY hsz1 hA
  go_quiet ((go_at_call 23; with_reducible exact Calls.quiet_of_same (HBz.out _)))
  have hA2 : AP (w1.drewN nq) P M ⟨id, nodes, retry, num, group, cmd, true, sent, waited⟩ := HA1.out
  have hX2 : (w1.drewN nq).heap[X]? = _ := HBl.out
  have hY2 : (w1.drewN nq).heap[Y]? = _ := HY2.out
  have hF2 : FC [P] w (w1.drewN nq) := (FC.of HBX.out).trans (FC.of (pw_below_drewN (Below.refl _ _) nq))
  have hs2 : (w1.drewN nq).heap.size = w.heap.size + 2 := HXY.out.2.2
  clear x0 x2 x3 x13 x14 x31 x32 x33 x34 x35 x36 p0 p3 p4 p24 f24 HBz HBX HBl HY2 HA1
  generalize w1.drewN nq = w2 at *
  have x31 : w2.cell? ⟨X, 31, none⟩ = some (.int .i64 err) := by rw [cell_of_row _ _ _ _ _ _ hX2]; rfl
  have x32 : w2.cell? ⟨X, 32, none⟩ = some (.int .i64 0) := by rw [cell_of_row _ _ _ _ _ _ hX2]; rfl
  have x33 : w2.cell? ⟨X, 33, none⟩ = some (.int .i64 rn) := by rw [cell_of_row _ _ _ _ _ _ hX2]; rfl
  have x34 : w2.cell? ⟨X, 34, none⟩ = some (.slice none 0 0) := by rw [cell_of_row _ _ _ _ _ _ hX2]; rfl
  have x35 : w2.cell? ⟨X, 35, none⟩ = some (.slice A dl.length c) := by rw [cell_of_row _ _ _ _ _ _ hX2]; rfl
  have x36 : w2.cell? ⟨X, 36, none⟩ = some (.slice none 0 0) := by rw [cell_of_row _ _ _ _ _ _ hX2]; rfl
  have p24 : w2.cell? ⟨P, 24, none⟩ = some (.bool true) := hA2.cell 24
  have f24 := frozen_of_row w2 P 24 _ _ hA2
  have y0 : w2.cell? ⟨Y, 0, none⟩ = some (.int .i64 0) := by rw [cell_of_row _ _ _ _ _ _ hY2]; rfl
  have y1 : w2.cell? ⟨Y, 1, none⟩ = some (.int .i64 0) := by rw [cell_of_row _ _ _ _ _ _ hY2]; rfl
  have y2 : w2.cell? ⟨Y, 2, none⟩ = some (.int .i64 0) := by rw [cell_of_row _ _ _ _ _ _ hY2]; rfl
  have y3 : w2.cell? ⟨Y, 3, none⟩ = some (.slice none 0 0) := by rw [cell_of_row _ _ _ _ _ _ hY2]; rfl
  have y4 : w2.cell? ⟨Y, 4, none⟩ = some (.slice none 0 0) := by rw [cell_of_row _ _ _ _ _ _ hY2]; rfl
  have y5 : w2.cell? ⟨Y, 5, none⟩ = some (.slice none 0 0) := by rw [cell_of_row _ _ _ _ _ _ hY2]; rfl
  have fy0 := frozen_of_row w2 Y 0 _ _ hY2
  have fy1 := frozen_of_row w2 Y 1 _ _ hY2
  have fy2 := frozen_of_row w2 Y 2 _ _ hY2
  have fy3 := frozen_of_row w2 Y 3 _ _ hY2
  have fy4 := frozen_of_row w2 Y 4 _ _ hY2
  have fy5 := frozen_of_row w2 Y 5 _ _ hY2
  have HA2 := Aside.mk hA2
  have HY2 := Aside.mk hY2
  have HF2 := Aside.mk hF2
  have HS2 := Aside.mk hs2
  clear hA2 hX2 hY2 hF2 hs2
  go_wp2_with fail
  have hYP24 : (w2.setCell ⟨P, 24, none⟩ (.bool false)).heap[Y]? = _ := (Below.heap_setCell w2 ⟨P, 24, none⟩ (.bool false) Y hYP.symm).trans HY2.out
  have hY12 := heap_setCell_same _ Y 5 _ _ (.slice none 0 0) (heap_setCell_same _ Y 4 _ _ (.slice A dl.length c) (heap_setCell_same _ Y 3 _ _ (.slice none 0 0) (heap_setCell_same _ Y 2 _ _ (.int .i64 rn) (heap_setCell_same _ Y 1 _ _ (.int .i64 0) (heap_setCell_same _ Y 0 _ _ (.int .i64 err) hYP24)))))
  simp only [List.setIfInBounds_toArray, List.set_cons_succ, List.set_cons_zero] at hY12
  have hA12 := heap_setCell_same w2 P 24 _ _ (.bool false) HA2.out
  simp only [AS.cells, List.setIfInBounds_toArray, List.set_cons_succ, List.set_cons_zero] at hA12
  have hXYo := HXY.out
  have hYS : w.heap.size ≤ Y := by omega
  have hF12 : FC [P, Y] w2 ((((((((w2.setCell ⟨P, 24, none⟩ (.bool false)).setCell ⟨Y, 0, none⟩ (.int .i64 err)).setCell ⟨Y, 1, none⟩ (.int .i64 0)).setCell ⟨Y, 2, none⟩ (.int .i64 rn)).setCell ⟨Y, 3, none⟩ (.slice none 0 0)).setCell ⟨Y, 4, none⟩ (.slice A dl.length c)).setCell ⟨Y, 5, none⟩ (.slice none 0 0))) := ((((((((FC.refl [P, Y] w2).setCell (p := ⟨P, 24, none⟩) (.inl (by simp)) _).setCell (p := ⟨Y, 0, none⟩) (.inl (by simp)) _).setCell (p := ⟨Y, 1, none⟩) (.inl (by simp)) _).setCell (p := ⟨Y, 2, none⟩) (.inl (by simp)) _).setCell (p := ⟨Y, 3, none⟩) (.inl (by simp)) _).setCell (p := ⟨Y, 4, none⟩) (.inl (by simp)) _).setCell (p := ⟨Y, 5, none⟩) (.inl (by simp)) _)
  have hA12' : AP ((((((((w2.setCell ⟨P, 24, none⟩ (.bool false)).setCell ⟨Y, 0, none⟩ (.int .i64 err)).setCell ⟨Y, 1, none⟩ (.int .i64 0)).setCell ⟨Y, 2, none⟩ (.int .i64 rn)).setCell ⟨Y, 3, none⟩ (.slice none 0 0)).setCell ⟨Y, 4, none⟩ (.slice A dl.length c)).setCell ⟨Y, 5, none⟩ (.slice none 0 0))) P M ⟨id, nodes, retry, num, group, cmd, false, sent, waited⟩ := by
    unfold AP
    repeat rw [Below.heap_setCell _ ⟨Y, _, none⟩ _ P hYP]
    exact hA12
  have hFw : FC [P] w ((((((((w2.setCell ⟨P, 24, none⟩ (.bool false)).setCell ⟨Y, 0, none⟩ (.int .i64 err)).setCell ⟨Y, 1, none⟩ (.int .i64 0)).setCell ⟨Y, 2, none⟩ (.int .i64 rn)).setCell ⟨Y, 3, none⟩ (.slice none 0 0)).setCell ⟨Y, 4, none⟩ (.slice A dl.length c)).setCell ⟨Y, 5, none⟩ (.slice none 0 0))) := ((((((((HF2.out).setCell (p := ⟨P, 24, none⟩) (.inl (by simp)) _).setCell (p := ⟨Y, 0, none⟩) (.inr hYS) _).setCell (p := ⟨Y, 1, none⟩) (.inr hYS) _).setCell (p := ⟨Y, 2, none⟩) (.inr hYS) _).setCell (p := ⟨Y, 3, none⟩) (.inr hYS) _).setCell (p := ⟨Y, 4, none⟩) (.inr hYS) _).setCell (p := ⟨Y, 5, none⟩) (.inr hYS) _)
  clear hF12 hA12 hYP24 x31 x32 x33 x34 x35 x36 p24 f24 y0 y1 y2 y3 y4 y5 fy0 fy1 fy2 fy3 fy4 fy5
  generalize World.setCell (World.setCell (World.setCell _ _ _) _ _) ⟨Y, 5, none⟩ _ = w3 at *
  have hC3 := C_fc HD.out hFw (fun ad e => by simpa using (hAP ad e).1)
  obtain ⟨Y0, hY0⟩ : ∃ Y0 : Array Value, Y0 = #[.int .i64 err, .int .i64 0, .int .i64 rn, .slice none 0 0, .slice A dl.length c, .slice none 0 0] := ⟨_, rfl⟩
  have hYc : CellsF w3 Y 52 (fun k => Y0[k]?) := by rw [hY0]; exact CellsF.of_row hY12
  have hYlt : Y < w3.heap.size := (Array.getElem?_eq_some_iff.1 hY12).1
  let cellAt : Value → Array Bool → Nat → Option Value := fun g listed k => if k = 4 ∧ listed.getD 12 false = true then some g else Y0[k]?
  have c3 : ∀ g listed, cellAt g listed 3 = some (.slice none 0 0) := fun g listed => by simp [cellAt, hY0]
  have c5 : ∀ g listed, cellAt g listed 5 = some (.slice none 0 0) := fun g listed => by simp [cellAt, hY0]
  have c4 : ∀ g listed, listed.getD 12 false = false → cellAt g listed 4 = some (.slice A dl.length c) := fun g listed h => by
    show (if 4 = 4 ∧ listed.getD 12 false = true then some g else Y0[4]?) = _
    rw [if_neg (by rw [h]; simp), hY0]; rfl
  have hk : ∀ (g : Value) (listed : Array Bool) (i : Nat), i < listed.size → i ≠ 12 → ∀ k, cellAt g listed k = cellAt g (listed.setIfInBounds i true) k := fun g listed i hi h12 k => by
    simp only [cellAt, getD_set _ _ _ _ _ hi, if_neg h12.symm]
  let W : Value → Array Bool → World → Prop := fun g listed w' => FC [Y] w3 w' ∧ CellsF w' Y 52 (cellAt g listed) ∧ (listed.getD 5 false = true → Kd.R Kd.string 9 w' w3.heap.size (fun _ => True) g dl ∧ listed.getD 4 false = true) ∧ (listed.getD 12 false = true → listed.getD 5 false = true)
  have hkeep : ∀ g listed w' i, i < listed.size → i ≠ 12 → i ≠ 5 → W g listed w' → W g (listed.setIfInBounds i true) w' := fun g listed w' i hi h12 h5 hW => by
    obtain ⟨a1, a2, a3, a4⟩ := hW
    refine ⟨a1, a2.congr (hk g listed i hi h12), fun h => ?_, fun h => ?_⟩
    · rw [getD_set _ _ _ _ _ hi, if_neg h5.symm] at h
      refine ⟨(a3 h).1, ?_⟩
      rw [getD_set _ _ _ _ _ hi]
      split
      · rfl
      · exact (a3 h).2
    · rw [getD_set _ _ _ _ _ hi, if_neg h12.symm] at h
      rw [getD_set _ _ _ _ _ hi, if_neg h5.symm]
      exact a4 h
  refine wp_region_confG (by kernel_rfl) (fun (g : Value) i => if i = 5 then g else ([(.pointer (some ⟨Y, 3, none⟩)), .slice none 0 0, .slice none 0 0, (.pointer (some ⟨Y, 4, none⟩)), .slice A dl.length c, undef, (.pointer (some ⟨Y, 5, none⟩)), .slice none 0 0, .slice none 0 0, (.pointer (some ⟨Y, 3, none⟩)), undef, (.pointer (some ⟨Y, 4, none⟩)), undef, (.pointer (some ⟨Y, 5, none⟩)), undef] : List Value).getD i undef) W (.slice none 0 0) (by kernel_rfl) ?h0 ?hex ?hfin
  case h0 => exact ⟨(FC.refl _ _).drew, (hYc.of_heap rfl).congr (fun k => by simp [cellAt]), fun h => (by simp at h), fun h => (by simp at h)⟩
  case hex =>
    intro g i o listed a w' ho hs hn hp hd hW
    have hi : i < 15 := (Array.getElem?_eq_some_iff.1 ho).1
    have hs15 : listed.size = 15 := hs
    have hil : i < listed.size := by omega
    have hcase : i = 0 ∨ i = 1 ∨ i = 2 ∨ i = 3 ∨ i = 4 ∨ i = 5 ∨ i = 6 ∨ i = 7 ∨ i = 8 ∨ i = 9 ∨ i = 10 ∨ i = 11 ∨ i = 12 ∨ i = 13 ∨ i = 14 := by omega
    rcases hcase with rfl | rfl | rfl | rfl | rfl | rfl | rfl | rfl | rfl | rfl | rfl | rfl | rfl | rfl | rfl
    all_goals
      simp only [List.getElem?_toArray, List.getElem?_cons_succ, List.getElem?_cons_zero, Option.some.injEq] at ho
      subst ho
      refine ⟨rfl, ?_⟩
    · have e := hd.base 4 (.pointer (some ⟨Y, 0, none⟩)) (by kernel_rfl) rfl
      exact wp_val (.pointer (some ⟨Y, 3, none⟩)) (by simp only [execOp, e]; simp [go_sem]) ⟨g, fun _ _ => rfl, rfl, hkeep g listed w' 0 hil (by decide) (by decide) hW⟩
    · have l0 := hp { on := 0, ground := Ground.data } (by simp) rfl
      have e : a.eval (.tmp 93) = (.pointer (some ⟨Y, 3, none⟩)) := hd.ev 0 93 rfl l0
      have hc := (hW.2.1.cell 3).trans (c3 g listed)
      exact wp_val (.slice none 0 0) (by simp only [execOp, e]; simp [go_sem, hc]) ⟨g, fun _ _ => rfl, rfl, hkeep g listed w' 1 hil (by decide) (by decide) hW⟩
    · have l1 := hp { on := 1, ground := Ground.data } (by simp) rfl
      have e : a.eval (.tmp 94) = .slice none 0 0 := hd.ev 1 94 rfl l1
      refine wp_call1 26 (.tmp 94) 49 rfl (enters_of Try.func26 (by kernel_rfl) rfl) _ e ((T.CloneG w').mono ?_)
      rintro e' w4 ⟨rfl, rfl⟩
      exact ⟨_, rfl, ⟨g, fun _ _ => rfl, rfl, hkeep g listed _ 2 hil (by decide) (by decide) hW⟩⟩
    · have e := hd.base 4 (.pointer (some ⟨Y, 0, none⟩)) (by kernel_rfl) rfl
      exact wp_val (.pointer (some ⟨Y, 4, none⟩)) (by simp only [execOp, e]; simp [go_sem]) ⟨g, fun _ _ => rfl, rfl, hkeep g listed w' 3 hil (by decide) (by decide) hW⟩
    · have l3 := hp { on := 3, ground := Ground.data } (by simp) rfl
      have e : a.eval (.tmp 96) = (.pointer (some ⟨Y, 4, none⟩)) := hd.ev 3 96 rfl l3
      have h12 : listed.getD 12 false = false := by
        cases h : listed.getD 12 false with
        | false => rfl
        | true => rw [(hW.2.2.1 (hW.2.2.2 h)).2] at hn; cases hn
      have hc := (hW.2.1.cell 4).trans (c4 g listed h12)
      exact wp_val (.slice A dl.length c) (by simp only [execOp, e]; simp [go_sem, hc]) ⟨g, fun _ _ => rfl, rfl, hkeep g listed w' 4 hil (by decide) (by decide) hW⟩
    · have l4 := hp { on := 4, ground := Ground.data } (by simp) rfl
      have e : a.eval (.tmp 97) = .slice A dl.length c := hd.ev 4 97 rfl l4
      refine wp_call1 25 (.tmp 97) 24 rfl (enters_of Try.func25 (by kernel_rfl) rfl) _ e ((T.Clone A dl.length c dl w' (C_fc hC3 hW.1 (fun ad e => by have := (hAP ad e).2; simp; omega)) hdl).mono ?_)
      rintro e' w4 ⟨v, rfl, hr4, hb4⟩
      refine ⟨v, rfl, v, fun j hj => ?_, rfl, hW.1.thenB hb4, ?_, fun _ => ⟨Kd.R_lower hr4 hW.1.size, ?_⟩, fun h => ?_⟩
      · have hj5 : j ≠ 5 := fun e => by subst e; rw [hj] at hn; cases hn
        simp only [if_neg hj5]
      · have h12 : listed.getD 12 false = false := by
          cases h : listed.getD 12 false with
          | false => rfl
          | true => rw [hW.2.2.2 h] at hn; cases hn
        refine (hW.2.1.of_heap (hb4.block Y (Nat.lt_of_lt_of_le hYlt hW.1.size))).congr (fun k => ?_)
        simp only [cellAt, getD_set _ _ _ _ _ hil, h12]
        simp
      · rw [getD_set _ _ _ _ _ hil]; split
        · rfl
        · exact l4
      · rw [getD_set _ _ _ _ _ hil, if_pos rfl]
    · have e := hd.base 4 (.pointer (some ⟨Y, 0, none⟩)) (by kernel_rfl) rfl
      exact wp_val (.pointer (some ⟨Y, 5, none⟩)) (by simp only [execOp, e]; simp [go_sem]) ⟨g, fun _ _ => rfl, rfl, hkeep g listed w' 6 hil (by decide) (by decide) hW⟩
    · have l6 := hp { on := 6, ground := Ground.data } (by simp) rfl
      have e : a.eval (.tmp 99) = (.pointer (some ⟨Y, 5, none⟩)) := hd.ev 6 99 rfl l6
      have hc := (hW.2.1.cell 5).trans (c5 g listed)
      exact wp_val (.slice none 0 0) (by simp only [execOp, e]; simp [go_sem, hc]) ⟨g, fun _ _ => rfl, rfl, hkeep g listed w' 7 hil (by decide) (by decide) hW⟩
    · have l7 := hp { on := 7, ground := Ground.data } (by simp) rfl
      have e : a.eval (.tmp 100) = .slice none 0 0 := hd.ev 7 100 rfl l7
      refine wp_call1 27 (.tmp 100) 50 rfl (enters_of Try.func27 (by kernel_rfl) rfl) _ e ((T.CloneR w').mono ?_)
      rintro e' w4 ⟨rfl, rfl⟩
      exact ⟨_, rfl, ⟨g, fun _ _ => rfl, rfl, hkeep g listed _ 8 hil (by decide) (by decide) hW⟩⟩
    · have e := hd.base 4 (.pointer (some ⟨Y, 0, none⟩)) (by kernel_rfl) rfl
      exact wp_val (.pointer (some ⟨Y, 3, none⟩)) (by simp only [execOp, e]; simp [go_sem]) ⟨g, fun _ _ => rfl, rfl, hkeep g listed w' 9 hil (by decide) (by decide) hW⟩
    · have l9 := hp { on := 9, ground := Ground.data } (by simp) rfl
      have l2 := hp { on := 2, ground := Ground.data } (by simp) rfl
      have e : a.eval (.tmp 102) = (.pointer (some ⟨Y, 3, none⟩)) := hd.ev 9 102 rfl l9
      have e2 : a.eval (.tmp 95) = .slice none 0 0 := hd.ev 2 95 rfl l2
      have hc := (hW.2.1.cell 3).trans (c3 g listed)
      have hf := hW.2.1.froz 3
      have hnew : CellsF (w'.setCell ⟨Y, 3, none⟩ (.slice none 0 0)) Y 52 (cellAt g (listed.setIfInBounds 10 true)) := (hW.2.1.set 3 (.slice none 0 0) (by rw [c3]; rfl)).congr (fun k => by
        by_cases h : k = 3
        · subst h; rw [if_pos rfl, c3]
        · rw [if_neg h]; exact hk g listed 10 hil (by decide) k)
      have hWk := hkeep g listed w' 10 hil (by decide) (by decide) hW
      refine wp_skip ?_ ⟨g, fun _ _ => rfl, rfl, hW.1.setCell (p := ⟨Y, 3, none⟩) (.inl (by simp)) _, hnew, fun h => ⟨R_fc (S := [Y]) (hWk.2.2.1 h).1 ((FC.refl _ _).setCell (p := ⟨Y, 3, none⟩) (.inl (by simp)) _) (fun k hk => by have h1 := (show k = Y from by simpa using hk); omega), (hWk.2.2.1 h).2⟩, hWk.2.2.2⟩
      simp only [execOp, e, e2]
      simp [go_sem, hc, hf]
    · have e := hd.base 4 (.pointer (some ⟨Y, 0, none⟩)) (by kernel_rfl) rfl
      exact wp_val (.pointer (some ⟨Y, 4, none⟩)) (by simp only [execOp, e]; simp [go_sem]) ⟨g, fun _ _ => rfl, rfl, hkeep g listed w' 11 hil (by decide) (by decide) hW⟩
    · have l11 := hp { on := 11, ground := Ground.data } (by simp) rfl
      have l5 := hp { on := 5, ground := Ground.data } (by simp) rfl
      have e : a.eval (.tmp 103) = (.pointer (some ⟨Y, 4, none⟩)) := hd.ev 11 103 rfl l11
      have e2 : a.eval (.tmp 98) = g := hd.ev 5 98 rfl l5
      obtain ⟨A9, c9, hg9, _⟩ := Kd.R_reads (hW.2.2.1 l5).1
      have hsm : (cellAt g listed 4).isSome = true := by (show (if 4 = 4 ∧ listed.getD 12 false = true then some g else Y0[4]?).isSome = true); by_cases h : listed.getD 12 false = true; (rw [if_pos ⟨rfl, h⟩]; rfl); (rw [if_neg (fun e => h e.2), hY0]; rfl)
      obtain ⟨x, hx⟩ := Option.isSome_iff_exists.1 hsm
      have hc := (hW.2.1.cell 4).trans hx
      have hf := hW.2.1.froz 4
      have hnew : CellsF (w'.setCell ⟨Y, 4, none⟩ g) Y 52 (cellAt g (listed.setIfInBounds 12 true)) := (hW.2.1.set 4 g hsm).congr (fun k => by
        simp only [cellAt, getD_set _ _ _ _ _ hil]
        by_cases h : k = 4
        · subst h; simp
        · simp [h])
      refine wp_skip ?_ ⟨g, fun _ _ => rfl, rfl, hW.1.setCell (p := ⟨Y, 4, none⟩) (.inl (by simp)) _, hnew, fun h => ⟨R_fc (S := [Y]) (hW.2.2.1 l5).1 ((FC.refl _ _).setCell (p := ⟨Y, 4, none⟩) (.inl (by simp)) _) (fun k hk => by have h1 := (show k = Y from by simpa using hk); omega), ?_⟩, fun _ => ?_⟩
      · simp only [execOp, e, e2, hg9]
        simp [go_sem, hc, hf]
      · rw [getD_set _ _ _ _ _ hil]; split
        · rfl
        · exact (hW.2.2.1 l5).2
      · rw [getD_set _ _ _ _ _ hil]; split
        · rfl
        · exact l5
    · have e := hd.base 4 (.pointer (some ⟨Y, 0, none⟩)) (by kernel_rfl) rfl
      exact wp_val (.pointer (some ⟨Y, 5, none⟩)) (by simp only [execOp, e]; simp [go_sem]) ⟨g, fun _ _ => rfl, rfl, hkeep g listed w' 13 hil (by decide) (by decide) hW⟩
    · have l13 := hp { on := 13, ground := Ground.data } (by simp) rfl
      have l8 := hp { on := 8, ground := Ground.data } (by simp) rfl
      have e : a.eval (.tmp 104) = (.pointer (some ⟨Y, 5, none⟩)) := hd.ev 13 104 rfl l13
      have e2 : a.eval (.tmp 101) = .slice none 0 0 := hd.ev 8 101 rfl l8
      have hc := (hW.2.1.cell 5).trans (c5 g listed)
      have hf := hW.2.1.froz 5
      have hnew : CellsF (w'.setCell ⟨Y, 5, none⟩ (.slice none 0 0)) Y 52 (cellAt g (listed.setIfInBounds 14 true)) := (hW.2.1.set 5 (.slice none 0 0) (by rw [c5]; rfl)).congr (fun k => by
        by_cases h : k = 5
        · subst h; rw [if_pos rfl, c5]
        · rw [if_neg h]; exact hk g listed 14 hil (by decide) k)
      have hWk := hkeep g listed w' 14 hil (by decide) (by decide) hW
      refine wp_skip ?_ ⟨g, fun _ _ => rfl, rfl, hW.1.setCell (p := ⟨Y, 5, none⟩) (.inl (by simp)) _, hnew, fun h => ⟨R_fc (S := [Y]) (hWk.2.2.1 h).1 ((FC.refl _ _).setCell (p := ⟨Y, 5, none⟩) (.inl (by simp)) _) (fun k hk => by have h1 := (show k = Y from by simpa using hk); omega), (hWk.2.2.1 h).2⟩, hWk.2.2.2⟩
      simp only [execOp, e, e2]
      simp [go_sem, hc, hf]
  case hfin =>
    intro g listed a w' hs hall hd hW
    have h12 := hall 12 (by decide)
    have h5 := hall 5 (by decide)
    have hrow := hW.2.1.row #[.int .i64 err, .int .i64 0, .int .i64 rn, .slice none 0 0, g, .slice none 0 0] (fun k => by
      simp only [cellAt, h12, hY0]
      match k with
      | 0 => rfl
      | 1 => rfl
      | 2 => rfl
      | 3 => rfl
      | 4 => rfl
      | 5 => rfl
      | n + 6 => simp)
    obtain ⟨A9, c9, hg9, _⟩ := Kd.R_reads (hW.2.2.1 h5).1
    have HR9 := Aside.mk (hW.2.2.1 h5).1
    have HROW := Aside.mk hrow
    have HW9 := Aside.mk hW.1
    rw [hd.full (md := .any) (fits_of (by kernel_rfl)) hall]
    subst hg9
    have z0 : w'.cell? ⟨Y, 0, none⟩ = some (.int .i64 err) := by rw [cell_of_row _ _ _ _ _ _ hrow]; rfl
    have z1 : w'.cell? ⟨Y, 1, none⟩ = some (.int .i64 0) := by rw [cell_of_row _ _ _ _ _ _ hrow]; rfl
    have z2 : w'.cell? ⟨Y, 2, none⟩ = some (.int .i64 rn) := by rw [cell_of_row _ _ _ _ _ _ hrow]; rfl
    have z3 : w'.cell? ⟨Y, 3, none⟩ = some (.slice none 0 0) := by rw [cell_of_row _ _ _ _ _ _ hrow]; rfl
    have z4 : w'.cell? ⟨Y, 4, none⟩ = some (.slice A9 dl.length c9) := by rw [cell_of_row _ _ _ _ _ _ hrow]; rfl
    have z5 : w'.cell? ⟨Y, 5, none⟩ = some (.slice none 0 0) := by rw [cell_of_row _ _ _ _ _ _ hrow]; rfl
    have fz : ∀ k, w'.frozen? ⟨Y, k, none⟩ = false := fun k => frozen_of_row w' Y k _ _ hrow
    clear hd hW hrow hall hs hk hkeep W c3 c4 c5 cellAt
    simp only [List.size_toArray, List.length_cons, List.length_nil, Nat.reduceAdd, fill, List.getElem?_toArray, List.getElem?_cons_succ, List.getElem?_cons_zero, Option.bind_some, List.setIfInBounds_toArray, List.set_cons_succ, List.set_cons_zero, List.getD_cons_succ, List.getD_cons_zero]
    have HYS := Aside.mk hYS
    have HFw := Aside.mk hFw
    have HA12 := Aside.mk hA12'
    have HYLT := Aside.mk hYlt
    clear hXYo hYS hFw hA12' hY12 hYc hC3 hYlt
    go_wp2
    have h9 := heap_setCell_same _ Y 5 _ _ (.slice none 0 0) (heap_setCell_same _ Y 4 _ _ (.slice A9 dl.length c9) (heap_setCell_same _ Y 3 _ _ (.slice none 0 0) (heap_setCell_same _ Y 2 _ _ (.int .i64 rn) (heap_setCell_same _ Y 1 _ _ (.int .i64 0) (heap_setCell_same _ Y 0 _ _ (.int .i64 err) HROW.out)))))
    simp only [List.setIfInBounds_toArray, List.set_cons_succ, List.set_cons_zero] at h9
    have hF9 : FC [Y] w3 (((((((w'.setCell ⟨Y, 0, none⟩ (.int .i64 err)).setCell ⟨Y, 1, none⟩ (.int .i64 0)).setCell ⟨Y, 2, none⟩ (.int .i64 rn)).setCell ⟨Y, 3, none⟩ (.slice none 0 0)).setCell ⟨Y, 4, none⟩ (.slice A9 dl.length c9)).setCell ⟨Y, 5, none⟩ (.slice none 0 0))) := ((((((HW9.out.setCell (p := ⟨Y, 0, none⟩) (.inl (by simp)) _).setCell (p := ⟨Y, 1, none⟩) (.inl (by simp)) _).setCell (p := ⟨Y, 2, none⟩) (.inl (by simp)) _).setCell (p := ⟨Y, 3, none⟩) (.inl (by simp)) _).setCell (p := ⟨Y, 4, none⟩) (.inl (by simp)) _).setCell (p := ⟨Y, 5, none⟩) (.inl (by simp)) _)
    have hR9 := R_fc (S := [Y]) HR9.out (w' := (((((((w'.setCell ⟨Y, 0, none⟩ (.int .i64 err)).setCell ⟨Y, 1, none⟩ (.int .i64 0)).setCell ⟨Y, 2, none⟩ (.int .i64 rn)).setCell ⟨Y, 3, none⟩ (.slice none 0 0)).setCell ⟨Y, 4, none⟩ (.slice A9 dl.length c9)).setCell ⟨Y, 5, none⟩ (.slice none 0 0)))) (((((((FC.refl [Y] w').setCell (p := ⟨Y, 0, none⟩) (.inl (by simp)) _).setCell (p := ⟨Y, 1, none⟩) (.inl (by simp)) _).setCell (p := ⟨Y, 2, none⟩) (.inl (by simp)) _).setCell (p := ⟨Y, 3, none⟩) (.inl (by simp)) _).setCell (p := ⟨Y, 4, none⟩) (.inl (by simp)) _).setCell (p := ⟨Y, 5, none⟩) (.inl (by simp)) _) (fun k hk => by have h1 := (show k = Y from by simpa using hk); have := HYLT.out; omega)
    clear z0 z1 z2 z3 z4 z5 fz
    generalize World.setCell (World.setCell (World.setCell _ _ _) _ _) ⟨Y, 5, none⟩ _ = w9 at *
    have z0 : w9.cell? ⟨Y, 0, none⟩ = some (.int .i64 err) := by rw [cell_of_row _ _ _ _ _ _ h9]; rfl
    have z1 : w9.cell? ⟨Y, 1, none⟩ = some (.int .i64 0) := by rw [cell_of_row _ _ _ _ _ _ h9]; rfl
    have z2 : w9.cell? ⟨Y, 2, none⟩ = some (.int .i64 rn) := by rw [cell_of_row _ _ _ _ _ _ h9]; rfl
    have z3 : w9.cell? ⟨Y, 3, none⟩ = some (.slice none 0 0) := by rw [cell_of_row _ _ _ _ _ _ h9]; rfl
    have z4 : w9.cell? ⟨Y, 4, none⟩ = some (.slice A9 dl.length c9) := by rw [cell_of_row _ _ _ _ _ _ h9]; rfl
    have z5 : w9.cell? ⟨Y, 5, none⟩ = some (.slice none 0 0) := by rw [cell_of_row _ _ _ _ _ _ h9]; rfl
    refine bodyPost_ret (v := .tuple #[.agg #[.int .i64 err, .int .i64 0, .int .i64 rn, .slice none 0 0, .slice A9 dl.length c9, .slice none 0 0], .bool true]) (by simp [results, Try.f20, go_sem, z0, z1, z2, z3, z4, z5]) rfl ?_
    have hys := HYS.out
    have hFF : FC [P] w w9 := ⟨hF9.os.trans HFw.out.os, hF9.tape.trans HFw.out.tape, hF9.output.trans HFw.out.output, Nat.le_trans HFw.out.size hF9.size, fun k hk hn => (hF9.block k (Nat.lt_of_lt_of_le hk HFw.out.size) (by simp; omega)).trans (HFw.out.block k hk hn)⟩
    obtain ⟨f, hf⟩ := H.out.map
    have hMP := H.out.ne
    refine ⟨_, rfl, Kd.R_lower hR9 HFw.out.size, ⟨(hF9.block P (Array.getElem?_eq_some_iff.1 HA12.out).1 (by simpa using hYP)).trans HA12.out, ⟨f, hf.move (hFF.block M hf.lt (by simpa using hMP.symm))⟩, H.out.hid, H.out.hnodes, H.out.hretry, H.out.hnum, H.out.hgroup, H.out.hwaited⟩, hFF⟩
end Go.Proofs.Ytmepeolejlpehaa

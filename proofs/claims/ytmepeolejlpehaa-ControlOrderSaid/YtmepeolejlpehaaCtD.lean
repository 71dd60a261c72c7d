/- The asker's Tick. Conditions: where the asker lies. -/
import Derived.Test.YtmepeolejlpehaaCtC
import Derived.Test.YtmepeolejlpehaaCtB
import Derived.Test.YtmepeolejlpehaaCtS
namespace Go.Proofs.Ytmepeolejlpehaa
open Go.RowKit Go.Maps Go.Proofs.YtmepeolejlpehaaW.PrintWords Go.Proofs.YtmepeolejlpehaaW.PrintLast Go.Proofs.YtmepeolejlpehaaW.PrintMore
/-- A packet that asks. -/
def AS.pack (s : AS) (lv : Int) (d : Value) : Array Value := #[.int .i64 2, .int .i64 (-s.id), .int .i64 lv, .int .i64 s.group, .int .i64 0, .int .i64 0, .int .i64 0, .int .i64 0, .int .i64 0, .int .i64 0, .slice none 0 0, .slice none 0 0, .int .i64 s.cmd.kind, .int .i64 s.cmd.client, .int .i64 s.cmd.num, .int .i64 0, .int .i64 0, .string ⟨#[]⟩, .string ⟨#[]⟩, .string ⟨#[]⟩, .string ⟨#[]⟩, .int .i64 0, .int .i64 0, .int .i64 0, .string ⟨#[]⟩, .int .i64 0, .int .i64 0, .int .i64 s.cmd.lo, .int .i64 s.cmd.hi, .int .i64 s.cmd.tgo, d, .int .i64 0, .int .i64 0, .int .i64 0, .slice none 0 0, .slice none 0 0, .slice none 0 0, .int .i64 0, .slice none 0 0, .slice none 0 0]
set_option maxHeartbeats 4000000 in
set_option maxRecDepth 100000 in
theorem T.TickIdle (P M n : Nat) (s : AS) (w : World) (h : AK w P M n s) (hb : s.busy = false) : Calls Try.prog 19 #[.pointer (some ⟨P, 0, none⟩)] w fun e w' => e = .returned (.slice none 0 0) ∧ w' = w := by
  have hB := T.Busy P M s w h.at' h.hid.1
  rw [hb] at hB
  have HB := Aside.mk hB
  clear h hB
  go_enter Try.func19, Try.ntmps19
  go_wp2_with (go_at_call 23; refine HB.out.mono ?_; rintro e w' ⟨rfl, hw⟩; subst w')
  go_ret
  exact ⟨rfl, rfl⟩
set_option maxHeartbeats 4000000 in
set_option maxRecDepth 100000 in
theorem T.TickWait (P M n : Nat) (s : AS) (w : World) (h : AK w P M n s) (hb : s.busy = true) (hs : s.sent = true) (hw : s.waited < s.retry) : Calls Try.prog 19 #[.pointer (some ⟨P, 0, none⟩)] w fun e w' => e = .returned (.slice none 0 0) ∧ AK w' P M n { s with waited := s.waited + 1 } ∧ FC [P] w w' := by
  have hB := T.Busy P M s w h.at' h.hid.1
  rw [hb] at hB
  have HB := Aside.mk hB
  have H := Aside.mk h
  have e25 : w.cell? ⟨P, 25, none⟩ = some (.bool true) := by rw [h.at'.cell 25]; simp [AS.cells, hs]
  have e26 : w.cell? ⟨P, 26, none⟩ = some (.int .i64 s.waited) := h.at'.cell 26
  have e2 : w.cell? ⟨P, 2, none⟩ = some (.int .i64 s.retry) := h.at'.cell 2
  have f26 := frozen_of_row w P 26 _ _ h.at'
  have hwr : IntKind.i64.wrap (s.waited + 1) = s.waited + 1 := by have := h.hwaited; have := h.hretry; simp [IntKind.wrap, IntKind.bits, IntKind.signed]; omega
  clear h hB
  go_enter Try.func19, Try.ntmps19
  go_wp2_with (go_at_call 23; refine HB.out.mono ?_; rintro e w' ⟨rfl, hw⟩; subst w')
  go_quiet (fail)
  go_wp2
  go_ret
  have hh := heap_setCell_same w P 26 _ _ (.int .i64 (s.waited + 1)) H.out.at'
  simp only [AS.cells, List.setIfInBounds_toArray, List.set_cons_succ, List.set_cons_zero] at hh
  obtain ⟨f, hf⟩ := H.out.map
  have hne := H.out.ne
  have := H.out.hwaited
  have := H.out.hretry
  refine ⟨rfl, ⟨hh, ⟨f, hf.move ?_⟩, H.out.hid, H.out.hnodes, H.out.hretry, H.out.hnum, H.out.hgroup, by show 0 ≤ s.waited + 1 ∧ s.waited + 1 ≤ 1000; omega⟩, ((FC.of (S := [P]) (pw_below_drewN (Below.refl _ _) nq)).setCell (p := ⟨P, 26, none⟩) (.inl (by simp)) _)⟩
  show (w.setCell _ _).heap[M]? = _
  exact Below.heap_setCell _ _ _ _ hne.symm
set_option maxHeartbeats 8000000 in
set_option maxRecDepth 100000 in
theorem T.TickSend (P M base n : Nat) (s : AS) (cl : List ByteArray) (w : World) (h : AK w P M n s) (hb : s.busy = true) (hs : s.sent = false ∨ s.retry ≤ s.waited) (hd : Kd.R Kd.string 9 w base (fun _ => True) s.cmd.data cl) (hcl : cl.length ≤ 1000)
    (hPb : P < base) (hMb : M < base) (hbase : base ≤ w.heap.size) (hn : n ≤ 100000) :
    Calls Try.prog 19 #[.pointer (some ⟨P, 0, none⟩)] w fun e w' => ∃ B lv d n', e = .returned (.slice (some ⟨B, 0, none⟩) 1 1) ∧ w'.heap[B]? = some (.cells (s.pack lv d) 57 (0, 0)) ∧ Kd.R Kd.string 9 w' base (fun _ => True) d cl ∧ AK w' P M n' { s with sent := true, waited := 0 } ∧ n' ≤ n + 1 ∧ FC [P, M] w w' ∧ base ≤ B := by
  have hB := T.Busy P M s w h.at' h.hid.1
  rw [hb] at hB
  have HB := Aside.mk hB
  have H := Aside.mk h
  have HD := Aside.mk hd
  obtain ⟨Ad, dc, hdv, hdc, _⟩ := Kd.R_reads hd
  have e25 : w.cell? ⟨P, 25, none⟩ = some (.bool s.sent) := h.at'.cell 25
  have e26 : w.cell? ⟨P, 26, none⟩ = some (.int .i64 s.waited) := h.at'.cell 26
  have e2 : w.cell? ⟨P, 2, none⟩ = some (.int .i64 s.retry) := h.at'.cell 2
  have hstop : ∃ w1 n1, w1 = w1 ∧ n1 = n := ⟨w, n, rfl, rfl⟩
  clear hstop h hB hd
  obtain ⟨id, nodes, retry, num, group, ⟨k0, k1, k2, k3, k4, k5, k6⟩, busy, sent, waited⟩ := s
  dsimp only at hb hs hdv e25 e26 e2 HD
  subst hb
  subst hdv
  go_enter Try.func19, Try.ntmps19
  go_wp2_with (go_at_call 23; refine HB.out.mono ?_; rintro e w' ⟨rfl, hw⟩; subst w')
  have HN := Aside.mk hn
  have HHb := Aside.mk (And.intro hPb (And.intro hMb hbase))
  clear hn hPb hMb hbase
  cases sent with
  | false =>
    clear hs
    go_quiet (fail)
    have hA1 := H.out.of_fc (FC.of (S := []) (pw_below_drewN (Below.refl _ _) nq)) (by simp) (by simp)
    have hF1 : FC [P, M] w (w.drewN nq) := FC.of (pw_below_drewN (Below.refl _ _) nq)
    clear e25 e26 e2
    generalize w.drewN nq = w1 at *
    obtain ⟨n1, hn1⟩ : ∃ n1, n1 = n := ⟨_, rfl⟩
    rw [← hn1] at hA1
    have HN1 := Aside.mk (show n1 ≤ n + 1 by omega)
    clear hn1
    have hA := hA1.at'
    have q25 := hA.cell 25
    have q26 := hA.cell 26
    simp only [AS.cells, List.getElem?_toArray, List.getElem?_cons_succ, List.getElem?_cons_zero] at q25 q26
    have f25 := frozen_of_row w1 P 25 _ _ hA
    have f26 := frozen_of_row w1 P 26 _ _ hA
    have hh := heap_setCell_same _ P 26 _ _ (.int .i64 0) (heap_setCell_same w1 P 25 _ _ (.bool true) hA)
    simp only [AS.cells, List.setIfInBounds_toArray, List.set_cons_succ, List.set_cons_zero] at hh
    obtain ⟨L, hL⟩ : ∃ L : List Value, L = [.int .i64 k0, .int .i64 k1, .int .i64 k2, .int .i64 0, .int .i64 0, .string ⟨#[]⟩, .string ⟨#[]⟩, .string ⟨#[]⟩, .string ⟨#[]⟩, .int .i64 0, .int .i64 0, .int .i64 0, .string ⟨#[]⟩, .int .i64 0, .int .i64 0, .int .i64 k3, .int .i64 k4, .int .i64 k5, .slice Ad cl.length dc] := ⟨_, rfl⟩
    have HL := Aside.mk hL
    have hL19 : L.length = 19 := by rw [hL]; rfl
    have HL19 := Aside.mk hL19
    have HL1 := Aside.mk (show (L.toArray.all (·.oneCell')) = true by rw [hL]; simp [Value.oneCell'])
    have HI := Aside.mk (show (Try.prog.info? 48).map (·.size) = some L.length by rw [hL19]; kernel_rfl)
    have HI2 := Aside.mk (show (Try.prog.info? 48).map (·.size) = some L.toArray.size by rw [List.size_toArray, hL19]; kernel_rfl)
    have HRG := Aside.mk (show ((w1.setCell ⟨P, 25, none⟩ (.bool true)).setCell ⟨P, 26, none⟩ (.int .i64 0)).rangeAt P 5 L from fun j v hj => by
      rw [cell_of_row _ _ _ _ _ _ hh]
      have hj' : j < 19 := by rw [← hL19]; exact (List.getElem?_eq_some_iff.1 hj).1
      rw [hL] at hj
      rw [show 5 + j = j + 5 from by omega]
      simp only [List.getElem?_toArray, List.getElem?_cons_succ]
      match j, hj' with
      | 0, _ => exact hj
      | 1, _ => exact hj
      | 2, _ => exact hj
      | 3, _ => exact hj
      | 4, _ => exact hj
      | 5, _ => exact hj
      | 6, _ => exact hj
      | 7, _ => exact hj
      | 8, _ => exact hj
      | 9, _ => exact hj
      | 10, _ => exact hj
      | 11, _ => exact hj
      | 12, _ => exact hj
      | 13, _ => exact hj
      | 14, _ => exact hj
      | 15, _ => exact hj
      | 16, _ => exact hj
      | 17, _ => exact hj
      | 18, _ => exact hj)
    have hlt : P < w1.heap.size := (Array.getElem?_eq_some_iff.1 hA).1
    have HAP2 := Aside.mk hh
    have HA1 := Aside.mk hA1
    have HF1 := Aside.mk hF1
    have HLT := Aside.mk hlt
    have HF12 := Aside.mk (show FC [P] w1 ((w1.setCell ⟨P, 25, none⟩ (.bool true)).setCell ⟨P, 26, none⟩ (.int .i64 0)) from ((FC.refl [P] _).setCell (p := ⟨P, 25, none⟩) (.inl (by simp)) _).setCell (p := ⟨P, 26, none⟩) (.inl (by simp)) _)
    clear hA hA1 hF1 hh hL hL19 hlt
    go_wp2_with (first | ((with_reducible refine wpList_load_mid rfl 48 (.tmp 43) rfl P 5 rfl L _ HRG.out Try.underlying48 rfl HI.out ?_)) | ((with_reducible refine wpList_store_mid rfl 48 (.tmp 3) (.tmp 44) rfl w1.heap.size 0 L.toArray rfl rfl ?ht HI2.out HL1.out ?_); (case ht => have hbx := (box_of ((w1.setCell ⟨P, 25, none⟩ (.bool true)).setCell ⟨P, 26, none⟩ (.int .i64 0)) 48 #[.int .i64 0, .int .i64 0, .int .i64 0, .int .i64 0, .int .i64 0, .string ⟨#[]⟩, .string ⟨#[]⟩, .string ⟨#[]⟩, .string ⟨#[]⟩, .int .i64 0, .int .i64 0, .int .i64 0, .string ⟨#[]⟩, .int .i64 0, .int .i64 0, .int .i64 0, .int .i64 0, .int .i64 0, .slice none 0 0] L (by rw [HL19.out]; rfl)).2.2.1; simp only [size_setCell] at hbx; rw [List.size_toArray]; exact hbx); have hbx := box_of ((w1.setCell ⟨P, 25, none⟩ (.bool true)).setCell ⟨P, 26, none⟩ (.int .i64 0)) 48 #[.int .i64 0, .int .i64 0, .int .i64 0, .int .i64 0, .int .i64 0, .string ⟨#[]⟩, .string ⟨#[]⟩, .string ⟨#[]⟩, .string ⟨#[]⟩, .int .i64 0, .int .i64 0, .int .i64 0, .string ⟨#[]⟩, .int .i64 0, .int .i64 0, .int .i64 0, .int .i64 0, .int .i64 0, .slice none 0 0] L (by rw [HL19.out]; rfl); simp only [size_setCell] at hbx; simp only [List.toList_toArray]; generalize hw2 : World.setCells (World.alloc _ _) w1.heap.size 0 L = w2 at hbx ⊢; have b18 : w2.cell? ⟨w1.heap.size, 18, none⟩ = some (.slice Ad cl.length dc) := (by rw [cell_of_row _ _ _ _ _ _ hbx.1, HL.out]; rfl); have HBX := Aside.mk hbx; clear hw2 hbx))
    have hA2 : AP w2 P M ⟨id, nodes, retry, num, group, ⟨k0, k1, k2, k3, k4, k5, .slice Ad cl.length dc⟩, true, true, 0⟩ := (HBX.out.2.1.block P (by simpa [size_setCell] using HLT.out) (by simp)).trans HAP2.out
    have hF2 : FC [P, M] w w2 := (HF1.out.trans (HF12.out.sub (by simp))).trans (HBX.out.2.1.sub (by simp))
    obtain ⟨_, _, hC2⟩ := Kd.R_reads' (R_fc HD.out hF2 (fun k hk => by have := HHb.out; have : k = P ∨ k = M := by simpa using hk
                                                                       omega))
    refine (T.Clone Ad cl.length dc cl w2 hC2 hcl).mono ?_
    rintro e w3 ⟨v3, rfl, hr3, hb3⟩
    obtain ⟨A3, c3, rfl, _, _⟩ := Kd.R_reads hr3
    have hB3lt := HBX.out.2.2.2
    obtain ⟨B3, hB3⟩ : ∃ B3, B3 = w1.heap.size := ⟨_, rfl⟩
    rw [← hB3] at HBX b18 hB3lt ⊢
    have k3' := (hb3.block B3 hB3lt).trans HBX.out.1
    have c18 : w3.cell? ⟨B3, 18, none⟩ = some (.slice Ad cl.length dc) := by rw [cell_of_row _ _ _ _ _ _ k3', HL.out]; rfl
    have f18 := frozen_of_row w3 B3 18 _ _ k3'
    have HK3 := Aside.mk k3'
    have HR3 := Aside.mk hr3
    have HBb3 := Aside.mk hb3
    have HA2 := Aside.mk hA2
    have HF2 := Aside.mk hF2
    have HB3 := Aside.mk hB3
    have HB3l := Aside.mk hB3lt
    clear k3' hr3 hb3 hA2 hF2 hB3 hC2 b18 hB3lt
    go_wp2_with fail
    have hB4 := heap_setCell_same w3 B3 18 _ _ (.slice A3 cl.length c3) HK3.out
    have hPB : P ≠ B3 := by have := HB3.out; have := HLT.out; omega
    have hA4 : AP (w3.setCell ⟨B3, 18, none⟩ (.slice A3 cl.length c3)) P M ⟨id, nodes, retry, num, group, ⟨k0, k1, k2, k3, k4, k5, .slice Ad cl.length dc⟩, true, true, 0⟩ := by
      unfold AP
      rw [Below.heap_setCell _ _ _ _ hPB]
      exact (HBb3.out.block P (Array.getElem?_eq_some_iff.1 HA2.out).1).trans HA2.out
    rw [HL.out] at hB4
    simp only [List.setIfInBounds_toArray, List.set_cons_succ, List.set_cons_zero] at hB4
    have hF4 : FC [P, M] w (w3.setCell ⟨B3, 18, none⟩ (.slice A3 cl.length c3)) := (HF2.out.thenB HBb3.out).setCell (p := ⟨B3, 18, none⟩) (.inr (by have := HB3.out; have := HF1.out.size; show w.heap.size ≤ B3; omega)) _
    have hR4 : Kd.R Kd.string 9 (w3.setCell ⟨B3, 18, none⟩ (.slice A3 cl.length c3)) w2.heap.size (fun _ => True) (.slice A3 cl.length c3) cl := R_fc HR3.out (S := [B3]) ((FC.refl _ _).setCell (p := ⟨B3, 18, none⟩) (.inl (by simp)) _) (fun k hk => by have h1 := (show k = B3 from by simpa using hk); have h2 := HB3l.out; omega)
    have hM4 : AK (w3.setCell ⟨B3, 18, none⟩ (.slice A3 cl.length c3)) P M n1 ⟨id, nodes, retry, num, group, ⟨k0, k1, k2, k3, k4, k5, .slice Ad cl.length dc⟩, true, true, 0⟩ := by
      obtain ⟨f, hf⟩ := HA1.out.map
      refine ⟨hA4, ⟨f, hf.move ?_⟩, HA1.out.hid, HA1.out.hnodes, HA1.out.hretry, HA1.out.hnum, HA1.out.hgroup, by simp⟩
      have hMl := hf.lt
      have hMP := HA1.out.ne
      have hMB : M ≠ B3 := by have := HB3.out; omega
      rw [Below.heap_setCell _ _ _ _ hMB, HBb3.out.block M (Nat.lt_of_lt_of_le hMl (by have := HF12.out.size; have := HBX.out.2.1.size; omega)), HBX.out.2.1.block M (Nat.lt_of_lt_of_le hMl HF12.out.size) (by simp), HF12.out.block M hMl (by simpa using hMP.symm)]
    generalize World.setCell w3 _ _ = w4 at *
    clear c18 f18 HK3 HBb3 HA2 HF2 HBX HAP2 HRG
    obtain ⟨f, hf⟩ := hM4.map
    have hg06 : 0 ≤ group ∧ group ≤ 6 := hM4.hgroup
    obtain ⟨lv, hlv⟩ : ∃ lv, f group = lv := ⟨_, rfl⟩
    have hlk := MapF.run (w := w4.drew) (hf.move rfl) group (wf_small (by omega) (by omega)) lv hlv
    have p0 := hA4.cell 0
    have p4 := hA4.cell 4
    have p27 := hA4.cell 27
    simp only [AS.cells, List.getElem?_toArray, List.getElem?_cons_succ, List.getElem?_cons_zero] at p0 p4 p27
    have hidb : 1 ≤ id ∧ id ≤ 1099511627776 := hM4.hid
    have hng : IntKind.i64.wrap (-id) = -id := by simp [IntKind.wrap, IntKind.bits, IntKind.signed]; omega
    have HB4 := Aside.mk (show w4.drew.rangeAt B3 0 [.int .i64 k0, .int .i64 k1, .int .i64 k2, .int .i64 0, .int .i64 0, .string ⟨#[]⟩, .string ⟨#[]⟩, .string ⟨#[]⟩, .string ⟨#[]⟩, .int .i64 0, .int .i64 0, .int .i64 0, .string ⟨#[]⟩, .int .i64 0, .int .i64 0, .int .i64 k3, .int .i64 k4, .int .i64 k5, .slice A3 cl.length c3] from fun j v hj => by rw [Nat.zero_add, World.cell?_drew, cell_of_row _ _ _ _ _ _ hB4]; simpa using hj)
    have HM4 := Aside.mk hM4
    have HF4 := Aside.mk hF4
    have HR4 := Aside.mk hR4
    clear hM4 hF4 hR4 hA4 hB4 hlv hf hg06 hidb
    refine still_tail 20 (by kernel_rfl) (by decide +kernel) ?_
    simp only [List.take_succ_cons, List.take_zero, List.drop_succ_cons, List.drop_zero]
    iterate 18 still_step
    refine wpStill_step (fun K hK => ?_)
    rw [if_pos (by rfl)]
    refine still_load_mid 48 (.tmp 3) rfl B3 0 rfl [.int .i64 k0, .int .i64 k1, .int .i64 k2, .int .i64 0, .int .i64 0, .string ⟨#[]⟩, .string ⟨#[]⟩, .string ⟨#[]⟩, .string ⟨#[]⟩, .int .i64 0, .int .i64 0, .int .i64 0, .string ⟨#[]⟩, .int .i64 0, .int .i64 0, .int .i64 k3, .int .i64 k4, .int .i64 k5, .slice A3 cl.length c3] _ HB4.out Try.underlying48 rfl (by kernel_rfl) ?_
    refine hK _ ?_
    clear hK K
    still_step
    refine wpStill_nil ?_
    go_wp2
    go_ret
    have hf0 : FC [] w4 (w4.drew.alloc (.cells (AS.pack ⟨id, nodes, retry, num, group, ⟨k0, k1, k2, k3, k4, k5, .slice Ad cl.length dc⟩, true, true, 0⟩ lv (.slice A3 cl.length c3)) 57)) := (FC.drew (FC.refl _ _)).alloc _
    refine ⟨w4.heap.size, lv, .slice A3 cl.length c3, n1, rfl, heap_alloc_new w4.drew _, Kd.R_lower (Kd.R_alloc (Kd.R_drew HR4.out) _) ?_, HM4.out.of_fc hf0 (by simp) (by simp), HN1.out, HF4.out.trans (hf0.sub (by simp)), ?_⟩
    · have := HHb.out; have := HF1.out.size; have := HF12.out.size; have := HB3l.out; have := HB3.out; simp only [size_setCell] at *; omega
    · have := HHb.out; have := HF4.out.size; omega
  | true =>
    have hdw : decide (waited < retry) = false := by
      rcases hs with h | h
      · cases h
      · simp; omega
    clear hs
    go_quiet (fail)
    have hA1 := H.out.of_fc (FC.of (S := []) (pw_below_drewN (Below.refl _ _) nq)) (by simp) (by simp)
    have hF1 : FC [P, M] w (w.drewN nq) := FC.of (pw_below_drewN (Below.refl _ _) nq)
    have hNx := T.next P M n _ (w.drewN nq) hA1 HN.out
    go_wp2_with fail
    refine hNx.mono ?_
    rintro e w1 ⟨rfl, hA2, hF2⟩
    have hF3 : FC [P, M] w w1 := hF1.trans (hF2.sub (by simp))
    clear e25 e26 e2 hA1 hF1 hNx hF2
    obtain ⟨n1, hn1⟩ : ∃ n1, n1 = n + 1 := ⟨_, rfl⟩
    rw [← hn1] at hA2
    have HN1 := Aside.mk (show n1 ≤ n + 1 by omega)
    have hA1 := hA2
    have hF1 := hF3
    clear hn1 hA2 hF3 hdw
    have hA := hA1.at'
    have q25 := hA.cell 25
    have q26 := hA.cell 26
    simp only [AS.cells, List.getElem?_toArray, List.getElem?_cons_succ, List.getElem?_cons_zero] at q25 q26
    have f25 := frozen_of_row w1 P 25 _ _ hA
    have f26 := frozen_of_row w1 P 26 _ _ hA
    have hh := heap_setCell_same _ P 26 _ _ (.int .i64 0) (heap_setCell_same w1 P 25 _ _ (.bool true) hA)
    simp only [AS.cells, List.setIfInBounds_toArray, List.set_cons_succ, List.set_cons_zero] at hh
    obtain ⟨L, hL⟩ : ∃ L : List Value, L = [.int .i64 k0, .int .i64 k1, .int .i64 k2, .int .i64 0, .int .i64 0, .string ⟨#[]⟩, .string ⟨#[]⟩, .string ⟨#[]⟩, .string ⟨#[]⟩, .int .i64 0, .int .i64 0, .int .i64 0, .string ⟨#[]⟩, .int .i64 0, .int .i64 0, .int .i64 k3, .int .i64 k4, .int .i64 k5, .slice Ad cl.length dc] := ⟨_, rfl⟩
    have HL := Aside.mk hL
    have hL19 : L.length = 19 := by rw [hL]; rfl
    have HL19 := Aside.mk hL19
    have HL1 := Aside.mk (show (L.toArray.all (·.oneCell')) = true by rw [hL]; simp [Value.oneCell'])
    have HI := Aside.mk (show (Try.prog.info? 48).map (·.size) = some L.length by rw [hL19]; kernel_rfl)
    have HI2 := Aside.mk (show (Try.prog.info? 48).map (·.size) = some L.toArray.size by rw [List.size_toArray, hL19]; kernel_rfl)
    have HRG := Aside.mk (show ((w1.setCell ⟨P, 25, none⟩ (.bool true)).setCell ⟨P, 26, none⟩ (.int .i64 0)).rangeAt P 5 L from fun j v hj => by
      rw [cell_of_row _ _ _ _ _ _ hh]
      have hj' : j < 19 := by rw [← hL19]; exact (List.getElem?_eq_some_iff.1 hj).1
      rw [hL] at hj
      rw [show 5 + j = j + 5 from by omega]
      simp only [List.getElem?_toArray, List.getElem?_cons_succ]
      match j, hj' with
      | 0, _ => exact hj
      | 1, _ => exact hj
      | 2, _ => exact hj
      | 3, _ => exact hj
      | 4, _ => exact hj
      | 5, _ => exact hj
      | 6, _ => exact hj
      | 7, _ => exact hj
      | 8, _ => exact hj
      | 9, _ => exact hj
      | 10, _ => exact hj
      | 11, _ => exact hj
      | 12, _ => exact hj
      | 13, _ => exact hj
      | 14, _ => exact hj
      | 15, _ => exact hj
      | 16, _ => exact hj
      | 17, _ => exact hj
      | 18, _ => exact hj)
    have hlt : P < w1.heap.size := (Array.getElem?_eq_some_iff.1 hA).1
    have HAP2 := Aside.mk hh
    have HA1 := Aside.mk hA1
    have HF1 := Aside.mk hF1
    have HLT := Aside.mk hlt
    have HF12 := Aside.mk (show FC [P] w1 ((w1.setCell ⟨P, 25, none⟩ (.bool true)).setCell ⟨P, 26, none⟩ (.int .i64 0)) from ((FC.refl [P] _).setCell (p := ⟨P, 25, none⟩) (.inl (by simp)) _).setCell (p := ⟨P, 26, none⟩) (.inl (by simp)) _)
    clear hA hA1 hF1 hh hL hL19 hlt
    go_wp2_with (first | ((with_reducible refine wpList_load_mid rfl 48 (.tmp 43) rfl P 5 rfl L _ HRG.out Try.underlying48 rfl HI.out ?_)) | ((with_reducible refine wpList_store_mid rfl 48 (.tmp 3) (.tmp 44) rfl w1.heap.size 0 L.toArray rfl rfl ?ht HI2.out HL1.out ?_); (case ht => have hbx := (box_of ((w1.setCell ⟨P, 25, none⟩ (.bool true)).setCell ⟨P, 26, none⟩ (.int .i64 0)) 48 #[.int .i64 0, .int .i64 0, .int .i64 0, .int .i64 0, .int .i64 0, .string ⟨#[]⟩, .string ⟨#[]⟩, .string ⟨#[]⟩, .string ⟨#[]⟩, .int .i64 0, .int .i64 0, .int .i64 0, .string ⟨#[]⟩, .int .i64 0, .int .i64 0, .int .i64 0, .int .i64 0, .int .i64 0, .slice none 0 0] L (by rw [HL19.out]; rfl)).2.2.1; simp only [size_setCell] at hbx; rw [List.size_toArray]; exact hbx); have hbx := box_of ((w1.setCell ⟨P, 25, none⟩ (.bool true)).setCell ⟨P, 26, none⟩ (.int .i64 0)) 48 #[.int .i64 0, .int .i64 0, .int .i64 0, .int .i64 0, .int .i64 0, .string ⟨#[]⟩, .string ⟨#[]⟩, .string ⟨#[]⟩, .string ⟨#[]⟩, .int .i64 0, .int .i64 0, .int .i64 0, .string ⟨#[]⟩, .int .i64 0, .int .i64 0, .int .i64 0, .int .i64 0, .int .i64 0, .slice none 0 0] L (by rw [HL19.out]; rfl); simp only [size_setCell] at hbx; simp only [List.toList_toArray]; generalize hw2 : World.setCells (World.alloc _ _) w1.heap.size 0 L = w2 at hbx ⊢; have b18 : w2.cell? ⟨w1.heap.size, 18, none⟩ = some (.slice Ad cl.length dc) := (by rw [cell_of_row _ _ _ _ _ _ hbx.1, HL.out]; rfl); have HBX := Aside.mk hbx; clear hw2 hbx))
    have hA2 : AP w2 P M ⟨id, nodes, retry, num, group, ⟨k0, k1, k2, k3, k4, k5, .slice Ad cl.length dc⟩, true, true, 0⟩ := (HBX.out.2.1.block P (by simpa [size_setCell] using HLT.out) (by simp)).trans HAP2.out
    have hF2 : FC [P, M] w w2 := (HF1.out.trans (HF12.out.sub (by simp))).trans (HBX.out.2.1.sub (by simp))
    obtain ⟨_, _, hC2⟩ := Kd.R_reads' (R_fc HD.out hF2 (fun k hk => by have := HHb.out; have : k = P ∨ k = M := by simpa using hk
                                                                       omega))
    refine (T.Clone Ad cl.length dc cl w2 hC2 hcl).mono ?_
    rintro e w3 ⟨v3, rfl, hr3, hb3⟩
    obtain ⟨A3, c3, rfl, _, _⟩ := Kd.R_reads hr3
    have hB3lt := HBX.out.2.2.2
    obtain ⟨B3, hB3⟩ : ∃ B3, B3 = w1.heap.size := ⟨_, rfl⟩
    rw [← hB3] at HBX b18 hB3lt ⊢
    have k3' := (hb3.block B3 hB3lt).trans HBX.out.1
    have c18 : w3.cell? ⟨B3, 18, none⟩ = some (.slice Ad cl.length dc) := by rw [cell_of_row _ _ _ _ _ _ k3', HL.out]; rfl
    have f18 := frozen_of_row w3 B3 18 _ _ k3'
    have HK3 := Aside.mk k3'
    have HR3 := Aside.mk hr3
    have HBb3 := Aside.mk hb3
    have HA2 := Aside.mk hA2
    have HF2 := Aside.mk hF2
    have HB3 := Aside.mk hB3
    have HB3l := Aside.mk hB3lt
    clear k3' hr3 hb3 hA2 hF2 hB3 hC2 b18 hB3lt
    go_wp2_with fail
    have hB4 := heap_setCell_same w3 B3 18 _ _ (.slice A3 cl.length c3) HK3.out
    have hPB : P ≠ B3 := by have := HB3.out; have := HLT.out; omega
    have hA4 : AP (w3.setCell ⟨B3, 18, none⟩ (.slice A3 cl.length c3)) P M ⟨id, nodes, retry, num, group, ⟨k0, k1, k2, k3, k4, k5, .slice Ad cl.length dc⟩, true, true, 0⟩ := by
      unfold AP
      rw [Below.heap_setCell _ _ _ _ hPB]
      exact (HBb3.out.block P (Array.getElem?_eq_some_iff.1 HA2.out).1).trans HA2.out
    rw [HL.out] at hB4
    simp only [List.setIfInBounds_toArray, List.set_cons_succ, List.set_cons_zero] at hB4
    have hF4 : FC [P, M] w (w3.setCell ⟨B3, 18, none⟩ (.slice A3 cl.length c3)) := (HF2.out.thenB HBb3.out).setCell (p := ⟨B3, 18, none⟩) (.inr (by have := HB3.out; have := HF1.out.size; show w.heap.size ≤ B3; omega)) _
    have hR4 : Kd.R Kd.string 9 (w3.setCell ⟨B3, 18, none⟩ (.slice A3 cl.length c3)) w2.heap.size (fun _ => True) (.slice A3 cl.length c3) cl := R_fc HR3.out (S := [B3]) ((FC.refl _ _).setCell (p := ⟨B3, 18, none⟩) (.inl (by simp)) _) (fun k hk => by have h1 := (show k = B3 from by simpa using hk); have h2 := HB3l.out; omega)
    have hM4 : AK (w3.setCell ⟨B3, 18, none⟩ (.slice A3 cl.length c3)) P M n1 ⟨id, nodes, retry, num, group, ⟨k0, k1, k2, k3, k4, k5, .slice Ad cl.length dc⟩, true, true, 0⟩ := by
      obtain ⟨f, hf⟩ := HA1.out.map
      refine ⟨hA4, ⟨f, hf.move ?_⟩, HA1.out.hid, HA1.out.hnodes, HA1.out.hretry, HA1.out.hnum, HA1.out.hgroup, by simp⟩
      have hMl := hf.lt
      have hMP := HA1.out.ne
      have hMB : M ≠ B3 := by have := HB3.out; omega
      rw [Below.heap_setCell _ _ _ _ hMB, HBb3.out.block M (Nat.lt_of_lt_of_le hMl (by have := HF12.out.size; have := HBX.out.2.1.size; omega)), HBX.out.2.1.block M (Nat.lt_of_lt_of_le hMl HF12.out.size) (by simp), HF12.out.block M hMl (by simpa using hMP.symm)]
    generalize World.setCell w3 _ _ = w4 at *
    clear c18 f18 HK3 HBb3 HA2 HF2 HBX HAP2 HRG
    obtain ⟨f, hf⟩ := hM4.map
    have hg06 : 0 ≤ group ∧ group ≤ 6 := hM4.hgroup
    obtain ⟨lv, hlv⟩ : ∃ lv, f group = lv := ⟨_, rfl⟩
    have hlk := MapF.run (w := w4.drew) (hf.move rfl) group (wf_small (by omega) (by omega)) lv hlv
    have p0 := hA4.cell 0
    have p4 := hA4.cell 4
    have p27 := hA4.cell 27
    simp only [AS.cells, List.getElem?_toArray, List.getElem?_cons_succ, List.getElem?_cons_zero] at p0 p4 p27
    have hidb : 1 ≤ id ∧ id ≤ 1099511627776 := hM4.hid
    have hng : IntKind.i64.wrap (-id) = -id := by simp [IntKind.wrap, IntKind.bits, IntKind.signed]; omega
    have HB4 := Aside.mk (show w4.drew.rangeAt B3 0 [.int .i64 k0, .int .i64 k1, .int .i64 k2, .int .i64 0, .int .i64 0, .string ⟨#[]⟩, .string ⟨#[]⟩, .string ⟨#[]⟩, .string ⟨#[]⟩, .int .i64 0, .int .i64 0, .int .i64 0, .string ⟨#[]⟩, .int .i64 0, .int .i64 0, .int .i64 k3, .int .i64 k4, .int .i64 k5, .slice A3 cl.length c3] from fun j v hj => by rw [Nat.zero_add, World.cell?_drew, cell_of_row _ _ _ _ _ _ hB4]; simpa using hj)
    have HM4 := Aside.mk hM4
    have HF4 := Aside.mk hF4
    have HR4 := Aside.mk hR4
    clear hM4 hF4 hR4 hA4 hB4 hlv hf hg06 hidb
    refine still_tail 20 (by kernel_rfl) (by decide +kernel) ?_
    simp only [List.take_succ_cons, List.take_zero, List.drop_succ_cons, List.drop_zero]
    iterate 18 still_step
    refine wpStill_step (fun K hK => ?_)
    rw [if_pos (by rfl)]
    refine still_load_mid 48 (.tmp 3) rfl B3 0 rfl [.int .i64 k0, .int .i64 k1, .int .i64 k2, .int .i64 0, .int .i64 0, .string ⟨#[]⟩, .string ⟨#[]⟩, .string ⟨#[]⟩, .string ⟨#[]⟩, .int .i64 0, .int .i64 0, .int .i64 0, .string ⟨#[]⟩, .int .i64 0, .int .i64 0, .int .i64 k3, .int .i64 k4, .int .i64 k5, .slice A3 cl.length c3] _ HB4.out Try.underlying48 rfl (by kernel_rfl) ?_
    refine hK _ ?_
    clear hK K
    still_step
    refine wpStill_nil ?_
    go_wp2
    go_ret
    have hf0 : FC [] w4 (w4.drew.alloc (.cells (AS.pack ⟨id, nodes, retry, num, group, ⟨k0, k1, k2, k3, k4, k5, .slice Ad cl.length dc⟩, true, true, 0⟩ lv (.slice A3 cl.length c3)) 57)) := (FC.drew (FC.refl _ _)).alloc _
    refine ⟨w4.heap.size, lv, .slice A3 cl.length c3, n1, rfl, heap_alloc_new w4.drew _, Kd.R_lower (Kd.R_alloc (Kd.R_drew HR4.out) _) ?_, HM4.out.of_fc hf0 (by simp) (by simp), HN1.out, HF4.out.trans (hf0.sub (by simp)), ?_⟩
    · have := HHb.out; have := HF1.out.size; have := HF12.out.size; have := HB3l.out; have := HB3.out; simp only [size_setCell] at *; omega
    · have := HHb.out; have := HF4.out.size; omega
end Go.Proofs.Ytmepeolejlpehaa

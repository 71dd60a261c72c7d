/- The control's goes: it asks for what its stage needs. Conditions: where control and asker lie. -/
import Derived.Test.YtmepeolejlpehaaCtE
namespace Go.Proofs.Ytmepeolejlpehaa
open Go.RowKit Go.Maps Go.Proofs.YtmepeolejlpehaaW.PrintWords Go.Proofs.YtmepeolejlpehaaW.PrintLast Go.Proofs.YtmepeolejlpehaaW.PrintMore
/-- A control with its asker: what stands between the calls. -/
structure CJ (w : World) (P M Q base n : Nat) (s : AS) (c : CS) (sl cl : List ByteArray) : Prop where
  ask : AK w P M n s
  ctl : CP w Q (some ⟨P, 0, none⟩) c
  srow : Kd.R Kd.string 9 w base (fun _ => True) s.cmd.data sl
  crow : Kd.R Kd.string 9 w base (fun _ => True) c.data cl
  hP : P < base
  hM : M < base
  hQ : Q < base
  hbase : base ≤ w.heap.size
  hlen : sl.length ≤ 1000 ∧ cl.length ≤ 1000
  hfrom : 0 ≤ c.from' ∧ c.from' ≤ 6
  hto : 0 ≤ c.tgo ∧ c.tgo ≤ 6
theorem CJ.ne {w : World} {P M Q base n : Nat} {s : AS} {c : CS} {sl cl : List ByteArray} (h : CJ w P M Q base n s c sl cl) : P ≠ Q ∧ M ≠ Q := by
  refine ⟨fun e => ?_, fun e => ?_⟩
  · have h1 := h.ask.at'
    have h2 := h.ctl
    unfold AP at h1
    unfold CP at h2
    rw [e, h2] at h1
    have := congrArg (fun o : Option Obj => o.map fun x => match x with | .cells _ t _ => t | _ => 0) h1
    simp at this
  · obtain ⟨f, D, ⟨es, cl', h1, _⟩, _⟩ := h.ask.map
    have h2 := h.ctl
    unfold CP at h2
    rw [e, h2] at h1
    cases h1
set_option maxHeartbeats 4000000 in
set_option maxRecDepth 100000 in
theorem T.goes1 (P M Q base n : Nat) (s : AS) (c : CS) (sl cl : List ByteArray) (w : World) (h : CJ w P M Q base n s c sl cl) (hb : s.busy = false) (hnum : s.num ≤ 80000) :
    Calls Try.prog 18 #[.pointer (some ⟨Q, 0, none⟩), .int .i64 1] w fun e w' => e = .returned (.tuple #[]) ∧ ∃ d, CJ w' P M Q base n { s with num := s.num + 1, group := c.from', cmd := ⟨7, s.id, s.num + 1, c.lo, c.hi, 0, d⟩, busy := true, sent := false } { c with stage := 1 } [] cl ∧ FC [P, Q] w w' := by
  have H := Aside.mk h
  obtain ⟨hPQ, hMQ⟩ := h.ne
  obtain ⟨stage, lo, hi, fr, tgo, data, ce, ended⟩ := c
  obtain ⟨Ac, cc, hdv, hcc, _⟩ := Kd.R_reads h.crow
  dsimp only at hdv
  subst hdv
  have h1 := h.ctl.cell 1
  have f1 := frozen_of_row w Q 1 _ _ h.ctl
  have hh := heap_setCell_same w Q 1 _ _ (.int .i64 1) h.ctl
  simp only [CS.cells, List.setIfInBounds_toArray, List.set_cons_succ, List.set_cons_zero, List.getElem?_toArray, List.getElem?_cons_succ, List.getElem?_cons_zero] at hh h1
  obtain ⟨w1, hw1⟩ : ∃ w1, w1 = w.setCell ⟨Q, 1, none⟩ (.int .i64 1) := ⟨_, rfl⟩
  have hF1 : FC [Q] w w1 := by rw [hw1]; exact (FC.refl [Q] w).setCell (p := ⟨Q, 1, none⟩) (.inl (by simp)) _
  have hs1 : w1.heap.size = w.heap.size := by rw [hw1, size_setCell]
  rw [← hw1] at hh
  have hA1 := (h.ask.of_fc hF1 (by simpa using hPQ) (by simpa using hMQ)).of_fc (w' := w1.drew) (FC.drew (FC.refl [] _)) (by simp) (by simp)
  have hb1 : base ≤ w1.drew.heap.size := by show base ≤ w1.heap.size; rw [hs1]; exact h.hbase
  have hR1 : Kd.R Kd.string 9 w1.drew base (fun _ => True) (.slice Ac cl.length cc) cl := Kd.R_drew (R_fc h.crow hF1 (fun k hk => by have := h.hQ; have h2 := (show k = Q from by simpa using hk); omega))
  have hAsk := T.Ask P M base s fr ⟨7, 0, 0, lo, hi, 0, .slice none 0 0⟩ [] w1.drew hA1.at' hA1.hid.1 hb h.hfrom ⟨hA1.hnum.1, by omega⟩ (Kd.R_nil _ _ _ _ _) h.hP (by simp) hb1
  simp only [CmdV.list] at hAsk
  have HAsk := Aside.mk hAsk
  have c0 : w1.cell? ⟨Q, 0, none⟩ = some (.pointer (some ⟨P, 0, none⟩)) := by rw [cell_of_row _ _ _ _ _ _ hh]; rfl
  have c2 : w1.cell? ⟨Q, 2, none⟩ = some (.int .i64 lo) := by rw [cell_of_row _ _ _ _ _ _ hh]; rfl
  have c3 : w1.cell? ⟨Q, 3, none⟩ = some (.int .i64 hi) := by rw [cell_of_row _ _ _ _ _ _ hh]; rfl
  have c4 : w1.cell? ⟨Q, 4, none⟩ = some (.int .i64 fr) := by rw [cell_of_row _ _ _ _ _ _ hh]; rfl
  have c5 : w1.cell? ⟨Q, 5, none⟩ = some (.int .i64 tgo) := by rw [cell_of_row _ _ _ _ _ _ hh]; rfl
  have c6 : w1.cell? ⟨Q, 6, none⟩ = some (.slice Ac cl.length cc) := by rw [cell_of_row _ _ _ _ _ _ hh]; rfl
  have HH := Aside.mk hh
  have HF1 := Aside.mk hF1
  have HA1 := Aside.mk hA1
  have HR1 := Aside.mk hR1
  have HS1 := Aside.mk hs1
  clear h hh hF1 hA1 hR1 hAsk hb1 hs1 hcc
  go_enter Try.func18, Try.ntmps18
  go_wp2_with fail
  rw [← hw1]
  clear hw1 h1 f1
  refine still_tail 13 (by kernel_rfl) (by decide +kernel) ?_
  simp only [List.take_succ_cons, List.take_zero, List.drop_succ_cons, List.drop_zero]
  repeat still_step
  refine wpStill_nil ?_
  go_wp2_with (go_at_call 22; refine HAsk.out.mono ?_; rintro e w2 ⟨rfl, d, hA2, hR2, hF2⟩; have HA2 := Aside.mk hA2; have HR2 := Aside.mk hR2; have HF2 := Aside.mk hF2; clear hA2 hR2 hF2)
  go_end0
  have hPQ' : Q ∉ [P] := by simpa using hPQ.symm
  obtain ⟨f, hf⟩ := HA1.out.map
  have hMP := HA1.out.ne
  have hsz := HF2.out.size
  have hsz1 : w1.drew.heap.size = w1.heap.size := rfl
  have hbb := H.out.hbase
  have hs1 := HS1.out
  refine ⟨rfl, d, ⟨⟨HA2.out, ⟨f, hf.move (HF2.out.block M hf.lt (by simpa using hMP.symm))⟩, HA1.out.hid, HA1.out.hnodes, HA1.out.hretry, ?_, H.out.hfrom, HA1.out.hwaited⟩, (HF2.out.block Q (Array.getElem?_eq_some_iff.1 HH.out).1 hPQ').trans HH.out, Kd.R_lower HR2.out (by omega), R_fc HR1.out HF2.out (fun k hk => ?_), H.out.hP, H.out.hM, H.out.hQ, by omega, ⟨by simp, H.out.hlen.2⟩, H.out.hfrom, H.out.hto⟩, ((HF1.out.drew).sub (by simp)).trans (HF2.out.sub (by simp))⟩
  · have := HA1.out.hnum
    show 0 ≤ s.num + 1 ∧ s.num + 1 ≤ 90000
    omega
  · have h2 := (show k = P from by simpa using hk)
    have := H.out.hP
    omega
set_option maxHeartbeats 4000000 in
set_option maxRecDepth 100000 in
theorem T.goes2 (P M Q base n : Nat) (s : AS) (c : CS) (sl cl : List ByteArray) (w : World) (h : CJ w P M Q base n s c sl cl) (hb : s.busy = false) (hnum : s.num ≤ 80000) :
    Calls Try.prog 18 #[.pointer (some ⟨Q, 0, none⟩), .int .i64 2] w fun e w' => e = .returned (.tuple #[]) ∧ ∃ d, CJ w' P M Q base n { s with num := s.num + 1, group := c.tgo, cmd := ⟨8, s.id, s.num + 1, c.lo, c.hi, 0, d⟩, busy := true, sent := false } { c with stage := 2 } cl cl ∧ FC [P, Q] w w' := by
  have H := Aside.mk h
  obtain ⟨hPQ, hMQ⟩ := h.ne
  obtain ⟨stage, lo, hi, fr, tgo, data, ce, ended⟩ := c
  obtain ⟨Ac, cc, hdv, hcc, _⟩ := Kd.R_reads h.crow
  dsimp only at hdv
  subst hdv
  have h1 := h.ctl.cell 1
  have f1 := frozen_of_row w Q 1 _ _ h.ctl
  have hh := heap_setCell_same w Q 1 _ _ (.int .i64 2) h.ctl
  simp only [CS.cells, List.setIfInBounds_toArray, List.set_cons_succ, List.set_cons_zero, List.getElem?_toArray, List.getElem?_cons_succ, List.getElem?_cons_zero] at hh h1
  obtain ⟨w1, hw1⟩ : ∃ w1, w1 = w.setCell ⟨Q, 1, none⟩ (.int .i64 2) := ⟨_, rfl⟩
  have hF1 : FC [Q] w w1 := by rw [hw1]; exact (FC.refl [Q] w).setCell (p := ⟨Q, 1, none⟩) (.inl (by simp)) _
  have hs1 : w1.heap.size = w.heap.size := by rw [hw1, size_setCell]
  rw [← hw1] at hh
  have hA1 := (h.ask.of_fc hF1 (by simpa using hPQ) (by simpa using hMQ)).of_fc (w' := w1.drew) (FC.drew (FC.refl [] _)) (by simp) (by simp)
  have hb1 : base ≤ w1.drew.heap.size := by show base ≤ w1.heap.size; rw [hs1]; exact h.hbase
  have hR1 : Kd.R Kd.string 9 w1.drew base (fun _ => True) (.slice Ac cl.length cc) cl := Kd.R_drew (R_fc h.crow hF1 (fun k hk => by have := h.hQ; have h2 := (show k = Q from by simpa using hk); omega))
  have hAsk := T.Ask P M base s tgo ⟨8, 0, 0, lo, hi, 0, .slice Ac cl.length cc⟩ cl w1.drew hA1.at' hA1.hid.1 hb h.hto ⟨hA1.hnum.1, by omega⟩ hR1 h.hP h.hlen.2 hb1
  simp only [CmdV.list] at hAsk
  have HAsk := Aside.mk hAsk
  have c0 : w1.cell? ⟨Q, 0, none⟩ = some (.pointer (some ⟨P, 0, none⟩)) := by rw [cell_of_row _ _ _ _ _ _ hh]; rfl
  have c2 : w1.cell? ⟨Q, 2, none⟩ = some (.int .i64 lo) := by rw [cell_of_row _ _ _ _ _ _ hh]; rfl
  have c3 : w1.cell? ⟨Q, 3, none⟩ = some (.int .i64 hi) := by rw [cell_of_row _ _ _ _ _ _ hh]; rfl
  have c4 : w1.cell? ⟨Q, 4, none⟩ = some (.int .i64 fr) := by rw [cell_of_row _ _ _ _ _ _ hh]; rfl
  have c5 : w1.cell? ⟨Q, 5, none⟩ = some (.int .i64 tgo) := by rw [cell_of_row _ _ _ _ _ _ hh]; rfl
  have c6 : w1.cell? ⟨Q, 6, none⟩ = some (.slice Ac cl.length cc) := by rw [cell_of_row _ _ _ _ _ _ hh]; rfl
  have HH := Aside.mk hh
  have HF1 := Aside.mk hF1
  have HA1 := Aside.mk hA1
  have HR1 := Aside.mk hR1
  have HS1 := Aside.mk hs1
  clear h hh hF1 hA1 hR1 hAsk hb1 hs1 hcc
  go_enter Try.func18, Try.ntmps18
  go_wp2_with fail
  rw [← hw1]
  clear hw1 h1 f1
  refine still_tail 17 (by kernel_rfl) (by decide +kernel) ?_
  simp only [List.take_succ_cons, List.take_zero, List.drop_succ_cons, List.drop_zero]
  repeat still_step
  refine wpStill_nil ?_
  go_wp2_with (go_at_call 22; refine HAsk.out.mono ?_; rintro e w2 ⟨rfl, d, hA2, hR2, hF2⟩; have HA2 := Aside.mk hA2; have HR2 := Aside.mk hR2; have HF2 := Aside.mk hF2; clear hA2 hR2 hF2)
  go_end0
  have hPQ' : Q ∉ [P] := by simpa using hPQ.symm
  obtain ⟨f, hf⟩ := HA1.out.map
  have hMP := HA1.out.ne
  have hsz := HF2.out.size
  have hsz1 : w1.drew.heap.size = w1.heap.size := rfl
  have hbb := H.out.hbase
  have hs1 := HS1.out
  refine ⟨rfl, d, ⟨⟨HA2.out, ⟨f, hf.move (HF2.out.block M hf.lt (by simpa using hMP.symm))⟩, HA1.out.hid, HA1.out.hnodes, HA1.out.hretry, ?_, H.out.hto, HA1.out.hwaited⟩, (HF2.out.block Q (Array.getElem?_eq_some_iff.1 HH.out).1 hPQ').trans HH.out, Kd.R_lower HR2.out (by omega), R_fc HR1.out HF2.out (fun k hk => ?_), H.out.hP, H.out.hM, H.out.hQ, by omega, ⟨H.out.hlen.2, H.out.hlen.2⟩, H.out.hfrom, H.out.hto⟩, ((HF1.out.drew).sub (by simp)).trans (HF2.out.sub (by simp))⟩
  · have := HA1.out.hnum
    show 0 ≤ s.num + 1 ∧ s.num + 1 ≤ 90000
    omega
  · have h2 := (show k = P from by simpa using hk)
    have := H.out.hP
    omega
set_option maxHeartbeats 4000000 in
set_option maxRecDepth 100000 in
theorem T.goes3 (P M Q base n : Nat) (s : AS) (c : CS) (sl cl : List ByteArray) (w : World) (h : CJ w P M Q base n s c sl cl) (hb : s.busy = false) (hnum : s.num ≤ 80000) :
    Calls Try.prog 18 #[.pointer (some ⟨Q, 0, none⟩), .int .i64 3] w fun e w' => e = .returned (.tuple #[]) ∧ ∃ d, CJ w' P M Q base n { s with num := s.num + 1, group := 0, cmd := ⟨10, s.id, s.num + 1, c.lo, c.hi, c.tgo, d⟩, busy := true, sent := false } { c with stage := 3 } [] cl ∧ FC [P, Q] w w' := by
  have H := Aside.mk h
  obtain ⟨hPQ, hMQ⟩ := h.ne
  obtain ⟨stage, lo, hi, fr, tgo, data, ce, ended⟩ := c
  obtain ⟨Ac, cc, hdv, hcc, _⟩ := Kd.R_reads h.crow
  dsimp only at hdv
  subst hdv
  have h1 := h.ctl.cell 1
  have f1 := frozen_of_row w Q 1 _ _ h.ctl
  have hh := heap_setCell_same w Q 1 _ _ (.int .i64 3) h.ctl
  simp only [CS.cells, List.setIfInBounds_toArray, List.set_cons_succ, List.set_cons_zero, List.getElem?_toArray, List.getElem?_cons_succ, List.getElem?_cons_zero] at hh h1
  obtain ⟨w1, hw1⟩ : ∃ w1, w1 = w.setCell ⟨Q, 1, none⟩ (.int .i64 3) := ⟨_, rfl⟩
  have hF1 : FC [Q] w w1 := by rw [hw1]; exact (FC.refl [Q] w).setCell (p := ⟨Q, 1, none⟩) (.inl (by simp)) _
  have hs1 : w1.heap.size = w.heap.size := by rw [hw1, size_setCell]
  rw [← hw1] at hh
  have hA1 := (h.ask.of_fc hF1 (by simpa using hPQ) (by simpa using hMQ)).of_fc (w' := w1.drew) (FC.drew (FC.refl [] _)) (by simp) (by simp)
  have hb1 : base ≤ w1.drew.heap.size := by show base ≤ w1.heap.size; rw [hs1]; exact h.hbase
  have hR1 : Kd.R Kd.string 9 w1.drew base (fun _ => True) (.slice Ac cl.length cc) cl := Kd.R_drew (R_fc h.crow hF1 (fun k hk => by have := h.hQ; have h2 := (show k = Q from by simpa using hk); omega))
  have hAsk := T.Ask P M base s 0 ⟨10, 0, 0, lo, hi, tgo, .slice none 0 0⟩ [] w1.drew hA1.at' hA1.hid.1 hb (by omega) ⟨hA1.hnum.1, by omega⟩ (Kd.R_nil _ _ _ _ _) h.hP (by simp) hb1
  simp only [CmdV.list] at hAsk
  have HAsk := Aside.mk hAsk
  have c0 : w1.cell? ⟨Q, 0, none⟩ = some (.pointer (some ⟨P, 0, none⟩)) := by rw [cell_of_row _ _ _ _ _ _ hh]; rfl
  have c2 : w1.cell? ⟨Q, 2, none⟩ = some (.int .i64 lo) := by rw [cell_of_row _ _ _ _ _ _ hh]; rfl
  have c3 : w1.cell? ⟨Q, 3, none⟩ = some (.int .i64 hi) := by rw [cell_of_row _ _ _ _ _ _ hh]; rfl
  have c4 : w1.cell? ⟨Q, 4, none⟩ = some (.int .i64 fr) := by rw [cell_of_row _ _ _ _ _ _ hh]; rfl
  have c5 : w1.cell? ⟨Q, 5, none⟩ = some (.int .i64 tgo) := by rw [cell_of_row _ _ _ _ _ _ hh]; rfl
  have c6 : w1.cell? ⟨Q, 6, none⟩ = some (.slice Ac cl.length cc) := by rw [cell_of_row _ _ _ _ _ _ hh]; rfl
  have HH := Aside.mk hh
  have HF1 := Aside.mk hF1
  have HA1 := Aside.mk hA1
  have HR1 := Aside.mk hR1
  have HS1 := Aside.mk hs1
  clear h hh hF1 hA1 hR1 hAsk hb1 hs1 hcc
  go_enter Try.func18, Try.ntmps18
  go_wp2_with fail
  rw [← hw1]
  clear hw1 h1 f1
  refine still_tail 13 (by kernel_rfl) (by decide +kernel) ?_
  simp only [List.take_succ_cons, List.take_zero, List.drop_succ_cons, List.drop_zero]
  repeat still_step
  refine wpStill_nil ?_
  go_wp2_with (go_at_call 22; refine HAsk.out.mono ?_; rintro e w2 ⟨rfl, d, hA2, hR2, hF2⟩; have HA2 := Aside.mk hA2; have HR2 := Aside.mk hR2; have HF2 := Aside.mk hF2; clear hA2 hR2 hF2)
  go_end0
  have hPQ' : Q ∉ [P] := by simpa using hPQ.symm
  obtain ⟨f, hf⟩ := HA1.out.map
  have hMP := HA1.out.ne
  have hsz := HF2.out.size
  have hsz1 : w1.drew.heap.size = w1.heap.size := rfl
  have hbb := H.out.hbase
  have hs1 := HS1.out
  refine ⟨rfl, d, ⟨⟨HA2.out, ⟨f, hf.move (HF2.out.block M hf.lt (by simpa using hMP.symm))⟩, HA1.out.hid, HA1.out.hnodes, HA1.out.hretry, ?_, (by show (0:Int) ≤ 0 ∧ (0:Int) ≤ 6; omega), HA1.out.hwaited⟩, (HF2.out.block Q (Array.getElem?_eq_some_iff.1 HH.out).1 hPQ').trans HH.out, Kd.R_lower HR2.out (by omega), R_fc HR1.out HF2.out (fun k hk => ?_), H.out.hP, H.out.hM, H.out.hQ, by omega, ⟨by simp, H.out.hlen.2⟩, H.out.hfrom, H.out.hto⟩, ((HF1.out.drew).sub (by simp)).trans (HF2.out.sub (by simp))⟩
  · have := HA1.out.hnum
    show 0 ≤ s.num + 1 ∧ s.num + 1 ≤ 90000
    omega
  · have h2 := (show k = P from by simpa using hk)
    have := H.out.hP
    omega
set_option maxHeartbeats 4000000 in
set_option maxRecDepth 100000 in
theorem T.goes4 (P M Q base n : Nat) (s : AS) (c : CS) (sl cl : List ByteArray) (w : World) (h : CJ w P M Q base n s c sl cl) (hb : s.busy = false) (hnum : s.num ≤ 80000) :
    Calls Try.prog 18 #[.pointer (some ⟨Q, 0, none⟩), .int .i64 4] w fun e w' => e = .returned (.tuple #[]) ∧ ∃ d, CJ w' P M Q base n { s with num := s.num + 1, group := c.from', cmd := ⟨8, s.id, s.num + 1, c.lo, c.hi, 0, d⟩, busy := true, sent := false } { c with stage := 4 } cl cl ∧ FC [P, Q] w w' := by
  have H := Aside.mk h
  obtain ⟨hPQ, hMQ⟩ := h.ne
  obtain ⟨stage, lo, hi, fr, tgo, data, ce, ended⟩ := c
  obtain ⟨Ac, cc, hdv, hcc, _⟩ := Kd.R_reads h.crow
  dsimp only at hdv
  subst hdv
  have h1 := h.ctl.cell 1
  have f1 := frozen_of_row w Q 1 _ _ h.ctl
  have hh := heap_setCell_same w Q 1 _ _ (.int .i64 4) h.ctl
  simp only [CS.cells, List.setIfInBounds_toArray, List.set_cons_succ, List.set_cons_zero, List.getElem?_toArray, List.getElem?_cons_succ, List.getElem?_cons_zero] at hh h1
  obtain ⟨w1, hw1⟩ : ∃ w1, w1 = w.setCell ⟨Q, 1, none⟩ (.int .i64 4) := ⟨_, rfl⟩
  have hF1 : FC [Q] w w1 := by rw [hw1]; exact (FC.refl [Q] w).setCell (p := ⟨Q, 1, none⟩) (.inl (by simp)) _
  have hs1 : w1.heap.size = w.heap.size := by rw [hw1, size_setCell]
  rw [← hw1] at hh
  have hA1 := (h.ask.of_fc hF1 (by simpa using hPQ) (by simpa using hMQ)).of_fc (w' := w1.drew) (FC.drew (FC.refl [] _)) (by simp) (by simp)
  have hb1 : base ≤ w1.drew.heap.size := by show base ≤ w1.heap.size; rw [hs1]; exact h.hbase
  have hR1 : Kd.R Kd.string 9 w1.drew base (fun _ => True) (.slice Ac cl.length cc) cl := Kd.R_drew (R_fc h.crow hF1 (fun k hk => by have := h.hQ; have h2 := (show k = Q from by simpa using hk); omega))
  have hAsk := T.Ask P M base s fr ⟨8, 0, 0, lo, hi, 0, .slice Ac cl.length cc⟩ cl w1.drew hA1.at' hA1.hid.1 hb h.hfrom ⟨hA1.hnum.1, by omega⟩ hR1 h.hP h.hlen.2 hb1
  simp only [CmdV.list] at hAsk
  have HAsk := Aside.mk hAsk
  have c0 : w1.cell? ⟨Q, 0, none⟩ = some (.pointer (some ⟨P, 0, none⟩)) := by rw [cell_of_row _ _ _ _ _ _ hh]; rfl
  have c2 : w1.cell? ⟨Q, 2, none⟩ = some (.int .i64 lo) := by rw [cell_of_row _ _ _ _ _ _ hh]; rfl
  have c3 : w1.cell? ⟨Q, 3, none⟩ = some (.int .i64 hi) := by rw [cell_of_row _ _ _ _ _ _ hh]; rfl
  have c4 : w1.cell? ⟨Q, 4, none⟩ = some (.int .i64 fr) := by rw [cell_of_row _ _ _ _ _ _ hh]; rfl
  have c5 : w1.cell? ⟨Q, 5, none⟩ = some (.int .i64 tgo) := by rw [cell_of_row _ _ _ _ _ _ hh]; rfl
  have c6 : w1.cell? ⟨Q, 6, none⟩ = some (.slice Ac cl.length cc) := by rw [cell_of_row _ _ _ _ _ _ hh]; rfl
  have HH := Aside.mk hh
  have HF1 := Aside.mk hF1
  have HA1 := Aside.mk hA1
  have HR1 := Aside.mk hR1
  have HS1 := Aside.mk hs1
  clear h hh hF1 hA1 hR1 hAsk hb1 hs1 hcc
  go_enter Try.func18, Try.ntmps18
  go_wp2_with fail
  rw [← hw1]
  clear hw1 h1 f1
  refine still_tail 17 (by kernel_rfl) (by decide +kernel) ?_
  simp only [List.take_succ_cons, List.take_zero, List.drop_succ_cons, List.drop_zero]
  repeat still_step
  refine wpStill_nil ?_
  go_wp2_with (go_at_call 22; refine HAsk.out.mono ?_; rintro e w2 ⟨rfl, d, hA2, hR2, hF2⟩; have HA2 := Aside.mk hA2; have HR2 := Aside.mk hR2; have HF2 := Aside.mk hF2; clear hA2 hR2 hF2)
  go_end0
  have hPQ' : Q ∉ [P] := by simpa using hPQ.symm
  obtain ⟨f, hf⟩ := HA1.out.map
  have hMP := HA1.out.ne
  have hsz := HF2.out.size
  have hsz1 : w1.drew.heap.size = w1.heap.size := rfl
  have hbb := H.out.hbase
  have hs1 := HS1.out
  refine ⟨rfl, d, ⟨⟨HA2.out, ⟨f, hf.move (HF2.out.block M hf.lt (by simpa using hMP.symm))⟩, HA1.out.hid, HA1.out.hnodes, HA1.out.hretry, ?_, H.out.hfrom, HA1.out.hwaited⟩, (HF2.out.block Q (Array.getElem?_eq_some_iff.1 HH.out).1 hPQ').trans HH.out, Kd.R_lower HR2.out (by omega), R_fc HR1.out HF2.out (fun k hk => ?_), H.out.hP, H.out.hM, H.out.hQ, by omega, ⟨H.out.hlen.2, H.out.hlen.2⟩, H.out.hfrom, H.out.hto⟩, ((HF1.out.drew).sub (by simp)).trans (HF2.out.sub (by simp))⟩
  · have := HA1.out.hnum
    show 0 ≤ s.num + 1 ∧ s.num + 1 ≤ 90000
    omega
  · have h2 := (show k = P from by simpa using hk)
    have := H.out.hP
    omega
end Go.Proofs.Ytmepeolejlpehaa

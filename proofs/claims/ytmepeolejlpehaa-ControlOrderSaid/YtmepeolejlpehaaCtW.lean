/- The chapter's example: it is met. Conditions: none. -/
import Derived.Test.YtmepeolejlpehaaCtT2
namespace Go.Proofs.Ytmepeolejlpehaa
open Go.RowKit Go.Maps Go.Proofs.YtmepeolejlpehaaW.PrintWords Go.Proofs.YtmepeolejlpehaaW.PrintLast Go.Proofs.YtmepeolejlpehaaW.PrintMore
/-- A slice of one text, just made. -/
theorem C_one (w : World) (b : ByteArray) : Kd.C Kd.string (w.alloc (.cells #[.string b] 9)) (some ⟨w.heap.size, 0, none⟩) 1 [b] :=
  ⟨rfl, by decide, fun _ => ⟨_, rfl, fun j q hj => by
    match j with
    | 0 =>
      have : b = q := by simpa using hj
      subst this
      refine ⟨[.string b], rfl, rfl, fun i u hu => ?_⟩
      match i with
      | 0 =>
        have : Value.string b = u := by simpa using hu
        subst this
        show World.cell? _ ⟨w.heap.size, 0, none⟩ = _
        rw [cell_of_row _ _ _ _ _ _ (heap_alloc_new w _)]; rfl
      | i + 1 => simp at hu
    | j + 1 => simp at hj⟩⟩
/-- What stands at round i of the example. -/
structure WR (w w' : World) (P M Q base K1 K2 : Nat) (i : Nat) : Prop where
  hi : i ≤ 3
  bel : Below w.heap.size w w'
  t1 : w'.heap[K1]? = some (.cells #[.int .i64 7, .int .i64 8, .int .i64 10] 3 (0, 0))
  t2 : w'.heap[K2]? = some (.cells #[.int .i64 1, .int .i64 2, .int .i64 0] 3 (0, 0))
  hK : base ≤ K1 ∧ base ≤ K2
  hlow : w.heap.size ≤ P ∧ w.heap.size ≤ M ∧ w.heap.size ≤ Q
  st : ∃ n s c sl cl, CJ w' P M Q base n s c sl cl ∧ n ≤ 2 * i ∧ s.id = 9 ∧ s.num ≤ 3 ∧ c.tgo = 2 ∧ ((i < 3 ∧ s.busy = true ∧ s.sent = false ∧ s.num = i + 1 ∧ s.group = [1, 2, 0].getD i 0 ∧ s.cmd.kind = [7, 8, 10].getD i 0 ∧ s.cmd.num = i + 1 ∧ c.stage = i + 1) ∨ (i = 3 ∧ c.stage = 0 ∧ c.e = 0 ∧ c.ended = true))
set_option maxHeartbeats 8000000 in
set_option maxRecDepth 100000 in
theorem T.works (w : World) : Calls Try.prog 13 #[] w fun e w' => e = .returned (.bool true) ∧ Below w.heap.size w w' := by
  go_enter Try.func13, Try.ntmps13
  go_wp2_with fail
  refine (T.New 9 1 2 w (by decide) (by decide) (by decide)).mono ?_
  rintro e w1 ⟨rfl, hJ1, hb1⟩
  have HJ1 := Aside.mk hJ1
  have HB1 := Aside.mk hb1
  clear hJ1 hb1
  go_wp2_with fail
  refine (T.StartOk _ _ _ _ _ _ _ _ _ 0 100 1 2 w1 HJ1.out rfl (by decide) rfl (by decide) (by decide) (by decide) (by decide)).mono ?_
  rintro e w2 ⟨rfl, d, hJ2, hf2⟩
  have HJ2 := Aside.mk hJ2
  have HF2 := Aside.mk hf2
  clear hJ2 hf2
  go_wp2_with fail
  have hst : WR w ((w2.alloc (Obj.cells #[.int .i64 7, .int .i64 8, .int .i64 10] 3)).alloc (Obj.cells #[.int .i64 1, .int .i64 2, .int .i64 0] 3)) (w.heap.size + 1) w.heap.size (w.heap.size + 2) (w.heap.size + 3) w2.heap.size (w2.heap.size + 1) 0 := by
    have hs2 : w.heap.size + 3 ≤ w2.heap.size := HJ2.out.hbase
    have hf : FC [] w2 ((w2.alloc (Obj.cells #[.int .i64 7, .int .i64 8, .int .i64 10] 3)).alloc (Obj.cells #[.int .i64 1, .int .i64 2, .int .i64 0] 3)) := ((FC.refl _ _).alloc _).alloc _
    have hb : Below w.heap.size w w2 := FC.below HB1.out HF2.out (fun x hx => by have : x = w.heap.size + 1 ∨ x = w.heap.size + 2 := (by simpa using hx); omega) (Nat.le_refl _)
    refine ⟨by omega, (hb.alloc (by omega) _).alloc (by simp; omega) _, ?_, ?_, ⟨hs2, by omega⟩, ⟨by omega, by omega, by omega⟩, 0, _, _, _, _, HJ2.out.of_pm (hf.sub (by simp)) (HJ2.out.ask.of_fc hf (by simp) (by simp)) rfl, by omega, rfl, by simp [AS.new], rfl, .inl ⟨by omega, rfl, rfl, rfl, rfl, rfl, rfl, rfl⟩⟩
    · exact (Below.heap_alloc _ _ _ (by simp)).trans (heap_alloc_new w2 _)
    · have := heap_alloc_new (w2.alloc (Obj.cells #[.int .i64 7, .int .i64 8, .int .i64 10] 3)) (Obj.cells #[.int .i64 1, .int .i64 2, .int .i64 0] 3)
      simpa using this
  generalize World.alloc (World.alloc w2 _) _ = w3 at hst ⊢
  generalize w2.heap.size = K1 at hst ⊢
  obtain ⟨K2, hK2⟩ : ∃ K2, K2 = K1 + 1 := ⟨_, rfl⟩
  rw [← hK2] at hst ⊢
  generalize w.heap.size + 1 = P at hst ⊢
  generalize w.heap.size + 2 = Q at hst ⊢
  generalize hMM : w.heap.size = M at hst ⊢
  generalize M + 3 = base at hst ⊢
  clear HJ1 HB1 HJ2 HF2 hK2
  subst hMM
  go_loopg [28] 3 (fun k v28 wr => ∃ i : Nat, k + i = 3 ∧ v28 = .int .i64 i ∧ Aside (WR w wr P w.heap.size Q base K1 K2 i))
  case atStart => exact ⟨0, rfl, rfl, ⟨hst⟩⟩
  case round =>
    clear hst
    obtain ⟨i, hi, rfl, hR⟩ := hrel
    obtain ⟨M, hM⟩ : ∃ M, M = w.heap.size := ⟨_, rfl⟩
    rw [← hM] at hR
    have HM := Aside.mk hM
    clear hM
    have h3 := hR.out.hi
    have hcase : i = 0 ∨ i = 1 ∨ i = 2 ∨ i = 3 := by omega
    clear h3
    rcases hcase with rfl | rfl | rfl | rfl
    · obtain ⟨n, s, c, sl, cl, hJ, hn, hid, hnm, htg, hc⟩ := hR.out.st
      rcases hc with ⟨_, hb, hsn, hnum, hgr, hck, hcn, hst⟩ | ⟨hx, _⟩
      rotate_left
      · omega
      have hTk := T.TickSendC P M Q base n s c sl cl wr hJ hb (.inl hsn) (by omega)
      obtain ⟨id, nodes, retry, num, group, ⟨k0, k1, k2, k3, k4, k5, k6⟩, busy, sent, waited⟩ := s
      obtain ⟨stage, lo, hi, fr, tgo, data, ce, en⟩ := c
      dsimp only at hb hsn hnum hgr hck hcn hst hid htg hnm
      simp at hnum hgr hck hcn hst
      subst hb hsn hnum hgr hck hcn hst hid htg
      have HTk := Aside.mk hTk
      have HJ := Aside.mk hJ
      have HNn := Aside.mk hn
      have g1 : wr.cell? ⟨K1, 0, none⟩ = some (.int .i64 7) := by rw [cell_of_row _ _ _ _ _ _ hR.out.t1]; rfl
      have g2 : wr.cell? ⟨K2, 0, none⟩ = some (.int .i64 1) := by rw [cell_of_row _ _ _ _ _ _ hR.out.t2]; rfl
      clear hTk hJ hn hnm
      go_wp2_with fail
      refine HTk.out.mono ?_
      rintro e w3 ⟨B, lv, d3, n3, rfl, hB3, hd3, hJ3, hn3, hf3, hbB⟩
      have b3 : w3.cell? ⟨B, 3, none⟩ = some (.int .i64 1) := by rw [cell_of_row _ _ _ _ _ _ hB3]; rfl
      have b12 : w3.cell? ⟨B, 12, none⟩ = some (.int .i64 7) := by rw [cell_of_row _ _ _ _ _ _ hB3]; rfl
      have b14 : w3.cell? ⟨B, 14, none⟩ = some (.int .i64 1) := by rw [cell_of_row _ _ _ _ _ _ hB3]; rfl
      have HSt := Aside.mk (fun m => T.Stage Q ⟨P, 0, none⟩ _ (w3.drewN m) hJ3.ctl)
      have hPb := HJ.out.hP
      have hMb := HJ.out.hM
      have hQb := HJ.out.hQ
      have hK := hR.out.hK
      have hKs : ∀ k, base ≤ k → k < wr.heap.size → w3.heap[k]? = wr.heap[k]? := fun k h1 h2 => hf3.block k h2 (by simp; omega)
      have hk1 := (hKs K1 hK.1 (Array.getElem?_eq_some_iff.1 hR.out.t1).1).trans hR.out.t1
      have hk2 := (hKs K2 hK.2 (Array.getElem?_eq_some_iff.1 hR.out.t2).1).trans hR.out.t2
      have q1 : w3.cell? ⟨K1, 0, none⟩ = some (.int .i64 7) := by rw [cell_of_row _ _ _ _ _ _ hk1]; rfl
      have HJ3 := Aside.mk hJ3
      have HF3 := Aside.mk hf3
      have HN3 := Aside.mk hn3
      have HK1 := Aside.mk hk1
      have HK2 := Aside.mk hk2
      clear hB3 hd3 hJ3 hn3 hf3 hk1 hk2 hKs hPb hMb hQb hK g1 g2
      go_wp2_with fail
      go_quiet ((go_at_call 12; with_reducible exact Calls.quiet_of_same (HSt.out _)))
      clear HSt b3 b12 b14 q1
      go_wp2_with fail
      obtain ⟨w4, hw4⟩ : ∃ w4, w4 = (w3.drewN nq).alloc (Obj.cells #[Value.string { data := #[120] }] 9) := ⟨_, rfl⟩
      have hf4 : FC [] w3 w4 := by rw [hw4]; exact FC.alloc (FC.of (pw_below_drewN (Below.refl _ _) nq)) _
      have hC4 : Kd.C Kd.string w4 (some ⟨w3.heap.size, 0, none⟩) 1 [⟨#[120]⟩] := by rw [hw4]; exact C_one (w3.drewN nq) _
      have hs4 : w4.heap.size = w3.heap.size + 1 := by rw [hw4]; simp
      have hJ4 := HJ3.out.of_pm (hf4.sub (by simp)) (HJ3.out.ask.of_fc hf4 (by simp) (by simp)) rfl
      have hRv := T.RecvAns P M Q base n3 _ _ _ _ 0 0 (some ⟨w3.heap.size, 0, none⟩) 1 [⟨#[120]⟩] w4 hJ4 rfl (.inl rfl) (by dsimp only; omega) rfl hC4 (by simp) (fun ad e => by have h1 := hJ4.hP; have h2 := HJ3.out.hbase; cases e; exact ⟨by show w3.heap.size ≠ P; omega, by show w3.heap.size < w4.heap.size; omega⟩)
      rw [← hw4]
      refine hRv.mono ?_
      rintro e w5 ⟨rfl, n5, s5, c5, sl5, cl5, hn5, hNx, hJ5, hf5⟩
      have hF5 : FC [P, M, Q] wr w5 := ((HF3.out.sub (by simp)).trans (hf4.sub (by simp))).trans hf5
      have hK := hR.out.hK
      have hbb := HJ.out.hbase
      have hPb := HJ.out.hP
      have hMb := HJ.out.hM
      have hQb := HJ.out.hQ
      have hKs : ∀ k, base ≤ k → k < wr.heap.size → w5.heap[k]? = wr.heap[k]? := fun k h1 h2 => hF5.block k h2 (by simp; omega)
      have hk1 := (hKs K1 hK.1 (Array.getElem?_eq_some_iff.1 hR.out.t1).1).trans hR.out.t1
      have hk2 := (hKs K2 hK.2 (Array.getElem?_eq_some_iff.1 hR.out.t2).1).trans hR.out.t2
      have hb5 : Below w.heap.size w w5 := FC.below hR.out.bel hF5 (fun x hx => by have : x = P ∨ x = M ∨ x = Q := (by simpa using hx); have := hR.out.hlow; omega) (Nat.le_refl _)
      rcases hNx with ⟨h1, h2, _⟩ | ⟨h1, h2, ⟨d5, h3⟩, ⟨d6, h4⟩, h5, h6⟩ | ⟨h1, h2, _⟩ | ⟨h1, h2, ⟨d5, h3⟩, ⟨d6, h4⟩, h5, h6⟩ | ⟨h1, h3, h4, h5, h6⟩ | ⟨h1, _⟩
      all_goals first | (exfalso; dsimp only at h1; omega) | (exact absurd rfl h2) | skip
      subst h3 h4
      have hW : Aside (WR w w5 P M Q base K1 K2 (0 + 1)) := ⟨⟨by decide, hb5, hk1, hk2, hK, hR.out.hlow, n5, _, _, _, _, hJ5, by have := HN3.out; have := HNn.out; omega, rfl, by dsimp only; omega, rfl, .inl ⟨by decide, rfl, rfl, rfl, rfl, rfl, rfl, rfl⟩⟩⟩
      clear hJ5 hn5 hf5 hF5 hK hbb hPb hMb hQb hKs hk1 hk2 hb5 h1 hw4 hf4 hC4 hs4 hJ4 hRv
      go_wp2_with fail
      go_roundg (gk - 1)
      case measure => omega
      case rel => exact ⟨0 + 1, by omega, by go_num, by rw [← HM.out]; exact hW⟩

    · obtain ⟨n, s, c, sl, cl, hJ, hn, hid, hnm, htg, hc⟩ := hR.out.st
      rcases hc with ⟨_, hb, hsn, hnum, hgr, hck, hcn, hst⟩ | ⟨hx, _⟩
      rotate_left
      · omega
      have hTk := T.TickSendC P M Q base n s c sl cl wr hJ hb (.inl hsn) (by omega)
      obtain ⟨id, nodes, retry, num, group, ⟨k0, k1, k2, k3, k4, k5, k6⟩, busy, sent, waited⟩ := s
      obtain ⟨stage, lo, hi, fr, tgo, data, ce, en⟩ := c
      dsimp only at hb hsn hnum hgr hck hcn hst hid htg hnm
      simp at hnum hgr hck hcn hst
      subst hb hsn hnum hgr hck hcn hst hid htg
      have HTk := Aside.mk hTk
      have HJ := Aside.mk hJ
      have HNn := Aside.mk hn
      have g1 : wr.cell? ⟨K1, 1, none⟩ = some (.int .i64 8) := by rw [cell_of_row _ _ _ _ _ _ hR.out.t1]; rfl
      have g2 : wr.cell? ⟨K2, 1, none⟩ = some (.int .i64 2) := by rw [cell_of_row _ _ _ _ _ _ hR.out.t2]; rfl
      clear hTk hJ hn hnm
      go_wp2_with fail
      refine HTk.out.mono ?_
      rintro e w3 ⟨B, lv, d3, n3, rfl, hB3, hd3, hJ3, hn3, hf3, hbB⟩
      have b3 : w3.cell? ⟨B, 3, none⟩ = some (.int .i64 2) := by rw [cell_of_row _ _ _ _ _ _ hB3]; rfl
      have b12 : w3.cell? ⟨B, 12, none⟩ = some (.int .i64 8) := by rw [cell_of_row _ _ _ _ _ _ hB3]; rfl
      have b14 : w3.cell? ⟨B, 14, none⟩ = some (.int .i64 2) := by rw [cell_of_row _ _ _ _ _ _ hB3]; rfl
      have HSt := Aside.mk (fun m => T.Stage Q ⟨P, 0, none⟩ _ (w3.drewN m) hJ3.ctl)
      have hPb := HJ.out.hP
      have hMb := HJ.out.hM
      have hQb := HJ.out.hQ
      have hK := hR.out.hK
      have hKs : ∀ k, base ≤ k → k < wr.heap.size → w3.heap[k]? = wr.heap[k]? := fun k h1 h2 => hf3.block k h2 (by simp; omega)
      have hk1 := (hKs K1 hK.1 (Array.getElem?_eq_some_iff.1 hR.out.t1).1).trans hR.out.t1
      have hk2 := (hKs K2 hK.2 (Array.getElem?_eq_some_iff.1 hR.out.t2).1).trans hR.out.t2
      have q1 : w3.cell? ⟨K1, 1, none⟩ = some (.int .i64 8) := by rw [cell_of_row _ _ _ _ _ _ hk1]; rfl
      have HJ3 := Aside.mk hJ3
      have HF3 := Aside.mk hf3
      have HN3 := Aside.mk hn3
      have HK1 := Aside.mk hk1
      have HK2 := Aside.mk hk2
      clear hB3 hd3 hJ3 hn3 hf3 hk1 hk2 hKs hPb hMb hQb hK g1 g2
      go_wp2_with fail
      go_quiet ((go_at_call 12; with_reducible exact Calls.quiet_of_same (HSt.out _)))
      clear HSt b3 b12 b14 q1
      go_wp2_with fail
      obtain ⟨w4, hw4⟩ : ∃ w4, w4 = (w3.drewN nq).alloc (Obj.cells #[Value.string { data := #[120] }] 9) := ⟨_, rfl⟩
      have hf4 : FC [] w3 w4 := by rw [hw4]; exact FC.alloc (FC.of (pw_below_drewN (Below.refl _ _) nq)) _
      have hC4 : Kd.C Kd.string w4 (some ⟨w3.heap.size, 0, none⟩) 1 [⟨#[120]⟩] := by rw [hw4]; exact C_one (w3.drewN nq) _
      have hs4 : w4.heap.size = w3.heap.size + 1 := by rw [hw4]; simp
      have hJ4 := HJ3.out.of_pm (hf4.sub (by simp)) (HJ3.out.ask.of_fc hf4 (by simp) (by simp)) rfl
      have hRv := T.RecvAns P M Q base n3 _ _ _ _ 0 0 (some ⟨w3.heap.size, 0, none⟩) 1 [⟨#[120]⟩] w4 hJ4 rfl (.inr (.inl rfl)) (by dsimp only; omega) rfl hC4 (by simp) (fun ad e => by have h1 := hJ4.hP; have h2 := HJ3.out.hbase; cases e; exact ⟨by show w3.heap.size ≠ P; omega, by show w3.heap.size < w4.heap.size; omega⟩)
      rw [← hw4]
      refine hRv.mono ?_
      rintro e w5 ⟨rfl, n5, s5, c5, sl5, cl5, hn5, hNx, hJ5, hf5⟩
      have hF5 : FC [P, M, Q] wr w5 := ((HF3.out.sub (by simp)).trans (hf4.sub (by simp))).trans hf5
      have hK := hR.out.hK
      have hbb := HJ.out.hbase
      have hPb := HJ.out.hP
      have hMb := HJ.out.hM
      have hQb := HJ.out.hQ
      have hKs : ∀ k, base ≤ k → k < wr.heap.size → w5.heap[k]? = wr.heap[k]? := fun k h1 h2 => hF5.block k h2 (by simp; omega)
      have hk1 := (hKs K1 hK.1 (Array.getElem?_eq_some_iff.1 hR.out.t1).1).trans hR.out.t1
      have hk2 := (hKs K2 hK.2 (Array.getElem?_eq_some_iff.1 hR.out.t2).1).trans hR.out.t2
      have hb5 : Below w.heap.size w w5 := FC.below hR.out.bel hF5 (fun x hx => by have : x = P ∨ x = M ∨ x = Q := (by simpa using hx); have := hR.out.hlow; omega) (Nat.le_refl _)
      rcases hNx with ⟨h1, h2, _⟩ | ⟨h1, h2, ⟨d5, h3⟩, ⟨d6, h4⟩, h5, h6⟩ | ⟨h1, h2, _⟩ | ⟨h1, h2, ⟨d5, h3⟩, ⟨d6, h4⟩, h5, h6⟩ | ⟨h1, h3, h4, h5, h6⟩ | ⟨h1, _⟩
      all_goals first | (exfalso; dsimp only at h1; omega) | (exact absurd rfl h2) | skip
      subst h3 h4
      have hW : Aside (WR w w5 P M Q base K1 K2 (1 + 1)) := ⟨⟨by decide, hb5, hk1, hk2, hK, hR.out.hlow, n5, _, _, _, _, hJ5, by have := HN3.out; have := HNn.out; omega, rfl, by dsimp only; omega, rfl, .inl ⟨by decide, rfl, rfl, rfl, rfl, rfl, rfl, rfl⟩⟩⟩
      clear hJ5 hn5 hf5 hF5 hK hbb hPb hMb hQb hKs hk1 hk2 hb5 h1 hw4 hf4 hC4 hs4 hJ4 hRv
      go_wp2_with fail
      go_roundg (gk - 1)
      case measure => omega
      case rel => exact ⟨1 + 1, by omega, by go_num, by rw [← HM.out]; exact hW⟩

    · obtain ⟨n, s, c, sl, cl, hJ, hn, hid, hnm, htg, hc⟩ := hR.out.st
      rcases hc with ⟨_, hb, hsn, hnum, hgr, hck, hcn, hst⟩ | ⟨hx, _⟩
      rotate_left
      · omega
      have hTk := T.TickSendC P M Q base n s c sl cl wr hJ hb (.inl hsn) (by omega)
      obtain ⟨id, nodes, retry, num, group, ⟨k0, k1, k2, k3, k4, k5, k6⟩, busy, sent, waited⟩ := s
      obtain ⟨stage, lo, hi, fr, tgo, data, ce, en⟩ := c
      dsimp only at hb hsn hnum hgr hck hcn hst hid htg hnm
      simp at hnum hgr hck hcn hst
      subst hb hsn hnum hgr hck hcn hst hid htg
      have HTk := Aside.mk hTk
      have HJ := Aside.mk hJ
      have HNn := Aside.mk hn
      have g1 : wr.cell? ⟨K1, 2, none⟩ = some (.int .i64 10) := by rw [cell_of_row _ _ _ _ _ _ hR.out.t1]; rfl
      have g2 : wr.cell? ⟨K2, 2, none⟩ = some (.int .i64 0) := by rw [cell_of_row _ _ _ _ _ _ hR.out.t2]; rfl
      clear hTk hJ hn hnm
      go_wp2_with fail
      refine HTk.out.mono ?_
      rintro e w3 ⟨B, lv, d3, n3, rfl, hB3, hd3, hJ3, hn3, hf3, hbB⟩
      have b3 : w3.cell? ⟨B, 3, none⟩ = some (.int .i64 0) := by rw [cell_of_row _ _ _ _ _ _ hB3]; rfl
      have b12 : w3.cell? ⟨B, 12, none⟩ = some (.int .i64 10) := by rw [cell_of_row _ _ _ _ _ _ hB3]; rfl
      have b14 : w3.cell? ⟨B, 14, none⟩ = some (.int .i64 3) := by rw [cell_of_row _ _ _ _ _ _ hB3]; rfl
      have HSt := Aside.mk (fun m => T.Stage Q ⟨P, 0, none⟩ _ (w3.drewN m) hJ3.ctl)
      have hPb := HJ.out.hP
      have hMb := HJ.out.hM
      have hQb := HJ.out.hQ
      have hK := hR.out.hK
      have hKs : ∀ k, base ≤ k → k < wr.heap.size → w3.heap[k]? = wr.heap[k]? := fun k h1 h2 => hf3.block k h2 (by simp; omega)
      have hk1 := (hKs K1 hK.1 (Array.getElem?_eq_some_iff.1 hR.out.t1).1).trans hR.out.t1
      have hk2 := (hKs K2 hK.2 (Array.getElem?_eq_some_iff.1 hR.out.t2).1).trans hR.out.t2
      have q1 : w3.cell? ⟨K1, 2, none⟩ = some (.int .i64 10) := by rw [cell_of_row _ _ _ _ _ _ hk1]; rfl
      have HJ3 := Aside.mk hJ3
      have HF3 := Aside.mk hf3
      have HN3 := Aside.mk hn3
      have HK1 := Aside.mk hk1
      have HK2 := Aside.mk hk2
      clear hB3 hd3 hJ3 hn3 hf3 hk1 hk2 hKs hPb hMb hQb hK g1 g2
      go_wp2_with fail
      go_quiet ((go_at_call 12; with_reducible exact Calls.quiet_of_same (HSt.out _)))
      clear HSt b3 b12 b14 q1
      go_wp2_with fail
      obtain ⟨w4, hw4⟩ : ∃ w4, w4 = (w3.drewN nq).alloc (Obj.cells #[Value.string { data := #[120] }] 9) := ⟨_, rfl⟩
      have hf4 : FC [] w3 w4 := by rw [hw4]; exact FC.alloc (FC.of (pw_below_drewN (Below.refl _ _) nq)) _
      have hC4 : Kd.C Kd.string w4 (some ⟨w3.heap.size, 0, none⟩) 1 [⟨#[120]⟩] := by rw [hw4]; exact C_one (w3.drewN nq) _
      have hs4 : w4.heap.size = w3.heap.size + 1 := by rw [hw4]; simp
      have hJ4 := HJ3.out.of_pm (hf4.sub (by simp)) (HJ3.out.ask.of_fc hf4 (by simp) (by simp)) rfl
      have hRv := T.RecvAns P M Q base n3 _ _ _ _ 0 0 (some ⟨w3.heap.size, 0, none⟩) 1 [⟨#[120]⟩] w4 hJ4 rfl (.inr (.inr (.inl rfl))) (by dsimp only; omega) rfl hC4 (by simp) (fun ad e => by have h1 := hJ4.hP; have h2 := HJ3.out.hbase; cases e; exact ⟨by show w3.heap.size ≠ P; omega, by show w3.heap.size < w4.heap.size; omega⟩)
      rw [← hw4]
      refine hRv.mono ?_
      rintro e w5 ⟨rfl, n5, s5, c5, sl5, cl5, hn5, hNx, hJ5, hf5⟩
      have hF5 : FC [P, M, Q] wr w5 := ((HF3.out.sub (by simp)).trans (hf4.sub (by simp))).trans hf5
      have hK := hR.out.hK
      have hbb := HJ.out.hbase
      have hPb := HJ.out.hP
      have hMb := HJ.out.hM
      have hQb := HJ.out.hQ
      have hKs : ∀ k, base ≤ k → k < wr.heap.size → w5.heap[k]? = wr.heap[k]? := fun k h1 h2 => hF5.block k h2 (by simp; omega)
      have hk1 := (hKs K1 hK.1 (Array.getElem?_eq_some_iff.1 hR.out.t1).1).trans hR.out.t1
      have hk2 := (hKs K2 hK.2 (Array.getElem?_eq_some_iff.1 hR.out.t2).1).trans hR.out.t2
      have hb5 : Below w.heap.size w w5 := FC.below hR.out.bel hF5 (fun x hx => by have : x = P ∨ x = M ∨ x = Q := (by simpa using hx); have := hR.out.hlow; omega) (Nat.le_refl _)
      rcases hNx with ⟨h1, h2, _⟩ | ⟨h1, h2, ⟨d5, h3⟩, ⟨d6, h4⟩, h5, h6⟩ | ⟨h1, h2, _⟩ | ⟨h1, h2, ⟨d5, h3⟩, ⟨d6, h4⟩, h5, h6⟩ | ⟨h1, h3, h4, h5, h6⟩ | ⟨h1, _⟩
      all_goals first | (exfalso; dsimp only at h1; omega) | (exact absurd rfl h2) | skip
      subst h3 h4
      have hW : Aside (WR w w5 P M Q base K1 K2 (2 + 1)) := ⟨⟨by decide, hb5, hk1, hk2, hK, hR.out.hlow, n5, _, _, _, _, hJ5, by have := HN3.out; have := HNn.out; omega, rfl, by dsimp only; omega, rfl, .inr ⟨rfl, rfl, rfl, rfl⟩⟩⟩
      clear hJ5 hn5 hf5 hF5 hK hbb hPb hMb hQb hKs hk1 hk2 hb5 h1 hw4 hf4 hC4 hs4 hJ4 hRv
      go_wp2_with fail
      go_roundg (gk - 1)
      case measure => omega
      case rel => exact ⟨2 + 1, by omega, by go_num, by rw [← HM.out]; exact hW⟩

    · obtain ⟨n, s, c, sl, cl, hJ, hn, hid, hnm, htg, hc⟩ := hR.out.st
      rcases hc with ⟨hx, _⟩ | ⟨_, h1, h2, h3⟩
      · omega
      obtain ⟨stage, lo, hi, fr, tgo, data, ce, en⟩ := c
      dsimp only at h1 h2 h3
      subst h1 h2 h3
      have HRes := Aside.mk (T.Result Q ⟨P, 0, none⟩ _ wr hJ.ctl)
      have HSt := Aside.mk (T.Stage Q ⟨P, 0, none⟩ _ wr hJ.ctl)
      clear hJ hn hnm hid htg
      go_wp2_with (first | (go_at_call 7; refine HRes.out.mono ?_; rintro e w' ⟨rfl, hw⟩; subst w') | (go_at_call 12; refine HSt.out.mono ?_; rintro e w' ⟨rfl, hw⟩; subst w'))
      go_ret
      exact ⟨rfl, hR.out.bel⟩

end Go.Proofs.Ytmepeolejlpehaa

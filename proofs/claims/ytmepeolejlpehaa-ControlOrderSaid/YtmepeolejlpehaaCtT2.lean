/- The control's Tick, in its three ways; its Start where it refuses. Conditions: where it lies. -/
import Derived.Test.YtmepeolejlpehaaCtV
import Derived.Test.YtmepeolejlpehaaCtD
namespace Go.Proofs.Ytmepeolejlpehaa
open Go.RowKit Go.Maps Go.Proofs.YtmepeolejlpehaaW.PrintWords Go.Proofs.YtmepeolejlpehaaW.PrintLast Go.Proofs.YtmepeolejlpehaaW.PrintMore
theorem CJ.of_pm {w w' : World} {P M Q base n n' : Nat} {s s' : AS} {c : CS} {sl cl : List ByteArray} (h : CJ w P M Q base n s c sl cl) (f : FC [P, M] w w') (ha : AK w' P M n' s') (hc : s'.cmd = s.cmd) : CJ w' P M Q base n' s' c sl cl := by
  obtain ⟨hPQ, hMQ⟩ := h.ne
  have hlow : ∀ k ∈ [P, M], k < base := fun k hk => by
    have h1 := h.hP
    have h2 := h.hM
    have : k = P ∨ k = M := by simpa using hk
    omega
  refine ⟨ha, (f.block Q (Array.getElem?_eq_some_iff.1 h.ctl).1 (by simp [hPQ.symm, hMQ.symm])).trans h.ctl, by rw [hc]; exact R_fc h.srow f hlow, R_fc h.crow f hlow, h.hP, h.hM, h.hQ, Nat.le_trans h.hbase f.size, h.hlen, h.hfrom, h.hto⟩
theorem T.TickSendC (P M Q base n : Nat) (s : AS) (c : CS) (sl cl : List ByteArray) (w : World) (h : CJ w P M Q base n s c sl cl) (hb : s.busy = true) (hs : s.sent = false ∨ s.retry ≤ s.waited) (hn : n ≤ 100000) :
    Calls Try.prog 9 #[.pointer (some ⟨Q, 0, none⟩)] w fun e w' => ∃ B lv d n', e = .returned (.slice (some ⟨B, 0, none⟩) 1 1) ∧ w'.heap[B]? = some (.cells (s.pack lv d) 57 (0, 0)) ∧ Kd.R Kd.string 9 w' base (fun _ => True) d sl ∧ CJ w' P M Q base n' { s with sent := true, waited := 0 } c sl cl ∧ n' ≤ n + 1 ∧ FC [P, M] w w' ∧ base ≤ B := by
  refine T.TickC Q P c w h.ctl _ ?_ ((T.TickSend P M base n s sl w h.ask hb hs h.srow h.hlen.1 h.hP h.hM h.hbase hn).mono ?_)
  · rintro e w' ⟨B, lv, d, n', rfl, _⟩; exact ⟨_, rfl⟩
  · rintro e w' ⟨B, lv, d, n', rfl, h1, h2, h3, h4, h5, h6⟩
    exact ⟨B, lv, d, n', rfl, h1, h2, h.of_pm h5 h3 rfl, h4, h5, h6⟩
theorem T.TickWaitC (P M Q base n : Nat) (s : AS) (c : CS) (sl cl : List ByteArray) (w : World) (h : CJ w P M Q base n s c sl cl) (hb : s.busy = true) (hs : s.sent = true) (hw : s.waited < s.retry) :
    Calls Try.prog 9 #[.pointer (some ⟨Q, 0, none⟩)] w fun e w' => e = .returned (.slice none 0 0) ∧ CJ w' P M Q base n { s with waited := s.waited + 1 } c sl cl ∧ FC [P, M] w w' := by
  refine T.TickC Q P c w h.ctl _ ?_ ((T.TickWait P M n s w h.ask hb hs hw).mono ?_)
  · rintro e w' ⟨rfl, _⟩; exact ⟨_, rfl⟩
  · rintro e w' ⟨rfl, h1, h2⟩
    exact ⟨rfl, h.of_pm (h2.sub (by simp)) h1 rfl, h2.sub (by simp)⟩
theorem T.TickIdleC (P M Q base n : Nat) (s : AS) (c : CS) (sl cl : List ByteArray) (w : World) (h : CJ w P M Q base n s c sl cl) (hb : s.busy = false) :
    Calls Try.prog 9 #[.pointer (some ⟨Q, 0, none⟩)] w fun e w' => e = .returned (.slice none 0 0) ∧ w' = w := by
  refine T.TickC Q P c w h.ctl _ ?_ (T.TickIdle P M n s w h.ask hb)
  rintro e w' ⟨rfl, _⟩; exact ⟨_, rfl⟩
set_option maxHeartbeats 4000000 in
set_option maxRecDepth 100000 in
/-- Start where it refuses. -/
theorem T.StartBad (P M Q base n : Nat) (s : AS) (c : CS) (sl cl : List ByteArray) (lo hi fr tg : Int) (w : World) (h : CJ w P M Q base n s c sl cl)
    (hbad : (c.stage == 0) = false ∨ (c.stage = 0 ∧ (mayR lo hi && decide (1 ≤ fr ∧ fr ≤ 6) && decide (1 ≤ tg ∧ tg ≤ 6) && !(fr == tg)) = false)) :
    Calls Try.prog 8 #[.pointer (some ⟨Q, 0, none⟩), .agg #[.int .i64 lo, .int .i64 hi], .int .i64 fr, .int .i64 tg] w fun e w' => (∃ k, e = .returned (.int .i64 k) ∧ (k == 0) = false) ∧ CJ w' P M Q base n s c sl cl ∧ FC [] w w' := by
  obtain ⟨hPQ, hMQ⟩ := h.ne
  have hbx : Below w.heap.size w (w.alloc (.cells #[.int .i64 lo, .int .i64 hi] 23)) := (Below.refl _ _).alloc (Nat.le_refl _) _
  have hQ1 : CP (w.alloc (.cells #[.int .i64 lo, .int .i64 hi] 23)) Q (some ⟨P, 0, none⟩) c := (hbx.block Q (Array.getElem?_eq_some_iff.1 h.ctl).1).trans h.ctl
  have hN := Aside.mk (T.nobodyF Q _ _ _ hQ1)
  have q1 := hQ1.cell 1
  simp only [CS.cells, List.getElem?_toArray, List.getElem?_cons_succ, List.getElem?_cons_zero] at q1
  have fin : ∀ w', Below w.heap.size w w' → CJ w' P M Q base n s c sl cl ∧ FC [] w w' := fun w' hb' => by
    have hf : FC [] w w' := FC.of hb'
    have hf2 : FC [P, M] w w' := hf.sub (by simp)
    exact ⟨h.of_pm hf2 (h.ask.of_fc hf (by simp) (by simp)) rfl, hf⟩
  have FIN := Aside.mk fin
  have HBX := Aside.mk hbx
  clear h hbx hQ1 fin
  rcases hbad with hbad | ⟨hs0, hbad⟩
  · go_enter Try.func8, Try.ntmps8
    go_wp2_with (go_at_call 15; refine hN.out.mono ?_; rintro e w' ⟨rfl, hw⟩; subst w')
    go_ret
    exact ⟨⟨17, rfl, rfl⟩, FIN.out _ HBX.out⟩
  · rw [hs0] at q1
    clear hs0
    cases hm : mayR lo hi with
    | false =>
      have hMy := Aside.mk (T.May lo hi)
      rw [show mayR lo hi = false from hm] at hMy
      have hI1 := Aside.mk (T.isC fr)
      have hI2 := Aside.mk (T.isC tg)
      go_enter Try.func8, Try.ntmps8
      go_wp2_with (first | (go_at_call 15; refine hN.out.mono ?_; rintro e w' ⟨rfl, hw⟩; subst w') | (go_at_call 16; refine (hMy.out _).mono ?_; rintro e w2 ⟨rfl, hb2⟩; have HB2 := Aside.mk hb2; clear hb2) | (go_at_call 17; first | (refine (hI1.out _).mono ?_; rintro e w' ⟨rfl, hw⟩; subst w') | (refine (hI2.out _).mono ?_; rintro e w' ⟨rfl, hw⟩; subst w')))
      go_ret
      have hB := HB2.out
      exact ⟨⟨2, rfl, rfl⟩, FIN.out _ (HBX.out.trans (hB.mono HBX.out.size))⟩

    | true =>
      by_cases h1 : 1 ≤ fr ∧ fr ≤ 6
      · by_cases h2 : 1 ≤ tg ∧ tg ≤ 6
        · by_cases h3 : fr = tg
          · subst h3
            have hMy := Aside.mk (T.May lo hi)
            rw [show mayR lo hi = true from hm] at hMy
            have hI1 := Aside.mk (T.isC fr)
            rw [decide_eq_true h1] at hI1
            have hI2 := Aside.mk (T.isC fr)
            rw [decide_eq_true h1] at hI2
            clear hbad h1 h2 hm
            go_enter Try.func8, Try.ntmps8
            go_wp2_with (first | (go_at_call 15; refine hN.out.mono ?_; rintro e w' ⟨rfl, hw⟩; subst w') | (go_at_call 16; refine (hMy.out _).mono ?_; rintro e w2 ⟨rfl, hb2⟩; have HB2 := Aside.mk hb2; clear hb2) | (go_at_call 17; first | (refine (hI1.out _).mono ?_; rintro e w' ⟨rfl, hw⟩; subst w') | (refine (hI2.out _).mono ?_; rintro e w' ⟨rfl, hw⟩; subst w')))
            go_ret
            have hB := HB2.out
            exact ⟨⟨2, rfl, rfl⟩, FIN.out _ (HBX.out.trans (hB.mono HBX.out.size))⟩

          · exfalso
            simp [hm, h1, h2, h3] at hbad
        · have hMy := Aside.mk (T.May lo hi)
          rw [show mayR lo hi = true from hm] at hMy
          have hI1 := Aside.mk (T.isC fr)
          rw [decide_eq_true h1] at hI1
          have hI2 := Aside.mk (T.isC tg)
          rw [decide_eq_false h2] at hI2
          clear hbad h1 h2 hm
          go_enter Try.func8, Try.ntmps8
          go_wp2_with (first | (go_at_call 15; refine hN.out.mono ?_; rintro e w' ⟨rfl, hw⟩; subst w') | (go_at_call 16; refine (hMy.out _).mono ?_; rintro e w2 ⟨rfl, hb2⟩; have HB2 := Aside.mk hb2; clear hb2) | (go_at_call 17; first | (refine (hI1.out _).mono ?_; rintro e w' ⟨rfl, hw⟩; subst w') | (refine (hI2.out _).mono ?_; rintro e w' ⟨rfl, hw⟩; subst w')))
          go_ret
          have hB := HB2.out
          exact ⟨⟨2, rfl, rfl⟩, FIN.out _ (HBX.out.trans (hB.mono HBX.out.size))⟩

      · have hMy := Aside.mk (T.May lo hi)
        rw [show mayR lo hi = true from hm] at hMy
        have hI1 := Aside.mk (T.isC fr)
        rw [decide_eq_false h1] at hI1
        have hI2 := Aside.mk (T.isC tg)
        clear hbad h1 hm
        go_enter Try.func8, Try.ntmps8
        go_wp2_with (first | (go_at_call 15; refine hN.out.mono ?_; rintro e w' ⟨rfl, hw⟩; subst w') | (go_at_call 16; refine (hMy.out _).mono ?_; rintro e w2 ⟨rfl, hb2⟩; have HB2 := Aside.mk hb2; clear hb2) | (go_at_call 17; first | (refine (hI1.out _).mono ?_; rintro e w' ⟨rfl, hw⟩; subst w') | (refine (hI2.out _).mono ?_; rintro e w' ⟨rfl, hw⟩; subst w')))
        go_ret
        have hB := HB2.out
        exact ⟨⟨2, rfl, rfl⟩, FIN.out _ (HBX.out.trans (hB.mono HBX.out.size))⟩

end Go.Proofs.Ytmepeolejlpehaa

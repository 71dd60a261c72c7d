/- The statement NetPlays: the call returns true and turns nothing that was there. Conditions: where the acts lie. -/
import Derived.Test.YtmlnjelhiemlpaaNetAc
import Derived.WalkKit
import Derived.Deep.RegionWith
namespace Go.Proofs.Ytmlnjelhiemlpaa
open Go.RowKit Go.Proofs.YtmlnjelhiemlpaaW.PrintWords Go.Proofs.YtmlnjelhiemlpaaW.PrintLast Go.Proofs.YtmlnjelhiemlpaaW.PrintMore
/-- Both bags between two acts. -/
structure RB (w : World) (H1 H2 B0 : Nat) (v1 v2 : Value) (L : List Int) (wr : World) : Prop where
  below : Below w.heap.size w wr
  bag : BagI wr H1 B0 v1 L
  ref : BagR wr H2 B0 v2 L
  h1 : w.heap.size ≤ H1 ∧ H1 < B0
  h2 : w.heap.size ≤ H2 ∧ H2 < B0
  ne : H1 ≠ H2
  apart : ∀ k, v1.ownBlock = some k → v2.ownBlock ≠ some k
theorem RB.act {w wr : World} {H1 H2 B0 : Nat} {v1 v2 : Value} {L : List Int} (h : RB w H1 H2 B0 v1 v2 L wr) (cs : Array Value) : RC w H1 H2 B0 wr.heap.size cs v1 v2 L L (wr.alloc (.cells cs 48)) := by
  have hb : Below wr.heap.size wr (wr.alloc (.cells cs 48)) := (Below.refl _ _).alloc (Nat.le_refl _) _
  refine ⟨h.below.trans (hb.mono h.below.size), h.bag.below hb, h.ref.below hb, heap_alloc_new wr _, h.h1, h.h2, h.bag.2.2, h.ne, h.apart, fun e => ?_, fun e => ?_⟩
  · have := (RowI.lt h.bag.2.1 _ e).2; omega
  · have := (RowI.lt h.ref.2.1 _ e).2; omega
theorem RC.base {w wr : World} {H1 H2 B0 B7 : Nat} {cs : Array Value} {v1 v2 : Value} {L : List Int} (h : RC w H1 H2 B0 B7 cs v1 v2 L L wr) : RB w H1 H2 B0 v1 v2 L wr := ⟨h.below, h.bag, h.ref, h.h1, h.h2, h.ne, h.apart⟩
theorem RC.c0 {w wr : World} {H1 H2 B0 B7 : Nat} {kd at' nn : Int} {v1 v2 : Value} {L1 L2 : List Int} (h : RC w H1 H2 B0 B7 #[.int .i64 kd, .int .i64 at', .int .i64 nn] v1 v2 L1 L2 wr) : wr.cell? ⟨B7, 0, none⟩ = some (.int .i64 kd) ∧ wr.cell? ⟨B7, 1, none⟩ = some (.int .i64 at') ∧ wr.cell? ⟨B7, 2, none⟩ = some (.int .i64 nn) := by
  refine ⟨?_, ?_, ?_⟩ <;> (rw [cell_of_row _ _ _ _ _ _ h.act]; rfl)
theorem kd5 {P : Prop} (kd : Int) (h0 : kd = 0 → P) (h1 : kd = 1 → P) (h2 : kd = 2 → P) (h3 : kd = 3 → P) (h4 : (kd == 0) = false → (kd == 1) = false → (kd == 2) = false → (kd == 3) = false → P) : P := by
  by_cases e0 : kd = 0
  · exact h0 e0
  by_cases e1 : kd = 1
  · exact h1 e1
  by_cases e2 : kd = 2
  · exact h2 e2
  by_cases e3 : kd = 3
  · exact h3 e3
  exact h4 (by simpa using e0) (by simpa using e1) (by simpa using e2) (by simpa using e3)
/-- Between two rounds. -/
def plR (w : World) (n : Nat) (kq : Nat) (v6 : Value) (wr : World) : Prop := ∃ (i : Nat) (v1 v2 : Value) (L : List Int), (i ≤ n ∧ n ≤ i + kq) ∧ v6 = .int .i64 (i : Int) ∧ Aside (L.length ≤ i) ∧ Aside (RB w w.heap.size (w.heap.size + 1) (w.heap.size + 2) v1 v2 L wr)
set_option maxHeartbeats 16000000 in
set_option maxRecDepth 100000 in
theorem walk_plays (w : World) (A : Option Addr) (c : Nat) (l : List (Int × Int × Int)) (hC : Kd.C actK w A l.length l) (hc : l.length ≤ c) (ok : l.length ≤ maxLen ∧ ∀ x ∈ l, actOk x) :
    Calls Try.prog 7 #[.slice A l.length c] w fun e w' => e = .returned (.bool true) ∧ Below w.heap.size w w' := by
  have HC := Aside.mk hC
  have hlm : l.length ≤ 9223372036854775807 := ok.1
  obtain ⟨N, hN⟩ : ∃ N, N = min l.length 100 := ⟨_, rfl⟩
  have HN := Aside.mk hN
  clear hC hN ok
  go_enter Try.func7, Try.ntmps7
  go_wp2_with fail
  have hW0 := Aside.mk (show RB w w.heap.size (w.heap.size + 1) (w.heap.size + 2) (.slice none 0 0) (.slice none 0 0) [] ((w.alloc (.cells #[.slice none 0 0] 27)).alloc (.cells #[.slice none 0 0] 46)) from by
    have hs : ((w.alloc (.cells #[.slice none 0 0] 27)).alloc (.cells #[.slice none 0 0] 46)).heap.size = w.heap.size + 2 := by simp
    refine ⟨((Below.refl _ _).alloc (Nat.le_refl _) _).alloc (by simp) _, ⟨heap_alloc2_old w _ _, RowI.nil _ _, by omega⟩, ⟨?_, RowI.nil _ _, by omega⟩, by omega, by omega, by omega, by simp [Value.ownBlock]⟩
    have := heap_alloc2_new w (.cells #[.slice none 0 0] 27) (.cells #[.slice none 0 0] 46)
    simpa using this)
  generalize ((w.alloc (.cells #[.slice none 0 0] 27)).alloc (.cells #[.slice none 0 0] 46)) = w0 at *
  go_loopg [6, 7, 8, 9, 10, 11, 12, 13, 14, 15, 16, 17, 18] N (fun kq v6 _ _ _ _ _ _ _ _ _ _ _ _ wr => plR w N kq v6 wr)
  case atStart => exact ⟨0, _, _, [], by omega, rfl, ⟨Nat.le_refl _⟩, hW0⟩
  case round =>
    clear hW0
    obtain ⟨i, v1, v2, L, hi, rfl, hLi, hR⟩ := hrel
    have HI := Aside.mk hi
    by_cases hlt : i < N
    · have hil : i < l.length := by have := HN.out; omega
      have hi100 : i < 100 := by have := HN.out; omega
      obtain ⟨x, hx⟩ : ∃ x, l[i]? = some x := ⟨_, List.getElem?_eq_getElem hil⟩
      obtain ⟨a, rfl, hc0, hc1, hc2⟩ := act_at HC.out i x hx
      have g0 := (hR.out.below.cell (block_lt_of_cell hc0)).trans hc0
      have g1 := (hR.out.below.cell (block_lt_of_cell hc1)).trans hc1
      have g2 := (hR.out.below.cell (block_lt_of_cell hc2)).trans hc2
      obtain ⟨kd, at', nn⟩ := x
      dsimp only at g0 g1 g2
      have g1' : wr.cell? ⟨(a.add (i * 3)).block, (a.add (i * 3)).off + 1, none⟩ = some (.int .i64 at') := by have h := g1; rw [← Addr.add_add] at h; exact h
      have g2' : wr.cell? ⟨(a.add (i * 3)).block, (a.add (i * 3)).off + 2, none⟩ = some (.int .i64 nn) := by have h := g2; rw [← Addr.add_add] at h; exact h
      have hlt' := Aside.mk hlt
      have R0 := Aside.mk (hR.out.act #[.int .i64 kd, .int .i64 at', .int .i64 nn])
      obtain ⟨q0, q1, q2⟩ := R0.out.c0
      have hLb := Aside.mk (show L.length ≤ 200 from by have := hLi.out; omega)
      clear hc0 hc1 hc2 hx hi hlt g1 g2 hR
      have HI100 := Aside.mk hi100
      refine kd5 kd ?k0 ?k1 ?k2 ?k3 ?k4
      case' k4 =>
        intro k0 k1 k2 k3
        go_wp2_with fail
        have HZ := R0
        obtain ⟨wz, hwz⟩ : ∃ wz, wz = wr.alloc (.cells #[.int .i64 kd, .int .i64 at', .int .i64 nn] 48) := ⟨_, rfl⟩
        rw [← hwz] at HZ ⊢
        obtain ⟨v1z, hv1z⟩ : ∃ v1z, v1z = v1 := ⟨_, rfl⟩
        obtain ⟨v2z, hv2z⟩ : ∃ v2z, v2z = v2 := ⟨_, rfl⟩
        obtain ⟨Lz, hLz⟩ : ∃ Lz, Lz = L := ⟨_, rfl⟩
        rw [← hv1z, ← hv2z, ← hLz] at HZ
        have HLz := Aside.mk (show Lz.length ≤ i + 1 from by rw [hLz]; have := hLi.out; omega)
        clear hwz hv1z hv2z hLz q0 q1 q2 g0 g1' g2' k0 k1 k2 k3 R0
      case' k0 =>
        rintro rfl
        have hP := R0.out.put nn (by have := hLb.out; omega)
        simp only [World.size_alloc] at hP
        have hP := Aside.mk hP
        go_wp2_with (first | (go_at_call 11; (with_reducible refine hP.out.mono ?_); rintro e w1 ⟨rfl, v1z, h1⟩; obtain ⟨p0, p1, p2⟩ := h1.c0; have R1a := Aside.mk (h1.to ((Below.refl w1.heap.size w1).alloc (Nat.le_refl _) (.cells #[.int .i64 nn] 3))); obtain ⟨s0, s1, s2⟩ := R1a.out.c0; clear h1 q0 q1 q2 g0 g1' g2' hP) | (go_at_call 11; (with_reducible refine (T.PutNilI _ _).mono ?_); rintro e w' ⟨rfl, hw⟩; subst w') | (go_at_call 20; refine (R1a.out.refPut nn (by have := hLb.out; omega)).mono ?_; rintro e wz ⟨rfl, v2z, h2⟩; obtain ⟨z0, z1, z2⟩ := h2.c0; have HZ := Aside.mk h2; clear h2 p0 p1 p2 s0 s1 s2))
        obtain ⟨Lz, hLz⟩ : ∃ Lz, Lz = L ++ [nn] := ⟨_, rfl⟩
        rw [← hLz] at HZ
        have HLz := Aside.mk (show Lz.length ≤ i + 1 from by rw [hLz]; have := hLi.out; simp; omega)
        clear hLz
      case' k1 =>
        rintro rfl
        obtain ⟨gx, gb, hg⟩ : ∃ gx gb, (gx, gb) = getVI L at' := ⟨_, _, rfl⟩
        have hP := R0.out.take at' (by have := hLb.out; omega)
        rw [← hg] at hP
        have hP := Aside.mk hP
        go_wp2_with (first | (go_at_call 14; (with_reducible refine hP.out.mono ?_); rintro e w1 ⟨rfl, v1z, h1⟩; obtain ⟨p0, p1, p2⟩ := h1.c0; have hQ := h1.refTake at' (by have := hLb.out; omega); rw [← hg] at hQ; have hQ := Aside.mk hQ; clear h1 q0 q1 q2 g0 g1' g2' hP hg) | (go_at_call 21; refine hQ.out.mono ?_; rintro e wz ⟨rfl, v2z, h2⟩; obtain ⟨z0, z1, z2⟩ := h2.c0; have HZ := Aside.mk h2; clear h2 p0 p1 p2 hQ))
        obtain ⟨Lz, hLz⟩ : ∃ Lz, Lz = takeL L at' := ⟨_, rfl⟩
        rw [← hLz] at HZ
        have HLz := Aside.mk (show Lz.length ≤ i + 1 from by rw [hLz]; have := hLi.out; have := takeL_len L at'; omega)
        clear hLz
      case' k2 =>
        rintro rfl
        obtain ⟨gb, hg⟩ : ∃ gb, gb = (getVI L at').2 := ⟨_, rfl⟩
        have hP := (R0.out.to (Below.drew (Below.refl _ _))).double at' (by have := hLb.out; omega)
        rw [← hg] at hP
        have hP := Aside.mk hP
        have hnil := Aside.mk (show getVI [] at' = (0, false) from by unfold getVI; split <;> simp)
        have hDN := Aside.mk (fun W => T.DoubleOutI none (w.heap.size + 2) (.slice none 0 0) [] at' W (by decide) (.inl ⟨rfl, rfl⟩) hnil.out)
        have HG := Aside.mk hg
        clear hg hnil
        go_wp2_with fail
        go_region_with (first | (go_at_call 15; (with_reducible refine hP.out.mono ?_); rintro e w1 ⟨rfl, v1z, h1⟩; obtain ⟨p0, p1, p2⟩ := h1.c0; have hQ := h1.refDouble at' (by have := hLb.out; omega); rw [← HG.out] at hQ; have hQ := Aside.mk hQ; clear h1 q0 q1 q2 g0 g1' g2') | (go_at_call 22; (with_reducible refine hQ.out.mono ?_); rintro e w2 ⟨rfl, v2z, h2⟩; obtain ⟨z0, z1, z2⟩ := h2.c0; have R2 := Aside.mk h2; clear h2 p0 p1 p2) | (go_at_call 15; (with_reducible refine (hDN.out _).mono ?_); rintro e wz ⟨rfl, hbz⟩; have HZ := Aside.mk (R2.out.to hbz); obtain ⟨y0, y1, y2⟩ := HZ.out.c0; clear hbz z0 z1 z2))
        all_goals clear hP
        all_goals go_wp2_with fail
        all_goals
          obtain ⟨Lz, hLz⟩ : ∃ Lz, Lz = dblL L at' := ⟨_, rfl⟩
          rw [← hLz] at HZ
          have HLz := Aside.mk (show Lz.length ≤ i + 1 from by rw [hLz]; have := hLi.out; have := dblL_len L at'; omega)
          clear hLz
      case' k3 =>
        rintro rfl
        have hA := Aside.mk (fun W => T.At nn 3 W (by omega))
        obtain ⟨q, hq⟩ : ∃ q, q = atF nn 3 := ⟨_, rfl⟩
        rw [← hq] at hA
        clear hq
        have hkl := Aside.mk (show (keptF q L).length ≤ L.length from keptF_le _ _)
        go_wp2_with (go_at_call 8; refine (hA.out _).mono ?_; rintro e w' ⟨rfl, hw⟩; subst w')
        have hsz : (wr.alloc (.cells #[.int .i64 3, .int .i64 at', .int .i64 nn] 48)).heap.size = wr.heap.size + 1 := by simp
        have hbb : Below (wr.alloc (.cells #[.int .i64 3, .int .i64 at', .int .i64 nn] 48)).heap.size (wr.alloc (.cells #[.int .i64 3, .int .i64 at', .int .i64 nn] 48)) ((wr.alloc (.cells #[.int .i64 3, .int .i64 at', .int .i64 nn] 48)).alloc (.cells #[.int .i64 q] 3)) := (Below.refl _ _).alloc (Nat.le_refl _) _
        have hcB : ((wr.alloc (.cells #[.int .i64 3, .int .i64 at', .int .i64 nn] 48)).alloc (.cells #[.int .i64 q] 3)).cell? ⟨wr.heap.size + 1, 0, none⟩ = some (.int .i64 q) := by
          have := (cell_new_l (wr.alloc (.cells #[.int .i64 3, .int .i64 at', .int .i64 nn] 48)) (.int .i64 q) 3).1
          rwa [hsz] at this
        have hlt1 := Aside.mk R0.out.bag.lt
        have hP := Aside.mk (((R0.out.to hbb).to (Below.drew (Below.refl _ _))).drop (wr.heap.size + 1) q (by have := hLb.out; omega) hcB (fun e => by have := (RowI.lt R0.out.bag.2.1 _ e).2; omega) (by have := R0.out.bag.lt; omega))
        obtain ⟨p0, p1, p2⟩ := (R0.out.to hbb).c0
        clear hbb hA hsz
        go_region_with (first | (go_at_call 23; (with_reducible refine hP.out.mono ?_); rintro e w1 ⟨rfl, hcB1, v1z, h1⟩; have hQ := Aside.mk (h1.refDrop q (by have := hLb.out; omega)); clear h1 hcB q0 q1 q2 g0 g1' g2' p0 p1 p2) | (go_at_call 25; (with_reducible refine hQ.out.mono ?_); rintro e wz ⟨rfl, v2z, h2⟩; obtain ⟨z0, z1, z2⟩ := h2.c0; have HZ := Aside.mk h2; clear h2))
        all_goals clear hP
        all_goals go_wp2_with fail
        all_goals
          obtain ⟨Lz, hLz⟩ : ∃ Lz, Lz = keptF q L := ⟨_, rfl⟩
          rw [← hLz] at HZ
          have HLz := Aside.mk (show Lz.length ≤ i + 1 from by rw [hLz]; have := hLi.out; have := hkl.out; omega)
          clear hLz
      all_goals
        refine (T.GetI (some ⟨w.heap.size, 0, none⟩) (w.heap.size + 2) v1z Lz at' wz (by have := HLz.out; have := HI100.out; omega) (.inr ⟨_, rfl, HZ.out.bag⟩)).mono ?_
        rintro e w5 ⟨rfl, hb5⟩
        have R5 := Aside.mk (HZ.out.to hb5)
        obtain ⟨_, p1, _⟩ := R5.out.c0
        clear hb5 HZ
        go_wp2_with fail
        refine (T.refGetV (w.heap.size + 1) (w.heap.size + 2) v2z Lz at' w5 R5.out.ref (by have := HLz.out; have := HI100.out; omega)).mono ?_
        rintro e w' ⟨rfl, hw⟩; subst w'
        go_wp2_with fail
        refine (T.all w.heap.size (w.heap.size + 2) v1z Lz w5 (by have := HLz.out; have := HI100.out; omega) R5.out.bag).mono ?_
        rintro e w6 ⟨r, rfl, hr, hb6⟩
        have R6 := Aside.mk (R5.out.to hb6)
        obtain ⟨Ar, nr, cr, rfl, hnr⟩ := hr.shape
        subst hnr
        obtain ⟨A6, n6, c6, rfl, hn6⟩ := R6.out.ref.2.1.shape
        subst hn6
        have hcr := one_cell R6.out.ref.1
        have HAQ := Aside.mk (show ∀ n, Calls Try.prog 17 #[.slice Ar Lz.length cr, .slice A6 Lz.length c6] (w6.drewN n) fun e w' => e = .returned (.bool true) ∧ ∃ m, w' = (w6.drewN n).drewN m from fun n =>
          T.alikeQ Ar A6 cr c6 Lz (w6.drewN n) hr.src.2.2 R6.out.ref.2.1.src.2.2 (by have := HLz.out; have := HI100.out; omega))
        have HLN := Aside.mk (show ∀ n, Calls Try.prog 13 #[.pointer (some ⟨w.heap.size, 0, none⟩)] (w6.drewN n) fun e w' => e = .returned (.int .i64 Lz.length) ∧ w' = w6.drewN n from fun n =>
          T.LenI w.heap.size (w.heap.size + 2) v1z Lz (w6.drewN n) (R6.out.bag.below (pw_below_drewN (Below.refl _ _) n)))
        generalize (getVI Lz at').1 = gx at *
        generalize (getVI Lz at').2 = gb at *
        clear hr hb6 p1 R5
        go_wp2_with fail
        go_quiet ((first | (go_at_call 17; with_reducible exact Calls.quiet_of (HAQ.out _)) | (go_at_call 13; with_reducible exact Calls.quiet_of_same (HLN.out _))))
        have hB6 := Aside.mk (R6.out.to (pw_below_drewN (Below.refl _ _) nq)).base
        clear HAQ HLN hcr R6
        generalize w6.drewN nq = wq at *
        go_wp2
        go_roundg (gk - 1)
        case measure => have := HI.out; have := hlt'.out; omega
        case rel => exact ⟨i + 1, _, _, Lz, by have := HI.out; have := hlt'.out; omega, by go_num, HLz, hB6⟩
    · have hNe : i = N := by omega
      have hcase : (i < l.length ∧ 100 ≤ i) ∨ l.length ≤ i := by have := HN.out; omega
      have hTk := Aside.mk (fun W => T.TakeOutI none (w.heap.size + 2) (.slice none 0 0) [] 0 W (by decide) (.inl ⟨rfl, rfl⟩) rfl)
      have hb := Aside.mk hR.out.below
      clear hi hlt hNe hR
      obtain ⟨hc1, hc2⟩ | hc1 := hcase
      all_goals
        go_wp2_with (first | (go_at_call 14; refine (hTk.out _).mono ?_; rintro e w1 ⟨rfl, hb1⟩; have HB1 := Aside.mk (hb.out.trans (hb1.mono hb.out.size)); clear hb1) | (go_at_call 16; refine (T.allNil _).mono ?_; rintro e w2 ⟨rfl, hb2⟩; have HB2 := Aside.mk (HB1.out.trans (hb2.mono HB1.out.size)); clear hb2) | (go_at_call 13; refine (T.LenNilI _).mono ?_; rintro e w' ⟨rfl, hw⟩; subst w') | (go_at_call 23; refine (T.DropNil _ _).mono ?_; rintro e w' ⟨rfl, hw⟩; subst w') | (go_at_call 10; refine (T.works _).mono ?_; rintro e w3 ⟨rfl, hb3⟩; have HB3 := Aside.mk (HB2.out.trans (hb3.mono HB2.out.size)); clear hb3))
        go_ret
        exact ⟨rfl, HB3.out⟩
end Go.Proofs.Ytmlnjelhiemlpaa

/- The control's Recv. Conditions: where it lies; what the asker's Recv does. -/
import Derived.Test.YtmepeolejlpehaaCtL
import Derived.Test.YtmepeolejlpehaaCtT
namespace Go.Proofs.Ytmepeolejlpehaa
open Go.RowKit Go.Maps Go.Proofs.YtmepeolejlpehaaW.PrintWords Go.Proofs.YtmepeolejlpehaaW.PrintLast Go.Proofs.YtmepeolejlpehaaW.PrintMore
def rep (err rn : Int) (d : Value) : Array Value := #[.int .i64 err, .int .i64 0, .int .i64 rn, .slice none 0 0, d, .slice none 0 0]
def Z6 : Array Value := #[.int .i64 0, .int .i64 0, .int .i64 0, .slice none 0 0, .slice none 0 0, .slice none 0 0]
def rv3 (err rn : Int) (b : Bool) (P Q : Nat) (pl : List Value) (g : Value × Nat × Nat) (i : Nat) : Value := ([(.pointer (some ⟨Q, 0, none⟩)), (.pointer (some ⟨Q, 0, none⟩)), (.pointer (some ⟨Q, 0, none⟩)), (.pointer (some ⟨P, 0, none⟩)), (.agg pl.toArray), (.tuple #[.agg (rep err rn g.1), .bool b]), (.tuple #[.agg (rep err rn g.1), .bool b]), (.agg (rep err rn g.1)), (.bool b), (.pointer (some ⟨g.2.1, 0, none⟩)), undef, (.bool b)] : List Value).getD i undef
theorem vget (err rn : Int) (b : Bool) (P Q : Nat) (pl : List Value) (g : Value × Nat × Nat) (d : Value) (n' : Nat) : ∀ j, j ≠ 5 → j ≠ 6 → j ≠ 7 → rv3 err rn b P Q pl (d, g.2.1, n') j = rv3 err rn b P Q pl g j
  | 0, _, _, _ | 1, _, _, _ | 2, _, _, _ | 3, _, _, _ | 4, _, _, _ | 8, _, _, _ | 9, _, _, _ | 10, _, _, _ | 11, _, _, _ => rfl
  | 5, h, _, _ | 6, _, h, _ | 7, _, _, h => absurd rfl h
  | j + 12, _, _, _ => by simp [rv3]
theorem vget9 (err rn : Int) (b : Bool) (P Q : Nat) (pl : List Value) (g : Value × Nat × Nat) (Y : Nat) : ∀ j, j ≠ 9 → rv3 err rn b P Q pl (g.1, Y, g.2.2) j = rv3 err rn b P Q pl g j
  | 0, _ | 1, _ | 2, _ | 3, _ | 4, _ | 5, _ | 6, _ | 7, _ | 8, _ | 10, _ | 11, _ => rfl
  | 9, h => absurd rfl h
  | j + 12, _ => by simp [rv3]
set_option maxHeartbeats 8000000 in
set_option maxRecDepth 100000 in
theorem T.RecvCN (P M Q base n : Nat) (s s2 : AS) (c : CS) (sl cl : List ByteArray) (pl : List Value) (err rn : Int) (dl : List ByteArray) (w : World) (h : CJ w P M Q base n s c sl cl) (hpl : pl.length = 40)
    (hcall : ∀ wc, FC [] (w.alloc (.cells pl.toArray 57)) wc → Calls Try.prog 20 #[.pointer (some ⟨P, 0, none⟩), .agg pl.toArray] wc fun e w' => ∃ d n', e = .returned (.tuple #[.agg (rep err rn d), .bool false]) ∧ Kd.R Kd.string 9 w' wc.heap.size (fun _ => True) d dl ∧ AK w' P M n' s2 ∧ n' ≤ n + 1 ∧ FC [P, M] wc w') (hcmd : s2.cmd = s.cmd) :
    Calls Try.prog 10 #[.pointer (some ⟨Q, 0, none⟩), .agg pl.toArray] w fun e w' => e = .returned (.int .i64 0) ∧ ∃ n', n' ≤ n + 1 ∧ CJ w' P M Q base n' s2 c sl cl ∧ FC [P, M] w w' := by
  obtain ⟨hPQ, hMQ⟩ := h.ne
  have HJ := Aside.mk h
  have HPL := Aside.mk hpl
  have hbx : Below w.heap.size w (w.alloc (.cells pl.toArray 57)) := (Below.refl _ _).alloc (Nat.le_refl _) _
  have hQ1 : CP (w.alloc (.cells pl.toArray 57)) Q (some ⟨P, 0, none⟩) c := (hbx.block Q (Array.getElem?_eq_some_iff.1 h.ctl).1).trans h.ctl
  have hN := Aside.mk (T.nobodyF Q _ _ _ hQ1)
  have HQ1 := Aside.mk hQ1
  have HBX := Aside.mk hbx
  have HX1 := Aside.mk (heap_alloc_new w (.cells pl.toArray 57))
  have HCall := Aside.mk hcall
  clear h hpl hbx hQ1 hcall
  go_enter Try.func10, Try.ntmps10
  go_wp2_with (first | (go_at_call 15; refine hN.out.mono ?_; rintro e w' ⟨rfl, hw⟩; subst w'))
  have hQr := HQ1.out
  have hXrow := HX1.out
  have hs1 : (w.alloc (.cells pl.toArray 57)).heap.size = w.heap.size + 1 := by simp
  have hcall := HCall.out
  generalize w.alloc (.cells pl.toArray 57) = w1 at hQr hXrow hcall HBX hs1 ⊢
  obtain ⟨X, hX⟩ : ∃ X, X = w.heap.size := ⟨_, rfl⟩
  rw [← hX] at hXrow ⊢
  have hbb := HJ.out.hbase
  have hP := HJ.out.hP
  have hM := HJ.out.hM
  have hQ := HJ.out.hQ
  have hPlt : P < w1.heap.size := by omega
  have hMlt : M < w1.heap.size := by omega
  have hQlt : Q < w1.heap.size := by omega
  have hXlt : X < w1.heap.size := by omega
  have hQP : Q ≠ P := hPQ.symm
  have hQM : Q ≠ M := hMQ.symm
  have hXP : X ≠ P := by omega
  have hXM : X ≠ M := by omega
  have HS1 := Aside.mk hs1
  have HX := Aside.mk hX
  clear hX HX1 HQ1 HCall hN hs1 hbb hP hM hQ
  obtain ⟨b, hb⟩ : ∃ b, b = false := ⟨_, rfl⟩
  rw [← hb] at hcall
  let I : (Value × Nat × Nat) → Bool → Bool → Bool → World → Prop := fun g f5 f9 f10 w' => FC (if f5 = true then [P, M] else []) w1 w' ∧ (f5 = true → Kd.R Kd.string 9 w' w1.heap.size (fun k => f9 = true → k ≠ g.2.1) g.1 dl ∧ AK w' P M g.2.2 s2 ∧ g.2.2 ≤ n + 1) ∧ (f9 = true → w1.heap.size ≤ g.2.1 ∧ w'.heap[g.2.1]? = some (.cells (if f10 = true then rep err rn g.1 else Z6) 52 (0, 0))) ∧ (f10 = true → f5 = true ∧ f9 = true)
  let W : (Value × Nat × Nat) → Array Bool → World → Prop := fun g listed w' => I g (listed.getD 5 false) (listed.getD 9 false) (listed.getD 10 false) w' ∧ (listed.getD 6 false = true → listed.getD 5 false = true) ∧ (listed.getD 7 false = true → listed.getD 5 false = true)
  have hkeep : ∀ g listed w' i, i < listed.size → i ≠ 5 ∧ i ≠ 9 ∧ i ≠ 10 → (i = 6 ∨ i = 7 → listed.getD 5 false = true) → W g listed w' → W g (listed.setIfInBounds i true) w' := fun g listed w' i hi hne h67 hW => by
    obtain ⟨h1, h2, h3⟩ := hW
    refine ⟨?_, fun h => ?_, fun h => ?_⟩
    · rw [getD_set _ _ _ _ _ hi, getD_set _ _ _ _ _ hi, getD_set _ _ _ _ _ hi, if_neg (Ne.symm hne.1), if_neg (Ne.symm hne.2.1), if_neg (Ne.symm hne.2.2)]; exact h1
    · rw [getD_set _ _ _ _ _ hi] at h ⊢
      rw [if_neg (Ne.symm hne.1)]
      by_cases e : 6 = i
      · exact h67 (.inl e.symm)
      · rw [if_neg e] at h; exact h2 h
    · rw [getD_set _ _ _ _ _ hi] at h ⊢
      rw [if_neg (Ne.symm hne.1)]
      by_cases e : 7 = i
      · exact h67 (.inr e.symm)
      · rw [if_neg e] at h; exact h3 h
  have hQc : ∀ (g : Value × Nat × Nat) (f5 : Bool) (w' : World), FC (if f5 = true then [P, M] else []) w1 w' → w'.cell? ⟨Q, 0, none⟩ = some (.pointer (some ⟨P, 0, none⟩)) := fun _ f5 w' hf => by
    rw [cell_of_row _ _ _ _ _ _ ((hf.block Q hQlt (by split <;> simp [hQP, hQM])).trans hQr)]; rfl
  have hXr : ∀ (g : Value × Nat × Nat) (f5 : Bool) (w' : World), FC (if f5 = true then [P, M] else []) w1 w' → w'.rangeAt X 0 pl := fun _ f5 w' hf => range_row ((hf.block X hXlt (by split <;> simp [hXP, hXM])).trans hXrow)
  refine wp_region_confG (by kernel_rfl) (fun (g : Value × Nat × Nat) i => rv3 err rn b P Q pl g i) W (.slice none 0 0, 0, 0) (by kernel_rfl) ?h0 ?hex ?hfin
  case h0 => exact ⟨⟨by simp; exact (FC.refl _ _).drew, fun h => by simp at h, fun h => by simp at h, fun h => by simp at h⟩, fun h => by simp at h, fun h => by simp at h⟩
  case hex =>
    intro g i o listed a w' ho hs hn hp hd hW
    have hi : i < 12 := (Array.getElem?_eq_some_iff.1 ho).1
    have hs12 : listed.size = 12 := hs
    have hil : i < listed.size := by omega
    have hcase : i = 0 ∨ i = 1 ∨ i = 2 ∨ i = 3 ∨ i = 4 ∨ i = 5 ∨ i = 6 ∨ i = 7 ∨ i = 8 ∨ i = 9 ∨ i = 10 ∨ i = 11 := by omega
    rcases hcase with rfl | rfl | rfl | rfl | rfl | rfl | rfl | rfl | rfl | rfl | rfl | rfl
    all_goals
      simp only [List.getElem?_toArray, List.getElem?_cons_succ, List.getElem?_cons_zero, Option.some.injEq] at ho
      subst ho
      refine ⟨rfl, ?_⟩
    · have e0 := hd.base 0 (.pointer (some ⟨Q, 0, none⟩)) (by kernel_rfl) rfl
      exact wp_val ((.pointer (some ⟨Q, 0, none⟩))) (by simp only [execOp, e0]; simp [go_sem]) ⟨g, fun _ _ => rfl, rfl, hkeep g listed w' 0 hil (by decide) (fun h => by omega) hW⟩
    · have l0 := hp { on := 0, ground := Ground.data } (by simp) rfl
      have e10 : a.eval (.tmp 10) = (.pointer (some ⟨Q, 0, none⟩)) := hd.ev 0 10 rfl l0
      exact wp_val ((.pointer (some ⟨Q, 0, none⟩))) (by simp only [execOp, e10]; simp [go_sem]) ⟨g, fun _ _ => rfl, rfl, hkeep g listed w' 1 hil (by decide) (fun h => by omega) hW⟩
    · have l1 := hp { on := 1, ground := Ground.data } (by simp) rfl
      have e11 : a.eval (.tmp 11) = (.pointer (some ⟨Q, 0, none⟩)) := hd.ev 1 11 rfl l1
      exact wp_val ((.pointer (some ⟨Q, 0, none⟩))) (by simp only [execOp, e11]; simp [go_sem]) ⟨g, fun _ _ => rfl, rfl, hkeep g listed w' 2 hil (by decide) (fun h => by omega) hW⟩
    · have l2 := hp { on := 2, ground := Ground.data } (by simp) rfl
      have e12 : a.eval (.tmp 12) = (.pointer (some ⟨Q, 0, none⟩)) := hd.ev 2 12 rfl l2
      have hq := hQc g _ w' hW.1.1
      exact wp_val ((.pointer (some ⟨P, 0, none⟩))) (by simp only [execOp, e12]; simp [go_sem, hq]) ⟨g, fun _ _ => rfl, rfl, hkeep g listed w' 3 hil (by decide) (fun h => by omega) hW⟩
    · have e3 := hd.base 3 (.pointer (some ⟨X, 0, none⟩)) (by kernel_rfl) rfl
      exact wp_load_mid 57 (.tmp 3) rfl X 0 e3 pl _ (hXr g _ w' hW.1.1) Try.underlying57 rfl (by rw [HPL.out]; kernel_rfl) ⟨g, fun _ _ => rfl, rfl, hkeep g listed w' 4 hil (by decide) (fun h => by omega) hW⟩
    · have l3 := hp { on := 3, ground := Ground.data } (by simp) rfl
      have e13 : a.eval (.tmp 13) = (.pointer (some ⟨P, 0, none⟩)) := hd.ev 3 13 rfl l3
      have l4 := hp { on := 4, ground := Ground.data } (by simp) rfl
      have e14 : a.eval (.tmp 14) = (.agg pl.toArray) := hd.ev 4 14 rfl l4
      obtain ⟨⟨i1, i2, i3, i4⟩, h65, h75⟩ := hW
      have hf10 : listed.getD 10 false = false := by
        cases h : listed.getD 10 false with
        | false => rfl
        | true => rw [(i4 h).1] at hn; cases hn
      rw [hn, if_neg (by simp)] at i1
      refine wp_calls 20 #[.tmp 13, .tmp 14] #[31, 57] rfl (enters_of Try.func20 (by kernel_rfl) rfl) #[.pointer (some ⟨P, 0, none⟩), .agg pl.toArray] (by simp [e13, e14]) ((hcall w' i1).mono ?_)
      rintro e' w4 ⟨d, n', rfl, hr4, hA4, hn4, hF4⟩
      refine ⟨_, rfl, (d, g.2.1, n'), fun j hj => ?_, rfl, ?_⟩
      · have hj5 : j ≠ 5 := fun e => by subst e; rw [hj] at hn; cases hn
        have hj6 : j ≠ 6 := fun e => by subst e; rw [h65 hj] at hn; cases hn
        have hj7 : j ≠ 7 := fun e => by subst e; rw [h75 hj] at hn; cases hn
        exact vget err rn b P Q pl g d n' j hj5 hj6 hj7
      · refine ⟨?_, fun h => ?_, fun h => ?_⟩
        rotate_left
        · rw [getD_set _ _ _ _ _ hil, if_pos rfl]
        · rw [getD_set _ _ _ _ _ hil, if_pos rfl]
        have hs5 : (listed.setIfInBounds 5 true).getD 5 false = true := by rw [getD_set _ _ _ _ _ hil, if_pos rfl]
        have hs9 : (listed.setIfInBounds 5 true).getD 9 false = listed.getD 9 false := by rw [getD_set _ _ _ _ _ hil, if_neg (by decide)]
        have hs10 : (listed.setIfInBounds 5 true).getD 10 false = false := by rw [getD_set _ _ _ _ _ hil, if_neg (by decide), hf10]
        rw [hs5, hs9, hs10]
        refine ⟨?_, fun _ => ⟨?_, hA4, hn4⟩, fun h9 => ?_, fun h => by cases h⟩
        · rw [if_pos rfl]; exact (i1.sub (by simp)).trans hF4
        · refine Kd.R_lower (Kd.R_mono (Kd.R_bound hr4) (fun k hk h9 e => ?_)) i1.size
          have h9' := (i3 h9).2
          have hlt := (Array.getElem?_eq_some_iff.1 h9').1
          have := hk.2.1
          simp only at e
          omega
        · obtain ⟨h91, h92⟩ := i3 h9
          rw [hf10] at h92
          refine ⟨h91, (hF4.block _ (Array.getElem?_eq_some_iff.1 h92).1 ?_).trans h92⟩
          have h1 := hPlt; have h2 := hMlt
          simp only [List.mem_cons, List.not_mem_nil, or_false, not_or]
          omega
    · have l5 := hp { on := 5, ground := Ground.data } (by simp) rfl
      have e15 : a.eval (.tmp 15) = (.tuple #[.agg (rep err rn g.1), .bool b]) := hd.ev 5 15 rfl l5
      exact wp_val ((.tuple #[.agg (rep err rn g.1), .bool b])) (by simp only [execOp, e15]; simp [go_sem]) ⟨g, fun _ _ => rfl, rfl, hkeep g listed w' 6 hil (by decide) (fun _ => l5) hW⟩
    · have l6 := hp { on := 6, ground := Ground.data } (by simp) rfl
      have e9 : a.eval (.tmp 9) = (.tuple #[.agg (rep err rn g.1), .bool b]) := hd.ev 6 9 rfl l6
      exact wp_val ((.agg (rep err rn g.1))) (by simp only [execOp, e9]; simp [go_sem]) ⟨g, fun _ _ => rfl, rfl, hkeep g listed w' 7 hil (by decide) (fun _ => hW.2.1 l6) hW⟩
    · have l6 := hp { on := 6, ground := Ground.data } (by simp) rfl
      have e9 : a.eval (.tmp 9) = (.tuple #[.agg (rep err rn g.1), .bool b]) := hd.ev 6 9 rfl l6
      exact wp_val ((.bool b)) (by simp only [execOp, e9]; simp [go_sem]) ⟨g, fun _ _ => rfl, rfl, hkeep g listed w' 8 hil (by decide) (fun h => by omega) hW⟩
    · refine wp_val (w2 := w'.alloc (.cells Z6 52)) (.pointer (some ⟨w'.heap.size, 0, none⟩)) (by simp [execOp, go_sem, Z6]) ⟨(g.1, w'.heap.size, g.2.2), fun j hj => ?_, rfl, ?_⟩
      · have hj9 : j ≠ 9 := fun e => by subst e; rw [hj] at hn; cases hn
        exact vget9 err rn b P Q pl g w'.heap.size j hj9
      · obtain ⟨⟨i1, i2, i3, i4⟩, h65, h75⟩ := hW
        have hf10 : listed.getD 10 false = false := by
          cases h : listed.getD 10 false with
          | false => rfl
          | true => rw [(i4 h).2] at hn; cases hn
        refine ⟨?_, fun h => ?_, fun h => ?_⟩
        rotate_left
        · rw [getD_set _ _ _ _ _ hil, if_neg (by decide)] at h; rw [getD_set _ _ _ _ _ hil, if_neg (by decide)]; exact h65 h
        · rw [getD_set _ _ _ _ _ hil, if_neg (by decide)] at h; rw [getD_set _ _ _ _ _ hil, if_neg (by decide)]; exact h75 h
        have hs5 : (listed.setIfInBounds 9 true).getD 5 false = listed.getD 5 false := by rw [getD_set _ _ _ _ _ hil, if_neg (by decide)]
        have hs9 : (listed.setIfInBounds 9 true).getD 9 false = true := by rw [getD_set _ _ _ _ _ hil, if_pos rfl]
        have hs10 : (listed.setIfInBounds 9 true).getD 10 false = false := by rw [getD_set _ _ _ _ _ hil, if_neg (by decide), hf10]
        rw [hs5, hs9, hs10]
        refine ⟨i1.alloc _, fun h5 => ?_, fun _ => ⟨i1.size, heap_alloc_new w' _⟩, fun h => by cases h⟩
        obtain ⟨r1, r2, r3⟩ := i2 h5
        refine ⟨?_, r2.of_fc (S := []) ((FC.refl _ _).alloc _) (by simp) (by simp), r3⟩
        exact Kd.R_mono (Kd.R_bound (Kd.R_alloc (Kd.R_mono (Kd.R_bound r1) (fun k hk => hk.2.2.1)) _)) (fun k hk _ e => by have := hk.1; simp only at e; omega)
    · have l9 := hp { on := 9, ground := Ground.data } (by simp) rfl
      have e5 : a.eval (.tmp 5) = (.pointer (some ⟨g.2.1, 0, none⟩)) := hd.ev 9 5 rfl l9
      have l7 := hp { on := 7, ground := Ground.data } (by simp) rfl
      have e16 : a.eval (.tmp 16) = (.agg (rep err rn g.1)) := hd.ev 7 16 rfl l7
      have l5 := hp { on := 5, ground := Ground.chain } (by simp) rfl
      have l5 := hp { on := 5, ground := Ground.chain } (by simp) rfl
      obtain ⟨⟨i1, i2, i3, i4⟩, h65, h75⟩ := hW
      obtain ⟨r1, r2, r3⟩ := i2 l5
      obtain ⟨y1, y2⟩ := i3 l9
      rw [hn] at y2
      rw [l5, if_pos rfl] at i1
      obtain ⟨A9, c9, hg9, _⟩ := Kd.R_reads r1
      refine wp_store_mid 52 (.tmp 5) (.tmp 16) rfl g.2.1 0 (rep err rn g.1) e5 e16 (there_row y2 _ (by rfl)) (by kernel_rfl) (by rw [hg9]; simp [rep, Value.oneCell']) ⟨g, fun _ _ => rfl, rfl, ?_⟩
      refine ⟨?_, fun h => ?_, fun h => ?_⟩
      rotate_left
      · rw [getD_set _ _ _ _ _ hil, if_neg (by decide)] at h; rw [getD_set _ _ _ _ _ hil, if_neg (by decide)]; exact h65 h
      · rw [getD_set _ _ _ _ _ hil, if_neg (by decide)] at h; rw [getD_set _ _ _ _ _ hil, if_neg (by decide)]; exact h75 h
      have hs5 : (listed.setIfInBounds 10 true).getD 5 false = true := by rw [getD_set _ _ _ _ _ hil, if_neg (by decide), l5]
      have hs9 : (listed.setIfInBounds 10 true).getD 9 false = true := by rw [getD_set _ _ _ _ _ hil, if_neg (by decide), l9]
      have hs10 : (listed.setIfInBounds 10 true).getD 10 false = true := by rw [getD_set _ _ _ _ _ hil, if_pos rfl]
      rw [hs5, hs9, hs10]
      have hfy : FC [g.2.1] w' (w'.setCells g.2.1 0 (rep err rn g.1).toList) := FC.setCells (.inl (by simp)) _ _ _ (FC.refl _ _)
      refine ⟨?_, fun _ => ⟨?_, r2.of_fc hfy ?_ ?_, r3⟩, fun _ => ⟨y1, fill_row y2 _ (by rfl)⟩, fun _ => ⟨rfl, rfl⟩⟩
      · rw [if_pos rfl]; exact FC.setCells (.inr y1) _ _ _ i1
      · exact Kd.R_mono (Kd.R_step r1 (fun k hk hlt => hfy.block k hlt (by simpa using hk l9))) (fun k hk _ => hk l9)
      · have h1 := hPlt; simp; omega
      · have h1 := hMlt; simp; omega
    · have l8 := hp { on := 8, ground := Ground.data } (by simp) rfl
      have e17 : a.eval (.tmp 17) = (.bool b) := hd.ev 8 17 rfl l8
      have l10 := hp { on := 10, ground := Ground.chain } (by simp) rfl
      exact wp_val ((.bool b)) (by simp only [execOp, e17]; simp [go_sem]) ⟨g, fun _ _ => rfl, rfl, hkeep g listed w' 11 hil (by decide) (fun h => by omega) hW⟩
  case hfin =>
    intro g listed a w2 hs hall hd hW
    have h5 := hall 5 (by decide)
    have h9 := hall 9 (by decide)
    have h10 := hall 10 (by decide)
    obtain ⟨⟨i1, i2, i3, i4⟩, _, _⟩ := hW
    rw [h5] at i1 i2
    rw [h9, h10] at i3
    rw [if_pos rfl] at i1
    obtain ⟨r1, r2, r3⟩ := i2 rfl
    obtain ⟨y1, y2⟩ := i3 rfl
    rw [if_pos rfl] at y2
    have HR1 := Aside.mk (Kd.R_mono r1 (fun _ _ => trivial) : Kd.R Kd.string 9 w2 w1.heap.size (fun _ => True) g.1 dl)
    obtain ⟨d, Y, n'⟩ := g
    dsimp only at HR1 r2 r3 y1 y2
    have HA2 := Aside.mk r2
    have HN2 := Aside.mk r3
    have HF2 := Aside.mk i1
    have HY2 := Aside.mk y2
    have HYw := Aside.mk y1
    rw [hd.full (md := .any) (fits_of (by kernel_rfl)) hall]
    clear hd hall hs i1 i2 i3 i4 r1 r2 r3 y1 y2 h5 h9 h10 hkeep hQc hXr W I
    simp only [rv3, List.size_toArray, List.length_cons, List.length_nil, Nat.reduceAdd, fill, List.getElem?_toArray, List.getElem?_cons_succ, List.getElem?_cons_zero, Option.bind_some, List.setIfInBounds_toArray, List.set_cons_succ, List.set_cons_zero, List.getD_cons_succ, List.getD_cons_zero]
    have HQr := Aside.mk ((HF2.out.block Q hQlt (by simp [hQP, hQM])).trans hQr)
    clear hQr hXrow hcall
    subst hb
    go_wp2
    go_ret
    have hf : FC [P, M] w w2 := (FC.of HBX.out).trans HF2.out
    have hPb := HJ.out.hP
    have hMb := HJ.out.hM
    have hlow : ∀ k ∈ [P, M], k < base := fun k hk => by have : k = P ∨ k = M := by simpa using hk
                                                         omega
    exact ⟨rfl, n', HN2.out, ⟨HA2.out, HQr.out, by rw [hcmd]; exact R_fc HJ.out.srow hf hlow, R_fc HJ.out.crow hf hlow, HJ.out.hP, HJ.out.hM, HJ.out.hQ, Nat.le_trans HJ.out.hbase hf.size, HJ.out.hlen, HJ.out.hfrom, HJ.out.hto⟩, hf⟩
set_option maxHeartbeats 8000000 in
set_option maxRecDepth 100000 in
theorem T.RecvC1e (P M Q base n : Nat) (s s2 : AS) (c : CS) (sl cl : List ByteArray) (pl : List Value) (err rn : Int) (dl : List ByteArray) (w : World) (h : CJ w P M Q base n s c sl cl) (hpl : pl.length = 40)
    (hcall : ∀ wc, FC [] (w.alloc (.cells pl.toArray 57)) wc → Calls Try.prog 20 #[.pointer (some ⟨P, 0, none⟩), .agg pl.toArray] wc fun e w' => ∃ d n', e = .returned (.tuple #[.agg (rep err rn d), .bool true]) ∧ Kd.R Kd.string 9 w' wc.heap.size (fun _ => True) d dl ∧ AK w' P M n' s2 ∧ n' ≤ n + 1 ∧ FC [P, M] wc w') (hcmd : s2.cmd = s.cmd) (hst : c.stage = 1) (he : (err == 0) = false) :
    Calls Try.prog 10 #[.pointer (some ⟨Q, 0, none⟩), .agg pl.toArray] w fun e w' => e = .returned (.int .i64 0) ∧ ∃ n', n' ≤ n + 1 ∧ CJ w' P M Q base n' s2 { c with stage := 0, e := err, ended := true, data := .slice none 0 0 } sl [] ∧ FC [P, M, Q] w w' := by
  obtain ⟨hPQ, hMQ⟩ := h.ne
  have HJ := Aside.mk h
  have HPL := Aside.mk hpl
  have hbx : Below w.heap.size w (w.alloc (.cells pl.toArray 57)) := (Below.refl _ _).alloc (Nat.le_refl _) _
  have hQ1 : CP (w.alloc (.cells pl.toArray 57)) Q (some ⟨P, 0, none⟩) c := (hbx.block Q (Array.getElem?_eq_some_iff.1 h.ctl).1).trans h.ctl
  have hN := Aside.mk (T.nobodyF Q _ _ _ hQ1)
  have HQ1 := Aside.mk hQ1
  have HBX := Aside.mk hbx
  have HX1 := Aside.mk (heap_alloc_new w (.cells pl.toArray 57))
  have HCall := Aside.mk hcall
  clear h hpl hbx hQ1 hcall
  go_enter Try.func10, Try.ntmps10
  go_wp2_with (first | (go_at_call 15; refine hN.out.mono ?_; rintro e w' ⟨rfl, hw⟩; subst w'))
  have hQr := HQ1.out
  have hXrow := HX1.out
  have hs1 : (w.alloc (.cells pl.toArray 57)).heap.size = w.heap.size + 1 := by simp
  have hcall := HCall.out
  generalize w.alloc (.cells pl.toArray 57) = w1 at hQr hXrow hcall HBX hs1 ⊢
  obtain ⟨X, hX⟩ : ∃ X, X = w.heap.size := ⟨_, rfl⟩
  rw [← hX] at hXrow ⊢
  have hbb := HJ.out.hbase
  have hP := HJ.out.hP
  have hM := HJ.out.hM
  have hQ := HJ.out.hQ
  have hPlt : P < w1.heap.size := by omega
  have hMlt : M < w1.heap.size := by omega
  have hQlt : Q < w1.heap.size := by omega
  have hXlt : X < w1.heap.size := by omega
  have hQP : Q ≠ P := hPQ.symm
  have hQM : Q ≠ M := hMQ.symm
  have hXP : X ≠ P := by omega
  have hXM : X ≠ M := by omega
  have HS1 := Aside.mk hs1
  have HX := Aside.mk hX
  clear hX HX1 HQ1 HCall hN hs1 hbb hP hM hQ
  obtain ⟨b, hb⟩ : ∃ b, b = true := ⟨_, rfl⟩
  rw [← hb] at hcall
  let I : (Value × Nat × Nat) → Bool → Bool → Bool → World → Prop := fun g f5 f9 f10 w' => FC (if f5 = true then [P, M] else []) w1 w' ∧ (f5 = true → Kd.R Kd.string 9 w' w1.heap.size (fun k => f9 = true → k ≠ g.2.1) g.1 dl ∧ AK w' P M g.2.2 s2 ∧ g.2.2 ≤ n + 1) ∧ (f9 = true → w1.heap.size ≤ g.2.1 ∧ w'.heap[g.2.1]? = some (.cells (if f10 = true then rep err rn g.1 else Z6) 52 (0, 0))) ∧ (f10 = true → f5 = true ∧ f9 = true)
  let W : (Value × Nat × Nat) → Array Bool → World → Prop := fun g listed w' => I g (listed.getD 5 false) (listed.getD 9 false) (listed.getD 10 false) w' ∧ (listed.getD 6 false = true → listed.getD 5 false = true) ∧ (listed.getD 7 false = true → listed.getD 5 false = true)
  have hkeep : ∀ g listed w' i, i < listed.size → i ≠ 5 ∧ i ≠ 9 ∧ i ≠ 10 → (i = 6 ∨ i = 7 → listed.getD 5 false = true) → W g listed w' → W g (listed.setIfInBounds i true) w' := fun g listed w' i hi hne h67 hW => by
    obtain ⟨h1, h2, h3⟩ := hW
    refine ⟨?_, fun h => ?_, fun h => ?_⟩
    · rw [getD_set _ _ _ _ _ hi, getD_set _ _ _ _ _ hi, getD_set _ _ _ _ _ hi, if_neg (Ne.symm hne.1), if_neg (Ne.symm hne.2.1), if_neg (Ne.symm hne.2.2)]; exact h1
    · rw [getD_set _ _ _ _ _ hi] at h ⊢
      rw [if_neg (Ne.symm hne.1)]
      by_cases e : 6 = i
      · exact h67 (.inl e.symm)
      · rw [if_neg e] at h; exact h2 h
    · rw [getD_set _ _ _ _ _ hi] at h ⊢
      rw [if_neg (Ne.symm hne.1)]
      by_cases e : 7 = i
      · exact h67 (.inr e.symm)
      · rw [if_neg e] at h; exact h3 h
  have hQc : ∀ (g : Value × Nat × Nat) (f5 : Bool) (w' : World), FC (if f5 = true then [P, M] else []) w1 w' → w'.cell? ⟨Q, 0, none⟩ = some (.pointer (some ⟨P, 0, none⟩)) := fun _ f5 w' hf => by
    rw [cell_of_row _ _ _ _ _ _ ((hf.block Q hQlt (by split <;> simp [hQP, hQM])).trans hQr)]; rfl
  have hXr : ∀ (g : Value × Nat × Nat) (f5 : Bool) (w' : World), FC (if f5 = true then [P, M] else []) w1 w' → w'.rangeAt X 0 pl := fun _ f5 w' hf => range_row ((hf.block X hXlt (by split <;> simp [hXP, hXM])).trans hXrow)
  refine wp_region_confG (by kernel_rfl) (fun (g : Value × Nat × Nat) i => rv3 err rn b P Q pl g i) W (.slice none 0 0, 0, 0) (by kernel_rfl) ?h0 ?hex ?hfin
  case h0 => exact ⟨⟨by simp; exact (FC.refl _ _).drew, fun h => by simp at h, fun h => by simp at h, fun h => by simp at h⟩, fun h => by simp at h, fun h => by simp at h⟩
  case hex =>
    intro g i o listed a w' ho hs hn hp hd hW
    have hi : i < 12 := (Array.getElem?_eq_some_iff.1 ho).1
    have hs12 : listed.size = 12 := hs
    have hil : i < listed.size := by omega
    have hcase : i = 0 ∨ i = 1 ∨ i = 2 ∨ i = 3 ∨ i = 4 ∨ i = 5 ∨ i = 6 ∨ i = 7 ∨ i = 8 ∨ i = 9 ∨ i = 10 ∨ i = 11 := by omega
    rcases hcase with rfl | rfl | rfl | rfl | rfl | rfl | rfl | rfl | rfl | rfl | rfl | rfl
    all_goals
      simp only [List.getElem?_toArray, List.getElem?_cons_succ, List.getElem?_cons_zero, Option.some.injEq] at ho
      subst ho
      refine ⟨rfl, ?_⟩
    · have e0 := hd.base 0 (.pointer (some ⟨Q, 0, none⟩)) (by kernel_rfl) rfl
      exact wp_val ((.pointer (some ⟨Q, 0, none⟩))) (by simp only [execOp, e0]; simp [go_sem]) ⟨g, fun _ _ => rfl, rfl, hkeep g listed w' 0 hil (by decide) (fun h => by omega) hW⟩
    · have l0 := hp { on := 0, ground := Ground.data } (by simp) rfl
      have e10 : a.eval (.tmp 10) = (.pointer (some ⟨Q, 0, none⟩)) := hd.ev 0 10 rfl l0
      exact wp_val ((.pointer (some ⟨Q, 0, none⟩))) (by simp only [execOp, e10]; simp [go_sem]) ⟨g, fun _ _ => rfl, rfl, hkeep g listed w' 1 hil (by decide) (fun h => by omega) hW⟩
    · have l1 := hp { on := 1, ground := Ground.data } (by simp) rfl
      have e11 : a.eval (.tmp 11) = (.pointer (some ⟨Q, 0, none⟩)) := hd.ev 1 11 rfl l1
      exact wp_val ((.pointer (some ⟨Q, 0, none⟩))) (by simp only [execOp, e11]; simp [go_sem]) ⟨g, fun _ _ => rfl, rfl, hkeep g listed w' 2 hil (by decide) (fun h => by omega) hW⟩
    · have l2 := hp { on := 2, ground := Ground.data } (by simp) rfl
      have e12 : a.eval (.tmp 12) = (.pointer (some ⟨Q, 0, none⟩)) := hd.ev 2 12 rfl l2
      have hq := hQc g _ w' hW.1.1
      exact wp_val ((.pointer (some ⟨P, 0, none⟩))) (by simp only [execOp, e12]; simp [go_sem, hq]) ⟨g, fun _ _ => rfl, rfl, hkeep g listed w' 3 hil (by decide) (fun h => by omega) hW⟩
    · have e3 := hd.base 3 (.pointer (some ⟨X, 0, none⟩)) (by kernel_rfl) rfl
      exact wp_load_mid 57 (.tmp 3) rfl X 0 e3 pl _ (hXr g _ w' hW.1.1) Try.underlying57 rfl (by rw [HPL.out]; kernel_rfl) ⟨g, fun _ _ => rfl, rfl, hkeep g listed w' 4 hil (by decide) (fun h => by omega) hW⟩
    · have l3 := hp { on := 3, ground := Ground.data } (by simp) rfl
      have e13 : a.eval (.tmp 13) = (.pointer (some ⟨P, 0, none⟩)) := hd.ev 3 13 rfl l3
      have l4 := hp { on := 4, ground := Ground.data } (by simp) rfl
      have e14 : a.eval (.tmp 14) = (.agg pl.toArray) := hd.ev 4 14 rfl l4
      obtain ⟨⟨i1, i2, i3, i4⟩, h65, h75⟩ := hW
      have hf10 : listed.getD 10 false = false := by
        cases h : listed.getD 10 false with
        | false => rfl
        | true => rw [(i4 h).1] at hn; cases hn
      rw [hn, if_neg (by simp)] at i1
      refine wp_calls 20 #[.tmp 13, .tmp 14] #[31, 57] rfl (enters_of Try.func20 (by kernel_rfl) rfl) #[.pointer (some ⟨P, 0, none⟩), .agg pl.toArray] (by simp [e13, e14]) ((hcall w' i1).mono ?_)
      rintro e' w4 ⟨d, n', rfl, hr4, hA4, hn4, hF4⟩
      refine ⟨_, rfl, (d, g.2.1, n'), fun j hj => ?_, rfl, ?_⟩
      · have hj5 : j ≠ 5 := fun e => by subst e; rw [hj] at hn; cases hn
        have hj6 : j ≠ 6 := fun e => by subst e; rw [h65 hj] at hn; cases hn
        have hj7 : j ≠ 7 := fun e => by subst e; rw [h75 hj] at hn; cases hn
        exact vget err rn b P Q pl g d n' j hj5 hj6 hj7
      · refine ⟨?_, fun h => ?_, fun h => ?_⟩
        rotate_left
        · rw [getD_set _ _ _ _ _ hil, if_pos rfl]
        · rw [getD_set _ _ _ _ _ hil, if_pos rfl]
        have hs5 : (listed.setIfInBounds 5 true).getD 5 false = true := by rw [getD_set _ _ _ _ _ hil, if_pos rfl]
        have hs9 : (listed.setIfInBounds 5 true).getD 9 false = listed.getD 9 false := by rw [getD_set _ _ _ _ _ hil, if_neg (by decide)]
        have hs10 : (listed.setIfInBounds 5 true).getD 10 false = false := by rw [getD_set _ _ _ _ _ hil, if_neg (by decide), hf10]
        rw [hs5, hs9, hs10]
        refine ⟨?_, fun _ => ⟨?_, hA4, hn4⟩, fun h9 => ?_, fun h => by cases h⟩
        · rw [if_pos rfl]; exact (i1.sub (by simp)).trans hF4
        · refine Kd.R_lower (Kd.R_mono (Kd.R_bound hr4) (fun k hk h9 e => ?_)) i1.size
          have h9' := (i3 h9).2
          have hlt := (Array.getElem?_eq_some_iff.1 h9').1
          have := hk.2.1
          simp only at e
          omega
        · obtain ⟨h91, h92⟩ := i3 h9
          rw [hf10] at h92
          refine ⟨h91, (hF4.block _ (Array.getElem?_eq_some_iff.1 h92).1 ?_).trans h92⟩
          have h1 := hPlt; have h2 := hMlt
          simp only [List.mem_cons, List.not_mem_nil, or_false, not_or]
          omega
    · have l5 := hp { on := 5, ground := Ground.data } (by simp) rfl
      have e15 : a.eval (.tmp 15) = (.tuple #[.agg (rep err rn g.1), .bool b]) := hd.ev 5 15 rfl l5
      exact wp_val ((.tuple #[.agg (rep err rn g.1), .bool b])) (by simp only [execOp, e15]; simp [go_sem]) ⟨g, fun _ _ => rfl, rfl, hkeep g listed w' 6 hil (by decide) (fun _ => l5) hW⟩
    · have l6 := hp { on := 6, ground := Ground.data } (by simp) rfl
      have e9 : a.eval (.tmp 9) = (.tuple #[.agg (rep err rn g.1), .bool b]) := hd.ev 6 9 rfl l6
      exact wp_val ((.agg (rep err rn g.1))) (by simp only [execOp, e9]; simp [go_sem]) ⟨g, fun _ _ => rfl, rfl, hkeep g listed w' 7 hil (by decide) (fun _ => hW.2.1 l6) hW⟩
    · have l6 := hp { on := 6, ground := Ground.data } (by simp) rfl
      have e9 : a.eval (.tmp 9) = (.tuple #[.agg (rep err rn g.1), .bool b]) := hd.ev 6 9 rfl l6
      exact wp_val ((.bool b)) (by simp only [execOp, e9]; simp [go_sem]) ⟨g, fun _ _ => rfl, rfl, hkeep g listed w' 8 hil (by decide) (fun h => by omega) hW⟩
    · refine wp_val (w2 := w'.alloc (.cells Z6 52)) (.pointer (some ⟨w'.heap.size, 0, none⟩)) (by simp [execOp, go_sem, Z6]) ⟨(g.1, w'.heap.size, g.2.2), fun j hj => ?_, rfl, ?_⟩
      · have hj9 : j ≠ 9 := fun e => by subst e; rw [hj] at hn; cases hn
        exact vget9 err rn b P Q pl g w'.heap.size j hj9
      · obtain ⟨⟨i1, i2, i3, i4⟩, h65, h75⟩ := hW
        have hf10 : listed.getD 10 false = false := by
          cases h : listed.getD 10 false with
          | false => rfl
          | true => rw [(i4 h).2] at hn; cases hn
        refine ⟨?_, fun h => ?_, fun h => ?_⟩
        rotate_left
        · rw [getD_set _ _ _ _ _ hil, if_neg (by decide)] at h; rw [getD_set _ _ _ _ _ hil, if_neg (by decide)]; exact h65 h
        · rw [getD_set _ _ _ _ _ hil, if_neg (by decide)] at h; rw [getD_set _ _ _ _ _ hil, if_neg (by decide)]; exact h75 h
        have hs5 : (listed.setIfInBounds 9 true).getD 5 false = listed.getD 5 false := by rw [getD_set _ _ _ _ _ hil, if_neg (by decide)]
        have hs9 : (listed.setIfInBounds 9 true).getD 9 false = true := by rw [getD_set _ _ _ _ _ hil, if_pos rfl]
        have hs10 : (listed.setIfInBounds 9 true).getD 10 false = false := by rw [getD_set _ _ _ _ _ hil, if_neg (by decide), hf10]
        rw [hs5, hs9, hs10]
        refine ⟨i1.alloc _, fun h5 => ?_, fun _ => ⟨i1.size, heap_alloc_new w' _⟩, fun h => by cases h⟩
        obtain ⟨r1, r2, r3⟩ := i2 h5
        refine ⟨?_, r2.of_fc (S := []) ((FC.refl _ _).alloc _) (by simp) (by simp), r3⟩
        exact Kd.R_mono (Kd.R_bound (Kd.R_alloc (Kd.R_mono (Kd.R_bound r1) (fun k hk => hk.2.2.1)) _)) (fun k hk _ e => by have := hk.1; simp only at e; omega)
    · have l9 := hp { on := 9, ground := Ground.data } (by simp) rfl
      have e5 : a.eval (.tmp 5) = (.pointer (some ⟨g.2.1, 0, none⟩)) := hd.ev 9 5 rfl l9
      have l7 := hp { on := 7, ground := Ground.data } (by simp) rfl
      have e16 : a.eval (.tmp 16) = (.agg (rep err rn g.1)) := hd.ev 7 16 rfl l7
      have l5 := hp { on := 5, ground := Ground.chain } (by simp) rfl
      have l5 := hp { on := 5, ground := Ground.chain } (by simp) rfl
      obtain ⟨⟨i1, i2, i3, i4⟩, h65, h75⟩ := hW
      obtain ⟨r1, r2, r3⟩ := i2 l5
      obtain ⟨y1, y2⟩ := i3 l9
      rw [hn] at y2
      rw [l5, if_pos rfl] at i1
      obtain ⟨A9, c9, hg9, _⟩ := Kd.R_reads r1
      refine wp_store_mid 52 (.tmp 5) (.tmp 16) rfl g.2.1 0 (rep err rn g.1) e5 e16 (there_row y2 _ (by rfl)) (by kernel_rfl) (by rw [hg9]; simp [rep, Value.oneCell']) ⟨g, fun _ _ => rfl, rfl, ?_⟩
      refine ⟨?_, fun h => ?_, fun h => ?_⟩
      rotate_left
      · rw [getD_set _ _ _ _ _ hil, if_neg (by decide)] at h; rw [getD_set _ _ _ _ _ hil, if_neg (by decide)]; exact h65 h
      · rw [getD_set _ _ _ _ _ hil, if_neg (by decide)] at h; rw [getD_set _ _ _ _ _ hil, if_neg (by decide)]; exact h75 h
      have hs5 : (listed.setIfInBounds 10 true).getD 5 false = true := by rw [getD_set _ _ _ _ _ hil, if_neg (by decide), l5]
      have hs9 : (listed.setIfInBounds 10 true).getD 9 false = true := by rw [getD_set _ _ _ _ _ hil, if_neg (by decide), l9]
      have hs10 : (listed.setIfInBounds 10 true).getD 10 false = true := by rw [getD_set _ _ _ _ _ hil, if_pos rfl]
      rw [hs5, hs9, hs10]
      have hfy : FC [g.2.1] w' (w'.setCells g.2.1 0 (rep err rn g.1).toList) := FC.setCells (.inl (by simp)) _ _ _ (FC.refl _ _)
      refine ⟨?_, fun _ => ⟨?_, r2.of_fc hfy ?_ ?_, r3⟩, fun _ => ⟨y1, fill_row y2 _ (by rfl)⟩, fun _ => ⟨rfl, rfl⟩⟩
      · rw [if_pos rfl]; exact FC.setCells (.inr y1) _ _ _ i1
      · exact Kd.R_mono (Kd.R_step r1 (fun k hk hlt => hfy.block k hlt (by simpa using hk l9))) (fun k hk _ => hk l9)
      · have h1 := hPlt; simp; omega
      · have h1 := hMlt; simp; omega
    · have l8 := hp { on := 8, ground := Ground.data } (by simp) rfl
      have e17 : a.eval (.tmp 17) = (.bool b) := hd.ev 8 17 rfl l8
      have l10 := hp { on := 10, ground := Ground.chain } (by simp) rfl
      exact wp_val ((.bool b)) (by simp only [execOp, e17]; simp [go_sem]) ⟨g, fun _ _ => rfl, rfl, hkeep g listed w' 11 hil (by decide) (fun h => by omega) hW⟩
  case hfin =>
    intro g listed a w2 hs hall hd hW
    have h5 := hall 5 (by decide)
    have h9 := hall 9 (by decide)
    have h10 := hall 10 (by decide)
    obtain ⟨⟨i1, i2, i3, i4⟩, _, _⟩ := hW
    rw [h5] at i1 i2
    rw [h9, h10] at i3
    rw [if_pos rfl] at i1
    obtain ⟨r1, r2, r3⟩ := i2 rfl
    obtain ⟨y1, y2⟩ := i3 rfl
    rw [if_pos rfl] at y2
    have HR1 := Aside.mk (Kd.R_mono r1 (fun _ _ => trivial) : Kd.R Kd.string 9 w2 w1.heap.size (fun _ => True) g.1 dl)
    obtain ⟨d, Y, n'⟩ := g
    dsimp only at HR1 r2 r3 y1 y2
    have HA2 := Aside.mk r2
    have HN2 := Aside.mk r3
    have HF2 := Aside.mk i1
    have HY2 := Aside.mk y2
    have HYw := Aside.mk y1
    rw [hd.full (md := .any) (fits_of (by kernel_rfl)) hall]
    clear hd hall hs i1 i2 i3 i4 r1 r2 r3 y1 y2 h5 h9 h10 hkeep hQc hXr W I
    simp only [rv3, List.size_toArray, List.length_cons, List.length_nil, Nat.reduceAdd, fill, List.getElem?_toArray, List.getElem?_cons_succ, List.getElem?_cons_zero, Option.bind_some, List.setIfInBounds_toArray, List.set_cons_succ, List.set_cons_zero, List.getD_cons_succ, List.getD_cons_zero]
    have HQr := (HF2.out.block Q hQlt (by simp [hQP, hQM])).trans hQr
    have hF : FC [P, M] w w2 := (FC.of HBX.out).trans HF2.out
    have hPb := HJ.out.hP
    have hMb := HJ.out.hM
    have hlow : ∀ k ∈ [P, M], k < base := fun k hk => by have : k = P ∨ k = M := by simpa using hk
                                                         omega
    have hJ2 : CJ w2 P M Q base n' s2 c sl cl := ⟨HA2.out, HQr, by rw [hcmd]; exact R_fc HJ.out.srow hF hlow, R_fc HJ.out.crow hF hlow, HJ.out.hP, HJ.out.hM, HJ.out.hQ, Nat.le_trans HJ.out.hbase hF.size, HJ.out.hlen, HJ.out.hfrom, HJ.out.hto⟩
    have hbw1 : base ≤ w1.heap.size := by have := HJ.out.hbase; have := HBX.out.size; omega
    have hQY : Q ≠ Y := by have := HYw.out; have := HJ.out.hQ; omega
    have hRd : Kd.R Kd.string 9 w2 base (fun _ => True) d dl := Kd.R_lower HR1.out hbw1
    clear hQr hXrow hcall hPb hMb hlow HR1 HA2 HPL HBX HX HS1 HYw
    subst hb
    obtain ⟨stage, lo, hi, fr, tgo, data, ce, en⟩ := c
    obtain ⟨A9, c9, hd9, _⟩ := Kd.R_reads hRd
    dsimp only at hst
    subst hst
    subst hd9
    have q1 : w2.cell? ⟨Q, 1, none⟩ = some (.int .i64 1) := by rw [cell_of_row _ _ _ _ _ _ HQr]; rfl
    have q6 : w2.cell? ⟨Q, 6, none⟩ = some data := by rw [cell_of_row _ _ _ _ _ _ HQr]; rfl
    have q7 : w2.cell? ⟨Q, 7, none⟩ = some (.int .i64 ce) := by rw [cell_of_row _ _ _ _ _ _ HQr]; rfl
    have y0 : w2.cell? ⟨Y, 0, none⟩ = some (.int .i64 err) := by rw [cell_of_row _ _ _ _ _ _ HY2.out]; rfl
    have y4 : w2.cell? ⟨Y, 4, none⟩ = some (.slice A9 dl.length c9) := by rw [cell_of_row _ _ _ _ _ _ HY2.out]; rfl
    have fq : ∀ k, w2.frozen? ⟨Q, k, none⟩ = false := fun k => frozen_of_row w2 Q k _ _ HQr
    have HJ2 := Aside.mk hJ2
    have HF := Aside.mk hF
    have HRd := Aside.mk hRd
    have HQc := Aside.mk HQr
    clear hJ2 hF hRd HQr hcmd
    go_wp2_with fail
    have hend := T.endC Q _ _ (err) w2 HQc.out
    refine hend.mono ?_
    rintro e w3 ⟨rfl, hC3, hF3⟩
    have HC3 := Aside.mk hC3
    have HF3 := Aside.mk hF3
    clear hC3 hF3 hend
    go_wp2
    go_ret
    have hQb := HJ.out.hQ
    have h1 : ∀ k ∈ [Q], k < base := fun k hk => by have : k = Q := by simpa using hk
                                                    omega
    exact ⟨rfl, n', HN2.out, ⟨HJ2.out.ask.of_fc HF3.out (by simpa using hPQ) (by simpa using hMQ), HC3.out, R_fc HJ2.out.srow HF3.out h1, Kd.R_nil _ _ _ _ _, HJ.out.hP, HJ.out.hM, HJ.out.hQ, Nat.le_trans HJ2.out.hbase HF3.out.size, ⟨HJ.out.hlen.1, by simp⟩, HJ.out.hfrom, HJ.out.hto⟩, (HF.out.sub (by simp)).trans (HF3.out.sub (by simp))⟩

set_option maxHeartbeats 8000000 in
set_option maxRecDepth 100000 in
theorem T.RecvC1 (P M Q base n : Nat) (s s2 : AS) (c : CS) (sl cl : List ByteArray) (pl : List Value) (err rn : Int) (dl : List ByteArray) (w : World) (h : CJ w P M Q base n s c sl cl) (hpl : pl.length = 40)
    (hcall : ∀ wc, FC [] (w.alloc (.cells pl.toArray 57)) wc → Calls Try.prog 20 #[.pointer (some ⟨P, 0, none⟩), .agg pl.toArray] wc fun e w' => ∃ d n', e = .returned (.tuple #[.agg (rep err rn d), .bool true]) ∧ Kd.R Kd.string 9 w' wc.heap.size (fun _ => True) d dl ∧ AK w' P M n' s2 ∧ n' ≤ n + 1 ∧ FC [P, M] wc w') (hcmd : s2.cmd = s.cmd) (hst : c.stage = 1) (hb2 : s2.busy = false) (hnum2 : s2.num ≤ 80000) (hdl : dl.length ≤ 1000) (he : err = 0) :
    Calls Try.prog 10 #[.pointer (some ⟨Q, 0, none⟩), .agg pl.toArray] w fun e w' => e = .returned (.int .i64 0) ∧ ∃ n', n' ≤ n + 1 ∧ (∃ d2 d3, CJ w' P M Q base n' { s2 with num := s2.num + 1, group := c.tgo, cmd := ⟨8, s2.id, s2.num + 1, c.lo, c.hi, 0, d2⟩, busy := true, sent := false } { c with stage := 2, data := d3 } dl dl) ∧ FC [P, M, Q] w w' := by
  obtain ⟨hPQ, hMQ⟩ := h.ne
  have HJ := Aside.mk h
  have HPL := Aside.mk hpl
  have hbx : Below w.heap.size w (w.alloc (.cells pl.toArray 57)) := (Below.refl _ _).alloc (Nat.le_refl _) _
  have hQ1 : CP (w.alloc (.cells pl.toArray 57)) Q (some ⟨P, 0, none⟩) c := (hbx.block Q (Array.getElem?_eq_some_iff.1 h.ctl).1).trans h.ctl
  have hN := Aside.mk (T.nobodyF Q _ _ _ hQ1)
  have HQ1 := Aside.mk hQ1
  have HBX := Aside.mk hbx
  have HX1 := Aside.mk (heap_alloc_new w (.cells pl.toArray 57))
  have HCall := Aside.mk hcall
  clear h hpl hbx hQ1 hcall
  go_enter Try.func10, Try.ntmps10
  go_wp2_with (first | (go_at_call 15; refine hN.out.mono ?_; rintro e w' ⟨rfl, hw⟩; subst w'))
  have hQr := HQ1.out
  have hXrow := HX1.out
  have hs1 : (w.alloc (.cells pl.toArray 57)).heap.size = w.heap.size + 1 := by simp
  have hcall := HCall.out
  generalize w.alloc (.cells pl.toArray 57) = w1 at hQr hXrow hcall HBX hs1 ⊢
  obtain ⟨X, hX⟩ : ∃ X, X = w.heap.size := ⟨_, rfl⟩
  rw [← hX] at hXrow ⊢
  have hbb := HJ.out.hbase
  have hP := HJ.out.hP
  have hM := HJ.out.hM
  have hQ := HJ.out.hQ
  have hPlt : P < w1.heap.size := by omega
  have hMlt : M < w1.heap.size := by omega
  have hQlt : Q < w1.heap.size := by omega
  have hXlt : X < w1.heap.size := by omega
  have hQP : Q ≠ P := hPQ.symm
  have hQM : Q ≠ M := hMQ.symm
  have hXP : X ≠ P := by omega
  have hXM : X ≠ M := by omega
  have HS1 := Aside.mk hs1
  have HX := Aside.mk hX
  clear hX HX1 HQ1 HCall hN hs1 hbb hP hM hQ
  obtain ⟨b, hb⟩ : ∃ b, b = true := ⟨_, rfl⟩
  rw [← hb] at hcall
  let I : (Value × Nat × Nat) → Bool → Bool → Bool → World → Prop := fun g f5 f9 f10 w' => FC (if f5 = true then [P, M] else []) w1 w' ∧ (f5 = true → Kd.R Kd.string 9 w' w1.heap.size (fun k => f9 = true → k ≠ g.2.1) g.1 dl ∧ AK w' P M g.2.2 s2 ∧ g.2.2 ≤ n + 1) ∧ (f9 = true → w1.heap.size ≤ g.2.1 ∧ w'.heap[g.2.1]? = some (.cells (if f10 = true then rep err rn g.1 else Z6) 52 (0, 0))) ∧ (f10 = true → f5 = true ∧ f9 = true)
  let W : (Value × Nat × Nat) → Array Bool → World → Prop := fun g listed w' => I g (listed.getD 5 false) (listed.getD 9 false) (listed.getD 10 false) w' ∧ (listed.getD 6 false = true → listed.getD 5 false = true) ∧ (listed.getD 7 false = true → listed.getD 5 false = true)
  have hkeep : ∀ g listed w' i, i < listed.size → i ≠ 5 ∧ i ≠ 9 ∧ i ≠ 10 → (i = 6 ∨ i = 7 → listed.getD 5 false = true) → W g listed w' → W g (listed.setIfInBounds i true) w' := fun g listed w' i hi hne h67 hW => by
    obtain ⟨h1, h2, h3⟩ := hW
    refine ⟨?_, fun h => ?_, fun h => ?_⟩
    · rw [getD_set _ _ _ _ _ hi, getD_set _ _ _ _ _ hi, getD_set _ _ _ _ _ hi, if_neg (Ne.symm hne.1), if_neg (Ne.symm hne.2.1), if_neg (Ne.symm hne.2.2)]; exact h1
    · rw [getD_set _ _ _ _ _ hi] at h ⊢
      rw [if_neg (Ne.symm hne.1)]
      by_cases e : 6 = i
      · exact h67 (.inl e.symm)
      · rw [if_neg e] at h; exact h2 h
    · rw [getD_set _ _ _ _ _ hi] at h ⊢
      rw [if_neg (Ne.symm hne.1)]
      by_cases e : 7 = i
      · exact h67 (.inr e.symm)
      · rw [if_neg e] at h; exact h3 h
  have hQc : ∀ (g : Value × Nat × Nat) (f5 : Bool) (w' : World), FC (if f5 = true then [P, M] else []) w1 w' → w'.cell? ⟨Q, 0, none⟩ = some (.pointer (some ⟨P, 0, none⟩)) := fun _ f5 w' hf => by
    rw [cell_of_row _ _ _ _ _ _ ((hf.block Q hQlt (by split <;> simp [hQP, hQM])).trans hQr)]; rfl
  have hXr : ∀ (g : Value × Nat × Nat) (f5 : Bool) (w' : World), FC (if f5 = true then [P, M] else []) w1 w' → w'.rangeAt X 0 pl := fun _ f5 w' hf => range_row ((hf.block X hXlt (by split <;> simp [hXP, hXM])).trans hXrow)
  refine wp_region_confG (by kernel_rfl) (fun (g : Value × Nat × Nat) i => rv3 err rn b P Q pl g i) W (.slice none 0 0, 0, 0) (by kernel_rfl) ?h0 ?hex ?hfin
  case h0 => exact ⟨⟨by simp; exact (FC.refl _ _).drew, fun h => by simp at h, fun h => by simp at h, fun h => by simp at h⟩, fun h => by simp at h, fun h => by simp at h⟩
  case hex =>
    intro g i o listed a w' ho hs hn hp hd hW
    have hi : i < 12 := (Array.getElem?_eq_some_iff.1 ho).1
    have hs12 : listed.size = 12 := hs
    have hil : i < listed.size := by omega
    have hcase : i = 0 ∨ i = 1 ∨ i = 2 ∨ i = 3 ∨ i = 4 ∨ i = 5 ∨ i = 6 ∨ i = 7 ∨ i = 8 ∨ i = 9 ∨ i = 10 ∨ i = 11 := by omega
    rcases hcase with rfl | rfl | rfl | rfl | rfl | rfl | rfl | rfl | rfl | rfl | rfl | rfl
    all_goals
      simp only [List.getElem?_toArray, List.getElem?_cons_succ, List.getElem?_cons_zero, Option.some.injEq] at ho
      subst ho
      refine ⟨rfl, ?_⟩
    · have e0 := hd.base 0 (.pointer (some ⟨Q, 0, none⟩)) (by kernel_rfl) rfl
      exact wp_val ((.pointer (some ⟨Q, 0, none⟩))) (by simp only [execOp, e0]; simp [go_sem]) ⟨g, fun _ _ => rfl, rfl, hkeep g listed w' 0 hil (by decide) (fun h => by omega) hW⟩
    · have l0 := hp { on := 0, ground := Ground.data } (by simp) rfl
      have e10 : a.eval (.tmp 10) = (.pointer (some ⟨Q, 0, none⟩)) := hd.ev 0 10 rfl l0
      exact wp_val ((.pointer (some ⟨Q, 0, none⟩))) (by simp only [execOp, e10]; simp [go_sem]) ⟨g, fun _ _ => rfl, rfl, hkeep g listed w' 1 hil (by decide) (fun h => by omega) hW⟩
    · have l1 := hp { on := 1, ground := Ground.data } (by simp) rfl
      have e11 : a.eval (.tmp 11) = (.pointer (some ⟨Q, 0, none⟩)) := hd.ev 1 11 rfl l1
      exact wp_val ((.pointer (some ⟨Q, 0, none⟩))) (by simp only [execOp, e11]; simp [go_sem]) ⟨g, fun _ _ => rfl, rfl, hkeep g listed w' 2 hil (by decide) (fun h => by omega) hW⟩
    · have l2 := hp { on := 2, ground := Ground.data } (by simp) rfl
      have e12 : a.eval (.tmp 12) = (.pointer (some ⟨Q, 0, none⟩)) := hd.ev 2 12 rfl l2
      have hq := hQc g _ w' hW.1.1
      exact wp_val ((.pointer (some ⟨P, 0, none⟩))) (by simp only [execOp, e12]; simp [go_sem, hq]) ⟨g, fun _ _ => rfl, rfl, hkeep g listed w' 3 hil (by decide) (fun h => by omega) hW⟩
    · have e3 := hd.base 3 (.pointer (some ⟨X, 0, none⟩)) (by kernel_rfl) rfl
      exact wp_load_mid 57 (.tmp 3) rfl X 0 e3 pl _ (hXr g _ w' hW.1.1) Try.underlying57 rfl (by rw [HPL.out]; kernel_rfl) ⟨g, fun _ _ => rfl, rfl, hkeep g listed w' 4 hil (by decide) (fun h => by omega) hW⟩
    · have l3 := hp { on := 3, ground := Ground.data } (by simp) rfl
      have e13 : a.eval (.tmp 13) = (.pointer (some ⟨P, 0, none⟩)) := hd.ev 3 13 rfl l3
      have l4 := hp { on := 4, ground := Ground.data } (by simp) rfl
      have e14 : a.eval (.tmp 14) = (.agg pl.toArray) := hd.ev 4 14 rfl l4
      obtain ⟨⟨i1, i2, i3, i4⟩, h65, h75⟩ := hW
      have hf10 : listed.getD 10 false = false := by
        cases h : listed.getD 10 false with
        | false => rfl
        | true => rw [(i4 h).1] at hn; cases hn
      rw [hn, if_neg (by simp)] at i1
      refine wp_calls 20 #[.tmp 13, .tmp 14] #[31, 57] rfl (enters_of Try.func20 (by kernel_rfl) rfl) #[.pointer (some ⟨P, 0, none⟩), .agg pl.toArray] (by simp [e13, e14]) ((hcall w' i1).mono ?_)
      rintro e' w4 ⟨d, n', rfl, hr4, hA4, hn4, hF4⟩
      refine ⟨_, rfl, (d, g.2.1, n'), fun j hj => ?_, rfl, ?_⟩
      · have hj5 : j ≠ 5 := fun e => by subst e; rw [hj] at hn; cases hn
        have hj6 : j ≠ 6 := fun e => by subst e; rw [h65 hj] at hn; cases hn
        have hj7 : j ≠ 7 := fun e => by subst e; rw [h75 hj] at hn; cases hn
        exact vget err rn b P Q pl g d n' j hj5 hj6 hj7
      · refine ⟨?_, fun h => ?_, fun h => ?_⟩
        rotate_left
        · rw [getD_set _ _ _ _ _ hil, if_pos rfl]
        · rw [getD_set _ _ _ _ _ hil, if_pos rfl]
        have hs5 : (listed.setIfInBounds 5 true).getD 5 false = true := by rw [getD_set _ _ _ _ _ hil, if_pos rfl]
        have hs9 : (listed.setIfInBounds 5 true).getD 9 false = listed.getD 9 false := by rw [getD_set _ _ _ _ _ hil, if_neg (by decide)]
        have hs10 : (listed.setIfInBounds 5 true).getD 10 false = false := by rw [getD_set _ _ _ _ _ hil, if_neg (by decide), hf10]
        rw [hs5, hs9, hs10]
        refine ⟨?_, fun _ => ⟨?_, hA4, hn4⟩, fun h9 => ?_, fun h => by cases h⟩
        · rw [if_pos rfl]; exact (i1.sub (by simp)).trans hF4
        · refine Kd.R_lower (Kd.R_mono (Kd.R_bound hr4) (fun k hk h9 e => ?_)) i1.size
          have h9' := (i3 h9).2
          have hlt := (Array.getElem?_eq_some_iff.1 h9').1
          have := hk.2.1
          simp only at e
          omega
        · obtain ⟨h91, h92⟩ := i3 h9
          rw [hf10] at h92
          refine ⟨h91, (hF4.block _ (Array.getElem?_eq_some_iff.1 h92).1 ?_).trans h92⟩
          have h1 := hPlt; have h2 := hMlt
          simp only [List.mem_cons, List.not_mem_nil, or_false, not_or]
          omega
    · have l5 := hp { on := 5, ground := Ground.data } (by simp) rfl
      have e15 : a.eval (.tmp 15) = (.tuple #[.agg (rep err rn g.1), .bool b]) := hd.ev 5 15 rfl l5
      exact wp_val ((.tuple #[.agg (rep err rn g.1), .bool b])) (by simp only [execOp, e15]; simp [go_sem]) ⟨g, fun _ _ => rfl, rfl, hkeep g listed w' 6 hil (by decide) (fun _ => l5) hW⟩
    · have l6 := hp { on := 6, ground := Ground.data } (by simp) rfl
      have e9 : a.eval (.tmp 9) = (.tuple #[.agg (rep err rn g.1), .bool b]) := hd.ev 6 9 rfl l6
      exact wp_val ((.agg (rep err rn g.1))) (by simp only [execOp, e9]; simp [go_sem]) ⟨g, fun _ _ => rfl, rfl, hkeep g listed w' 7 hil (by decide) (fun _ => hW.2.1 l6) hW⟩
    · have l6 := hp { on := 6, ground := Ground.data } (by simp) rfl
      have e9 : a.eval (.tmp 9) = (.tuple #[.agg (rep err rn g.1), .bool b]) := hd.ev 6 9 rfl l6
      exact wp_val ((.bool b)) (by simp only [execOp, e9]; simp [go_sem]) ⟨g, fun _ _ => rfl, rfl, hkeep g listed w' 8 hil (by decide) (fun h => by omega) hW⟩
    · refine wp_val (w2 := w'.alloc (.cells Z6 52)) (.pointer (some ⟨w'.heap.size, 0, none⟩)) (by simp [execOp, go_sem, Z6]) ⟨(g.1, w'.heap.size, g.2.2), fun j hj => ?_, rfl, ?_⟩
      · have hj9 : j ≠ 9 := fun e => by subst e; rw [hj] at hn; cases hn
        exact vget9 err rn b P Q pl g w'.heap.size j hj9
      · obtain ⟨⟨i1, i2, i3, i4⟩, h65, h75⟩ := hW
        have hf10 : listed.getD 10 false = false := by
          cases h : listed.getD 10 false with
          | false => rfl
          | true => rw [(i4 h).2] at hn; cases hn
        refine ⟨?_, fun h => ?_, fun h => ?_⟩
        rotate_left
        · rw [getD_set _ _ _ _ _ hil, if_neg (by decide)] at h; rw [getD_set _ _ _ _ _ hil, if_neg (by decide)]; exact h65 h
        · rw [getD_set _ _ _ _ _ hil, if_neg (by decide)] at h; rw [getD_set _ _ _ _ _ hil, if_neg (by decide)]; exact h75 h
        have hs5 : (listed.setIfInBounds 9 true).getD 5 false = listed.getD 5 false := by rw [getD_set _ _ _ _ _ hil, if_neg (by decide)]
        have hs9 : (listed.setIfInBounds 9 true).getD 9 false = true := by rw [getD_set _ _ _ _ _ hil, if_pos rfl]
        have hs10 : (listed.setIfInBounds 9 true).getD 10 false = false := by rw [getD_set _ _ _ _ _ hil, if_neg (by decide), hf10]
        rw [hs5, hs9, hs10]
        refine ⟨i1.alloc _, fun h5 => ?_, fun _ => ⟨i1.size, heap_alloc_new w' _⟩, fun h => by cases h⟩
        obtain ⟨r1, r2, r3⟩ := i2 h5
        refine ⟨?_, r2.of_fc (S := []) ((FC.refl _ _).alloc _) (by simp) (by simp), r3⟩
        exact Kd.R_mono (Kd.R_bound (Kd.R_alloc (Kd.R_mono (Kd.R_bound r1) (fun k hk => hk.2.2.1)) _)) (fun k hk _ e => by have := hk.1; simp only at e; omega)
    · have l9 := hp { on := 9, ground := Ground.data } (by simp) rfl
      have e5 : a.eval (.tmp 5) = (.pointer (some ⟨g.2.1, 0, none⟩)) := hd.ev 9 5 rfl l9
      have l7 := hp { on := 7, ground := Ground.data } (by simp) rfl
      have e16 : a.eval (.tmp 16) = (.agg (rep err rn g.1)) := hd.ev 7 16 rfl l7
      have l5 := hp { on := 5, ground := Ground.chain } (by simp) rfl
      have l5 := hp { on := 5, ground := Ground.chain } (by simp) rfl
      obtain ⟨⟨i1, i2, i3, i4⟩, h65, h75⟩ := hW
      obtain ⟨r1, r2, r3⟩ := i2 l5
      obtain ⟨y1, y2⟩ := i3 l9
      rw [hn] at y2
      rw [l5, if_pos rfl] at i1
      obtain ⟨A9, c9, hg9, _⟩ := Kd.R_reads r1
      refine wp_store_mid 52 (.tmp 5) (.tmp 16) rfl g.2.1 0 (rep err rn g.1) e5 e16 (there_row y2 _ (by rfl)) (by kernel_rfl) (by rw [hg9]; simp [rep, Value.oneCell']) ⟨g, fun _ _ => rfl, rfl, ?_⟩
      refine ⟨?_, fun h => ?_, fun h => ?_⟩
      rotate_left
      · rw [getD_set _ _ _ _ _ hil, if_neg (by decide)] at h; rw [getD_set _ _ _ _ _ hil, if_neg (by decide)]; exact h65 h
      · rw [getD_set _ _ _ _ _ hil, if_neg (by decide)] at h; rw [getD_set _ _ _ _ _ hil, if_neg (by decide)]; exact h75 h
      have hs5 : (listed.setIfInBounds 10 true).getD 5 false = true := by rw [getD_set _ _ _ _ _ hil, if_neg (by decide), l5]
      have hs9 : (listed.setIfInBounds 10 true).getD 9 false = true := by rw [getD_set _ _ _ _ _ hil, if_neg (by decide), l9]
      have hs10 : (listed.setIfInBounds 10 true).getD 10 false = true := by rw [getD_set _ _ _ _ _ hil, if_pos rfl]
      rw [hs5, hs9, hs10]
      have hfy : FC [g.2.1] w' (w'.setCells g.2.1 0 (rep err rn g.1).toList) := FC.setCells (.inl (by simp)) _ _ _ (FC.refl _ _)
      refine ⟨?_, fun _ => ⟨?_, r2.of_fc hfy ?_ ?_, r3⟩, fun _ => ⟨y1, fill_row y2 _ (by rfl)⟩, fun _ => ⟨rfl, rfl⟩⟩
      · rw [if_pos rfl]; exact FC.setCells (.inr y1) _ _ _ i1
      · exact Kd.R_mono (Kd.R_step r1 (fun k hk hlt => hfy.block k hlt (by simpa using hk l9))) (fun k hk _ => hk l9)
      · have h1 := hPlt; simp; omega
      · have h1 := hMlt; simp; omega
    · have l8 := hp { on := 8, ground := Ground.data } (by simp) rfl
      have e17 : a.eval (.tmp 17) = (.bool b) := hd.ev 8 17 rfl l8
      have l10 := hp { on := 10, ground := Ground.chain } (by simp) rfl
      exact wp_val ((.bool b)) (by simp only [execOp, e17]; simp [go_sem]) ⟨g, fun _ _ => rfl, rfl, hkeep g listed w' 11 hil (by decide) (fun h => by omega) hW⟩
  case hfin =>
    intro g listed a w2 hs hall hd hW
    have h5 := hall 5 (by decide)
    have h9 := hall 9 (by decide)
    have h10 := hall 10 (by decide)
    obtain ⟨⟨i1, i2, i3, i4⟩, _, _⟩ := hW
    rw [h5] at i1 i2
    rw [h9, h10] at i3
    rw [if_pos rfl] at i1
    obtain ⟨r1, r2, r3⟩ := i2 rfl
    obtain ⟨y1, y2⟩ := i3 rfl
    rw [if_pos rfl] at y2
    have HR1 := Aside.mk (Kd.R_mono r1 (fun _ _ => trivial) : Kd.R Kd.string 9 w2 w1.heap.size (fun _ => True) g.1 dl)
    obtain ⟨d, Y, n'⟩ := g
    dsimp only at HR1 r2 r3 y1 y2
    have HA2 := Aside.mk r2
    have HN2 := Aside.mk r3
    have HF2 := Aside.mk i1
    have HY2 := Aside.mk y2
    have HYw := Aside.mk y1
    rw [hd.full (md := .any) (fits_of (by kernel_rfl)) hall]
    clear hd hall hs i1 i2 i3 i4 r1 r2 r3 y1 y2 h5 h9 h10 hkeep hQc hXr W I
    simp only [rv3, List.size_toArray, List.length_cons, List.length_nil, Nat.reduceAdd, fill, List.getElem?_toArray, List.getElem?_cons_succ, List.getElem?_cons_zero, Option.bind_some, List.setIfInBounds_toArray, List.set_cons_succ, List.set_cons_zero, List.getD_cons_succ, List.getD_cons_zero]
    have HQr := (HF2.out.block Q hQlt (by simp [hQP, hQM])).trans hQr
    have hF : FC [P, M] w w2 := (FC.of HBX.out).trans HF2.out
    have hPb := HJ.out.hP
    have hMb := HJ.out.hM
    have hlow : ∀ k ∈ [P, M], k < base := fun k hk => by have : k = P ∨ k = M := by simpa using hk
                                                         omega
    have hJ2 : CJ w2 P M Q base n' s2 c sl cl := ⟨HA2.out, HQr, by rw [hcmd]; exact R_fc HJ.out.srow hF hlow, R_fc HJ.out.crow hF hlow, HJ.out.hP, HJ.out.hM, HJ.out.hQ, Nat.le_trans HJ.out.hbase hF.size, HJ.out.hlen, HJ.out.hfrom, HJ.out.hto⟩
    have hbw1 : base ≤ w1.heap.size := by have := HJ.out.hbase; have := HBX.out.size; omega
    have hQY : Q ≠ Y := by have := HYw.out; have := HJ.out.hQ; omega
    have hRd : Kd.R Kd.string 9 w2 base (fun _ => True) d dl := Kd.R_lower HR1.out hbw1
    clear hQr hXrow hcall hPb hMb hlow HR1 HA2 HPL HBX HX HS1 HYw
    subst hb
    obtain ⟨stage, lo, hi, fr, tgo, data, ce, en⟩ := c
    obtain ⟨A9, c9, hd9, _⟩ := Kd.R_reads hRd
    dsimp only at hst
    subst hst
    subst hd9
    have q1 : w2.cell? ⟨Q, 1, none⟩ = some (.int .i64 1) := by rw [cell_of_row _ _ _ _ _ _ HQr]; rfl
    have q6 : w2.cell? ⟨Q, 6, none⟩ = some data := by rw [cell_of_row _ _ _ _ _ _ HQr]; rfl
    have q7 : w2.cell? ⟨Q, 7, none⟩ = some (.int .i64 ce) := by rw [cell_of_row _ _ _ _ _ _ HQr]; rfl
    have y0 : w2.cell? ⟨Y, 0, none⟩ = some (.int .i64 err) := by rw [cell_of_row _ _ _ _ _ _ HY2.out]; rfl
    have y4 : w2.cell? ⟨Y, 4, none⟩ = some (.slice A9 dl.length c9) := by rw [cell_of_row _ _ _ _ _ _ HY2.out]; rfl
    have fq : ∀ k, w2.frozen? ⟨Q, k, none⟩ = false := fun k => frozen_of_row w2 Q k _ _ HQr
    have HJ2 := Aside.mk hJ2
    have HF := Aside.mk hF
    have HRd := Aside.mk hRd
    have HQc := Aside.mk HQr
    clear hJ2 hF hRd HQr hcmd
    have hF3 : FC [Q] w2 (w2.setCell ⟨Q, 6, none⟩ (.slice A9 dl.length c9)) := (FC.refl _ _).setCell (p := ⟨Q, 6, none⟩) (.inl (by simp)) _
    have hC3 := heap_setCell_same w2 Q 6 _ _ (.slice A9 dl.length c9) HQc.out
    simp only [CS.cells, List.setIfInBounds_toArray, List.set_cons_succ, List.set_cons_zero] at hC3
    have hQb := HJ.out.hQ
    have h1 : ∀ k ∈ [Q], k < base := fun k hk => by have : k = Q := by simpa using hk
                                                    omega
    have hJ3 : CJ (w2.setCell ⟨Q, 6, none⟩ (.slice A9 dl.length c9)) P M Q base n' s2 ⟨1, lo, hi, fr, tgo, .slice A9 dl.length c9, ce, en⟩ sl dl := ⟨HJ2.out.ask.of_fc hF3 (by simpa using hPQ) (by simpa using hMQ), hC3, R_fc HJ2.out.srow hF3 h1, R_fc HRd.out hF3 h1, HJ.out.hP, HJ.out.hM, HJ.out.hQ, Nat.le_trans HJ2.out.hbase hF3.size, ⟨HJ.out.hlen.1, hdl⟩, HJ.out.hfrom, HJ.out.hto⟩
    have hG := T.goes2 P M Q base n' s2 ⟨1, lo, hi, fr, tgo, .slice A9 dl.length c9, ce, en⟩ sl dl _ hJ3 hb2 hnum2
    have HG := Aside.mk hG
    have HF3 := Aside.mk hF3
    clear hF3 hC3 hQb h1 hJ3 hG
    go_wp2_with fail
    refine HG.out.mono ?_
    rintro e w4 ⟨rfl, d2, hJ4, hF4⟩
    have HJ4 := Aside.mk hJ4
    have HF4 := Aside.mk hF4
    clear hJ4 hF4
    go_wp2
    go_ret
    exact ⟨rfl, n', HN2.out, ⟨d2, _, HJ4.out⟩, ((HF.out.sub (by simp)).trans (HF3.out.sub (by simp))).trans (HF4.out.sub (by simp))⟩

set_option maxHeartbeats 8000000 in
set_option maxRecDepth 100000 in
theorem T.RecvC2e (P M Q base n : Nat) (s s2 : AS) (c : CS) (sl cl : List ByteArray) (pl : List Value) (err rn : Int) (dl : List ByteArray) (w : World) (h : CJ w P M Q base n s c sl cl) (hpl : pl.length = 40)
    (hcall : ∀ wc, FC [] (w.alloc (.cells pl.toArray 57)) wc → Calls Try.prog 20 #[.pointer (some ⟨P, 0, none⟩), .agg pl.toArray] wc fun e w' => ∃ d n', e = .returned (.tuple #[.agg (rep err rn d), .bool true]) ∧ Kd.R Kd.string 9 w' wc.heap.size (fun _ => True) d dl ∧ AK w' P M n' s2 ∧ n' ≤ n + 1 ∧ FC [P, M] wc w') (hcmd : s2.cmd = s.cmd) (hst : c.stage = 2) (hb2 : s2.busy = false) (hnum2 : s2.num ≤ 80000) (hdl : dl.length ≤ 1000) (he : (err == 0) = false) :
    Calls Try.prog 10 #[.pointer (some ⟨Q, 0, none⟩), .agg pl.toArray] w fun e w' => e = .returned (.int .i64 0) ∧ ∃ n', n' ≤ n + 1 ∧ (∃ d2 d3, CJ w' P M Q base n' { s2 with num := s2.num + 1, group := c.from', cmd := ⟨8, s2.id, s2.num + 1, c.lo, c.hi, 0, d2⟩, busy := true, sent := false } { c with stage := 4, e := err, data := d3 } cl cl) ∧ FC [P, M, Q] w w' := by
  obtain ⟨hPQ, hMQ⟩ := h.ne
  have HJ := Aside.mk h
  have HPL := Aside.mk hpl
  have hbx : Below w.heap.size w (w.alloc (.cells pl.toArray 57)) := (Below.refl _ _).alloc (Nat.le_refl _) _
  have hQ1 : CP (w.alloc (.cells pl.toArray 57)) Q (some ⟨P, 0, none⟩) c := (hbx.block Q (Array.getElem?_eq_some_iff.1 h.ctl).1).trans h.ctl
  have hN := Aside.mk (T.nobodyF Q _ _ _ hQ1)
  have HQ1 := Aside.mk hQ1
  have HBX := Aside.mk hbx
  have HX1 := Aside.mk (heap_alloc_new w (.cells pl.toArray 57))
  have HCall := Aside.mk hcall
  clear h hpl hbx hQ1 hcall
  go_enter Try.func10, Try.ntmps10
  go_wp2_with (first | (go_at_call 15; refine hN.out.mono ?_; rintro e w' ⟨rfl, hw⟩; subst w'))
  have hQr := HQ1.out
  have hXrow := HX1.out
  have hs1 : (w.alloc (.cells pl.toArray 57)).heap.size = w.heap.size + 1 := by simp
  have hcall := HCall.out
  generalize w.alloc (.cells pl.toArray 57) = w1 at hQr hXrow hcall HBX hs1 ⊢
  obtain ⟨X, hX⟩ : ∃ X, X = w.heap.size := ⟨_, rfl⟩
  rw [← hX] at hXrow ⊢
  have hbb := HJ.out.hbase
  have hP := HJ.out.hP
  have hM := HJ.out.hM
  have hQ := HJ.out.hQ
  have hPlt : P < w1.heap.size := by omega
  have hMlt : M < w1.heap.size := by omega
  have hQlt : Q < w1.heap.size := by omega
  have hXlt : X < w1.heap.size := by omega
  have hQP : Q ≠ P := hPQ.symm
  have hQM : Q ≠ M := hMQ.symm
  have hXP : X ≠ P := by omega
  have hXM : X ≠ M := by omega
  have HS1 := Aside.mk hs1
  have HX := Aside.mk hX
  clear hX HX1 HQ1 HCall hN hs1 hbb hP hM hQ
  obtain ⟨b, hb⟩ : ∃ b, b = true := ⟨_, rfl⟩
  rw [← hb] at hcall
  let I : (Value × Nat × Nat) → Bool → Bool → Bool → World → Prop := fun g f5 f9 f10 w' => FC (if f5 = true then [P, M] else []) w1 w' ∧ (f5 = true → Kd.R Kd.string 9 w' w1.heap.size (fun k => f9 = true → k ≠ g.2.1) g.1 dl ∧ AK w' P M g.2.2 s2 ∧ g.2.2 ≤ n + 1) ∧ (f9 = true → w1.heap.size ≤ g.2.1 ∧ w'.heap[g.2.1]? = some (.cells (if f10 = true then rep err rn g.1 else Z6) 52 (0, 0))) ∧ (f10 = true → f5 = true ∧ f9 = true)
  let W : (Value × Nat × Nat) → Array Bool → World → Prop := fun g listed w' => I g (listed.getD 5 false) (listed.getD 9 false) (listed.getD 10 false) w' ∧ (listed.getD 6 false = true → listed.getD 5 false = true) ∧ (listed.getD 7 false = true → listed.getD 5 false = true)
  have hkeep : ∀ g listed w' i, i < listed.size → i ≠ 5 ∧ i ≠ 9 ∧ i ≠ 10 → (i = 6 ∨ i = 7 → listed.getD 5 false = true) → W g listed w' → W g (listed.setIfInBounds i true) w' := fun g listed w' i hi hne h67 hW => by
    obtain ⟨h1, h2, h3⟩ := hW
    refine ⟨?_, fun h => ?_, fun h => ?_⟩
    · rw [getD_set _ _ _ _ _ hi, getD_set _ _ _ _ _ hi, getD_set _ _ _ _ _ hi, if_neg (Ne.symm hne.1), if_neg (Ne.symm hne.2.1), if_neg (Ne.symm hne.2.2)]; exact h1
    · rw [getD_set _ _ _ _ _ hi] at h ⊢
      rw [if_neg (Ne.symm hne.1)]
      by_cases e : 6 = i
      · exact h67 (.inl e.symm)
      · rw [if_neg e] at h; exact h2 h
    · rw [getD_set _ _ _ _ _ hi] at h ⊢
      rw [if_neg (Ne.symm hne.1)]
      by_cases e : 7 = i
      · exact h67 (.inr e.symm)
      · rw [if_neg e] at h; exact h3 h
  have hQc : ∀ (g : Value × Nat × Nat) (f5 : Bool) (w' : World), FC (if f5 = true then [P, M] else []) w1 w' → w'.cell? ⟨Q, 0, none⟩ = some (.pointer (some ⟨P, 0, none⟩)) := fun _ f5 w' hf => by
    rw [cell_of_row _ _ _ _ _ _ ((hf.block Q hQlt (by split <;> simp [hQP, hQM])).trans hQr)]; rfl
  have hXr : ∀ (g : Value × Nat × Nat) (f5 : Bool) (w' : World), FC (if f5 = true then [P, M] else []) w1 w' → w'.rangeAt X 0 pl := fun _ f5 w' hf => range_row ((hf.block X hXlt (by split <;> simp [hXP, hXM])).trans hXrow)
  refine wp_region_confG (by kernel_rfl) (fun (g : Value × Nat × Nat) i => rv3 err rn b P Q pl g i) W (.slice none 0 0, 0, 0) (by kernel_rfl) ?h0 ?hex ?hfin
  case h0 => exact ⟨⟨by simp; exact (FC.refl _ _).drew, fun h => by simp at h, fun h => by simp at h, fun h => by simp at h⟩, fun h => by simp at h, fun h => by simp at h⟩
  case hex =>
    intro g i o listed a w' ho hs hn hp hd hW
    have hi : i < 12 := (Array.getElem?_eq_some_iff.1 ho).1
    have hs12 : listed.size = 12 := hs
    have hil : i < listed.size := by omega
    have hcase : i = 0 ∨ i = 1 ∨ i = 2 ∨ i = 3 ∨ i = 4 ∨ i = 5 ∨ i = 6 ∨ i = 7 ∨ i = 8 ∨ i = 9 ∨ i = 10 ∨ i = 11 := by omega
    rcases hcase with rfl | rfl | rfl | rfl | rfl | rfl | rfl | rfl | rfl | rfl | rfl | rfl
    all_goals
      simp only [List.getElem?_toArray, List.getElem?_cons_succ, List.getElem?_cons_zero, Option.some.injEq] at ho
      subst ho
      refine ⟨rfl, ?_⟩
    · have e0 := hd.base 0 (.pointer (some ⟨Q, 0, none⟩)) (by kernel_rfl) rfl
      exact wp_val ((.pointer (some ⟨Q, 0, none⟩))) (by simp only [execOp, e0]; simp [go_sem]) ⟨g, fun _ _ => rfl, rfl, hkeep g listed w' 0 hil (by decide) (fun h => by omega) hW⟩
    · have l0 := hp { on := 0, ground := Ground.data } (by simp) rfl
      have e10 : a.eval (.tmp 10) = (.pointer (some ⟨Q, 0, none⟩)) := hd.ev 0 10 rfl l0
      exact wp_val ((.pointer (some ⟨Q, 0, none⟩))) (by simp only [execOp, e10]; simp [go_sem]) ⟨g, fun _ _ => rfl, rfl, hkeep g listed w' 1 hil (by decide) (fun h => by omega) hW⟩
    · have l1 := hp { on := 1, ground := Ground.data } (by simp) rfl
      have e11 : a.eval (.tmp 11) = (.pointer (some ⟨Q, 0, none⟩)) := hd.ev 1 11 rfl l1
      exact wp_val ((.pointer (some ⟨Q, 0, none⟩))) (by simp only [execOp, e11]; simp [go_sem]) ⟨g, fun _ _ => rfl, rfl, hkeep g listed w' 2 hil (by decide) (fun h => by omega) hW⟩
    · have l2 := hp { on := 2, ground := Ground.data } (by simp) rfl
      have e12 : a.eval (.tmp 12) = (.pointer (some ⟨Q, 0, none⟩)) := hd.ev 2 12 rfl l2
      have hq := hQc g _ w' hW.1.1
      exact wp_val ((.pointer (some ⟨P, 0, none⟩))) (by simp only [execOp, e12]; simp [go_sem, hq]) ⟨g, fun _ _ => rfl, rfl, hkeep g listed w' 3 hil (by decide) (fun h => by omega) hW⟩
    · have e3 := hd.base 3 (.pointer (some ⟨X, 0, none⟩)) (by kernel_rfl) rfl
      exact wp_load_mid 57 (.tmp 3) rfl X 0 e3 pl _ (hXr g _ w' hW.1.1) Try.underlying57 rfl (by rw [HPL.out]; kernel_rfl) ⟨g, fun _ _ => rfl, rfl, hkeep g listed w' 4 hil (by decide) (fun h => by omega) hW⟩
    · have l3 := hp { on := 3, ground := Ground.data } (by simp) rfl
      have e13 : a.eval (.tmp 13) = (.pointer (some ⟨P, 0, none⟩)) := hd.ev 3 13 rfl l3
      have l4 := hp { on := 4, ground := Ground.data } (by simp) rfl
      have e14 : a.eval (.tmp 14) = (.agg pl.toArray) := hd.ev 4 14 rfl l4
      obtain ⟨⟨i1, i2, i3, i4⟩, h65, h75⟩ := hW
      have hf10 : listed.getD 10 false = false := by
        cases h : listed.getD 10 false with
        | false => rfl
        | true => rw [(i4 h).1] at hn; cases hn
      rw [hn, if_neg (by simp)] at i1
      refine wp_calls 20 #[.tmp 13, .tmp 14] #[31, 57] rfl (enters_of Try.func20 (by kernel_rfl) rfl) #[.pointer (some ⟨P, 0, none⟩), .agg pl.toArray] (by simp [e13, e14]) ((hcall w' i1).mono ?_)
      rintro e' w4 ⟨d, n', rfl, hr4, hA4, hn4, hF4⟩
      refine ⟨_, rfl, (d, g.2.1, n'), fun j hj => ?_, rfl, ?_⟩
      · have hj5 : j ≠ 5 := fun e => by subst e; rw [hj] at hn; cases hn
        have hj6 : j ≠ 6 := fun e => by subst e; rw [h65 hj] at hn; cases hn
        have hj7 : j ≠ 7 := fun e => by subst e; rw [h75 hj] at hn; cases hn
        exact vget err rn b P Q pl g d n' j hj5 hj6 hj7
      · refine ⟨?_, fun h => ?_, fun h => ?_⟩
        rotate_left
        · rw [getD_set _ _ _ _ _ hil, if_pos rfl]
        · rw [getD_set _ _ _ _ _ hil, if_pos rfl]
        have hs5 : (listed.setIfInBounds 5 true).getD 5 false = true := by rw [getD_set _ _ _ _ _ hil, if_pos rfl]
        have hs9 : (listed.setIfInBounds 5 true).getD 9 false = listed.getD 9 false := by rw [getD_set _ _ _ _ _ hil, if_neg (by decide)]
        have hs10 : (listed.setIfInBounds 5 true).getD 10 false = false := by rw [getD_set _ _ _ _ _ hil, if_neg (by decide), hf10]
        rw [hs5, hs9, hs10]
        refine ⟨?_, fun _ => ⟨?_, hA4, hn4⟩, fun h9 => ?_, fun h => by cases h⟩
        · rw [if_pos rfl]; exact (i1.sub (by simp)).trans hF4
        · refine Kd.R_lower (Kd.R_mono (Kd.R_bound hr4) (fun k hk h9 e => ?_)) i1.size
          have h9' := (i3 h9).2
          have hlt := (Array.getElem?_eq_some_iff.1 h9').1
          have := hk.2.1
          simp only at e
          omega
        · obtain ⟨h91, h92⟩ := i3 h9
          rw [hf10] at h92
          refine ⟨h91, (hF4.block _ (Array.getElem?_eq_some_iff.1 h92).1 ?_).trans h92⟩
          have h1 := hPlt; have h2 := hMlt
          simp only [List.mem_cons, List.not_mem_nil, or_false, not_or]
          omega
    · have l5 := hp { on := 5, ground := Ground.data } (by simp) rfl
      have e15 : a.eval (.tmp 15) = (.tuple #[.agg (rep err rn g.1), .bool b]) := hd.ev 5 15 rfl l5
      exact wp_val ((.tuple #[.agg (rep err rn g.1), .bool b])) (by simp only [execOp, e15]; simp [go_sem]) ⟨g, fun _ _ => rfl, rfl, hkeep g listed w' 6 hil (by decide) (fun _ => l5) hW⟩
    · have l6 := hp { on := 6, ground := Ground.data } (by simp) rfl
      have e9 : a.eval (.tmp 9) = (.tuple #[.agg (rep err rn g.1), .bool b]) := hd.ev 6 9 rfl l6
      exact wp_val ((.agg (rep err rn g.1))) (by simp only [execOp, e9]; simp [go_sem]) ⟨g, fun _ _ => rfl, rfl, hkeep g listed w' 7 hil (by decide) (fun _ => hW.2.1 l6) hW⟩
    · have l6 := hp { on := 6, ground := Ground.data } (by simp) rfl
      have e9 : a.eval (.tmp 9) = (.tuple #[.agg (rep err rn g.1), .bool b]) := hd.ev 6 9 rfl l6
      exact wp_val ((.bool b)) (by simp only [execOp, e9]; simp [go_sem]) ⟨g, fun _ _ => rfl, rfl, hkeep g listed w' 8 hil (by decide) (fun h => by omega) hW⟩
    · refine wp_val (w2 := w'.alloc (.cells Z6 52)) (.pointer (some ⟨w'.heap.size, 0, none⟩)) (by simp [execOp, go_sem, Z6]) ⟨(g.1, w'.heap.size, g.2.2), fun j hj => ?_, rfl, ?_⟩
      · have hj9 : j ≠ 9 := fun e => by subst e; rw [hj] at hn; cases hn
        exact vget9 err rn b P Q pl g w'.heap.size j hj9
      · obtain ⟨⟨i1, i2, i3, i4⟩, h65, h75⟩ := hW
        have hf10 : listed.getD 10 false = false := by
          cases h : listed.getD 10 false with
          | false => rfl
          | true => rw [(i4 h).2] at hn; cases hn
        refine ⟨?_, fun h => ?_, fun h => ?_⟩
        rotate_left
        · rw [getD_set _ _ _ _ _ hil, if_neg (by decide)] at h; rw [getD_set _ _ _ _ _ hil, if_neg (by decide)]; exact h65 h
        · rw [getD_set _ _ _ _ _ hil, if_neg (by decide)] at h; rw [getD_set _ _ _ _ _ hil, if_neg (by decide)]; exact h75 h
        have hs5 : (listed.setIfInBounds 9 true).getD 5 false = listed.getD 5 false := by rw [getD_set _ _ _ _ _ hil, if_neg (by decide)]
        have hs9 : (listed.setIfInBounds 9 true).getD 9 false = true := by rw [getD_set _ _ _ _ _ hil, if_pos rfl]
        have hs10 : (listed.setIfInBounds 9 true).getD 10 false = false := by rw [getD_set _ _ _ _ _ hil, if_neg (by decide), hf10]
        rw [hs5, hs9, hs10]
        refine ⟨i1.alloc _, fun h5 => ?_, fun _ => ⟨i1.size, heap_alloc_new w' _⟩, fun h => by cases h⟩
        obtain ⟨r1, r2, r3⟩ := i2 h5
        refine ⟨?_, r2.of_fc (S := []) ((FC.refl _ _).alloc _) (by simp) (by simp), r3⟩
        exact Kd.R_mono (Kd.R_bound (Kd.R_alloc (Kd.R_mono (Kd.R_bound r1) (fun k hk => hk.2.2.1)) _)) (fun k hk _ e => by have := hk.1; simp only at e; omega)
    · have l9 := hp { on := 9, ground := Ground.data } (by simp) rfl
      have e5 : a.eval (.tmp 5) = (.pointer (some ⟨g.2.1, 0, none⟩)) := hd.ev 9 5 rfl l9
      have l7 := hp { on := 7, ground := Ground.data } (by simp) rfl
      have e16 : a.eval (.tmp 16) = (.agg (rep err rn g.1)) := hd.ev 7 16 rfl l7
      have l5 := hp { on := 5, ground := Ground.chain } (by simp) rfl
      have l5 := hp { on := 5, ground := Ground.chain } (by simp) rfl
      obtain ⟨⟨i1, i2, i3, i4⟩, h65, h75⟩ := hW
      obtain ⟨r1, r2, r3⟩ := i2 l5
      obtain ⟨y1, y2⟩ := i3 l9
      rw [hn] at y2
      rw [l5, if_pos rfl] at i1
      obtain ⟨A9, c9, hg9, _⟩ := Kd.R_reads r1
      refine wp_store_mid 52 (.tmp 5) (.tmp 16) rfl g.2.1 0 (rep err rn g.1) e5 e16 (there_row y2 _ (by rfl)) (by kernel_rfl) (by rw [hg9]; simp [rep, Value.oneCell']) ⟨g, fun _ _ => rfl, rfl, ?_⟩
      refine ⟨?_, fun h => ?_, fun h => ?_⟩
      rotate_left
      · rw [getD_set _ _ _ _ _ hil, if_neg (by decide)] at h; rw [getD_set _ _ _ _ _ hil, if_neg (by decide)]; exact h65 h
      · rw [getD_set _ _ _ _ _ hil, if_neg (by decide)] at h; rw [getD_set _ _ _ _ _ hil, if_neg (by decide)]; exact h75 h
      have hs5 : (listed.setIfInBounds 10 true).getD 5 false = true := by rw [getD_set _ _ _ _ _ hil, if_neg (by decide), l5]
      have hs9 : (listed.setIfInBounds 10 true).getD 9 false = true := by rw [getD_set _ _ _ _ _ hil, if_neg (by decide), l9]
      have hs10 : (listed.setIfInBounds 10 true).getD 10 false = true := by rw [getD_set _ _ _ _ _ hil, if_pos rfl]
      rw [hs5, hs9, hs10]
      have hfy : FC [g.2.1] w' (w'.setCells g.2.1 0 (rep err rn g.1).toList) := FC.setCells (.inl (by simp)) _ _ _ (FC.refl _ _)
      refine ⟨?_, fun _ => ⟨?_, r2.of_fc hfy ?_ ?_, r3⟩, fun _ => ⟨y1, fill_row y2 _ (by rfl)⟩, fun _ => ⟨rfl, rfl⟩⟩
      · rw [if_pos rfl]; exact FC.setCells (.inr y1) _ _ _ i1
      · exact Kd.R_mono (Kd.R_step r1 (fun k hk hlt => hfy.block k hlt (by simpa using hk l9))) (fun k hk _ => hk l9)
      · have h1 := hPlt; simp; omega
      · have h1 := hMlt; simp; omega
    · have l8 := hp { on := 8, ground := Ground.data } (by simp) rfl
      have e17 : a.eval (.tmp 17) = (.bool b) := hd.ev 8 17 rfl l8
      have l10 := hp { on := 10, ground := Ground.chain } (by simp) rfl
      exact wp_val ((.bool b)) (by simp only [execOp, e17]; simp [go_sem]) ⟨g, fun _ _ => rfl, rfl, hkeep g listed w' 11 hil (by decide) (fun h => by omega) hW⟩
  case hfin =>
    intro g listed a w2 hs hall hd hW
    have h5 := hall 5 (by decide)
    have h9 := hall 9 (by decide)
    have h10 := hall 10 (by decide)
    obtain ⟨⟨i1, i2, i3, i4⟩, _, _⟩ := hW
    rw [h5] at i1 i2
    rw [h9, h10] at i3
    rw [if_pos rfl] at i1
    obtain ⟨r1, r2, r3⟩ := i2 rfl
    obtain ⟨y1, y2⟩ := i3 rfl
    rw [if_pos rfl] at y2
    have HR1 := Aside.mk (Kd.R_mono r1 (fun _ _ => trivial) : Kd.R Kd.string 9 w2 w1.heap.size (fun _ => True) g.1 dl)
    obtain ⟨d, Y, n'⟩ := g
    dsimp only at HR1 r2 r3 y1 y2
    have HA2 := Aside.mk r2
    have HN2 := Aside.mk r3
    have HF2 := Aside.mk i1
    have HY2 := Aside.mk y2
    have HYw := Aside.mk y1
    rw [hd.full (md := .any) (fits_of (by kernel_rfl)) hall]
    clear hd hall hs i1 i2 i3 i4 r1 r2 r3 y1 y2 h5 h9 h10 hkeep hQc hXr W I
    simp only [rv3, List.size_toArray, List.length_cons, List.length_nil, Nat.reduceAdd, fill, List.getElem?_toArray, List.getElem?_cons_succ, List.getElem?_cons_zero, Option.bind_some, List.setIfInBounds_toArray, List.set_cons_succ, List.set_cons_zero, List.getD_cons_succ, List.getD_cons_zero]
    have HQr := (HF2.out.block Q hQlt (by simp [hQP, hQM])).trans hQr
    have hF : FC [P, M] w w2 := (FC.of HBX.out).trans HF2.out
    have hPb := HJ.out.hP
    have hMb := HJ.out.hM
    have hlow : ∀ k ∈ [P, M], k < base := fun k hk => by have : k = P ∨ k = M := by simpa using hk
                                                         omega
    have hJ2 : CJ w2 P M Q base n' s2 c sl cl := ⟨HA2.out, HQr, by rw [hcmd]; exact R_fc HJ.out.srow hF hlow, R_fc HJ.out.crow hF hlow, HJ.out.hP, HJ.out.hM, HJ.out.hQ, Nat.le_trans HJ.out.hbase hF.size, HJ.out.hlen, HJ.out.hfrom, HJ.out.hto⟩
    have hbw1 : base ≤ w1.heap.size := by have := HJ.out.hbase; have := HBX.out.size; omega
    have hQY : Q ≠ Y := by have := HYw.out; have := HJ.out.hQ; omega
    have hRd : Kd.R Kd.string 9 w2 base (fun _ => True) d dl := Kd.R_lower HR1.out hbw1
    clear hQr hXrow hcall hPb hMb hlow HR1 HA2 HPL HBX HX HS1 HYw
    subst hb
    obtain ⟨stage, lo, hi, fr, tgo, data, ce, en⟩ := c
    obtain ⟨A9, c9, hd9, _⟩ := Kd.R_reads hRd
    dsimp only at hst
    subst hst
    subst hd9
    have q1 : w2.cell? ⟨Q, 1, none⟩ = some (.int .i64 2) := by rw [cell_of_row _ _ _ _ _ _ HQr]; rfl
    have q6 : w2.cell? ⟨Q, 6, none⟩ = some data := by rw [cell_of_row _ _ _ _ _ _ HQr]; rfl
    have q7 : w2.cell? ⟨Q, 7, none⟩ = some (.int .i64 ce) := by rw [cell_of_row _ _ _ _ _ _ HQr]; rfl
    have y0 : w2.cell? ⟨Y, 0, none⟩ = some (.int .i64 err) := by rw [cell_of_row _ _ _ _ _ _ HY2.out]; rfl
    have y4 : w2.cell? ⟨Y, 4, none⟩ = some (.slice A9 dl.length c9) := by rw [cell_of_row _ _ _ _ _ _ HY2.out]; rfl
    have fq : ∀ k, w2.frozen? ⟨Q, k, none⟩ = false := fun k => frozen_of_row w2 Q k _ _ HQr
    have HJ2 := Aside.mk hJ2
    have HF := Aside.mk hF
    have HRd := Aside.mk hRd
    have HQc := Aside.mk HQr
    clear hJ2 hF hRd HQr hcmd
    have hF3 : FC [Q] w2 (w2.setCell ⟨Q, 7, none⟩ (.int .i64 err)) := (FC.refl _ _).setCell (p := ⟨Q, 7, none⟩) (.inl (by simp)) _
    have hC3 := heap_setCell_same w2 Q 7 _ _ (.int .i64 err) HQc.out
    simp only [CS.cells, List.setIfInBounds_toArray, List.set_cons_succ, List.set_cons_zero] at hC3
    have hQb := HJ.out.hQ
    have h1 : ∀ k ∈ [Q], k < base := fun k hk => by have : k = Q := by simpa using hk
                                                    omega
    have hJ3 : CJ (w2.setCell ⟨Q, 7, none⟩ (.int .i64 err)) P M Q base n' s2 ⟨2, lo, hi, fr, tgo, data, err, en⟩ sl cl := ⟨HJ2.out.ask.of_fc hF3 (by simpa using hPQ) (by simpa using hMQ), hC3, R_fc HJ2.out.srow hF3 h1, R_fc HJ2.out.crow hF3 h1, HJ.out.hP, HJ.out.hM, HJ.out.hQ, Nat.le_trans HJ2.out.hbase hF3.size, ⟨HJ.out.hlen.1, HJ.out.hlen.2⟩, HJ.out.hfrom, HJ.out.hto⟩
    have hG := T.goes4 P M Q base n' s2 ⟨2, lo, hi, fr, tgo, data, err, en⟩ sl cl _ hJ3 hb2 hnum2
    have HG := Aside.mk hG
    have HF3 := Aside.mk hF3
    clear hF3 hC3 hQb h1 hJ3 hG
    go_wp2_with fail
    refine HG.out.mono ?_
    rintro e w4 ⟨rfl, d2, hJ4, hF4⟩
    have HJ4 := Aside.mk hJ4
    have HF4 := Aside.mk hF4
    clear hJ4 hF4
    go_wp2
    go_ret
    exact ⟨rfl, n', HN2.out, ⟨d2, _, HJ4.out⟩, ((HF.out.sub (by simp)).trans (HF3.out.sub (by simp))).trans (HF4.out.sub (by simp))⟩

set_option maxHeartbeats 8000000 in
set_option maxRecDepth 100000 in
theorem T.RecvC2 (P M Q base n : Nat) (s s2 : AS) (c : CS) (sl cl : List ByteArray) (pl : List Value) (err rn : Int) (dl : List ByteArray) (w : World) (h : CJ w P M Q base n s c sl cl) (hpl : pl.length = 40)
    (hcall : ∀ wc, FC [] (w.alloc (.cells pl.toArray 57)) wc → Calls Try.prog 20 #[.pointer (some ⟨P, 0, none⟩), .agg pl.toArray] wc fun e w' => ∃ d n', e = .returned (.tuple #[.agg (rep err rn d), .bool true]) ∧ Kd.R Kd.string 9 w' wc.heap.size (fun _ => True) d dl ∧ AK w' P M n' s2 ∧ n' ≤ n + 1 ∧ FC [P, M] wc w') (hcmd : s2.cmd = s.cmd) (hst : c.stage = 2) (hb2 : s2.busy = false) (hnum2 : s2.num ≤ 80000) (hdl : dl.length ≤ 1000) (he : err = 0) :
    Calls Try.prog 10 #[.pointer (some ⟨Q, 0, none⟩), .agg pl.toArray] w fun e w' => e = .returned (.int .i64 0) ∧ ∃ n', n' ≤ n + 1 ∧ (∃ d2 d3, CJ w' P M Q base n' { s2 with num := s2.num + 1, group := 0, cmd := ⟨10, s2.id, s2.num + 1, c.lo, c.hi, c.tgo, d2⟩, busy := true, sent := false } { c with stage := 3, data := d3 } [] cl) ∧ FC [P, M, Q] w w' := by
  obtain ⟨hPQ, hMQ⟩ := h.ne
  have HJ := Aside.mk h
  have HPL := Aside.mk hpl
  have hbx : Below w.heap.size w (w.alloc (.cells pl.toArray 57)) := (Below.refl _ _).alloc (Nat.le_refl _) _
  have hQ1 : CP (w.alloc (.cells pl.toArray 57)) Q (some ⟨P, 0, none⟩) c := (hbx.block Q (Array.getElem?_eq_some_iff.1 h.ctl).1).trans h.ctl
  have hN := Aside.mk (T.nobodyF Q _ _ _ hQ1)
  have HQ1 := Aside.mk hQ1
  have HBX := Aside.mk hbx
  have HX1 := Aside.mk (heap_alloc_new w (.cells pl.toArray 57))
  have HCall := Aside.mk hcall
  clear h hpl hbx hQ1 hcall
  go_enter Try.func10, Try.ntmps10
  go_wp2_with (first | (go_at_call 15; refine hN.out.mono ?_; rintro e w' ⟨rfl, hw⟩; subst w'))
  have hQr := HQ1.out
  have hXrow := HX1.out
  have hs1 : (w.alloc (.cells pl.toArray 57)).heap.size = w.heap.size + 1 := by simp
  have hcall := HCall.out
  generalize w.alloc (.cells pl.toArray 57) = w1 at hQr hXrow hcall HBX hs1 ⊢
  obtain ⟨X, hX⟩ : ∃ X, X = w.heap.size := ⟨_, rfl⟩
  rw [← hX] at hXrow ⊢
  have hbb := HJ.out.hbase
  have hP := HJ.out.hP
  have hM := HJ.out.hM
  have hQ := HJ.out.hQ
  have hPlt : P < w1.heap.size := by omega
  have hMlt : M < w1.heap.size := by omega
  have hQlt : Q < w1.heap.size := by omega
  have hXlt : X < w1.heap.size := by omega
  have hQP : Q ≠ P := hPQ.symm
  have hQM : Q ≠ M := hMQ.symm
  have hXP : X ≠ P := by omega
  have hXM : X ≠ M := by omega
  have HS1 := Aside.mk hs1
  have HX := Aside.mk hX
  clear hX HX1 HQ1 HCall hN hs1 hbb hP hM hQ
  obtain ⟨b, hb⟩ : ∃ b, b = true := ⟨_, rfl⟩
  rw [← hb] at hcall
  let I : (Value × Nat × Nat) → Bool → Bool → Bool → World → Prop := fun g f5 f9 f10 w' => FC (if f5 = true then [P, M] else []) w1 w' ∧ (f5 = true → Kd.R Kd.string 9 w' w1.heap.size (fun k => f9 = true → k ≠ g.2.1) g.1 dl ∧ AK w' P M g.2.2 s2 ∧ g.2.2 ≤ n + 1) ∧ (f9 = true → w1.heap.size ≤ g.2.1 ∧ w'.heap[g.2.1]? = some (.cells (if f10 = true then rep err rn g.1 else Z6) 52 (0, 0))) ∧ (f10 = true → f5 = true ∧ f9 = true)
  let W : (Value × Nat × Nat) → Array Bool → World → Prop := fun g listed w' => I g (listed.getD 5 false) (listed.getD 9 false) (listed.getD 10 false) w' ∧ (listed.getD 6 false = true → listed.getD 5 false = true) ∧ (listed.getD 7 false = true → listed.getD 5 false = true)
  have hkeep : ∀ g listed w' i, i < listed.size → i ≠ 5 ∧ i ≠ 9 ∧ i ≠ 10 → (i = 6 ∨ i = 7 → listed.getD 5 false = true) → W g listed w' → W g (listed.setIfInBounds i true) w' := fun g listed w' i hi hne h67 hW => by
    obtain ⟨h1, h2, h3⟩ := hW
    refine ⟨?_, fun h => ?_, fun h => ?_⟩
    · rw [getD_set _ _ _ _ _ hi, getD_set _ _ _ _ _ hi, getD_set _ _ _ _ _ hi, if_neg (Ne.symm hne.1), if_neg (Ne.symm hne.2.1), if_neg (Ne.symm hne.2.2)]; exact h1
    · rw [getD_set _ _ _ _ _ hi] at h ⊢
      rw [if_neg (Ne.symm hne.1)]
      by_cases e : 6 = i
      · exact h67 (.inl e.symm)
      · rw [if_neg e] at h; exact h2 h
    · rw [getD_set _ _ _ _ _ hi] at h ⊢
      rw [if_neg (Ne.symm hne.1)]
      by_cases e : 7 = i
      · exact h67 (.inr e.symm)
      · rw [if_neg e] at h; exact h3 h
  have hQc : ∀ (g : Value × Nat × Nat) (f5 : Bool) (w' : World), FC (if f5 = true then [P, M] else []) w1 w' → w'.cell? ⟨Q, 0, none⟩ = some (.pointer (some ⟨P, 0, none⟩)) := fun _ f5 w' hf => by
    rw [cell_of_row _ _ _ _ _ _ ((hf.block Q hQlt (by split <;> simp [hQP, hQM])).trans hQr)]; rfl
  have hXr : ∀ (g : Value × Nat × Nat) (f5 : Bool) (w' : World), FC (if f5 = true then [P, M] else []) w1 w' → w'.rangeAt X 0 pl := fun _ f5 w' hf => range_row ((hf.block X hXlt (by split <;> simp [hXP, hXM])).trans hXrow)
  refine wp_region_confG (by kernel_rfl) (fun (g : Value × Nat × Nat) i => rv3 err rn b P Q pl g i) W (.slice none 0 0, 0, 0) (by kernel_rfl) ?h0 ?hex ?hfin
  case h0 => exact ⟨⟨by simp; exact (FC.refl _ _).drew, fun h => by simp at h, fun h => by simp at h, fun h => by simp at h⟩, fun h => by simp at h, fun h => by simp at h⟩
  case hex =>
    intro g i o listed a w' ho hs hn hp hd hW
    have hi : i < 12 := (Array.getElem?_eq_some_iff.1 ho).1
    have hs12 : listed.size = 12 := hs
    have hil : i < listed.size := by omega
    have hcase : i = 0 ∨ i = 1 ∨ i = 2 ∨ i = 3 ∨ i = 4 ∨ i = 5 ∨ i = 6 ∨ i = 7 ∨ i = 8 ∨ i = 9 ∨ i = 10 ∨ i = 11 := by omega
    rcases hcase with rfl | rfl | rfl | rfl | rfl | rfl | rfl | rfl | rfl | rfl | rfl | rfl
    all_goals
      simp only [List.getElem?_toArray, List.getElem?_cons_succ, List.getElem?_cons_zero, Option.some.injEq] at ho
      subst ho
      refine ⟨rfl, ?_⟩
    · have e0 := hd.base 0 (.pointer (some ⟨Q, 0, none⟩)) (by kernel_rfl) rfl
      exact wp_val ((.pointer (some ⟨Q, 0, none⟩))) (by simp only [execOp, e0]; simp [go_sem]) ⟨g, fun _ _ => rfl, rfl, hkeep g listed w' 0 hil (by decide) (fun h => by omega) hW⟩
    · have l0 := hp { on := 0, ground := Ground.data } (by simp) rfl
      have e10 : a.eval (.tmp 10) = (.pointer (some ⟨Q, 0, none⟩)) := hd.ev 0 10 rfl l0
      exact wp_val ((.pointer (some ⟨Q, 0, none⟩))) (by simp only [execOp, e10]; simp [go_sem]) ⟨g, fun _ _ => rfl, rfl, hkeep g listed w' 1 hil (by decide) (fun h => by omega) hW⟩
    · have l1 := hp { on := 1, ground := Ground.data } (by simp) rfl
      have e11 : a.eval (.tmp 11) = (.pointer (some ⟨Q, 0, none⟩)) := hd.ev 1 11 rfl l1
      exact wp_val ((.pointer (some ⟨Q, 0, none⟩))) (by simp only [execOp, e11]; simp [go_sem]) ⟨g, fun _ _ => rfl, rfl, hkeep g listed w' 2 hil (by decide) (fun h => by omega) hW⟩
    · have l2 := hp { on := 2, ground := Ground.data } (by simp) rfl
      have e12 : a.eval (.tmp 12) = (.pointer (some ⟨Q, 0, none⟩)) := hd.ev 2 12 rfl l2
      have hq := hQc g _ w' hW.1.1
      exact wp_val ((.pointer (some ⟨P, 0, none⟩))) (by simp only [execOp, e12]; simp [go_sem, hq]) ⟨g, fun _ _ => rfl, rfl, hkeep g listed w' 3 hil (by decide) (fun h => by omega) hW⟩
    · have e3 := hd.base 3 (.pointer (some ⟨X, 0, none⟩)) (by kernel_rfl) rfl
      exact wp_load_mid 57 (.tmp 3) rfl X 0 e3 pl _ (hXr g _ w' hW.1.1) Try.underlying57 rfl (by rw [HPL.out]; kernel_rfl) ⟨g, fun _ _ => rfl, rfl, hkeep g listed w' 4 hil (by decide) (fun h => by omega) hW⟩
    · have l3 := hp { on := 3, ground := Ground.data } (by simp) rfl
      have e13 : a.eval (.tmp 13) = (.pointer (some ⟨P, 0, none⟩)) := hd.ev 3 13 rfl l3
      have l4 := hp { on := 4, ground := Ground.data } (by simp) rfl
      have e14 : a.eval (.tmp 14) = (.agg pl.toArray) := hd.ev 4 14 rfl l4
      obtain ⟨⟨i1, i2, i3, i4⟩, h65, h75⟩ := hW
      have hf10 : listed.getD 10 false = false := by
        cases h : listed.getD 10 false with
        | false => rfl
        | true => rw [(i4 h).1] at hn; cases hn
      rw [hn, if_neg (by simp)] at i1
      refine wp_calls 20 #[.tmp 13, .tmp 14] #[31, 57] rfl (enters_of Try.func20 (by kernel_rfl) rfl) #[.pointer (some ⟨P, 0, none⟩), .agg pl.toArray] (by simp [e13, e14]) ((hcall w' i1).mono ?_)
      rintro e' w4 ⟨d, n', rfl, hr4, hA4, hn4, hF4⟩
      refine ⟨_, rfl, (d, g.2.1, n'), fun j hj => ?_, rfl, ?_⟩
      · have hj5 : j ≠ 5 := fun e => by subst e; rw [hj] at hn; cases hn
        have hj6 : j ≠ 6 := fun e => by subst e; rw [h65 hj] at hn; cases hn
        have hj7 : j ≠ 7 := fun e => by subst e; rw [h75 hj] at hn; cases hn
        exact vget err rn b P Q pl g d n' j hj5 hj6 hj7
      · refine ⟨?_, fun h => ?_, fun h => ?_⟩
        rotate_left
        · rw [getD_set _ _ _ _ _ hil, if_pos rfl]
        · rw [getD_set _ _ _ _ _ hil, if_pos rfl]
        have hs5 : (listed.setIfInBounds 5 true).getD 5 false = true := by rw [getD_set _ _ _ _ _ hil, if_pos rfl]
        have hs9 : (listed.setIfInBounds 5 true).getD 9 false = listed.getD 9 false := by rw [getD_set _ _ _ _ _ hil, if_neg (by decide)]
        have hs10 : (listed.setIfInBounds 5 true).getD 10 false = false := by rw [getD_set _ _ _ _ _ hil, if_neg (by decide), hf10]
        rw [hs5, hs9, hs10]
        refine ⟨?_, fun _ => ⟨?_, hA4, hn4⟩, fun h9 => ?_, fun h => by cases h⟩
        · rw [if_pos rfl]; exact (i1.sub (by simp)).trans hF4
        · refine Kd.R_lower (Kd.R_mono (Kd.R_bound hr4) (fun k hk h9 e => ?_)) i1.size
          have h9' := (i3 h9).2
          have hlt := (Array.getElem?_eq_some_iff.1 h9').1
          have := hk.2.1
          simp only at e
          omega
        · obtain ⟨h91, h92⟩ := i3 h9
          rw [hf10] at h92
          refine ⟨h91, (hF4.block _ (Array.getElem?_eq_some_iff.1 h92).1 ?_).trans h92⟩
          have h1 := hPlt; have h2 := hMlt
          simp only [List.mem_cons, List.not_mem_nil, or_false, not_or]
          omega
    · have l5 := hp { on := 5, ground := Ground.data } (by simp) rfl
      have e15 : a.eval (.tmp 15) = (.tuple #[.agg (rep err rn g.1), .bool b]) := hd.ev 5 15 rfl l5
      exact wp_val ((.tuple #[.agg (rep err rn g.1), .bool b])) (by simp only [execOp, e15]; simp [go_sem]) ⟨g, fun _ _ => rfl, rfl, hkeep g listed w' 6 hil (by decide) (fun _ => l5) hW⟩
    · have l6 := hp { on := 6, ground := Ground.data } (by simp) rfl
      have e9 : a.eval (.tmp 9) = (.tuple #[.agg (rep err rn g.1), .bool b]) := hd.ev 6 9 rfl l6
      exact wp_val ((.agg (rep err rn g.1))) (by simp only [execOp, e9]; simp [go_sem]) ⟨g, fun _ _ => rfl, rfl, hkeep g listed w' 7 hil (by decide) (fun _ => hW.2.1 l6) hW⟩
    · have l6 := hp { on := 6, ground := Ground.data } (by simp) rfl
      have e9 : a.eval (.tmp 9) = (.tuple #[.agg (rep err rn g.1), .bool b]) := hd.ev 6 9 rfl l6
      exact wp_val ((.bool b)) (by simp only [execOp, e9]; simp [go_sem]) ⟨g, fun _ _ => rfl, rfl, hkeep g listed w' 8 hil (by decide) (fun h => by omega) hW⟩
    · refine wp_val (w2 := w'.alloc (.cells Z6 52)) (.pointer (some ⟨w'.heap.size, 0, none⟩)) (by simp [execOp, go_sem, Z6]) ⟨(g.1, w'.heap.size, g.2.2), fun j hj => ?_, rfl, ?_⟩
      · have hj9 : j ≠ 9 := fun e => by subst e; rw [hj] at hn; cases hn
        exact vget9 err rn b P Q pl g w'.heap.size j hj9
      · obtain ⟨⟨i1, i2, i3, i4⟩, h65, h75⟩ := hW
        have hf10 : listed.getD 10 false = false := by
          cases h : listed.getD 10 false with
          | false => rfl
          | true => rw [(i4 h).2] at hn; cases hn
        refine ⟨?_, fun h => ?_, fun h => ?_⟩
        rotate_left
        · rw [getD_set _ _ _ _ _ hil, if_neg (by decide)] at h; rw [getD_set _ _ _ _ _ hil, if_neg (by decide)]; exact h65 h
        · rw [getD_set _ _ _ _ _ hil, if_neg (by decide)] at h; rw [getD_set _ _ _ _ _ hil, if_neg (by decide)]; exact h75 h
        have hs5 : (listed.setIfInBounds 9 true).getD 5 false = listed.getD 5 false := by rw [getD_set _ _ _ _ _ hil, if_neg (by decide)]
        have hs9 : (listed.setIfInBounds 9 true).getD 9 false = true := by rw [getD_set _ _ _ _ _ hil, if_pos rfl]
        have hs10 : (listed.setIfInBounds 9 true).getD 10 false = false := by rw [getD_set _ _ _ _ _ hil, if_neg (by decide), hf10]
        rw [hs5, hs9, hs10]
        refine ⟨i1.alloc _, fun h5 => ?_, fun _ => ⟨i1.size, heap_alloc_new w' _⟩, fun h => by cases h⟩
        obtain ⟨r1, r2, r3⟩ := i2 h5
        refine ⟨?_, r2.of_fc (S := []) ((FC.refl _ _).alloc _) (by simp) (by simp), r3⟩
        exact Kd.R_mono (Kd.R_bound (Kd.R_alloc (Kd.R_mono (Kd.R_bound r1) (fun k hk => hk.2.2.1)) _)) (fun k hk _ e => by have := hk.1; simp only at e; omega)
    · have l9 := hp { on := 9, ground := Ground.data } (by simp) rfl
      have e5 : a.eval (.tmp 5) = (.pointer (some ⟨g.2.1, 0, none⟩)) := hd.ev 9 5 rfl l9
      have l7 := hp { on := 7, ground := Ground.data } (by simp) rfl
      have e16 : a.eval (.tmp 16) = (.agg (rep err rn g.1)) := hd.ev 7 16 rfl l7
      have l5 := hp { on := 5, ground := Ground.chain } (by simp) rfl
      have l5 := hp { on := 5, ground := Ground.chain } (by simp) rfl
      obtain ⟨⟨i1, i2, i3, i4⟩, h65, h75⟩ := hW
      obtain ⟨r1, r2, r3⟩ := i2 l5
      obtain ⟨y1, y2⟩ := i3 l9
      rw [hn] at y2
      rw [l5, if_pos rfl] at i1
      obtain ⟨A9, c9, hg9, _⟩ := Kd.R_reads r1
      refine wp_store_mid 52 (.tmp 5) (.tmp 16) rfl g.2.1 0 (rep err rn g.1) e5 e16 (there_row y2 _ (by rfl)) (by kernel_rfl) (by rw [hg9]; simp [rep, Value.oneCell']) ⟨g, fun _ _ => rfl, rfl, ?_⟩
      refine ⟨?_, fun h => ?_, fun h => ?_⟩
      rotate_left
      · rw [getD_set _ _ _ _ _ hil, if_neg (by decide)] at h; rw [getD_set _ _ _ _ _ hil, if_neg (by decide)]; exact h65 h
      · rw [getD_set _ _ _ _ _ hil, if_neg (by decide)] at h; rw [getD_set _ _ _ _ _ hil, if_neg (by decide)]; exact h75 h
      have hs5 : (listed.setIfInBounds 10 true).getD 5 false = true := by rw [getD_set _ _ _ _ _ hil, if_neg (by decide), l5]
      have hs9 : (listed.setIfInBounds 10 true).getD 9 false = true := by rw [getD_set _ _ _ _ _ hil, if_neg (by decide), l9]
      have hs10 : (listed.setIfInBounds 10 true).getD 10 false = true := by rw [getD_set _ _ _ _ _ hil, if_pos rfl]
      rw [hs5, hs9, hs10]
      have hfy : FC [g.2.1] w' (w'.setCells g.2.1 0 (rep err rn g.1).toList) := FC.setCells (.inl (by simp)) _ _ _ (FC.refl _ _)
      refine ⟨?_, fun _ => ⟨?_, r2.of_fc hfy ?_ ?_, r3⟩, fun _ => ⟨y1, fill_row y2 _ (by rfl)⟩, fun _ => ⟨rfl, rfl⟩⟩
      · rw [if_pos rfl]; exact FC.setCells (.inr y1) _ _ _ i1
      · exact Kd.R_mono (Kd.R_step r1 (fun k hk hlt => hfy.block k hlt (by simpa using hk l9))) (fun k hk _ => hk l9)
      · have h1 := hPlt; simp; omega
      · have h1 := hMlt; simp; omega
    · have l8 := hp { on := 8, ground := Ground.data } (by simp) rfl
      have e17 : a.eval (.tmp 17) = (.bool b) := hd.ev 8 17 rfl l8
      have l10 := hp { on := 10, ground := Ground.chain } (by simp) rfl
      exact wp_val ((.bool b)) (by simp only [execOp, e17]; simp [go_sem]) ⟨g, fun _ _ => rfl, rfl, hkeep g listed w' 11 hil (by decide) (fun h => by omega) hW⟩
  case hfin =>
    intro g listed a w2 hs hall hd hW
    have h5 := hall 5 (by decide)
    have h9 := hall 9 (by decide)
    have h10 := hall 10 (by decide)
    obtain ⟨⟨i1, i2, i3, i4⟩, _, _⟩ := hW
    rw [h5] at i1 i2
    rw [h9, h10] at i3
    rw [if_pos rfl] at i1
    obtain ⟨r1, r2, r3⟩ := i2 rfl
    obtain ⟨y1, y2⟩ := i3 rfl
    rw [if_pos rfl] at y2
    have HR1 := Aside.mk (Kd.R_mono r1 (fun _ _ => trivial) : Kd.R Kd.string 9 w2 w1.heap.size (fun _ => True) g.1 dl)
    obtain ⟨d, Y, n'⟩ := g
    dsimp only at HR1 r2 r3 y1 y2
    have HA2 := Aside.mk r2
    have HN2 := Aside.mk r3
    have HF2 := Aside.mk i1
    have HY2 := Aside.mk y2
    have HYw := Aside.mk y1
    rw [hd.full (md := .any) (fits_of (by kernel_rfl)) hall]
    clear hd hall hs i1 i2 i3 i4 r1 r2 r3 y1 y2 h5 h9 h10 hkeep hQc hXr W I
    simp only [rv3, List.size_toArray, List.length_cons, List.length_nil, Nat.reduceAdd, fill, List.getElem?_toArray, List.getElem?_cons_succ, List.getElem?_cons_zero, Option.bind_some, List.setIfInBounds_toArray, List.set_cons_succ, List.set_cons_zero, List.getD_cons_succ, List.getD_cons_zero]
    have HQr := (HF2.out.block Q hQlt (by simp [hQP, hQM])).trans hQr
    have hF : FC [P, M] w w2 := (FC.of HBX.out).trans HF2.out
    have hPb := HJ.out.hP
    have hMb := HJ.out.hM
    have hlow : ∀ k ∈ [P, M], k < base := fun k hk => by have : k = P ∨ k = M := by simpa using hk
                                                         omega
    have hJ2 : CJ w2 P M Q base n' s2 c sl cl := ⟨HA2.out, HQr, by rw [hcmd]; exact R_fc HJ.out.srow hF hlow, R_fc HJ.out.crow hF hlow, HJ.out.hP, HJ.out.hM, HJ.out.hQ, Nat.le_trans HJ.out.hbase hF.size, HJ.out.hlen, HJ.out.hfrom, HJ.out.hto⟩
    have hbw1 : base ≤ w1.heap.size := by have := HJ.out.hbase; have := HBX.out.size; omega
    have hQY : Q ≠ Y := by have := HYw.out; have := HJ.out.hQ; omega
    have hRd : Kd.R Kd.string 9 w2 base (fun _ => True) d dl := Kd.R_lower HR1.out hbw1
    clear hQr hXrow hcall hPb hMb hlow HR1 HA2 HPL HBX HX HS1 HYw
    subst hb
    obtain ⟨stage, lo, hi, fr, tgo, data, ce, en⟩ := c
    obtain ⟨A9, c9, hd9, _⟩ := Kd.R_reads hRd
    dsimp only at hst
    subst hst
    subst hd9
    have q1 : w2.cell? ⟨Q, 1, none⟩ = some (.int .i64 2) := by rw [cell_of_row _ _ _ _ _ _ HQr]; rfl
    have q6 : w2.cell? ⟨Q, 6, none⟩ = some data := by rw [cell_of_row _ _ _ _ _ _ HQr]; rfl
    have q7 : w2.cell? ⟨Q, 7, none⟩ = some (.int .i64 ce) := by rw [cell_of_row _ _ _ _ _ _ HQr]; rfl
    have y0 : w2.cell? ⟨Y, 0, none⟩ = some (.int .i64 err) := by rw [cell_of_row _ _ _ _ _ _ HY2.out]; rfl
    have y4 : w2.cell? ⟨Y, 4, none⟩ = some (.slice A9 dl.length c9) := by rw [cell_of_row _ _ _ _ _ _ HY2.out]; rfl
    have fq : ∀ k, w2.frozen? ⟨Q, k, none⟩ = false := fun k => frozen_of_row w2 Q k _ _ HQr
    have HJ2 := Aside.mk hJ2
    have HF := Aside.mk hF
    have HRd := Aside.mk hRd
    have HQc := Aside.mk HQr
    clear hJ2 hF hRd HQr hcmd
    have hG := T.goes3 P M Q base n' s2 ⟨2, lo, hi, fr, tgo, data, ce, en⟩ sl cl _ HJ2.out hb2 hnum2
    have HG := Aside.mk hG
    have HF3 := Aside.mk (FC.refl [Q] w2)
    clear hG
    go_wp2_with fail
    refine HG.out.mono ?_
    rintro e w4 ⟨rfl, d2, hJ4, hF4⟩
    have HJ4 := Aside.mk hJ4
    have HF4 := Aside.mk hF4
    clear hJ4 hF4
    go_wp2
    go_ret
    exact ⟨rfl, n', HN2.out, ⟨d2, _, HJ4.out⟩, ((HF.out.sub (by simp)).trans (HF3.out.sub (by simp))).trans (HF4.out.sub (by simp))⟩

set_option maxHeartbeats 8000000 in
set_option maxRecDepth 100000 in
theorem T.RecvC3 (P M Q base n : Nat) (s s2 : AS) (c : CS) (sl cl : List ByteArray) (pl : List Value) (err rn : Int) (dl : List ByteArray) (w : World) (h : CJ w P M Q base n s c sl cl) (hpl : pl.length = 40)
    (hcall : ∀ wc, FC [] (w.alloc (.cells pl.toArray 57)) wc → Calls Try.prog 20 #[.pointer (some ⟨P, 0, none⟩), .agg pl.toArray] wc fun e w' => ∃ d n', e = .returned (.tuple #[.agg (rep err rn d), .bool true]) ∧ Kd.R Kd.string 9 w' wc.heap.size (fun _ => True) d dl ∧ AK w' P M n' s2 ∧ n' ≤ n + 1 ∧ FC [P, M] wc w') (hcmd : s2.cmd = s.cmd) (hst : c.stage = 3) :
    Calls Try.prog 10 #[.pointer (some ⟨Q, 0, none⟩), .agg pl.toArray] w fun e w' => e = .returned (.int .i64 0) ∧ ∃ n', n' ≤ n + 1 ∧ CJ w' P M Q base n' s2 { c with stage := 0, e := err, ended := true, data := .slice none 0 0 } sl [] ∧ FC [P, M, Q] w w' := by
  obtain ⟨hPQ, hMQ⟩ := h.ne
  have HJ := Aside.mk h
  have HPL := Aside.mk hpl
  have hbx : Below w.heap.size w (w.alloc (.cells pl.toArray 57)) := (Below.refl _ _).alloc (Nat.le_refl _) _
  have hQ1 : CP (w.alloc (.cells pl.toArray 57)) Q (some ⟨P, 0, none⟩) c := (hbx.block Q (Array.getElem?_eq_some_iff.1 h.ctl).1).trans h.ctl
  have hN := Aside.mk (T.nobodyF Q _ _ _ hQ1)
  have HQ1 := Aside.mk hQ1
  have HBX := Aside.mk hbx
  have HX1 := Aside.mk (heap_alloc_new w (.cells pl.toArray 57))
  have HCall := Aside.mk hcall
  clear h hpl hbx hQ1 hcall
  go_enter Try.func10, Try.ntmps10
  go_wp2_with (first | (go_at_call 15; refine hN.out.mono ?_; rintro e w' ⟨rfl, hw⟩; subst w'))
  have hQr := HQ1.out
  have hXrow := HX1.out
  have hs1 : (w.alloc (.cells pl.toArray 57)).heap.size = w.heap.size + 1 := by simp
  have hcall := HCall.out
  generalize w.alloc (.cells pl.toArray 57) = w1 at hQr hXrow hcall HBX hs1 ⊢
  obtain ⟨X, hX⟩ : ∃ X, X = w.heap.size := ⟨_, rfl⟩
  rw [← hX] at hXrow ⊢
  have hbb := HJ.out.hbase
  have hP := HJ.out.hP
  have hM := HJ.out.hM
  have hQ := HJ.out.hQ
  have hPlt : P < w1.heap.size := by omega
  have hMlt : M < w1.heap.size := by omega
  have hQlt : Q < w1.heap.size := by omega
  have hXlt : X < w1.heap.size := by omega
  have hQP : Q ≠ P := hPQ.symm
  have hQM : Q ≠ M := hMQ.symm
  have hXP : X ≠ P := by omega
  have hXM : X ≠ M := by omega
  have HS1 := Aside.mk hs1
  have HX := Aside.mk hX
  clear hX HX1 HQ1 HCall hN hs1 hbb hP hM hQ
  obtain ⟨b, hb⟩ : ∃ b, b = true := ⟨_, rfl⟩
  rw [← hb] at hcall
  let I : (Value × Nat × Nat) → Bool → Bool → Bool → World → Prop := fun g f5 f9 f10 w' => FC (if f5 = true then [P, M] else []) w1 w' ∧ (f5 = true → Kd.R Kd.string 9 w' w1.heap.size (fun k => f9 = true → k ≠ g.2.1) g.1 dl ∧ AK w' P M g.2.2 s2 ∧ g.2.2 ≤ n + 1) ∧ (f9 = true → w1.heap.size ≤ g.2.1 ∧ w'.heap[g.2.1]? = some (.cells (if f10 = true then rep err rn g.1 else Z6) 52 (0, 0))) ∧ (f10 = true → f5 = true ∧ f9 = true)
  let W : (Value × Nat × Nat) → Array Bool → World → Prop := fun g listed w' => I g (listed.getD 5 false) (listed.getD 9 false) (listed.getD 10 false) w' ∧ (listed.getD 6 false = true → listed.getD 5 false = true) ∧ (listed.getD 7 false = true → listed.getD 5 false = true)
  have hkeep : ∀ g listed w' i, i < listed.size → i ≠ 5 ∧ i ≠ 9 ∧ i ≠ 10 → (i = 6 ∨ i = 7 → listed.getD 5 false = true) → W g listed w' → W g (listed.setIfInBounds i true) w' := fun g listed w' i hi hne h67 hW => by
    obtain ⟨h1, h2, h3⟩ := hW
    refine ⟨?_, fun h => ?_, fun h => ?_⟩
    · rw [getD_set _ _ _ _ _ hi, getD_set _ _ _ _ _ hi, getD_set _ _ _ _ _ hi, if_neg (Ne.symm hne.1), if_neg (Ne.symm hne.2.1), if_neg (Ne.symm hne.2.2)]; exact h1
    · rw [getD_set _ _ _ _ _ hi] at h ⊢
      rw [if_neg (Ne.symm hne.1)]
      by_cases e : 6 = i
      · exact h67 (.inl e.symm)
      · rw [if_neg e] at h; exact h2 h
    · rw [getD_set _ _ _ _ _ hi] at h ⊢
      rw [if_neg (Ne.symm hne.1)]
      by_cases e : 7 = i
      · exact h67 (.inr e.symm)
      · rw [if_neg e] at h; exact h3 h
  have hQc : ∀ (g : Value × Nat × Nat) (f5 : Bool) (w' : World), FC (if f5 = true then [P, M] else []) w1 w' → w'.cell? ⟨Q, 0, none⟩ = some (.pointer (some ⟨P, 0, none⟩)) := fun _ f5 w' hf => by
    rw [cell_of_row _ _ _ _ _ _ ((hf.block Q hQlt (by split <;> simp [hQP, hQM])).trans hQr)]; rfl
  have hXr : ∀ (g : Value × Nat × Nat) (f5 : Bool) (w' : World), FC (if f5 = true then [P, M] else []) w1 w' → w'.rangeAt X 0 pl := fun _ f5 w' hf => range_row ((hf.block X hXlt (by split <;> simp [hXP, hXM])).trans hXrow)
  refine wp_region_confG (by kernel_rfl) (fun (g : Value × Nat × Nat) i => rv3 err rn b P Q pl g i) W (.slice none 0 0, 0, 0) (by kernel_rfl) ?h0 ?hex ?hfin
  case h0 => exact ⟨⟨by simp; exact (FC.refl _ _).drew, fun h => by simp at h, fun h => by simp at h, fun h => by simp at h⟩, fun h => by simp at h, fun h => by simp at h⟩
  case hex =>
    intro g i o listed a w' ho hs hn hp hd hW
    have hi : i < 12 := (Array.getElem?_eq_some_iff.1 ho).1
    have hs12 : listed.size = 12 := hs
    have hil : i < listed.size := by omega
    have hcase : i = 0 ∨ i = 1 ∨ i = 2 ∨ i = 3 ∨ i = 4 ∨ i = 5 ∨ i = 6 ∨ i = 7 ∨ i = 8 ∨ i = 9 ∨ i = 10 ∨ i = 11 := by omega
    rcases hcase with rfl | rfl | rfl | rfl | rfl | rfl | rfl | rfl | rfl | rfl | rfl | rfl
    all_goals
      simp only [List.getElem?_toArray, List.getElem?_cons_succ, List.getElem?_cons_zero, Option.some.injEq] at ho
      subst ho
      refine ⟨rfl, ?_⟩
    · have e0 := hd.base 0 (.pointer (some ⟨Q, 0, none⟩)) (by kernel_rfl) rfl
      exact wp_val ((.pointer (some ⟨Q, 0, none⟩))) (by simp only [execOp, e0]; simp [go_sem]) ⟨g, fun _ _ => rfl, rfl, hkeep g listed w' 0 hil (by decide) (fun h => by omega) hW⟩
    · have l0 := hp { on := 0, ground := Ground.data } (by simp) rfl
      have e10 : a.eval (.tmp 10) = (.pointer (some ⟨Q, 0, none⟩)) := hd.ev 0 10 rfl l0
      exact wp_val ((.pointer (some ⟨Q, 0, none⟩))) (by simp only [execOp, e10]; simp [go_sem]) ⟨g, fun _ _ => rfl, rfl, hkeep g listed w' 1 hil (by decide) (fun h => by omega) hW⟩
    · have l1 := hp { on := 1, ground := Ground.data } (by simp) rfl
      have e11 : a.eval (.tmp 11) = (.pointer (some ⟨Q, 0, none⟩)) := hd.ev 1 11 rfl l1
      exact wp_val ((.pointer (some ⟨Q, 0, none⟩))) (by simp only [execOp, e11]; simp [go_sem]) ⟨g, fun _ _ => rfl, rfl, hkeep g listed w' 2 hil (by decide) (fun h => by omega) hW⟩
    · have l2 := hp { on := 2, ground := Ground.data } (by simp) rfl
      have e12 : a.eval (.tmp 12) = (.pointer (some ⟨Q, 0, none⟩)) := hd.ev 2 12 rfl l2
      have hq := hQc g _ w' hW.1.1
      exact wp_val ((.pointer (some ⟨P, 0, none⟩))) (by simp only [execOp, e12]; simp [go_sem, hq]) ⟨g, fun _ _ => rfl, rfl, hkeep g listed w' 3 hil (by decide) (fun h => by omega) hW⟩
    · have e3 := hd.base 3 (.pointer (some ⟨X, 0, none⟩)) (by kernel_rfl) rfl
      exact wp_load_mid 57 (.tmp 3) rfl X 0 e3 pl _ (hXr g _ w' hW.1.1) Try.underlying57 rfl (by rw [HPL.out]; kernel_rfl) ⟨g, fun _ _ => rfl, rfl, hkeep g listed w' 4 hil (by decide) (fun h => by omega) hW⟩
    · have l3 := hp { on := 3, ground := Ground.data } (by simp) rfl
      have e13 : a.eval (.tmp 13) = (.pointer (some ⟨P, 0, none⟩)) := hd.ev 3 13 rfl l3
      have l4 := hp { on := 4, ground := Ground.data } (by simp) rfl
      have e14 : a.eval (.tmp 14) = (.agg pl.toArray) := hd.ev 4 14 rfl l4
      obtain ⟨⟨i1, i2, i3, i4⟩, h65, h75⟩ := hW
      have hf10 : listed.getD 10 false = false := by
        cases h : listed.getD 10 false with
        | false => rfl
        | true => rw [(i4 h).1] at hn; cases hn
      rw [hn, if_neg (by simp)] at i1
      refine wp_calls 20 #[.tmp 13, .tmp 14] #[31, 57] rfl (enters_of Try.func20 (by kernel_rfl) rfl) #[.pointer (some ⟨P, 0, none⟩), .agg pl.toArray] (by simp [e13, e14]) ((hcall w' i1).mono ?_)
      rintro e' w4 ⟨d, n', rfl, hr4, hA4, hn4, hF4⟩
      refine ⟨_, rfl, (d, g.2.1, n'), fun j hj => ?_, rfl, ?_⟩
      · have hj5 : j ≠ 5 := fun e => by subst e; rw [hj] at hn; cases hn
        have hj6 : j ≠ 6 := fun e => by subst e; rw [h65 hj] at hn; cases hn
        have hj7 : j ≠ 7 := fun e => by subst e; rw [h75 hj] at hn; cases hn
        exact vget err rn b P Q pl g d n' j hj5 hj6 hj7
      · refine ⟨?_, fun h => ?_, fun h => ?_⟩
        rotate_left
        · rw [getD_set _ _ _ _ _ hil, if_pos rfl]
        · rw [getD_set _ _ _ _ _ hil, if_pos rfl]
        have hs5 : (listed.setIfInBounds 5 true).getD 5 false = true := by rw [getD_set _ _ _ _ _ hil, if_pos rfl]
        have hs9 : (listed.setIfInBounds 5 true).getD 9 false = listed.getD 9 false := by rw [getD_set _ _ _ _ _ hil, if_neg (by decide)]
        have hs10 : (listed.setIfInBounds 5 true).getD 10 false = false := by rw [getD_set _ _ _ _ _ hil, if_neg (by decide), hf10]
        rw [hs5, hs9, hs10]
        refine ⟨?_, fun _ => ⟨?_, hA4, hn4⟩, fun h9 => ?_, fun h => by cases h⟩
        · rw [if_pos rfl]; exact (i1.sub (by simp)).trans hF4
        · refine Kd.R_lower (Kd.R_mono (Kd.R_bound hr4) (fun k hk h9 e => ?_)) i1.size
          have h9' := (i3 h9).2
          have hlt := (Array.getElem?_eq_some_iff.1 h9').1
          have := hk.2.1
          simp only at e
          omega
        · obtain ⟨h91, h92⟩ := i3 h9
          rw [hf10] at h92
          refine ⟨h91, (hF4.block _ (Array.getElem?_eq_some_iff.1 h92).1 ?_).trans h92⟩
          have h1 := hPlt; have h2 := hMlt
          simp only [List.mem_cons, List.not_mem_nil, or_false, not_or]
          omega
    · have l5 := hp { on := 5, ground := Ground.data } (by simp) rfl
      have e15 : a.eval (.tmp 15) = (.tuple #[.agg (rep err rn g.1), .bool b]) := hd.ev 5 15 rfl l5
      exact wp_val ((.tuple #[.agg (rep err rn g.1), .bool b])) (by simp only [execOp, e15]; simp [go_sem]) ⟨g, fun _ _ => rfl, rfl, hkeep g listed w' 6 hil (by decide) (fun _ => l5) hW⟩
    · have l6 := hp { on := 6, ground := Ground.data } (by simp) rfl
      have e9 : a.eval (.tmp 9) = (.tuple #[.agg (rep err rn g.1), .bool b]) := hd.ev 6 9 rfl l6
      exact wp_val ((.agg (rep err rn g.1))) (by simp only [execOp, e9]; simp [go_sem]) ⟨g, fun _ _ => rfl, rfl, hkeep g listed w' 7 hil (by decide) (fun _ => hW.2.1 l6) hW⟩
    · have l6 := hp { on := 6, ground := Ground.data } (by simp) rfl
      have e9 : a.eval (.tmp 9) = (.tuple #[.agg (rep err rn g.1), .bool b]) := hd.ev 6 9 rfl l6
      exact wp_val ((.bool b)) (by simp only [execOp, e9]; simp [go_sem]) ⟨g, fun _ _ => rfl, rfl, hkeep g listed w' 8 hil (by decide) (fun h => by omega) hW⟩
    · refine wp_val (w2 := w'.alloc (.cells Z6 52)) (.pointer (some ⟨w'.heap.size, 0, none⟩)) (by simp [execOp, go_sem, Z6]) ⟨(g.1, w'.heap.size, g.2.2), fun j hj => ?_, rfl, ?_⟩
      · have hj9 : j ≠ 9 := fun e => by subst e; rw [hj] at hn; cases hn
        exact vget9 err rn b P Q pl g w'.heap.size j hj9
      · obtain ⟨⟨i1, i2, i3, i4⟩, h65, h75⟩ := hW
        have hf10 : listed.getD 10 false = false := by
          cases h : listed.getD 10 false with
          | false => rfl
          | true => rw [(i4 h).2] at hn; cases hn
        refine ⟨?_, fun h => ?_, fun h => ?_⟩
        rotate_left
        · rw [getD_set _ _ _ _ _ hil, if_neg (by decide)] at h; rw [getD_set _ _ _ _ _ hil, if_neg (by decide)]; exact h65 h
        · rw [getD_set _ _ _ _ _ hil, if_neg (by decide)] at h; rw [getD_set _ _ _ _ _ hil, if_neg (by decide)]; exact h75 h
        have hs5 : (listed.setIfInBounds 9 true).getD 5 false = listed.getD 5 false := by rw [getD_set _ _ _ _ _ hil, if_neg (by decide)]
        have hs9 : (listed.setIfInBounds 9 true).getD 9 false = true := by rw [getD_set _ _ _ _ _ hil, if_pos rfl]
        have hs10 : (listed.setIfInBounds 9 true).getD 10 false = false := by rw [getD_set _ _ _ _ _ hil, if_neg (by decide), hf10]
        rw [hs5, hs9, hs10]
        refine ⟨i1.alloc _, fun h5 => ?_, fun _ => ⟨i1.size, heap_alloc_new w' _⟩, fun h => by cases h⟩
        obtain ⟨r1, r2, r3⟩ := i2 h5
        refine ⟨?_, r2.of_fc (S := []) ((FC.refl _ _).alloc _) (by simp) (by simp), r3⟩
        exact Kd.R_mono (Kd.R_bound (Kd.R_alloc (Kd.R_mono (Kd.R_bound r1) (fun k hk => hk.2.2.1)) _)) (fun k hk _ e => by have := hk.1; simp only at e; omega)
    · have l9 := hp { on := 9, ground := Ground.data } (by simp) rfl
      have e5 : a.eval (.tmp 5) = (.pointer (some ⟨g.2.1, 0, none⟩)) := hd.ev 9 5 rfl l9
      have l7 := hp { on := 7, ground := Ground.data } (by simp) rfl
      have e16 : a.eval (.tmp 16) = (.agg (rep err rn g.1)) := hd.ev 7 16 rfl l7
      have l5 := hp { on := 5, ground := Ground.chain } (by simp) rfl
      have l5 := hp { on := 5, ground := Ground.chain } (by simp) rfl
      obtain ⟨⟨i1, i2, i3, i4⟩, h65, h75⟩ := hW
      obtain ⟨r1, r2, r3⟩ := i2 l5
      obtain ⟨y1, y2⟩ := i3 l9
      rw [hn] at y2
      rw [l5, if_pos rfl] at i1
      obtain ⟨A9, c9, hg9, _⟩ := Kd.R_reads r1
      refine wp_store_mid 52 (.tmp 5) (.tmp 16) rfl g.2.1 0 (rep err rn g.1) e5 e16 (there_row y2 _ (by rfl)) (by kernel_rfl) (by rw [hg9]; simp [rep, Value.oneCell']) ⟨g, fun _ _ => rfl, rfl, ?_⟩
      refine ⟨?_, fun h => ?_, fun h => ?_⟩
      rotate_left
      · rw [getD_set _ _ _ _ _ hil, if_neg (by decide)] at h; rw [getD_set _ _ _ _ _ hil, if_neg (by decide)]; exact h65 h
      · rw [getD_set _ _ _ _ _ hil, if_neg (by decide)] at h; rw [getD_set _ _ _ _ _ hil, if_neg (by decide)]; exact h75 h
      have hs5 : (listed.setIfInBounds 10 true).getD 5 false = true := by rw [getD_set _ _ _ _ _ hil, if_neg (by decide), l5]
      have hs9 : (listed.setIfInBounds 10 true).getD 9 false = true := by rw [getD_set _ _ _ _ _ hil, if_neg (by decide), l9]
      have hs10 : (listed.setIfInBounds 10 true).getD 10 false = true := by rw [getD_set _ _ _ _ _ hil, if_pos rfl]
      rw [hs5, hs9, hs10]
      have hfy : FC [g.2.1] w' (w'.setCells g.2.1 0 (rep err rn g.1).toList) := FC.setCells (.inl (by simp)) _ _ _ (FC.refl _ _)
      refine ⟨?_, fun _ => ⟨?_, r2.of_fc hfy ?_ ?_, r3⟩, fun _ => ⟨y1, fill_row y2 _ (by rfl)⟩, fun _ => ⟨rfl, rfl⟩⟩
      · rw [if_pos rfl]; exact FC.setCells (.inr y1) _ _ _ i1
      · exact Kd.R_mono (Kd.R_step r1 (fun k hk hlt => hfy.block k hlt (by simpa using hk l9))) (fun k hk _ => hk l9)
      · have h1 := hPlt; simp; omega
      · have h1 := hMlt; simp; omega
    · have l8 := hp { on := 8, ground := Ground.data } (by simp) rfl
      have e17 : a.eval (.tmp 17) = (.bool b) := hd.ev 8 17 rfl l8
      have l10 := hp { on := 10, ground := Ground.chain } (by simp) rfl
      exact wp_val ((.bool b)) (by simp only [execOp, e17]; simp [go_sem]) ⟨g, fun _ _ => rfl, rfl, hkeep g listed w' 11 hil (by decide) (fun h => by omega) hW⟩
  case hfin =>
    intro g listed a w2 hs hall hd hW
    have h5 := hall 5 (by decide)
    have h9 := hall 9 (by decide)
    have h10 := hall 10 (by decide)
    obtain ⟨⟨i1, i2, i3, i4⟩, _, _⟩ := hW
    rw [h5] at i1 i2
    rw [h9, h10] at i3
    rw [if_pos rfl] at i1
    obtain ⟨r1, r2, r3⟩ := i2 rfl
    obtain ⟨y1, y2⟩ := i3 rfl
    rw [if_pos rfl] at y2
    have HR1 := Aside.mk (Kd.R_mono r1 (fun _ _ => trivial) : Kd.R Kd.string 9 w2 w1.heap.size (fun _ => True) g.1 dl)
    obtain ⟨d, Y, n'⟩ := g
    dsimp only at HR1 r2 r3 y1 y2
    have HA2 := Aside.mk r2
    have HN2 := Aside.mk r3
    have HF2 := Aside.mk i1
    have HY2 := Aside.mk y2
    have HYw := Aside.mk y1
    rw [hd.full (md := .any) (fits_of (by kernel_rfl)) hall]
    clear hd hall hs i1 i2 i3 i4 r1 r2 r3 y1 y2 h5 h9 h10 hkeep hQc hXr W I
    simp only [rv3, List.size_toArray, List.length_cons, List.length_nil, Nat.reduceAdd, fill, List.getElem?_toArray, List.getElem?_cons_succ, List.getElem?_cons_zero, Option.bind_some, List.setIfInBounds_toArray, List.set_cons_succ, List.set_cons_zero, List.getD_cons_succ, List.getD_cons_zero]
    have HQr := (HF2.out.block Q hQlt (by simp [hQP, hQM])).trans hQr
    have hF : FC [P, M] w w2 := (FC.of HBX.out).trans HF2.out
    have hPb := HJ.out.hP
    have hMb := HJ.out.hM
    have hlow : ∀ k ∈ [P, M], k < base := fun k hk => by have : k = P ∨ k = M := by simpa using hk
                                                         omega
    have hJ2 : CJ w2 P M Q base n' s2 c sl cl := ⟨HA2.out, HQr, by rw [hcmd]; exact R_fc HJ.out.srow hF hlow, R_fc HJ.out.crow hF hlow, HJ.out.hP, HJ.out.hM, HJ.out.hQ, Nat.le_trans HJ.out.hbase hF.size, HJ.out.hlen, HJ.out.hfrom, HJ.out.hto⟩
    have hbw1 : base ≤ w1.heap.size := by have := HJ.out.hbase; have := HBX.out.size; omega
    have hQY : Q ≠ Y := by have := HYw.out; have := HJ.out.hQ; omega
    have hRd : Kd.R Kd.string 9 w2 base (fun _ => True) d dl := Kd.R_lower HR1.out hbw1
    clear hQr hXrow hcall hPb hMb hlow HR1 HA2 HPL HBX HX HS1 HYw
    subst hb
    obtain ⟨stage, lo, hi, fr, tgo, data, ce, en⟩ := c
    obtain ⟨A9, c9, hd9, _⟩ := Kd.R_reads hRd
    dsimp only at hst
    subst hst
    subst hd9
    have q1 : w2.cell? ⟨Q, 1, none⟩ = some (.int .i64 3) := by rw [cell_of_row _ _ _ _ _ _ HQr]; rfl
    have q6 : w2.cell? ⟨Q, 6, none⟩ = some data := by rw [cell_of_row _ _ _ _ _ _ HQr]; rfl
    have q7 : w2.cell? ⟨Q, 7, none⟩ = some (.int .i64 ce) := by rw [cell_of_row _ _ _ _ _ _ HQr]; rfl
    have y0 : w2.cell? ⟨Y, 0, none⟩ = some (.int .i64 err) := by rw [cell_of_row _ _ _ _ _ _ HY2.out]; rfl
    have y4 : w2.cell? ⟨Y, 4, none⟩ = some (.slice A9 dl.length c9) := by rw [cell_of_row _ _ _ _ _ _ HY2.out]; rfl
    have fq : ∀ k, w2.frozen? ⟨Q, k, none⟩ = false := fun k => frozen_of_row w2 Q k _ _ HQr
    have HJ2 := Aside.mk hJ2
    have HF := Aside.mk hF
    have HRd := Aside.mk hRd
    have HQc := Aside.mk HQr
    clear hJ2 hF hRd HQr hcmd
    go_wp2_with fail
    have hend := T.endC Q _ _ (err) w2 HQc.out
    refine hend.mono ?_
    rintro e w3 ⟨rfl, hC3, hF3⟩
    have HC3 := Aside.mk hC3
    have HF3 := Aside.mk hF3
    clear hC3 hF3 hend
    go_wp2
    go_ret
    have hQb := HJ.out.hQ
    have h1 : ∀ k ∈ [Q], k < base := fun k hk => by have : k = Q := by simpa using hk
                                                    omega
    exact ⟨rfl, n', HN2.out, ⟨HJ2.out.ask.of_fc HF3.out (by simpa using hPQ) (by simpa using hMQ), HC3.out, R_fc HJ2.out.srow HF3.out h1, Kd.R_nil _ _ _ _ _, HJ.out.hP, HJ.out.hM, HJ.out.hQ, Nat.le_trans HJ2.out.hbase HF3.out.size, ⟨HJ.out.hlen.1, by simp⟩, HJ.out.hfrom, HJ.out.hto⟩, (HF.out.sub (by simp)).trans (HF3.out.sub (by simp))⟩

set_option maxHeartbeats 8000000 in
set_option maxRecDepth 100000 in
theorem T.RecvC4 (P M Q base n : Nat) (s s2 : AS) (c : CS) (sl cl : List ByteArray) (pl : List Value) (err rn : Int) (dl : List ByteArray) (w : World) (h : CJ w P M Q base n s c sl cl) (hpl : pl.length = 40)
    (hcall : ∀ wc, FC [] (w.alloc (.cells pl.toArray 57)) wc → Calls Try.prog 20 #[.pointer (some ⟨P, 0, none⟩), .agg pl.toArray] wc fun e w' => ∃ d n', e = .returned (.tuple #[.agg (rep err rn d), .bool true]) ∧ Kd.R Kd.string 9 w' wc.heap.size (fun _ => True) d dl ∧ AK w' P M n' s2 ∧ n' ≤ n + 1 ∧ FC [P, M] wc w') (hcmd : s2.cmd = s.cmd) (hst : c.stage = 4) :
    Calls Try.prog 10 #[.pointer (some ⟨Q, 0, none⟩), .agg pl.toArray] w fun e w' => e = .returned (.int .i64 0) ∧ ∃ n', n' ≤ n + 1 ∧ CJ w' P M Q base n' s2 { c with stage := 0, e := c.e, ended := true, data := .slice none 0 0 } sl [] ∧ FC [P, M, Q] w w' := by
  obtain ⟨hPQ, hMQ⟩ := h.ne
  have HJ := Aside.mk h
  have HPL := Aside.mk hpl
  have hbx : Below w.heap.size w (w.alloc (.cells pl.toArray 57)) := (Below.refl _ _).alloc (Nat.le_refl _) _
  have hQ1 : CP (w.alloc (.cells pl.toArray 57)) Q (some ⟨P, 0, none⟩) c := (hbx.block Q (Array.getElem?_eq_some_iff.1 h.ctl).1).trans h.ctl
  have hN := Aside.mk (T.nobodyF Q _ _ _ hQ1)
  have HQ1 := Aside.mk hQ1
  have HBX := Aside.mk hbx
  have HX1 := Aside.mk (heap_alloc_new w (.cells pl.toArray 57))
  have HCall := Aside.mk hcall
  clear h hpl hbx hQ1 hcall
  go_enter Try.func10, Try.ntmps10
  go_wp2_with (first | (go_at_call 15; refine hN.out.mono ?_; rintro e w' ⟨rfl, hw⟩; subst w'))
  have hQr := HQ1.out
  have hXrow := HX1.out
  have hs1 : (w.alloc (.cells pl.toArray 57)).heap.size = w.heap.size + 1 := by simp
  have hcall := HCall.out
  generalize w.alloc (.cells pl.toArray 57) = w1 at hQr hXrow hcall HBX hs1 ⊢
  obtain ⟨X, hX⟩ : ∃ X, X = w.heap.size := ⟨_, rfl⟩
  rw [← hX] at hXrow ⊢
  have hbb := HJ.out.hbase
  have hP := HJ.out.hP
  have hM := HJ.out.hM
  have hQ := HJ.out.hQ
  have hPlt : P < w1.heap.size := by omega
  have hMlt : M < w1.heap.size := by omega
  have hQlt : Q < w1.heap.size := by omega
  have hXlt : X < w1.heap.size := by omega
  have hQP : Q ≠ P := hPQ.symm
  have hQM : Q ≠ M := hMQ.symm
  have hXP : X ≠ P := by omega
  have hXM : X ≠ M := by omega
  have HS1 := Aside.mk hs1
  have HX := Aside.mk hX
  clear hX HX1 HQ1 HCall hN hs1 hbb hP hM hQ
  obtain ⟨b, hb⟩ : ∃ b, b = true := ⟨_, rfl⟩
  rw [← hb] at hcall
  let I : (Value × Nat × Nat) → Bool → Bool → Bool → World → Prop := fun g f5 f9 f10 w' => FC (if f5 = true then [P, M] else []) w1 w' ∧ (f5 = true → Kd.R Kd.string 9 w' w1.heap.size (fun k => f9 = true → k ≠ g.2.1) g.1 dl ∧ AK w' P M g.2.2 s2 ∧ g.2.2 ≤ n + 1) ∧ (f9 = true → w1.heap.size ≤ g.2.1 ∧ w'.heap[g.2.1]? = some (.cells (if f10 = true then rep err rn g.1 else Z6) 52 (0, 0))) ∧ (f10 = true → f5 = true ∧ f9 = true)
  let W : (Value × Nat × Nat) → Array Bool → World → Prop := fun g listed w' => I g (listed.getD 5 false) (listed.getD 9 false) (listed.getD 10 false) w' ∧ (listed.getD 6 false = true → listed.getD 5 false = true) ∧ (listed.getD 7 false = true → listed.getD 5 false = true)
  have hkeep : ∀ g listed w' i, i < listed.size → i ≠ 5 ∧ i ≠ 9 ∧ i ≠ 10 → (i = 6 ∨ i = 7 → listed.getD 5 false = true) → W g listed w' → W g (listed.setIfInBounds i true) w' := fun g listed w' i hi hne h67 hW => by
    obtain ⟨h1, h2, h3⟩ := hW
    refine ⟨?_, fun h => ?_, fun h => ?_⟩
    · rw [getD_set _ _ _ _ _ hi, getD_set _ _ _ _ _ hi, getD_set _ _ _ _ _ hi, if_neg (Ne.symm hne.1), if_neg (Ne.symm hne.2.1), if_neg (Ne.symm hne.2.2)]; exact h1
    · rw [getD_set _ _ _ _ _ hi] at h ⊢
      rw [if_neg (Ne.symm hne.1)]
      by_cases e : 6 = i
      · exact h67 (.inl e.symm)
      · rw [if_neg e] at h; exact h2 h
    · rw [getD_set _ _ _ _ _ hi] at h ⊢
      rw [if_neg (Ne.symm hne.1)]
      by_cases e : 7 = i
      · exact h67 (.inr e.symm)
      · rw [if_neg e] at h; exact h3 h
  have hQc : ∀ (g : Value × Nat × Nat) (f5 : Bool) (w' : World), FC (if f5 = true then [P, M] else []) w1 w' → w'.cell? ⟨Q, 0, none⟩ = some (.pointer (some ⟨P, 0, none⟩)) := fun _ f5 w' hf => by
    rw [cell_of_row _ _ _ _ _ _ ((hf.block Q hQlt (by split <;> simp [hQP, hQM])).trans hQr)]; rfl
  have hXr : ∀ (g : Value × Nat × Nat) (f5 : Bool) (w' : World), FC (if f5 = true then [P, M] else []) w1 w' → w'.rangeAt X 0 pl := fun _ f5 w' hf => range_row ((hf.block X hXlt (by split <;> simp [hXP, hXM])).trans hXrow)
  refine wp_region_confG (by kernel_rfl) (fun (g : Value × Nat × Nat) i => rv3 err rn b P Q pl g i) W (.slice none 0 0, 0, 0) (by kernel_rfl) ?h0 ?hex ?hfin
  case h0 => exact ⟨⟨by simp; exact (FC.refl _ _).drew, fun h => by simp at h, fun h => by simp at h, fun h => by simp at h⟩, fun h => by simp at h, fun h => by simp at h⟩
  case hex =>
    intro g i o listed a w' ho hs hn hp hd hW
    have hi : i < 12 := (Array.getElem?_eq_some_iff.1 ho).1
    have hs12 : listed.size = 12 := hs
    have hil : i < listed.size := by omega
    have hcase : i = 0 ∨ i = 1 ∨ i = 2 ∨ i = 3 ∨ i = 4 ∨ i = 5 ∨ i = 6 ∨ i = 7 ∨ i = 8 ∨ i = 9 ∨ i = 10 ∨ i = 11 := by omega
    rcases hcase with rfl | rfl | rfl | rfl | rfl | rfl | rfl | rfl | rfl | rfl | rfl | rfl
    all_goals
      simp only [List.getElem?_toArray, List.getElem?_cons_succ, List.getElem?_cons_zero, Option.some.injEq] at ho
      subst ho
      refine ⟨rfl, ?_⟩
    · have e0 := hd.base 0 (.pointer (some ⟨Q, 0, none⟩)) (by kernel_rfl) rfl
      exact wp_val ((.pointer (some ⟨Q, 0, none⟩))) (by simp only [execOp, e0]; simp [go_sem]) ⟨g, fun _ _ => rfl, rfl, hkeep g listed w' 0 hil (by decide) (fun h => by omega) hW⟩
    · have l0 := hp { on := 0, ground := Ground.data } (by simp) rfl
      have e10 : a.eval (.tmp 10) = (.pointer (some ⟨Q, 0, none⟩)) := hd.ev 0 10 rfl l0
      exact wp_val ((.pointer (some ⟨Q, 0, none⟩))) (by simp only [execOp, e10]; simp [go_sem]) ⟨g, fun _ _ => rfl, rfl, hkeep g listed w' 1 hil (by decide) (fun h => by omega) hW⟩
    · have l1 := hp { on := 1, ground := Ground.data } (by simp) rfl
      have e11 : a.eval (.tmp 11) = (.pointer (some ⟨Q, 0, none⟩)) := hd.ev 1 11 rfl l1
      exact wp_val ((.pointer (some ⟨Q, 0, none⟩))) (by simp only [execOp, e11]; simp [go_sem]) ⟨g, fun _ _ => rfl, rfl, hkeep g listed w' 2 hil (by decide) (fun h => by omega) hW⟩
    · have l2 := hp { on := 2, ground := Ground.data } (by simp) rfl
      have e12 : a.eval (.tmp 12) = (.pointer (some ⟨Q, 0, none⟩)) := hd.ev 2 12 rfl l2
      have hq := hQc g _ w' hW.1.1
      exact wp_val ((.pointer (some ⟨P, 0, none⟩))) (by simp only [execOp, e12]; simp [go_sem, hq]) ⟨g, fun _ _ => rfl, rfl, hkeep g listed w' 3 hil (by decide) (fun h => by omega) hW⟩
    · have e3 := hd.base 3 (.pointer (some ⟨X, 0, none⟩)) (by kernel_rfl) rfl
      exact wp_load_mid 57 (.tmp 3) rfl X 0 e3 pl _ (hXr g _ w' hW.1.1) Try.underlying57 rfl (by rw [HPL.out]; kernel_rfl) ⟨g, fun _ _ => rfl, rfl, hkeep g listed w' 4 hil (by decide) (fun h => by omega) hW⟩
    · have l3 := hp { on := 3, ground := Ground.data } (by simp) rfl
      have e13 : a.eval (.tmp 13) = (.pointer (some ⟨P, 0, none⟩)) := hd.ev 3 13 rfl l3
      have l4 := hp { on := 4, ground := Ground.data } (by simp) rfl
      have e14 : a.eval (.tmp 14) = (.agg pl.toArray) := hd.ev 4 14 rfl l4
      obtain ⟨⟨i1, i2, i3, i4⟩, h65, h75⟩ := hW
      have hf10 : listed.getD 10 false = false := by
        cases h : listed.getD 10 false with
        | false => rfl
        | true => rw [(i4 h).1] at hn; cases hn
      rw [hn, if_neg (by simp)] at i1
      refine wp_calls 20 #[.tmp 13, .tmp 14] #[31, 57] rfl (enters_of Try.func20 (by kernel_rfl) rfl) #[.pointer (some ⟨P, 0, none⟩), .agg pl.toArray] (by simp [e13, e14]) ((hcall w' i1).mono ?_)
      rintro e' w4 ⟨d, n', rfl, hr4, hA4, hn4, hF4⟩
      refine ⟨_, rfl, (d, g.2.1, n'), fun j hj => ?_, rfl, ?_⟩
      · have hj5 : j ≠ 5 := fun e => by subst e; rw [hj] at hn; cases hn
        have hj6 : j ≠ 6 := fun e => by subst e; rw [h65 hj] at hn; cases hn
        have hj7 : j ≠ 7 := fun e => by subst e; rw [h75 hj] at hn; cases hn
        exact vget err rn b P Q pl g d n' j hj5 hj6 hj7
      · refine ⟨?_, fun h => ?_, fun h => ?_⟩
        rotate_left
        · rw [getD_set _ _ _ _ _ hil, if_pos rfl]
        · rw [getD_set _ _ _ _ _ hil, if_pos rfl]
        have hs5 : (listed.setIfInBounds 5 true).getD 5 false = true := by rw [getD_set _ _ _ _ _ hil, if_pos rfl]
        have hs9 : (listed.setIfInBounds 5 true).getD 9 false = listed.getD 9 false := by rw [getD_set _ _ _ _ _ hil, if_neg (by decide)]
        have hs10 : (listed.setIfInBounds 5 true).getD 10 false = false := by rw [getD_set _ _ _ _ _ hil, if_neg (by decide), hf10]
        rw [hs5, hs9, hs10]
        refine ⟨?_, fun _ => ⟨?_, hA4, hn4⟩, fun h9 => ?_, fun h => by cases h⟩
        · rw [if_pos rfl]; exact (i1.sub (by simp)).trans hF4
        · refine Kd.R_lower (Kd.R_mono (Kd.R_bound hr4) (fun k hk h9 e => ?_)) i1.size
          have h9' := (i3 h9).2
          have hlt := (Array.getElem?_eq_some_iff.1 h9').1
          have := hk.2.1
          simp only at e
          omega
        · obtain ⟨h91, h92⟩ := i3 h9
          rw [hf10] at h92
          refine ⟨h91, (hF4.block _ (Array.getElem?_eq_some_iff.1 h92).1 ?_).trans h92⟩
          have h1 := hPlt; have h2 := hMlt
          simp only [List.mem_cons, List.not_mem_nil, or_false, not_or]
          omega
    · have l5 := hp { on := 5, ground := Ground.data } (by simp) rfl
      have e15 : a.eval (.tmp 15) = (.tuple #[.agg (rep err rn g.1), .bool b]) := hd.ev 5 15 rfl l5
      exact wp_val ((.tuple #[.agg (rep err rn g.1), .bool b])) (by simp only [execOp, e15]; simp [go_sem]) ⟨g, fun _ _ => rfl, rfl, hkeep g listed w' 6 hil (by decide) (fun _ => l5) hW⟩
    · have l6 := hp { on := 6, ground := Ground.data } (by simp) rfl
      have e9 : a.eval (.tmp 9) = (.tuple #[.agg (rep err rn g.1), .bool b]) := hd.ev 6 9 rfl l6
      exact wp_val ((.agg (rep err rn g.1))) (by simp only [execOp, e9]; simp [go_sem]) ⟨g, fun _ _ => rfl, rfl, hkeep g listed w' 7 hil (by decide) (fun _ => hW.2.1 l6) hW⟩
    · have l6 := hp { on := 6, ground := Ground.data } (by simp) rfl
      have e9 : a.eval (.tmp 9) = (.tuple #[.agg (rep err rn g.1), .bool b]) := hd.ev 6 9 rfl l6
      exact wp_val ((.bool b)) (by simp only [execOp, e9]; simp [go_sem]) ⟨g, fun _ _ => rfl, rfl, hkeep g listed w' 8 hil (by decide) (fun h => by omega) hW⟩
    · refine wp_val (w2 := w'.alloc (.cells Z6 52)) (.pointer (some ⟨w'.heap.size, 0, none⟩)) (by simp [execOp, go_sem, Z6]) ⟨(g.1, w'.heap.size, g.2.2), fun j hj => ?_, rfl, ?_⟩
      · have hj9 : j ≠ 9 := fun e => by subst e; rw [hj] at hn; cases hn
        exact vget9 err rn b P Q pl g w'.heap.size j hj9
      · obtain ⟨⟨i1, i2, i3, i4⟩, h65, h75⟩ := hW
        have hf10 : listed.getD 10 false = false := by
          cases h : listed.getD 10 false with
          | false => rfl
          | true => rw [(i4 h).2] at hn; cases hn
        refine ⟨?_, fun h => ?_, fun h => ?_⟩
        rotate_left
        · rw [getD_set _ _ _ _ _ hil, if_neg (by decide)] at h; rw [getD_set _ _ _ _ _ hil, if_neg (by decide)]; exact h65 h
        · rw [getD_set _ _ _ _ _ hil, if_neg (by decide)] at h; rw [getD_set _ _ _ _ _ hil, if_neg (by decide)]; exact h75 h
        have hs5 : (listed.setIfInBounds 9 true).getD 5 false = listed.getD 5 false := by rw [getD_set _ _ _ _ _ hil, if_neg (by decide)]
        have hs9 : (listed.setIfInBounds 9 true).getD 9 false = true := by rw [getD_set _ _ _ _ _ hil, if_pos rfl]
        have hs10 : (listed.setIfInBounds 9 true).getD 10 false = false := by rw [getD_set _ _ _ _ _ hil, if_neg (by decide), hf10]
        rw [hs5, hs9, hs10]
        refine ⟨i1.alloc _, fun h5 => ?_, fun _ => ⟨i1.size, heap_alloc_new w' _⟩, fun h => by cases h⟩
        obtain ⟨r1, r2, r3⟩ := i2 h5
        refine ⟨?_, r2.of_fc (S := []) ((FC.refl _ _).alloc _) (by simp) (by simp), r3⟩
        exact Kd.R_mono (Kd.R_bound (Kd.R_alloc (Kd.R_mono (Kd.R_bound r1) (fun k hk => hk.2.2.1)) _)) (fun k hk _ e => by have := hk.1; simp only at e; omega)
    · have l9 := hp { on := 9, ground := Ground.data } (by simp) rfl
      have e5 : a.eval (.tmp 5) = (.pointer (some ⟨g.2.1, 0, none⟩)) := hd.ev 9 5 rfl l9
      have l7 := hp { on := 7, ground := Ground.data } (by simp) rfl
      have e16 : a.eval (.tmp 16) = (.agg (rep err rn g.1)) := hd.ev 7 16 rfl l7
      have l5 := hp { on := 5, ground := Ground.chain } (by simp) rfl
      have l5 := hp { on := 5, ground := Ground.chain } (by simp) rfl
      obtain ⟨⟨i1, i2, i3, i4⟩, h65, h75⟩ := hW
      obtain ⟨r1, r2, r3⟩ := i2 l5
      obtain ⟨y1, y2⟩ := i3 l9
      rw [hn] at y2
      rw [l5, if_pos rfl] at i1
      obtain ⟨A9, c9, hg9, _⟩ := Kd.R_reads r1
      refine wp_store_mid 52 (.tmp 5) (.tmp 16) rfl g.2.1 0 (rep err rn g.1) e5 e16 (there_row y2 _ (by rfl)) (by kernel_rfl) (by rw [hg9]; simp [rep, Value.oneCell']) ⟨g, fun _ _ => rfl, rfl, ?_⟩
      refine ⟨?_, fun h => ?_, fun h => ?_⟩
      rotate_left
      · rw [getD_set _ _ _ _ _ hil, if_neg (by decide)] at h; rw [getD_set _ _ _ _ _ hil, if_neg (by decide)]; exact h65 h
      · rw [getD_set _ _ _ _ _ hil, if_neg (by decide)] at h; rw [getD_set _ _ _ _ _ hil, if_neg (by decide)]; exact h75 h
      have hs5 : (listed.setIfInBounds 10 true).getD 5 false = true := by rw [getD_set _ _ _ _ _ hil, if_neg (by decide), l5]
      have hs9 : (listed.setIfInBounds 10 true).getD 9 false = true := by rw [getD_set _ _ _ _ _ hil, if_neg (by decide), l9]
      have hs10 : (listed.setIfInBounds 10 true).getD 10 false = true := by rw [getD_set _ _ _ _ _ hil, if_pos rfl]
      rw [hs5, hs9, hs10]
      have hfy : FC [g.2.1] w' (w'.setCells g.2.1 0 (rep err rn g.1).toList) := FC.setCells (.inl (by simp)) _ _ _ (FC.refl _ _)
      refine ⟨?_, fun _ => ⟨?_, r2.of_fc hfy ?_ ?_, r3⟩, fun _ => ⟨y1, fill_row y2 _ (by rfl)⟩, fun _ => ⟨rfl, rfl⟩⟩
      · rw [if_pos rfl]; exact FC.setCells (.inr y1) _ _ _ i1
      · exact Kd.R_mono (Kd.R_step r1 (fun k hk hlt => hfy.block k hlt (by simpa using hk l9))) (fun k hk _ => hk l9)
      · have h1 := hPlt; simp; omega
      · have h1 := hMlt; simp; omega
    · have l8 := hp { on := 8, ground := Ground.data } (by simp) rfl
      have e17 : a.eval (.tmp 17) = (.bool b) := hd.ev 8 17 rfl l8
      have l10 := hp { on := 10, ground := Ground.chain } (by simp) rfl
      exact wp_val ((.bool b)) (by simp only [execOp, e17]; simp [go_sem]) ⟨g, fun _ _ => rfl, rfl, hkeep g listed w' 11 hil (by decide) (fun h => by omega) hW⟩
  case hfin =>
    intro g listed a w2 hs hall hd hW
    have h5 := hall 5 (by decide)
    have h9 := hall 9 (by decide)
    have h10 := hall 10 (by decide)
    obtain ⟨⟨i1, i2, i3, i4⟩, _, _⟩ := hW
    rw [h5] at i1 i2
    rw [h9, h10] at i3
    rw [if_pos rfl] at i1
    obtain ⟨r1, r2, r3⟩ := i2 rfl
    obtain ⟨y1, y2⟩ := i3 rfl
    rw [if_pos rfl] at y2
    have HR1 := Aside.mk (Kd.R_mono r1 (fun _ _ => trivial) : Kd.R Kd.string 9 w2 w1.heap.size (fun _ => True) g.1 dl)
    obtain ⟨d, Y, n'⟩ := g
    dsimp only at HR1 r2 r3 y1 y2
    have HA2 := Aside.mk r2
    have HN2 := Aside.mk r3
    have HF2 := Aside.mk i1
    have HY2 := Aside.mk y2
    have HYw := Aside.mk y1
    rw [hd.full (md := .any) (fits_of (by kernel_rfl)) hall]
    clear hd hall hs i1 i2 i3 i4 r1 r2 r3 y1 y2 h5 h9 h10 hkeep hQc hXr W I
    simp only [rv3, List.size_toArray, List.length_cons, List.length_nil, Nat.reduceAdd, fill, List.getElem?_toArray, List.getElem?_cons_succ, List.getElem?_cons_zero, Option.bind_some, List.setIfInBounds_toArray, List.set_cons_succ, List.set_cons_zero, List.getD_cons_succ, List.getD_cons_zero]
    have HQr := (HF2.out.block Q hQlt (by simp [hQP, hQM])).trans hQr
    have hF : FC [P, M] w w2 := (FC.of HBX.out).trans HF2.out
    have hPb := HJ.out.hP
    have hMb := HJ.out.hM
    have hlow : ∀ k ∈ [P, M], k < base := fun k hk => by have : k = P ∨ k = M := by simpa using hk
                                                         omega
    have hJ2 : CJ w2 P M Q base n' s2 c sl cl := ⟨HA2.out, HQr, by rw [hcmd]; exact R_fc HJ.out.srow hF hlow, R_fc HJ.out.crow hF hlow, HJ.out.hP, HJ.out.hM, HJ.out.hQ, Nat.le_trans HJ.out.hbase hF.size, HJ.out.hlen, HJ.out.hfrom, HJ.out.hto⟩
    have hbw1 : base ≤ w1.heap.size := by have := HJ.out.hbase; have := HBX.out.size; omega
    have hQY : Q ≠ Y := by have := HYw.out; have := HJ.out.hQ; omega
    have hRd : Kd.R Kd.string 9 w2 base (fun _ => True) d dl := Kd.R_lower HR1.out hbw1
    clear hQr hXrow hcall hPb hMb hlow HR1 HA2 HPL HBX HX HS1 HYw
    subst hb
    obtain ⟨stage, lo, hi, fr, tgo, data, ce, en⟩ := c
    obtain ⟨A9, c9, hd9, _⟩ := Kd.R_reads hRd
    dsimp only at hst
    subst hst
    subst hd9
    have q1 : w2.cell? ⟨Q, 1, none⟩ = some (.int .i64 4) := by rw [cell_of_row _ _ _ _ _ _ HQr]; rfl
    have q6 : w2.cell? ⟨Q, 6, none⟩ = some data := by rw [cell_of_row _ _ _ _ _ _ HQr]; rfl
    have q7 : w2.cell? ⟨Q, 7, none⟩ = some (.int .i64 ce) := by rw [cell_of_row _ _ _ _ _ _ HQr]; rfl
    have y0 : w2.cell? ⟨Y, 0, none⟩ = some (.int .i64 err) := by rw [cell_of_row _ _ _ _ _ _ HY2.out]; rfl
    have y4 : w2.cell? ⟨Y, 4, none⟩ = some (.slice A9 dl.length c9) := by rw [cell_of_row _ _ _ _ _ _ HY2.out]; rfl
    have fq : ∀ k, w2.frozen? ⟨Q, k, none⟩ = false := fun k => frozen_of_row w2 Q k _ _ HQr
    have HJ2 := Aside.mk hJ2
    have HF := Aside.mk hF
    have HRd := Aside.mk hRd
    have HQc := Aside.mk HQr
    clear hJ2 hF hRd HQr hcmd
    go_wp2_with fail
    have hend := T.endC Q _ _ (ce) w2 HQc.out
    refine hend.mono ?_
    rintro e w3 ⟨rfl, hC3, hF3⟩
    have HC3 := Aside.mk hC3
    have HF3 := Aside.mk hF3
    clear hC3 hF3 hend
    go_wp2
    go_ret
    have hQb := HJ.out.hQ
    have h1 : ∀ k ∈ [Q], k < base := fun k hk => by have : k = Q := by simpa using hk
                                                    omega
    exact ⟨rfl, n', HN2.out, ⟨HJ2.out.ask.of_fc HF3.out (by simpa using hPQ) (by simpa using hMQ), HC3.out, R_fc HJ2.out.srow HF3.out h1, Kd.R_nil _ _ _ _ _, HJ.out.hP, HJ.out.hM, HJ.out.hQ, Nat.le_trans HJ2.out.hbase HF3.out.size, ⟨HJ.out.hlen.1, by simp⟩, HJ.out.hfrom, HJ.out.hto⟩, (HF.out.sub (by simp)).trans (HF3.out.sub (by simp))⟩

end Go.Proofs.Ytmepeolejlpehaa

/- own: a group in memory of its own. Conditions: where its rows lie. -/
import Derived.Test.YtekjkdpiiaocjaaDoorGrC
namespace Go.Proofs.YtekjkdpiiaocjaaDoor
open Go.RowKit Go.Maps Go.Proofs.YtekjkdpiiaocjaaDoorW.PrintWords Go.Proofs.YtekjkdpiiaocjaaDoorW.PrintLast Go.Proofs.YtekjkdpiiaocjaaDoorW.PrintMore
def ownTab (g : Value × Value) : List (Nat × Nat × Value) := [(7, 1, g.1), (9, 2, g.2)]
def vown (A A' : Option Addr) (n n' c c' X : Nat) (g : Value × Value) (i : Nat) : Value := ([(.pointer (some ⟨X, 1, none⟩)), (.slice A n c), g.1, (.pointer (some ⟨X, 2, none⟩)), (.slice A' n' c'), g.2, (.pointer (some ⟨X, 1, none⟩)), undef, (.pointer (some ⟨X, 2, none⟩)), undef] : List Value).getD i undef
theorem vown_1 (A A' : Option Addr) (n n' c c' X : Nat) (g : Value × Value) (v : Value) : ∀ j, j ≠ 2 → vown A A' n n' c c' X (v, g.2) j = vown A A' n n' c c' X g j
  | 0, _ | 1, _ | 3, _ | 4, _ | 5, _ | 6, _ | 7, _ | 8, _ | 9, _ => rfl
  | 2, h => absurd rfl h
  | j + 10, _ => by simp [vown]
theorem vown_2 (A A' : Option Addr) (n n' c c' X : Nat) (g : Value × Value) (v : Value) : ∀ j, j ≠ 5 → vown A A' n n' c c' X (g.1, v) j = vown A A' n n' c c' X g j
  | 0, _ | 1, _ | 2, _ | 3, _ | 4, _ | 6, _ | 7, _ | 8, _ | 9, _ => rfl
  | 5, h => absurd rfl h
  | j + 10, _ => by simp [vown]
/-- A group's cells. -/
def grV (next : Int) (vk vm : Value) (att : ByteArray) : Array Value := #[.int .i64 next, vk, vm, .string att]
set_option maxHeartbeats 4000000 in
set_option maxRecDepth 100000 in
theorem T.own (next : Int) (A A' : Option Addr) (n n' c c' : Nat) (att : ByteArray) (ks : List Kept) (ms : List Mark) (w : World) (hCK : keptK.C w A n ks) (hCM : markK.C w A' n' ms) (hlk : ks.length ≤ 100000) (hlm : ms.length ≤ 100000) :
    Calls Tryd.prog 40 #[.agg (grV next (.slice A n c) (.slice A' n' c') att)] w fun e w' => ∃ vk vm, e = .returned (.agg (grV next vk vm att)) ∧ keptK.R 61 w' w.heap.size (fun _ => True) vk ks ∧ markK.R 67 w' w.heap.size (fun _ => True) vm ms ∧ Below w.heap.size w w' := by
  simp only [grV]
  have hbx : Below w.heap.size w ((w.alloc (.cells #[.int .i64 next, .slice A n c, .slice A' n' c', .string att] 25)).alloc (.cells #[.int .i64 0, .slice none 0 0, .slice none 0 0, .string ⟨#[]⟩] 25)) := ((Below.refl _ _).alloc (Nat.le_refl _) _).alloc (by simp) _
  have hX := heap_alloc2_old w (.cells #[.int .i64 next, .slice A n c, .slice A' n' c', .string att] 25) (.cells #[.int .i64 0, .slice none 0 0, .slice none 0 0, .string ⟨#[]⟩] 25)
  have hY := heap_alloc2_new w (.cells #[.int .i64 next, .slice A n c, .slice A' n' c', .string att] 25) (.cells #[.int .i64 0, .slice none 0 0, .slice none 0 0, .string ⟨#[]⟩] 25)
  go_enter Tryd.func40, Tryd.ntmps40
  go_wp2_with fail
  generalize hw1 : World.alloc (World.alloc w _) _ = w1 at hbx hX hY ⊢
  clear hw1
  have hCKx : ∀ w', FC [w.heap.size] w1 w' → keptK.C w' A n ks := fun w' hf => C_fresh (S := [w.heap.size]) (fun h => h) hCK ((FC.of (S := [w.heap.size]) hbx).trans hf) (by simp)
  have hCMx : ∀ w', FC [w.heap.size] w1 w' → markK.C w' A' n' ms := fun w' hf => C_fresh (S := [w.heap.size]) (fun h => h) hCM ((FC.of (S := [w.heap.size]) hbx).trans hf) (by simp)
  have HBX := Aside.mk hbx
  obtain ⟨Y, hYe⟩ : ∃ Y, Y = w.heap.size + 1 := ⟨_, rfl⟩
  obtain ⟨X, hXe⟩ : ∃ X, X = w.heap.size := ⟨_, rfl⟩
  rw [← hYe, ← hXe]
  rw [← hYe] at hY
  rw [← hXe] at hX hCKx hCMx
  have HXY := Aside.mk (And.intro hXe hYe)
  clear hXe hYe
  have hXlt : X < w1.heap.size := (Array.getElem?_eq_some_iff.1 hX).1
  obtain ⟨L0, hL0⟩ : ∃ L0 : Nat → Option Value, L0 = fun k => (#[.int .i64 next, .slice A n c, .slice A' n' c', .string att] : Array Value)[k]? := ⟨_, rfl⟩
  have hX1 : L0 1 = some (.slice A n c) := by rw [hL0]; rfl
  have hX2 : L0 2 = some (.slice A' n' c') := by rw [hL0]; rfl
  have hXc : CellsF w1 X 25 L0 := by rw [hL0]; exact CellsF.of_row hX
  let W : (Value × Value) → Array Bool → World → Prop := fun g listed w' => FC [X] w1 w' ∧ CellsF w' X 25 (stF L0 listed (ownTab g)) ∧ (listed.getD 2 false = true → keptK.R 61 w' w1.heap.size (fun _ => True) g.1 ks) ∧ (listed.getD 5 false = true → markK.R 67 w' w1.heap.size (fun _ => True) g.2 ms)
  have hkeep : ∀ g listed w' i, i < listed.size → i ≠ 2 ∧ i ≠ 5 ∧ i ≠ 7 ∧ i ≠ 9 → W g listed w' → W g (listed.setIfInBounds i true) w' := fun g listed w' i hi hne hW => by
    refine ⟨hW.1, hW.2.1.congr (fun k => (stF_keep hi (ownTab g) (fun e he => ?_) k).symm), fun h => ?_, fun h => ?_⟩
    · simp [ownTab] at he
      rcases he with rfl | rfl
      · exact Ne.symm hne.2.2.1
      · exact Ne.symm hne.2.2.2
    · rw [getD_set _ _ _ _ _ hi, if_neg (Ne.symm hne.1)] at h; exact hW.2.2.1 h
    · rw [getD_set _ _ _ _ _ hi, if_neg (Ne.symm hne.2.1)] at h; exact hW.2.2.2 h
  refine wp_region_confD (by kernel_rfl) (fun (g : Value × Value) i => vown A A' n n' c c' X g i) W (.slice none 0 0, .slice none 0 0) (by kernel_rfl) ?h0 ?hex ?hfin
  case h0 => exact ⟨(FC.refl _ _).drew, (hXc.of_heap (w' := w1.drew) rfl).congr (fun k => (stF_start _ _ k).symm), fun h => by simp at h, fun h => by simp at h⟩
  case hex =>
    intro g i o listed a w' ho hs hn hp hcl hd hW
    have hi : i < 10 := (Array.getElem?_eq_some_iff.1 ho).1
    have hs10 : listed.size = 10 := hs
    have hil : i < listed.size := by omega
    have hcase : i = 0 ∨ i = 1 ∨ i = 2 ∨ i = 3 ∨ i = 4 ∨ i = 5 ∨ i = 6 ∨ i = 7 ∨ i = 8 ∨ i = 9 := by omega
    rcases hcase with rfl | rfl | rfl | rfl | rfl | rfl | rfl | rfl | rfl | rfl
    all_goals
      simp only [List.getElem?_toArray, List.getElem?_cons_succ, List.getElem?_cons_zero, Option.some.injEq] at ho
      subst ho
      refine ⟨rfl, ?_⟩
    · have e1 := hd.base 1 (.pointer (some ⟨X, 0, none⟩)) (by kernel_rfl) rfl
      exact wp_val ((.pointer (some ⟨X, 1, none⟩))) (by simp only [execOp, e1]; simp [go_sem]) ⟨g, fun _ _ => rfl, rfl, hkeep g listed w' 0 hil (by decide) hW⟩
    · have l0 := hp { on := 0, ground := Ground.data } (by simp) rfl
      have e3 : a.eval (.tmp 3) = (.pointer (some ⟨X, 1, none⟩)) := hd.ev 0 3 rfl l0
      have hq : w'.cell? ⟨X, 1, none⟩ = some (.slice A n c) := by
        rw [hW.2.1.cell 1]
        unfold ownTab
        have h7 : listed.getD 7 false = false := by
          cases h : listed.getD 7 false with
          | false => rfl
          | true => rw [hcl.of 2 1 (hcl.of 7 2 h (by kernel_rfl)) (by kernel_rfl)] at hn; cases hn
        simp [stF, h7, hX1]
      exact wp_val ((.slice A n c)) (by simp only [execOp, e3]; simp [go_sem, hq]) ⟨g, fun _ _ => rfl, rfl, hkeep g listed w' 1 hil (by decide) hW⟩
    · have l1 := hp { on := 1, ground := Ground.data } (by simp) rfl
      have e4 : a.eval (.tmp 4) = (.slice A n c) := hd.ev 1 4 rfl l1
      refine wp_calls 52 #[.tmp 4] #[22] rfl (enters_of Tryd.func52 (by kernel_rfl) rfl) _ (by simp [e4]) ((T.CloneK A n c ks w' (hCKx w' hW.1) hlk).mono ?_)
      rintro e' w4 ⟨v, rfl, hr4, hb4⟩
      refine ⟨v, rfl, (v, g.2), fun j hj => ?_, rfl, ?_, ?_, ?_, ?_⟩
      · have hjn : j ≠ 2 := fun e => by subst e; rw [hj] at hn; cases hn
        exact vown_1 A A' n n' c c' X g v j hjn
      · exact hW.1.trans (FC.of hb4)
      · have hn7 : listed.getD 7 false = false := by
          cases h : listed.getD 7 false with
          | false => rfl
          | true => rw [hcl.of 7 2 h (by kernel_rfl)] at hn; cases hn
        refine (hW.2.1.of_heap (hb4.block X (Nat.lt_of_lt_of_le hXlt hW.1.size))).congr (fun k => ?_)
        unfold ownTab
        simp only [stF, getD_set _ _ _ _ _ hil]
        simp [hn7]
      · intro h
        exact Kd.R_lower hr4 hW.1.size
      · intro h
        rw [getD_set _ _ _ _ _ hil, if_neg (by decide)] at h; exact Kd.R_below (hW.2.2.2 h) hb4
    · have e1 := hd.base 1 (.pointer (some ⟨X, 0, none⟩)) (by kernel_rfl) rfl
      exact wp_val ((.pointer (some ⟨X, 2, none⟩))) (by simp only [execOp, e1]; simp [go_sem]) ⟨g, fun _ _ => rfl, rfl, hkeep g listed w' 3 hil (by decide) hW⟩
    · have l3 := hp { on := 3, ground := Ground.data } (by simp) rfl
      have e6 : a.eval (.tmp 6) = (.pointer (some ⟨X, 2, none⟩)) := hd.ev 3 6 rfl l3
      have hq : w'.cell? ⟨X, 2, none⟩ = some (.slice A' n' c') := by
        rw [hW.2.1.cell 2]
        unfold ownTab
        have h7 : listed.getD 9 false = false := by
          cases h : listed.getD 9 false with
          | false => rfl
          | true => rw [hcl.of 5 4 (hcl.of 9 5 h (by kernel_rfl)) (by kernel_rfl)] at hn; cases hn
        simp [stF, h7, hX2]
      exact wp_val ((.slice A' n' c')) (by simp only [execOp, e6]; simp [go_sem, hq]) ⟨g, fun _ _ => rfl, rfl, hkeep g listed w' 4 hil (by decide) hW⟩
    · have l4 := hp { on := 4, ground := Ground.data } (by simp) rfl
      have e7 : a.eval (.tmp 7) = (.slice A' n' c') := hd.ev 4 7 rfl l4
      have l2 := hp { on := 2, ground := Ground.chain } (by simp) rfl
      refine wp_calls 53 #[.tmp 7] #[23] rfl (enters_of Tryd.func53 (by kernel_rfl) rfl) _ (by simp [e7]) ((T.CloneM A' n' c' ms w' (hCMx w' hW.1) hlm).mono ?_)
      rintro e' w4 ⟨v, rfl, hr4, hb4⟩
      refine ⟨v, rfl, (g.1, v), fun j hj => ?_, rfl, ?_, ?_, ?_, ?_⟩
      · have hjn : j ≠ 5 := fun e => by subst e; rw [hj] at hn; cases hn
        exact vown_2 A A' n n' c c' X g v j hjn
      · exact hW.1.trans (FC.of hb4)
      · have hn7 : listed.getD 9 false = false := by
          cases h : listed.getD 9 false with
          | false => rfl
          | true => rw [hcl.of 9 5 h (by kernel_rfl)] at hn; cases hn
        refine (hW.2.1.of_heap (hb4.block X (Nat.lt_of_lt_of_le hXlt hW.1.size))).congr (fun k => ?_)
        unfold ownTab
        simp only [stF, getD_set _ _ _ _ _ hil]
        simp [hn7]
      · intro h
        rw [getD_set _ _ _ _ _ hil, if_neg (by decide)] at h; exact Kd.R_below (hW.2.2.1 h) hb4
      · intro h
        exact Kd.R_lower hr4 hW.1.size
    · have e1 := hd.base 1 (.pointer (some ⟨X, 0, none⟩)) (by kernel_rfl) rfl
      exact wp_val ((.pointer (some ⟨X, 1, none⟩))) (by simp only [execOp, e1]; simp [go_sem]) ⟨g, fun _ _ => rfl, rfl, hkeep g listed w' 6 hil (by decide) hW⟩
    · have l6 := hp { on := 6, ground := Ground.data } (by simp) rfl
      have e9 : a.eval (.tmp 9) = (.pointer (some ⟨X, 1, none⟩)) := hd.ev 6 9 rfl l6
      have l2 := hp { on := 2, ground := Ground.data } (by simp) rfl
      have e5 : a.eval (.tmp 5) = g.1 := hd.ev 2 5 rfl l2
      have l5 := hp { on := 5, ground := Ground.chain } (by simp) rfl
      have hsome : (stF L0 listed (ownTab g) 1).isSome = true := stF_some (by rw [hX1]; rfl) (ownTab g)
      obtain ⟨x, hx⟩ := Option.isSome_iff_exists.1 hsome
      have hc := (hW.2.1.cell 1).trans hx
      have hf := hW.2.1.froz 1
      obtain ⟨A9, c9, hg9, _⟩ := Kd.R_reads (hW.2.2.1 l2)
      refine wp_skip (w2 := w'.setCell ⟨X, 1, none⟩ (g.1)) (by simp only [execOp, e9, e5, hg9]; simp [go_sem, hc, hf]) ⟨g, fun _ _ => rfl, rfl, hW.1.setCell (p := ⟨X, 1, none⟩) (.inl (by simp)) _, ?_, ?_, ?_⟩
      · exact (hW.2.1.set 1 (g.1) hsome).congr (fun k => (stF_at hil (ownTab g) (by unfold ownTab; simp) (by unfold ownTab; simp) k).symm)
      · intro h; rw [getD_set _ _ _ _ _ hil, if_neg (by decide)] at h; exact R_fcG (S := [X]) (hW.2.2.1 h) ((FC.refl _ _).setCell (p := ⟨X, 1, none⟩) (.inl (by simp)) _) (by simpa using hXlt)
      · intro h; rw [getD_set _ _ _ _ _ hil, if_neg (by decide)] at h; exact R_fcG (S := [X]) (hW.2.2.2 h) ((FC.refl _ _).setCell (p := ⟨X, 1, none⟩) (.inl (by simp)) _) (by simpa using hXlt)
    · have e1 := hd.base 1 (.pointer (some ⟨X, 0, none⟩)) (by kernel_rfl) rfl
      exact wp_val ((.pointer (some ⟨X, 2, none⟩))) (by simp only [execOp, e1]; simp [go_sem]) ⟨g, fun _ _ => rfl, rfl, hkeep g listed w' 8 hil (by decide) hW⟩
    · have l8 := hp { on := 8, ground := Ground.data } (by simp) rfl
      have e10 : a.eval (.tmp 10) = (.pointer (some ⟨X, 2, none⟩)) := hd.ev 8 10 rfl l8
      have l5 := hp { on := 5, ground := Ground.data } (by simp) rfl
      have e8 : a.eval (.tmp 8) = g.2 := hd.ev 5 8 rfl l5
      have l7 := hp { on := 7, ground := Ground.chain } (by simp) rfl
      have hsome : (stF L0 listed (ownTab g) 2).isSome = true := stF_some (by rw [hX2]; rfl) (ownTab g)
      obtain ⟨x, hx⟩ := Option.isSome_iff_exists.1 hsome
      have hc := (hW.2.1.cell 2).trans hx
      have hf := hW.2.1.froz 2
      obtain ⟨A9, c9, hg9, _⟩ := Kd.R_reads (hW.2.2.2 l5)
      refine wp_skip (w2 := w'.setCell ⟨X, 2, none⟩ (g.2)) (by simp only [execOp, e10, e8, hg9]; simp [go_sem, hc, hf]) ⟨g, fun _ _ => rfl, rfl, hW.1.setCell (p := ⟨X, 2, none⟩) (.inl (by simp)) _, ?_, ?_, ?_⟩
      · exact (hW.2.1.set 2 (g.2) hsome).congr (fun k => (stF_at hil (ownTab g) (by unfold ownTab; simp) (by unfold ownTab; simp) k).symm)
      · intro h; rw [getD_set _ _ _ _ _ hil, if_neg (by decide)] at h; exact R_fcG (S := [X]) (hW.2.2.1 h) ((FC.refl _ _).setCell (p := ⟨X, 2, none⟩) (.inl (by simp)) _) (by simpa using hXlt)
      · intro h; rw [getD_set _ _ _ _ _ hil, if_neg (by decide)] at h; exact R_fcG (S := [X]) (hW.2.2.2 h) ((FC.refl _ _).setCell (p := ⟨X, 2, none⟩) (.inl (by simp)) _) (by simpa using hXlt)
  case hfin =>
    intro g listed a w2 hs hall hd hW
    have hrow : w2.heap[X]? = some (.cells #[.int .i64 next, g.1, g.2, .string att] 25 (0, 0)) := hW.2.1.row _ (fun k => by
      rw [stF_all (ownTab g) (fun e he => by simp [ownTab] at he; rcases he with rfl | rfl; exact hall 7 (by decide); exact hall 9 (by decide)), hL0]
      match k with
      | 0 => rfl
      | 1 => rfl
      | 2 => rfl
      | 3 => rfl
      | k + 4 => simp [ownTab])
    have HK2 := Aside.mk (hW.2.2.1 (hall 2 (by decide)))
    have HM2 := Aside.mk (hW.2.2.2 (hall 5 (by decide)))
    have HF2 := Aside.mk hW.1
    obtain ⟨vk, vm⟩ := g
    dsimp only at hrow HK2 HM2
    obtain ⟨Ak, ck, hvk, _⟩ := Kd.R_reads HK2.out
    obtain ⟨Am, cm, hvm, _⟩ := Kd.R_reads HM2.out
    rw [hd.full (md := .any) (fits_of (by kernel_rfl)) hall]
    clear hd hall hs hW hkeep W
    simp only [vown, List.size_toArray, List.length_cons, List.length_nil, Nat.reduceAdd, fill, List.getElem?_toArray, List.getElem?_cons_succ, List.getElem?_cons_zero, Option.bind_some, List.setIfInBounds_toArray, List.set_cons_succ, List.set_cons_zero, List.getD_cons_succ, List.getD_cons_zero]
    subst hvk hvm
    have x0 : w2.cell? ⟨X, 0, none⟩ = some (.int .i64 next) := by rw [cell_of_row _ _ _ _ _ _ hrow]; rfl
    have x1 : w2.cell? ⟨X, 1, none⟩ = some (.slice Ak ks.length ck) := by rw [cell_of_row _ _ _ _ _ _ hrow]; rfl
    have x2 : w2.cell? ⟨X, 2, none⟩ = some (.slice Am ms.length cm) := by rw [cell_of_row _ _ _ _ _ _ hrow]; rfl
    have x3 : w2.cell? ⟨X, 3, none⟩ = some (.string att) := by rw [cell_of_row _ _ _ _ _ _ hrow]; rfl
    have hYr := (HF2.out.block Y (Array.getElem?_eq_some_iff.1 hY).1 (by have := HXY.out; simp; omega)).trans hY
    have y0 : w2.cell? ⟨Y, 0, none⟩ = some (.int .i64 0) := by rw [cell_of_row _ _ _ _ _ _ hYr]; rfl
    have y1 : w2.cell? ⟨Y, 1, none⟩ = some (.slice none 0 0) := by rw [cell_of_row _ _ _ _ _ _ hYr]; rfl
    have y2 : w2.cell? ⟨Y, 2, none⟩ = some (.slice none 0 0) := by rw [cell_of_row _ _ _ _ _ _ hYr]; rfl
    have y3 : w2.cell? ⟨Y, 3, none⟩ = some (.string ⟨#[]⟩) := by rw [cell_of_row _ _ _ _ _ _ hYr]; rfl
    have fy : ∀ k, w2.frozen? ⟨Y, k, none⟩ = false := fun k => frozen_of_row w2 Y k _ _ hYr
    have h4 := heap_setCell_same _ Y 3 _ _ (.string att) (heap_setCell_same _ Y 2 _ _ (.slice Am ms.length cm) (heap_setCell_same _ Y 1 _ _ (.slice Ak ks.length ck) (heap_setCell_same w2 Y 0 _ _ (.int .i64 next) hYr)))
    simp only [List.setIfInBounds_toArray, List.set_cons_succ, List.set_cons_zero] at h4
    have hf4 := ((((FC.refl [Y] w2).setCell (p := ⟨Y, 0, none⟩) (.inl (by simp)) (.int .i64 next)).setCell (p := ⟨Y, 1, none⟩) (.inl (by simp)) (.slice Ak ks.length ck)).setCell (p := ⟨Y, 2, none⟩) (.inl (by simp)) (.slice Am ms.length cm)).setCell (p := ⟨Y, 3, none⟩) (.inl (by simp)) (.string att)
    have H4 := Aside.mk h4
    have HF4 := Aside.mk hf4
    clear h4 hf4 hYr
    go_wp2
    refine bodyPost_ret (v := .agg #[.int .i64 next, .slice Ak ks.length ck, .slice Am ms.length cm, .string att]) (results_cell _ _ 2 25 ⟨Y, 0, none⟩ _ _ (by kernel_rfl) (by rfl) (run_loadVar_mid _ Y 0 25 [.int .i64 next, .slice Ak ks.length ck, .slice Am ms.length cm, .string att] _ (range_row H4.out) Tryd.underlying25 (by rfl) (by kernel_rfl))) (by rfl) ?_
    have hYlt : Y < w1.heap.size := (Array.getElem?_eq_some_iff.1 hY).1
    have hfa := (HF2.out.sub (S' := [X, Y]) (by simp)).trans (HF4.out.sub (by simp))
    refine ⟨_, _, rfl, Kd.R_lower (R_fcG HK2.out HF4.out (by simpa using hYlt)) HBX.out.size, Kd.R_lower (R_fcG HM2.out HF4.out (by simpa using hYlt)) HBX.out.size, hfa.os.trans HBX.out.os, hfa.tape.trans HBX.out.tape, hfa.output.trans HBX.out.output, Nat.le_trans HBX.out.size hfa.size, fun k hk => (hfa.block k (Nat.lt_of_lt_of_le hk HBX.out.size) (by have := HXY.out; simp; omega)).trans (HBX.out.block k hk)⟩
end Go.Proofs.YtekjkdpiiaocjaaDoor

/- The asker's Ask. Conditions: where the asker lies, what it asks. -/
import Derived.Test.YtmepeolejlpehaaConf
import Derived.Deep.DeepCutAuto
import Derived.Deep.RegionHeld3
import Derived.BigRegion
import Derived.Deep.CutBlock
namespace Go.Proofs.Ytmepeolejlpehaa
open Go.RowKit Go.Maps Go.Proofs.YtmepeolejlpehaaW.PrintWords Go.Proofs.YtmepeolejlpehaaW.PrintLast Go.Proofs.YtmepeolejlpehaaW.PrintMore
/-- Cells written over a row from a place on. -/
def putL : Nat → List Value → Array Value → Array Value
  | _, [], a => a
  | o, v :: r, a => putL (o + 1) r (a.setIfInBounds o v)
theorem heap_setCells_row (g : Nat) : ∀ (vs : List Value) (o : Nat) (w : World) (cur : Array Value) (t : Nat), w.heap[g]? = some (.cells cur t (0, 0)) → (w.setCells g o vs).heap[g]? = some (.cells (putL o vs cur) t (0, 0))
  | [], _, _, _, _, h => h
  | v :: r, o, w, cur, t, h => heap_setCells_row g r (o + 1) _ _ t (heap_setCell_same w g o cur t v h)
theorem FC.setCell {S : List Nat} {a b : World} (h : FC S a b) {p : Addr} (hp : p.block ∈ S ∨ a.heap.size ≤ p.block) (v : Value) : FC S a (b.setCell p v) :=
  ⟨h.os, h.tape, h.output, by simpa [World.setCell] using h.size, fun k hk hn => by
    rw [Below.heap_setCell _ _ _ _ (fun e => by rcases hp with hp | hp; exact hn (e ▸ hp); omega)]
    exact h.block k hk hn⟩
theorem FC.setCells {S : List Nat} {a : World} {g : Nat} (hp : g ∈ S ∨ a.heap.size ≤ g) : ∀ (vs : List Value) (o : Nat) (b : World), FC S a b → FC S a (b.setCells g o vs)
  | [], _, _, h => h
  | v :: r, o, b, h => FC.setCells hp r (o + 1) _ (h.setCell (p := ⟨g, o, none⟩) hp v)
theorem FC.alloc {S : List Nat} {a b : World} (h : FC S a b) (o : Obj) : FC S a (b.alloc o) :=
  ⟨h.os, h.tape, h.output, by have := h.size; simp; omega, fun k hk hn => by rw [Below.heap_alloc _ _ _ (Nat.lt_of_lt_of_le hk h.size)]; exact h.block k hk hn⟩
theorem FC.drew {S : List Nat} {a b : World} (h : FC S a b) : FC S a b.drew := ⟨h.os, h.tape, h.output, h.size, h.block⟩
theorem FC.thenB {S : List Nat} {a b c : World} (h : FC S a b) (k : Below b.heap.size b c) : FC S a c := h.trans (FC.of k)
theorem R_fc {S : List Nat} {w w' : World} {base : Nat} {v : Value} {l : List ByteArray} (h : Kd.R Kd.string 9 w base (fun _ => True) v l) (f : FC S w w') (hS : ∀ k ∈ S, k < base) : Kd.R Kd.string 9 w' base (fun _ => True) v l :=
  Kd.R_mono (Kd.R_step (Kd.R_bound h) (fun k hk hlt => f.block k hlt (fun e => by have := hS k e; have := hk.2.1; omega))) (fun _ _ => trivial)
theorem size_setCell (w : World) (p : Addr) (v : Value) : (w.setCell p v).heap.size = w.heap.size := by simp [World.setCell]
/-- Cells of one block written one by one. -/
def setL (P : Nat) (w : World) (l : List (Nat × Value)) : World := l.foldl (fun w p => w.setCell ⟨P, p.1, none⟩ p.2) w
theorem setL_heap (P t : Nat) : ∀ (l : List (Nat × Value)) (w : World) (cs : Array Value), w.heap[P]? = some (.cells cs t (0, 0)) → (setL P w l).heap[P]? = some (.cells (l.foldl (fun a p => a.setIfInBounds p.1 p.2) cs) t (0, 0))
  | [], _, _, h => h
  | p :: r, w, cs, h => setL_heap P t r _ _ (heap_setCell_same w P p.1 cs t p.2 h)
theorem setL_fc (P : Nat) {S : List Nat} {a : World} (hp : P ∈ S ∨ a.heap.size ≤ P) : ∀ (l : List (Nat × Value)) (w : World), FC S a w → FC S a (setL P w l)
  | [], _, h => h
  | p :: r, w, h => setL_fc P hp r _ (h.setCell (p := ⟨P, p.1, none⟩) hp p.2)
theorem wp_val {P : Program} {o : Oper} {a : Act} {w w2 : World} {K : Act → World → Prop} {Q : Exit → Act → World → Prop} (v : Value) (h : (execOp a.eval o).run P w = .ok (.value v) w2) (hk : K (a.put o.dst v) w2) : o.wp P a w K Q := by
  unfold Oper.wp
  rw [h]
  exact hk
theorem wp_skip {P : Program} {o : Oper} {a : Act} {w w2 : World} {K : Act → World → Prop} {Q : Exit → Act → World → Prop} (h : (execOp a.eval o).run P w = .ok .skip w2) (hk : K (a.put o.dst undef) w2) : o.wp P a w K Q := by
  unfold Oper.wp
  rw [h]
  exact hk
/-- What region 8 leaves. -/
theorem ask_rel {w w1 w2 : World} {P M B : Nat} {s : AS} {ck cc cn clo chi ct id num : Int} {v0 d : Value} {cl : List ByteArray} (hB : B = w.heap.size) (hPB : P ≠ B) (h1 : w1.heap.size = B + 1) (K1 : w2.heap[P]? = some (.cells (s.cells M) 77 (0, 0)))
    (K2 : w2.heap[B]? = some (.cells #[.int .i64 ck, .int .i64 cc, .int .i64 cn, .int .i64 0, .int .i64 0, .string ⟨#[]⟩, .string ⟨#[]⟩, .string ⟨#[]⟩, .string ⟨#[]⟩, .int .i64 0, .int .i64 0, .int .i64 0, .string ⟨#[]⟩, .int .i64 0, .int .i64 0, .int .i64 clo, .int .i64 chi, .int .i64 ct, v0] 48 (0, 0))) (R2 : Kd.R Kd.string 9 w2 w1.drew.heap.size (fun _ => True) d cl) (F1 : FC [P] w w1) (B2 : Below w1.drew.heap.size w1.drew w2) :
    ∃ d', Aside (AP (((w2.setCell ⟨B, 1, none⟩ (.int .i64 id)).setCell ⟨B, 2, none⟩ (.int .i64 num)).setCell ⟨B, 18, none⟩ d) P M s) ∧ Aside ((((w2.setCell ⟨B, 1, none⟩ (.int .i64 id)).setCell ⟨B, 2, none⟩ (.int .i64 num)).setCell ⟨B, 18, none⟩ d).heap[B]? = some (.cells #[.int .i64 ck, .int .i64 id, .int .i64 num, .int .i64 0, .int .i64 0, .string ⟨#[]⟩, .string ⟨#[]⟩, .string ⟨#[]⟩, .string ⟨#[]⟩, .int .i64 0, .int .i64 0, .int .i64 0, .string ⟨#[]⟩, .int .i64 0, .int .i64 0, .int .i64 clo, .int .i64 chi, .int .i64 ct, d'] 48 (0, 0))) ∧
      Aside (Kd.R Kd.string 9 (((w2.setCell ⟨B, 1, none⟩ (.int .i64 id)).setCell ⟨B, 2, none⟩ (.int .i64 num)).setCell ⟨B, 18, none⟩ d) w.heap.size (fun _ => True) d' cl) ∧ Aside (FC [P] w (((w2.setCell ⟨B, 1, none⟩ (.int .i64 id)).setCell ⟨B, 2, none⟩ (.int .i64 num)).setCell ⟨B, 18, none⟩ d)) := by
  have hFB : FC [P] w w2 := (F1.drew).thenB B2
  have hB2 := B2.size
  have hw : w1.drew.heap.size = w1.heap.size := rfl
  refine ⟨d, ⟨?_⟩, ⟨heap_setCell_same _ B 18 _ _ _ (heap_setCell_same _ B 2 _ _ _ (heap_setCell_same _ B 1 _ _ _ K2))⟩, ⟨?_⟩, ⟨((hFB.setCell (.inr (by show w.heap.size ≤ B; omega)) _).setCell (.inr (by show w.heap.size ≤ B; omega)) _).setCell (.inr (by show w.heap.size ≤ B; omega)) _⟩⟩
  · unfold AP
    rw [Below.heap_setCell _ _ _ _ hPB, Below.heap_setCell _ _ _ _ hPB, Below.heap_setCell _ _ _ _ hPB]
    exact K1
  · refine Kd.R_lower (R_fc R2 (S := [B]) ((((FC.refl _ _).setCell (.inl (by simp)) _).setCell (.inl (by simp)) _).setCell (.inl (by simp)) _) (fun k hk => ?_)) (by omega)
    have : k = B := by simpa using hk
    omega
set_option maxHeartbeats 4000000 in
set_option maxRecDepth 100000 in
theorem T.Ask (P M base : Nat) (s : AS) (g : Int) (c : CmdV) (cl : List ByteArray) (w : World) (h : AP w P M s) (hid : 1 ≤ s.id) (hb : s.busy = false) (hg : 0 ≤ g ∧ g ≤ 6) (hnum : 0 ≤ s.num ∧ s.num ≤ 100000)
    (hd : Kd.R Kd.string 9 w base (fun _ => True) c.data cl) (hP : P < base) (hcl : cl.length ≤ 1000) (hbase : base ≤ w.heap.size) :
    Calls Try.prog 22 #[.pointer (some ⟨P, 0, none⟩), .int .i64 g, .agg c.list.toArray] w fun e w' => e = .returned (.int .i64 0) ∧ ∃ d, AP w' P M { s with num := s.num + 1, group := g, cmd := { c with client := s.id, num := s.num + 1, data := d }, busy := true, sent := false } ∧ Kd.R Kd.string 9 w' w.heap.size (fun _ => True) d cl ∧ FC [P] w w' := by
  obtain ⟨id, nodes, retry, num, group, ⟨k0, k1, k2, k3, k4, k5, k6⟩, busy, sent, waited⟩ := s
  obtain ⟨ck, cc, cn, clo, chi, ct, cd⟩ := c
  simp only [CmdV.list] at *
  try dsimp only at hb hid hnum hd
  subst hb
  obtain ⟨Ad, cdc, rfl, hdc, hdC⟩ := Kd.R_reads hd
  have hlt : P < w.heap.size := by omega
  have HW := Aside.mk h
  have hbA : Below w.heap.size w (w.alloc (.cells #[.int .i64 ck, .int .i64 cc, .int .i64 cn, .int .i64 0, .int .i64 0, .string ⟨#[]⟩, .string ⟨#[]⟩, .string ⟨#[]⟩, .string ⟨#[]⟩, .int .i64 0, .int .i64 0, .int .i64 0, .string ⟨#[]⟩, .int .i64 0, .int .i64 0, .int .i64 clo, .int .i64 chi, .int .i64 ct, .slice Ad cl.length cdc] 48)) := (Below.refl _ _).alloc (Nat.le_refl _) _
  have hA : AP (w.alloc (.cells #[.int .i64 ck, .int .i64 cc, .int .i64 cn, .int .i64 0, .int .i64 0, .string ⟨#[]⟩, .string ⟨#[]⟩, .string ⟨#[]⟩, .string ⟨#[]⟩, .int .i64 0, .int .i64 0, .int .i64 0, .string ⟨#[]⟩, .int .i64 0, .int .i64 0, .int .i64 clo, .int .i64 chi, .int .i64 ct, .slice Ad cl.length cdc] 48)) P M ⟨id, nodes, retry, num, group, ⟨k0, k1, k2, k3, k4, k5, k6⟩, false, sent, waited⟩ := (hbA.block P hlt).trans h
  have h3 := hA.cell 3
  have h24 := hA.cell 24
  have f3 := frozen_of_row _ P 3 _ _ hA
  simp only [AS.cells] at h3 h24 f3
  have hNone := Aside.mk (T.noneA P M _ _ hA hid)
  have hIs := Aside.mk (fun W => T.isG g W)
  have hgd : decide (0 ≤ g ∧ g ≤ 6) = true := by simp; omega
  rw [hgd] at hIs
  have hwr : IntKind.i64.wrap (num + 1) = num + 1 := by simp [IntKind.wrap, IntKind.bits, IntKind.signed]; omega
  have HA := Aside.mk hA
  have HD := Aside.mk hd
  have HN := Aside.mk hnum
  clear hA h hd hgd hnum
  go_enter Try.func22, Try.ntmps22
  go_wp2_with (first | (go_at_call 28; refine hNone.out.mono ?_; rintro e w' ⟨rfl, hw⟩; subst w') | (go_at_call 29; refine (hIs.out _).mono ?_; rintro e w' ⟨rfl, hw⟩; subst w'))
  generalize hw1 : World.alloc (World.setCell w _ _) _ = w1
  have hs1 : w1.heap.size = w.heap.size + 1 := by rw [← hw1]; simp [World.setCell]
  have hAP1 : AP w1 P M ⟨id, nodes, retry, num + 1, group, ⟨k0, k1, k2, k3, k4, k5, k6⟩, false, sent, waited⟩ := by
    rw [← hw1]
    show (World.alloc _ _).heap[P]? = _
    rw [Below.heap_alloc _ _ _ (by simpa [World.setCell] using hlt)]
    exact heap_setCell_same w P 3 _ _ _ HW.out
  have hBX : w1.heap[w.heap.size]? = some (.cells #[.int .i64 ck, .int .i64 cc, .int .i64 cn, .int .i64 0, .int .i64 0, .string ⟨#[]⟩, .string ⟨#[]⟩, .string ⟨#[]⟩, .string ⟨#[]⟩, .int .i64 0, .int .i64 0, .int .i64 0, .string ⟨#[]⟩, .int .i64 0, .int .i64 0, .int .i64 clo, .int .i64 chi, .int .i64 ct, .slice Ad cl.length cdc] 48 (0, 0)) := by
    rw [← hw1]
    have := heap_alloc_new (w.setCell ⟨P, 3, none⟩ (.int .i64 (num + 1))) (.cells #[.int .i64 ck, .int .i64 cc, .int .i64 cn, .int .i64 0, .int .i64 0, .string ⟨#[]⟩, .string ⟨#[]⟩, .string ⟨#[]⟩, .string ⟨#[]⟩, .int .i64 0, .int .i64 0, .int .i64 0, .string ⟨#[]⟩, .int .i64 0, .int .i64 0, .int .i64 clo, .int .i64 chi, .int .i64 ct, .slice Ad cl.length cdc] 48)
    rwa [size_setCell] at this
  have hF1 : FC [P] w w1 := by rw [← hw1]; exact ((FC.refl _ _).setCell (.inl (by simp)) _).alloc _
  clear hw1
  obtain ⟨_, _, hC1⟩ := Kd.R_reads' (R_fc HD.out hF1 (by simp; omega))
  have hCl := Aside.mk (T.Clone Ad cl.length cdc cl w1.drew (Kd.C_drew hC1) hcl)
  have H1 := Aside.mk hAP1
  have HB1 := Aside.mk hBX
  have HF1 := Aside.mk hF1
  have HS1 := Aside.mk hs1
  obtain ⟨B, hB⟩ : ∃ B, B = w.heap.size := ⟨_, rfl⟩
  rw [← hB] at HB1 HS1 hlt ⊢
  have HBw := Aside.mk hB
  have e0 : w1.cell? ⟨P, 0, none⟩ = some (.int .i64 id) := hAP1.cell 0
  have e3 : w1.cell? ⟨P, 3, none⟩ = some (.int .i64 (num + 1)) := hAP1.cell 3
  have eD : w1.cell? ⟨B, 18, none⟩ = some (.slice Ad cl.length cdc) := by rw [cell_of_row _ _ _ _ _ _ HB1.out]; rfl
  clear hAP1 hBX hF1 hs1 hB hC1
  generalize Value.agg _ = ag
  go_cut [] (fun wc => ∃ d, Aside (AP wc P M ⟨id, nodes, retry, num + 1, group, ⟨k0, k1, k2, k3, k4, k5, k6⟩, false, sent, waited⟩) ∧ Aside (wc.heap[B]? = some (.cells #[.int .i64 ck, .int .i64 id, .int .i64 (num + 1), .int .i64 0, .int .i64 0, .string ⟨#[]⟩, .string ⟨#[]⟩, .string ⟨#[]⟩, .string ⟨#[]⟩, .int .i64 0, .int .i64 0, .int .i64 0, .string ⟨#[]⟩, .int .i64 0, .int .i64 0, .int .i64 clo, .int .i64 chi, .int .i64 ct, d] 48 (0, 0))) ∧ Aside (Kd.R Kd.string 9 wc w.heap.size (fun _ => True) d cl) ∧ Aside (FC [P] w wc))
  case first =>
    go_region_with (go_at_call 25; (with_reducible refine hCl.out.mono ?_); rintro e w2 ⟨v2, rfl, hr2, hb2⟩; obtain ⟨A2, c2, rfl, _, _⟩ := Kd.R_reads hr2; have k1 := (hb2.block P (by have := HS1.out; simp; omega)).trans H1.out; have k2 := (hb2.block B (by have := HS1.out; simp; omega)).trans HB1.out; have p0 : w2.cell? ⟨P, 0, none⟩ = some (.int .i64 id) := (by rw [cell_of_row _ _ _ _ _ _ k1]; rfl); have p3 : w2.cell? ⟨P, 3, none⟩ = some (.int .i64 (num + 1)) := (by rw [cell_of_row _ _ _ _ _ _ k1]; rfl); have b1 : w2.cell? ⟨B, 1, none⟩ = some (.int .i64 cc) := (by rw [cell_of_row _ _ _ _ _ _ k2]; rfl); have b2 : w2.cell? ⟨B, 2, none⟩ = some (.int .i64 cn) := (by rw [cell_of_row _ _ _ _ _ _ k2]; rfl); have b18 : w2.cell? ⟨B, 18, none⟩ = some (.slice Ad cl.length cdc) := (by rw [cell_of_row _ _ _ _ _ _ k2]; rfl); have f1 := frozen_of_row _ B 1 _ _ k2; have f2 := frozen_of_row _ B 2 _ _ k2; have f18 := frozen_of_row _ B 18 _ _ k2; have K1 := Aside.mk k1; have K2 := Aside.mk k2; have R2 := Aside.mk hr2; have HB2 := Aside.mk hb2; clear k1 k2 hr2 hb2)
    all_goals
      clear p0 p3 b1 b2 b18 f1 f2 f18 e0 e3 eD hCl
      go_wp2
      go_meet
      case rel => exact ask_rel HBw.out (by omega) HS1.out K1.out K2.out R2.out HF1.out HB2.out
  case rest =>
    obtain ⟨d, hA, hB', hR, hF⟩ := hcut
    clear hCl e0 e3 eD
    go_wp2_with fail
    obtain ⟨Ad2, dc2, rfl, _, _⟩ := Kd.R_reads hR.out
    have hPB : P ≠ B := by omega
    have HFd := Aside.mk hF.out
    have HRd := Aside.mk hR.out
    have hBlt : B < wc.heap.size := (Array.getElem?_eq_some_iff.1 hB'.out).1
    obtain ⟨L, hL⟩ : ∃ L : List Value, L = [.int .i64 ck, .int .i64 id, .int .i64 (num + 1), .int .i64 0, .int .i64 0, .string ⟨#[]⟩, .string ⟨#[]⟩, .string ⟨#[]⟩, .string ⟨#[]⟩, .int .i64 0, .int .i64 0, .int .i64 0, .string ⟨#[]⟩, .int .i64 0, .int .i64 0, .int .i64 clo, .int .i64 chi, .int .i64 ct, .slice Ad2 cl.length dc2] := ⟨_, rfl⟩
    have hL19 : L.length = 19 := by rw [hL]; rfl
    have hB2 := hB'.out
    rw [show (List.toArray [.int .i64 ck, .int .i64 id, .int .i64 (num + 1), .int .i64 0, .int .i64 0, .string ⟨#[]⟩, .string ⟨#[]⟩, .string ⟨#[]⟩, .string ⟨#[]⟩, .int .i64 0, .int .i64 0, .int .i64 0, .string ⟨#[]⟩, .int .i64 0, .int .i64 0, .int .i64 clo, .int .i64 chi, .int .i64 ct, .slice Ad2 cl.length dc2]) = List.toArray L from by rw [hL]] at hB2
    have hL1 : (L.toArray.all (·.oneCell')) = true := by rw [hL]; simp [Value.oneCell']
    obtain ⟨C0, hC0⟩ : ∃ C0 : Array Value, C0 = AS.cells ⟨id, nodes, retry, num + 1, group, ⟨k0, k1, k2, k3, k4, k5, k6⟩, false, sent, waited⟩ M := ⟨_, rfl⟩
    have hC28 : C0.size = 28 := by rw [hC0]; rfl
    have hA0 : CellsF wc P 77 (fun k => C0[k]?) := by rw [hC0]; exact CellsF.of_row hA.out
    let cellAt : Array Bool → Nat → Option Value := fun listed k => if k = 4 ∧ listed.getD 8 false = true then some (.int .i64 g) else if (5 ≤ k ∧ k < 24) ∧ listed.getD 11 false = true then L[k - 5]? else if k = 24 ∧ listed.getD 14 false = true then some (.bool true) else if k = 25 ∧ listed.getD 17 false = true then some (.bool false) else C0[k]?
    have hk : ∀ (listed : Array Bool) (i : Nat), i < listed.size → i ≠ 8 → i ≠ 11 → i ≠ 14 → i ≠ 17 → ∀ k, cellAt listed k = cellAt (listed.setIfInBounds i true) k := fun listed i hi h8 h11 h14 h17 k => by
      simp only [cellAt, getD_set _ _ _ _ _ hi, if_neg h8.symm, if_neg h11.symm, if_neg h14.symm, if_neg h17.symm]
    have hsome : ∀ listed k, k < 28 → (cellAt listed k).isSome = true := fun listed k hk => by
      simp only [cellAt]
      repeat' split
      · rfl
      · rw [List.getElem?_eq_getElem (by omega)]; rfl
      · rfl
      · rfl
      · rw [Array.getElem?_eq_getElem (by omega)]; rfl
    refine wp_region_conf (by kernel_rfl) (fun i => ([.pointer (some ⟨P, 0, none⟩), .pointer (some ⟨P, 0, none⟩), .pointer (some ⟨P, 0, none⟩), .pointer (some ⟨P, 0, none⟩), .int .i64 g, .agg (List.toArray L), .pointer (some ⟨P, 0, none⟩), .pointer (some ⟨P, 4, none⟩), undef, .pointer (some ⟨P, 0, none⟩), .pointer (some ⟨P, 5, none⟩), undef, .pointer (some ⟨P, 0, none⟩), .pointer (some ⟨P, 24, none⟩), undef, .pointer (some ⟨P, 0, none⟩), .pointer (some ⟨P, 25, none⟩), undef] : List Value).getD i undef) (fun listed w' => FC [P] wc w' ∧ CellsF w' P 77 (cellAt listed)) (by kernel_rfl) ?h0 ?hex ?hfin
    case h0 => exact ⟨(FC.refl _ _).drew, (hA0.of_heap rfl).congr (fun k => by simp [cellAt])⟩
    case hex =>
      intro i o listed a w' ho hs hn hp hd hW
      have hi : i < 18 := (Array.getElem?_eq_some_iff.1 ho).1
      have hs18 : listed.size = 18 := hs
      have hil : i < listed.size := by omega
      have hcase : i = 0 ∨ i = 1 ∨ i = 2 ∨ i = 3 ∨ i = 4 ∨ i = 5 ∨ i = 6 ∨ i = 7 ∨ i = 8 ∨ i = 9 ∨ i = 10 ∨ i = 11 ∨ i = 12 ∨ i = 13 ∨ i = 14 ∨ i = 15 ∨ i = 16 ∨ i = 17 := by omega
      rcases hcase with rfl | rfl | rfl | rfl | rfl | rfl | rfl | rfl | rfl | rfl | rfl | rfl | rfl | rfl | rfl | rfl | rfl | rfl
      all_goals
        simp only [List.getElem?_toArray, List.getElem?_cons_succ, List.getElem?_cons_zero, Option.some.injEq] at ho
        subst ho
        refine ⟨rfl, ?_⟩
      · have e := hd.base 0 (.pointer (some ⟨P, 0, none⟩)) (by kernel_rfl) rfl
        exact wp_val (.pointer (some ⟨P, 0, none⟩)) (by simp [execOp, e]) ⟨rfl, hW.1, hW.2.congr (hk listed 0 hil (by decide) (by decide) (by decide) (by decide))⟩
      · have e := hd.base 0 (.pointer (some ⟨P, 0, none⟩)) (by kernel_rfl) rfl
        exact wp_val (.pointer (some ⟨P, 0, none⟩)) (by simp [execOp, e]) ⟨rfl, hW.1, hW.2.congr (hk listed 1 hil (by decide) (by decide) (by decide) (by decide))⟩
      · have e := hd.base 0 (.pointer (some ⟨P, 0, none⟩)) (by kernel_rfl) rfl
        exact wp_val (.pointer (some ⟨P, 0, none⟩)) (by simp [execOp, e]) ⟨rfl, hW.1, hW.2.congr (hk listed 2 hil (by decide) (by decide) (by decide) (by decide))⟩
      · have e := hd.base 0 (.pointer (some ⟨P, 0, none⟩)) (by kernel_rfl) rfl
        exact wp_val (.pointer (some ⟨P, 0, none⟩)) (by simp [execOp, e]) ⟨rfl, hW.1, hW.2.congr (hk listed 3 hil (by decide) (by decide) (by decide) (by decide))⟩
      · have e := hd.base 1 (.int .i64 g) (by kernel_rfl) rfl
        exact wp_val (.int .i64 g) (by simp [execOp, e]) ⟨rfl, hW.1, hW.2.congr (hk listed 4 hil (by decide) (by decide) (by decide) (by decide))⟩
      · have e := hd.base 5 (.pointer (some ⟨B, 0, none⟩)) (by kernel_rfl) rfl
        refine wp_load_mid 48 (.tmp 5) rfl B 0 e L _ (fun j v hj => ?_) Try.underlying48 rfl (by rw [hL]; kernel_rfl) ⟨rfl, hW.1, hW.2.congr (hk listed 5 hil (by decide) (by decide) (by decide) (by decide))⟩
        rw [Nat.zero_add, cell_of_row _ _ _ _ _ _ ((hW.1.block B hBlt (by simpa using hPB.symm)).trans hB2)]
        simpa using hj
      · have l := hp { on := 0, ground := Ground.data } (by simp) rfl
        have e : a.eval (.tmp 40) = (.pointer (some ⟨P, 0, none⟩)) := hd.ev 0 40 rfl l
        exact wp_val (.pointer (some ⟨P, 0, none⟩)) (by simp only [execOp, e]; simp [go_sem]) ⟨rfl, hW.1, hW.2.congr (hk listed 6 hil (by decide) (by decide) (by decide) (by decide))⟩
      · have l := hp { on := 6, ground := Ground.data } (by simp) rfl
        have e : a.eval (.tmp 46) = (.pointer (some ⟨P, 0, none⟩)) := hd.ev 6 46 rfl l
        exact wp_val (.pointer (some ⟨P, 4, none⟩)) (by simp only [execOp, e]; simp [go_sem]) ⟨rfl, hW.1, hW.2.congr (hk listed 7 hil (by decide) (by decide) (by decide) (by decide))⟩
      · have l := hp { on := 7, ground := Ground.data } (by simp) rfl
        have e : a.eval (.tmp 47) = (.pointer (some ⟨P, 4, none⟩)) := hd.ev 7 47 rfl l
        have l4 := hp { on := 4, ground := Ground.data } (by simp) rfl
        have e4 : a.eval (.tmp 44) = .int .i64 g := hd.ev 4 44 rfl l4
        have hc := hW.2.cell 4
        obtain ⟨x, hx⟩ := Option.isSome_iff_exists.1 (hsome listed 4 (by decide))
        rw [hx] at hc
        have hf := hW.2.froz 4
        have hnew : CellsF (w'.setCell ⟨P, 4, none⟩ (.int .i64 g)) P 77 (cellAt (listed.setIfInBounds 8 true)) := (hW.2.set 4 (.int .i64 g) (hsome listed 4 (by decide))).congr (fun k => by
          simp only [cellAt, getD_set _ _ _ _ _ hil]
          by_cases h : k = 4
          · subst h; simp
          · simp [h])
        refine wp_skip ?_ ⟨rfl, hW.1.setCell (p := ⟨P, 4, none⟩) (.inl (by simp)) _, hnew⟩
        simp only [execOp, e, e4]
        simp [go_sem, hc, hf, Act.eval]
      · have l := hp { on := 1, ground := Ground.data } (by simp) rfl
        have e : a.eval (.tmp 41) = (.pointer (some ⟨P, 0, none⟩)) := hd.ev 1 41 rfl l
        exact wp_val (.pointer (some ⟨P, 0, none⟩)) (by simp only [execOp, e]; simp [go_sem]) ⟨rfl, hW.1, hW.2.congr (hk listed 9 hil (by decide) (by decide) (by decide) (by decide))⟩
      · have l := hp { on := 9, ground := Ground.data } (by simp) rfl
        have e : a.eval (.tmp 48) = (.pointer (some ⟨P, 0, none⟩)) := hd.ev 9 48 rfl l
        exact wp_val (.pointer (some ⟨P, 5, none⟩)) (by simp only [execOp, e]; simp [go_sem]) ⟨rfl, hW.1, hW.2.congr (hk listed 10 hil (by decide) (by decide) (by decide) (by decide))⟩
      · have l := hp { on := 10, ground := Ground.data } (by simp) rfl
        have e : a.eval (.tmp 49) = (.pointer (some ⟨P, 5, none⟩)) := hd.ev 10 49 rfl l
        have l5 := hp { on := 5, ground := Ground.data } (by simp) rfl
        have e5 : a.eval (.tmp 45) = .agg L.toArray := hd.ev 5 45 rfl l5
        have hnew : CellsF (w'.setCells P 5 L) P 77 (cellAt (listed.setIfInBounds 11 true)) := (hW.2.sets L 5 _ _ (fun j hj => hsome listed (5 + j) (by omega))).congr (fun k => by
          simp only [cellAt, getD_set _ _ _ _ _ hil, hL19]
          by_cases h : 5 ≤ k ∧ k < 24
          · have h4 : k ≠ 4 := by omega
            simp [h, h4]
          · have h' : ¬ (5 ≤ k ∧ k < 5 + 19) := by omega
            simp [h, h'])
        refine wp_store_mid 48 (.tmp 49) (.tmp 45) rfl P 5 L.toArray e e5 (fun j hj => ⟨?_, hW.2.froz _⟩) (by rw [hL]; kernel_rfl) hL1 ⟨rfl, FC.setCells (.inl (by simp)) _ _ _ hW.1, hnew⟩
        rw [hW.2.cell]
        exact hsome listed (5 + j) (by simp [hL19] at hj; omega)
      · have l := hp { on := 2, ground := Ground.data } (by simp) rfl
        have e : a.eval (.tmp 42) = (.pointer (some ⟨P, 0, none⟩)) := hd.ev 2 42 rfl l
        exact wp_val (.pointer (some ⟨P, 0, none⟩)) (by simp only [execOp, e]; simp [go_sem]) ⟨rfl, hW.1, hW.2.congr (hk listed 12 hil (by decide) (by decide) (by decide) (by decide))⟩
      · have l := hp { on := 12, ground := Ground.data } (by simp) rfl
        have e : a.eval (.tmp 50) = (.pointer (some ⟨P, 0, none⟩)) := hd.ev 12 50 rfl l
        exact wp_val (.pointer (some ⟨P, 24, none⟩)) (by simp only [execOp, e]; simp [go_sem]) ⟨rfl, hW.1, hW.2.congr (hk listed 13 hil (by decide) (by decide) (by decide) (by decide))⟩
      · have l := hp { on := 13, ground := Ground.data } (by simp) rfl
        have e : a.eval (.tmp 51) = (.pointer (some ⟨P, 24, none⟩)) := hd.ev 13 51 rfl l
        have hc := hW.2.cell 24
        obtain ⟨x, hx⟩ := Option.isSome_iff_exists.1 (hsome listed 24 (by decide))
        rw [hx] at hc
        have hf := hW.2.froz 24
        have hnew : CellsF (w'.setCell ⟨P, 24, none⟩ (.bool true)) P 77 (cellAt (listed.setIfInBounds 14 true)) := (hW.2.set 24 (.bool true) (hsome listed 24 (by decide))).congr (fun k => by
          simp only [cellAt, getD_set _ _ _ _ _ hil]
          by_cases h : k = 24
          · subst h; simp
          · simp [h])
        refine wp_skip ?_ ⟨rfl, hW.1.setCell (p := ⟨P, 24, none⟩) (.inl (by simp)) _, hnew⟩
        simp only [execOp, e]
        simp [go_sem, hc, hf, Act.eval]
      · have l := hp { on := 3, ground := Ground.data } (by simp) rfl
        have e : a.eval (.tmp 43) = (.pointer (some ⟨P, 0, none⟩)) := hd.ev 3 43 rfl l
        exact wp_val (.pointer (some ⟨P, 0, none⟩)) (by simp only [execOp, e]; simp [go_sem]) ⟨rfl, hW.1, hW.2.congr (hk listed 15 hil (by decide) (by decide) (by decide) (by decide))⟩
      · have l := hp { on := 15, ground := Ground.data } (by simp) rfl
        have e : a.eval (.tmp 52) = (.pointer (some ⟨P, 0, none⟩)) := hd.ev 15 52 rfl l
        exact wp_val (.pointer (some ⟨P, 25, none⟩)) (by simp only [execOp, e]; simp [go_sem]) ⟨rfl, hW.1, hW.2.congr (hk listed 16 hil (by decide) (by decide) (by decide) (by decide))⟩
      · have l := hp { on := 16, ground := Ground.data } (by simp) rfl
        have e : a.eval (.tmp 53) = (.pointer (some ⟨P, 25, none⟩)) := hd.ev 16 53 rfl l
        have hc := hW.2.cell 25
        obtain ⟨x, hx⟩ := Option.isSome_iff_exists.1 (hsome listed 25 (by decide))
        rw [hx] at hc
        have hf := hW.2.froz 25
        have hnew : CellsF (w'.setCell ⟨P, 25, none⟩ (.bool false)) P 77 (cellAt (listed.setIfInBounds 17 true)) := (hW.2.set 25 (.bool false) (hsome listed 25 (by decide))).congr (fun k => by
          simp only [cellAt, getD_set _ _ _ _ _ hil]
          by_cases h : k = 25
          · subst h; simp
          · simp [h])
        refine wp_skip ?_ ⟨rfl, hW.1.setCell (p := ⟨P, 25, none⟩) (.inl (by simp)) _, hnew⟩
        simp only [execOp, e]
        simp [go_sem, hc, hf, Act.eval]
    case hfin =>
      intro listed a w' hs hall hd hW
      have h8 := hall 8 (by decide)
      have h11 := hall 11 (by decide)
      have h14 := hall 14 (by decide)
      have h17 := hall 17 (by decide)
      have hrow : w'.heap[P]? = some (.cells (AS.cells ⟨id, nodes, retry, num + 1, g, ⟨ck, id, num + 1, clo, chi, ct, .slice Ad2 cl.length dc2⟩, true, false, waited⟩ M) 77 (0, 0)) := hW.2.row _ (fun k => by
        simp only [cellAt, h8, h11, h14, h17, hC0, hL]
        match k with
        | 0 => rfl
        | 1 => rfl
        | 2 => rfl
        | 3 => rfl
        | 4 => rfl
        | 5 => rfl
        | 6 => rfl
        | 7 => rfl
        | 8 => rfl
        | 9 => rfl
        | 10 => rfl
        | 11 => rfl
        | 12 => rfl
        | 13 => rfl
        | 14 => rfl
        | 15 => rfl
        | 16 => rfl
        | 17 => rfl
        | 18 => rfl
        | 19 => rfl
        | 20 => rfl
        | 21 => rfl
        | 22 => rfl
        | 23 => rfl
        | 24 => rfl
        | 25 => rfl
        | 26 => rfl
        | 27 => rfl
        | n + 28 => simp [AS.cells])
      have HR9 := Aside.mk hrow
      have HF9 := Aside.mk hW.1
      rw [hd.full (md := .any) (fits_of (by kernel_rfl)) hall]
      clear hd hW hrow h8 h11 h14 h17 hall hs hk hsome cellAt
      simp only [List.size_toArray, List.length_cons, List.length_nil, Nat.reduceAdd, fill, List.getElem?_toArray, List.getElem?_cons_succ, List.getElem?_cons_zero, Option.bind_some, List.setIfInBounds_toArray, List.set_cons_succ, List.set_cons_zero, List.getD_cons_succ, List.getD_cons_zero]
      go_wp2
      go_ret
      refine ⟨rfl, .slice Ad2 cl.length dc2, HR9.out, R_fc (S := [P]) HRd.out HF9.out (fun k hk => ?_), HFd.out.trans HF9.out⟩
      have hk' : k = P := by simpa using hk
      have := HBw.out
      omega
end Go.Proofs.Ytmepeolejlpehaa

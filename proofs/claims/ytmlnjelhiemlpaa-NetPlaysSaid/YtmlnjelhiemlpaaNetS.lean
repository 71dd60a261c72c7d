/- The statement NetStops, first half: what its closure does. Conditions: where the cells lie. -/
import Derived.Test.YtmlnjelhiemlpaaNetO
namespace Go.Proofs.Ytmlnjelhiemlpaa
open Go.RowKit Go.Proofs.YtmlnjelhiemlpaaW.PrintWords Go.Proofs.YtmlnjelhiemlpaaW.PrintLast Go.Proofs.YtmlnjelhiemlpaaW.PrintMore
attribute [local go_sem] max2_int min2_int max_two min_two
/-- What stands within a call of the closure: the world W it began in, and the bag's value v there. -/
structure SM (W : World) (OK NB H : Nat) (v : Value) (k1 : Int) (w' : World) (v' : Value) (M' : List Int) : Prop where
  os : w'.os = W.os
  tape : w'.tape = W.tape
  output : w'.output = W.output
  size : W.heap.size ≤ w'.heap.size
  block : ∀ g, g < W.heap.size → g ≠ OK → g ≠ NB → g ≠ H → v.ownBlock ≠ some g → w'.heap[g]? = W.heap[g]?
  ok : w'.heap[OK]? = some (.cells #[.bool true] 4 (0, 0))
  nb : w'.heap[NB]? = some (.cells #[.int .i64 k1] 3 (0, 0))
  bag : BagI w' H (H + 1) v' M'
  own : v'.ownBlock = v.ownBlock ∨ ∃ b, v'.ownBlock = some b ∧ W.heap.size ≤ b
theorem SM.fr {W w' w'' : World} {OK NB H : Nat} {v v' v'' : Value} {k1 : Int} {M' M'' : List Int} (h : SM W OK NB H v k1 w' v' M') (f : Fr w' w'' H v'.ownBlock) (hb : BagI w'' H (H + 1) v'' M'') (ho : v''.ownBlock = v'.ownBlock ∨ ∃ b, v''.ownBlock = some b ∧ w'.heap.size ≤ b)
    (h1 : OK ≠ H) (h2 : NB ≠ H) (h3 : v.ownBlock ≠ some OK) (h4 : v.ownBlock ≠ some NB) (h5 : OK < W.heap.size) (h6 : NB < W.heap.size) : SM W OK NB H v k1 w'' v'' M'' := by
  have hv : ∀ g, g < W.heap.size → v.ownBlock ≠ some g → v'.ownBlock ≠ some g := fun g hg hne e => by
    rcases h.own with h | ⟨b, h, hle⟩
    · exact hne (by rw [← h, e])
    · rw [h] at e; have := Option.some.inj e; omega
  refine ⟨f.os.trans h.os, f.tape.trans h.tape, f.output.trans h.output, Nat.le_trans h.size f.size, fun g hg a1 a2 a3 a4 => ?_, ?_, ?_, hb, ?_⟩
  · rw [f.block g (Nat.lt_of_lt_of_le hg h.size) a3 (hv g hg a4)]; exact h.block g hg a1 a2 a3 a4
  · rw [f.block OK (Nat.lt_of_lt_of_le h5 h.size) h1 (hv OK h5 h3)]; exact h.ok
  · rw [f.block NB (Nat.lt_of_lt_of_le h6 h.size) h2 (hv NB h6 h4)]; exact h.nb
  · rcases ho with e | ⟨b, e, hle⟩
    · rw [e]; exact h.own
    · exact .inr ⟨b, e, Nat.le_trans h.size hle⟩
/-- The world behind the closure's two stores and the row [7]. -/
def sW (W : World) (OK NB : Nat) (k1 : Int) : World := ((W.setCell ⟨OK, 0, none⟩ (.bool true)).setCell ⟨NB, 0, none⟩ (.int .i64 k1)).alloc (.cells #[.int .i64 7] 3)
theorem SM.start {W : World} {OK NB H : Nat} {v : Value} {k0 : Int} (k1 : Int) {M : List Int} (hne : OK ≠ NB) (h1 : OK ≠ H) (h2 : NB ≠ H) (h3 : v.ownBlock ≠ some OK) (h4 : v.ownBlock ≠ some NB)
    (hO : W.heap[OK]? = some (.cells #[.bool true] 4 (0, 0))) (hN : W.heap[NB]? = some (.cells #[.int .i64 k0] 3 (0, 0))) (hB : BagI W H (H + 1) v M) : SM W OK NB H v k1 (sW W OK NB k1) v M := by
  have hs : ((W.setCell ⟨OK, 0, none⟩ (.bool true)).setCell ⟨NB, 0, none⟩ (.int .i64 k1)).heap.size = W.heap.size := by simp [World.setCell]
  have h5 : OK < W.heap.size := (Array.getElem?_eq_some_iff.1 hO).1
  have h6 : NB < W.heap.size := (Array.getElem?_eq_some_iff.1 hN).1
  have hblk : ∀ g, g < W.heap.size → g ≠ OK → g ≠ NB → (sW W OK NB k1).heap[g]? = W.heap[g]? := fun g hg a1 a2 => by
    unfold sW
    rw [Below.heap_alloc _ _ _ (by rw [hs]; exact hg), Below.heap_setCell _ _ _ _ (fun e => a2 e), Below.heap_setCell _ _ _ _ (fun e => a1 e)]
  have hsz : (sW W OK NB k1).heap.size = W.heap.size + 1 := by unfold sW; simp [World.setCell]
  refine ⟨rfl, rfl, rfl, by omega, fun g hg a1 a2 _ _ => hblk g hg a1 a2, ?_, ?_, ⟨?_, ?_, ?_⟩, .inl rfl⟩
  · unfold sW
    rw [Below.heap_alloc _ _ _ (by rw [hs]; exact h5), Below.heap_setCell _ _ _ _ (fun e => hne e)]
    exact setCell_one hO _
  · unfold sW
    rw [Below.heap_alloc _ _ _ (by rw [hs]; exact h6)]
    refine setCell_one (v := .int .i64 k0) ?_ _
    rw [Below.heap_setCell _ _ _ _ (fun e => hne e.symm)]
    exact hN
  · rw [hblk H hB.lt (fun e => h1 e.symm) (fun e => h2 e.symm)]; exact hB.1
  · exact own_move hB.2.1 (fun k hk => hblk k (RowI.lt hB.2.1 k hk).2 (fun e => h3 (by rw [hk, e])) (fun e => h4 (by rw [hk, e])))
  · rw [hsz]; have := hB.2.2; omega
/-- What stands between the closure's calls. s: the heap's size when its cells were made; B: where the list's box lies. -/
structure SJ (w : World) (B s : Nat) (A0 : Option Addr) (m c0 : Nat) (cut : Int) (N : Nat) (k : Nat) (W : World) : Prop where
  ok : W.heap[s + 2]? = some (.cells #[.bool true] 4 (0, 0))
  nb : W.heap[s]? = some (.cells #[.int .i64 (k : Int)] 3 (0, 0))
  lb : W.heap[B]? = some (.cells #[.slice A0 m c0] 25 (0, 0))
  cb : W.heap[B + 1]? = some (.cells #[.int .i64 cut] 3 (0, 0))
  bag : ∃ v M, BagI W (B + 2) (B + 3) v M ∧ M.length = N ∧ ∀ g, v.ownBlock = some g → g < s ∨ s + 3 ≤ g
  size : s + 3 ≤ W.heap.size
  below : Below w.heap.size w W
def SOwn (B s : Nat) (W : World) (g : Nat) : Prop := g = s + 2 ∨ g = s ∨ g = B + 2 ∨ ∃ v, W.heap[B + 2]? = some (.cells #[v] 27 (0, 0)) ∧ v.ownBlock = some g
set_option maxHeartbeats 4000000 in
set_option maxRecDepth 100000 in
theorem T.stops1 (w : World) (s : Nat) (a0 : Addr) (m c0 : Nat) (cut : Int) (L : List Int) (hLm : L.length = m) (hm : m ≤ 60) (hS : SrcA w (some a0) L) (hs : w.heap.size + 3 ≤ s) (k : Nat) (x : Int) (W : World) (h : SJ w w.heap.size s (some a0) m c0 cut m k W) (hx : L[k]? = some x) :
    Calls Try.prog 19 #[.int .i64 (k : Nat), .int .i64 x, .pointer (some ⟨s + 2, 0, none⟩), .pointer (some ⟨s, 0, none⟩), .pointer (some ⟨w.heap.size, 0, none⟩), .pointer (some ⟨w.heap.size + 2, 0, none⟩), .pointer (some ⟨w.heap.size + 1, 0, none⟩)] W fun e W' =>
      (e = .returned (.bool (decide (((k + 1 : Nat) : Int) < cut))) ∧ SJ w w.heap.size s (some a0) m c0 cut m (k + 1) W') ∧ W.heap.size ≤ W'.heap.size ∧ (∀ g, g < W.heap.size → ¬ SOwn w.heap.size s W g → W'.heap[g]? = W.heap[g]?) ∧ ∀ g, SOwn w.heap.size s W' g → SOwn w.heap.size s W g ∨ W.heap.size ≤ g := by
  obtain ⟨hok, hnb, hlb, hcb, ⟨v, M, hB, hM, hv⟩, hsz, hbel⟩ := h
  have hk : k < m := by rw [← hLm]; exact (List.getElem?_eq_some_iff.1 hx).1
  obtain ⟨a1, e1, hcx⟩ := (hS.below hbel) k x hx
  cases e1
  have c1 := one_cell hok
  have f1 := frozen_of_row W (s + 2) 0 _ _ hok
  have c2 := one_cell hnb
  have f2 := frozen_of_row W s 0 _ _ hnb
  have c3 := one_cell hlb
  have c4 := one_cell hcb
  have hvs : v.ownBlock ≠ some (s + 2) := fun e => by have := hv _ e; omega
  have hvn : v.ownBlock ≠ some s := fun e => by have := hv _ e; omega
  have hvl : ∀ g, v.ownBlock = some g → w.heap.size + 3 ≤ g := fun g e => (RowI.lt hB.2.1 g e).1
  have hst := SM.start (OK := s + 2) (NB := s) ((k + 1 : Nat) : Int) (by omega) (by omega) (by omega) hvs hvn hok hnb hB
  have h7 : SrcI (sW W (s + 2) s ((k + 1 : Nat) : Int)) (some ⟨W.heap.size, 0, none⟩) [7] := fun j z hz => by
    match j, hz with
    | 0, hz =>
      simp at hz; subst hz
      refine ⟨W.heap.size, 0, rfl, ?_⟩
      have := heap_alloc_new ((W.setCell ⟨s + 2, 0, none⟩ (.bool true)).setCell ⟨s, 0, none⟩ (.int .i64 ((k + 1 : Nat) : Int))) (.cells #[.int .i64 7] 3)
      rw [show ((W.setCell ⟨s + 2, 0, none⟩ (.bool true)).setCell ⟨s, 0, none⟩ (.int .i64 ((k + 1 : Nat) : Int))).heap.size = W.heap.size from by simp [World.setCell]] at this
      show (sW W (s + 2) s ((k + 1 : Nat) : Int)).cell? _ = _
      unfold sW
      rw [cell_of_row _ _ _ _ _ _ this]; rfl
  have hP := Aside.mk ((T.PutI (w.heap.size + 2) (w.heap.size + 3) v M [7] _ 1 1 _ hst.bag h7 rfl (by omega)).mono (R' := fun e w' => e = .returned (.tuple #[]) ∧ ∃ v', SM W (s + 2) s (w.heap.size + 2) v ((k + 1 : Nat) : Int) w' v' (M ++ [7])) (by
    rintro e w' ⟨rfl, v', g1, g2, g3⟩
    exact ⟨rfl, v', hst.fr g2 g1 g3 (by omega) (by omega) hvs hvn (by omega) (by omega)⟩))
  have hT := Aside.mk (fun w1 v1 (h1 : SM W (s + 2) s (w.heap.size + 2) v ((k + 1 : Nat) : Int) w1 v1 (M ++ [7])) => (show ∃ y, (M ++ [7])[0]? = some y from by cases M with | nil => exact ⟨7, rfl⟩ | cons y l => exact ⟨y, rfl⟩).elim fun y hy => (T.TakeInI (w.heap.size + 2) (w.heap.size + 3) v1 (M ++ [7]) 0 y w1 (by rw [List.length_append]; simp; omega) h1.bag hy).mono (R' := fun e w' => (∃ r, e = .returned (.tuple #[r, .bool true])) ∧ ∃ v', SM W (s + 2) s (w.heap.size + 2) v ((k + 1 : Nat) : Int) w' v' ((M ++ [7]).eraseIdx 0)) (by
    rintro e w' ⟨rfl, v', g1, g2, g3⟩
    exact ⟨⟨_, rfl⟩, v', h1.fr g2 g1 (.inl g3) (by omega) (by omega) hvs hvn (by omega) (by omega)⟩))
  have hfin := Aside.mk (fun w1 v1 (h1 : SM W (s + 2) s (w.heap.size + 2) v ((k + 1 : Nat) : Int) w1 v1 ((M ++ [7]).eraseIdx 0)) => show SJ w w.heap.size s (some a0) m c0 cut m (k + 1) w1 ∧ W.heap.size ≤ w1.heap.size ∧ (∀ g, g < W.heap.size → ¬ SOwn w.heap.size s W g → w1.heap[g]? = W.heap[g]?) ∧ (∀ g, SOwn w.heap.size s w1 g → SOwn w.heap.size s W g ∨ W.heap.size ≤ g) from by
    refine ⟨⟨h1.ok, h1.nb, ?_, ?_, ⟨v1, _, h1.bag, ?_, fun g e => ?_⟩, ?_, ?_⟩, h1.size, fun g hg hno => ?_, fun g hg => ?_⟩
    · rw [h1.block _ (by omega) (by omega) (by omega) (by omega) (fun e => by have := hvl _ e; omega)]; exact hlb
    · rw [h1.block _ (by omega) (by omega) (by omega) (by omega) (fun e => by have := hvl _ e; omega)]; exact hcb
    · rw [List.length_eraseIdx, List.length_append]; simp; omega
    · rcases h1.own with h | ⟨b, h, hle⟩
      · exact hv g (by rw [← h]; exact e)
      · rw [h] at e; have := Option.some.inj e; omega
    · have := h1.size; omega
    · exact hbel.trans ⟨h1.os, h1.tape, h1.output, h1.size, fun g hg => h1.block g (by omega) (by omega) (by omega) (by omega) (fun e => by have := hvl _ e; omega)⟩
    · exact h1.block g hg (fun e => hno (.inl e)) (fun e => hno (.inr (.inl e))) (fun e => hno (.inr (.inr (.inl e)))) (fun e => hno (.inr (.inr (.inr ⟨v, hB.1, e⟩))))
    · rcases hg with h | h | h | ⟨v', h2, h3⟩
      · exact .inl (.inl h)
      · exact .inl (.inr (.inl h))
      · exact .inl (.inr (.inr (.inl h)))
      · rw [h1.bag.1] at h2
        have hv' : v' = v1 := by simpa using h2.symm
        subst hv'
        rcases h1.own with h | ⟨b, h, hle⟩
        · exact .inl (.inr (.inr (.inr ⟨v, hB.1, by rw [← h]; exact h3⟩)))
        · rw [h] at h3; have := Option.some.inj h3; exact .inr (by omega))
  have hcell := Aside.mk (fun w1 v1 M1 (h1 : SM W (s + 2) s (w.heap.size + 2) v ((k + 1 : Nat) : Int) w1 v1 M1) => show w1.cell? ⟨s, 0, none⟩ = some (.int .i64 ((k + 1 : Nat) : Int)) ∧ w1.cell? ⟨w.heap.size + 1, 0, none⟩ = some (.int .i64 cut) from ⟨one_cell h1.nb, by
    refine one_cell (t := 3) ?_
    rw [h1.block _ (by omega) (by omega) (by omega) (by omega) (fun e => by have := hvl _ e; omega)]; exact hcb⟩)
  have hwr : IntKind.i64.wrap ((k : Int) + 1) = ((k + 1 : Nat) : Int) := by simp [IntKind.wrap, IntKind.bits, IntKind.signed]; omega
  have hcc : (W.setCell ⟨s + 2, 0, none⟩ (.bool true)).cell? ⟨s, 0, none⟩ = some (.int .i64 (k : Int)) := by
    refine one_cell (t := 3) ?_
    rw [Below.heap_setCell _ _ _ _ (fun e => by have : s = s + 2 := e; omega)]; exact hnb
  have hff : (W.setCell ⟨s + 2, 0, none⟩ (.bool true)).frozen? ⟨s, 0, none⟩ = false := by
    refine frozen_of_row _ s 0 #[.int .i64 (k : Int)] 3 ?_
    rw [Below.heap_setCell _ _ _ _ (fun e => by have : s = s + 2 := e; omega)]; exact hnb
  unfold sW at hP
  clear hok hnb hlb hcb hB hM hv hsz hbel hx hS hLm h7 hst hvs hvn hvl
  go_enter Try.func19, Try.ntmps19
  go_wp2_with (first | (go_at_call 11; refine hP.out.mono ?_; rintro e w2 ⟨rfl, v2, h2⟩; have H2 := Aside.mk h2; clear h2) | (go_at_call 14; refine (hT.out _ _ H2.out).mono ?_; rintro e w3 ⟨⟨r, rfl⟩, v3, h3⟩; obtain ⟨g1, g2⟩ := hcell.out _ _ _ h3; have H3 := Aside.mk h3; clear h3))
  go_ret
  obtain ⟨z1, z2, z3, z4⟩ := hfin.out _ _ H3.out
  exact ⟨⟨by show Ending.returned (.bool (decide ((k : Int) + 1 < cut))) = _; rw [Int.natCast_add]; rfl, z1⟩, z2, z3, z4⟩
end Go.Proofs.Ytmlnjelhiemlpaa

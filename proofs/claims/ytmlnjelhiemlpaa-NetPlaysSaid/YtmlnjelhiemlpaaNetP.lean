/- Both bags side by side: each call at each, as one step. Conditions: where they lie. -/
import Derived.Test.YtmlnjelhiemlpaaNetZ
namespace Go.Proofs.Ytmlnjelhiemlpaa
open Go.RowKit Go.Proofs.YtmlnjelhiemlpaaW.PrintWords Go.Proofs.YtmlnjelhiemlpaaW.PrintLast Go.Proofs.YtmlnjelhiemlpaaW.PrintMore
theorem getV_cases (L : List Int) (i : Int) : (∃ (k : Nat) (x : Int), i = (k : Int) ∧ L[k]? = some x) ∨ (getVI L i = (0, false) ∧ (i < 0 ∨ (L.length : Int) ≤ i)) := by
  by_cases h0 : 0 ≤ i
  · by_cases h1 : i.toNat < L.length
    · exact .inl ⟨i.toNat, L[i.toNat], by omega, List.getElem?_eq_getElem h1⟩
    · refine .inr ⟨?_, .inr (by omega)⟩
      unfold getVI
      rw [if_pos h0, List.getElem?_eq_none (by omega)]
  · refine .inr ⟨?_, .inl (by omega)⟩
    unfold getVI
    rw [if_neg h0]
def takeL (L : List Int) (i : Int) : List Int := if (getVI L i).2 then L.eraseIdx i.toNat else L
def dblL (L : List Int) (i : Int) : List Int := if (getVI L i).2 then L ++ [(getVI L i).1] else L
theorem Fr.of (w w' : World) (H : Nat) (r : Option Nat) (hb : Below w.heap.size w w') : Fr w w' H r := ⟨hb.os, hb.tape, hb.output, hb.size, fun k hk _ _ => hb.block k hk⟩
theorem T.refGetV (H base : Nat) (v : Value) (l : List Int) (i : Int) (w : World) (h : BagR w H base v l) (hl : l.length ≤ 900000) :
    Calls Try.prog 27 #[.pointer (some ⟨H, 0, none⟩), .int .i64 i] w fun e w' => e = .returned (.tuple #[.int .i64 (getVI l i).1, .bool (getVI l i).2]) ∧ w' = w := by
  rcases getV_cases l i with ⟨k, x, rfl, hx⟩ | ⟨e, ho⟩
  · rw [getV_inI hx]; exact T.refGetIn H base v l k x w h hl hx
  · rw [e]; exact T.refGetOut H base v l i w h hl ho
theorem T.TakeV (H base : Nat) (v : Value) (l : List Int) (i : Int) (w : World) (h : BagI w H base v l) (hl : l.length ≤ 900000) :
    Calls Try.prog 14 #[.pointer (some ⟨H, 0, none⟩), .int .i64 i] w fun e w' => e = .returned (.tuple #[.int .i64 (getVI l i).1, .bool (getVI l i).2]) ∧ ∃ v', BagI w' H base v' (takeL l i) ∧ Fr w w' H v.ownBlock ∧ v'.ownBlock = v.ownBlock := by
  unfold takeL
  rcases getV_cases l i with ⟨k, x, rfl, hx⟩ | ⟨e, ho⟩
  · rw [getV_inI hx]; exact T.TakeInI H base v l k x w (by omega) h hx
  · rw [e]
    refine (T.TakeOutI (some ⟨H, 0, none⟩) base v l i w (by omega) (.inr ⟨H, rfl, h⟩) e).mono ?_
    rintro e w' ⟨rfl, hb⟩
    exact ⟨rfl, v, h.below hb, Fr.of _ _ _ _ hb, rfl⟩
theorem T.refTakeV (H base : Nat) (v : Value) (l : List Int) (i : Int) (w : World) (h : BagR w H base v l) (hl : l.length ≤ 900000) :
    Calls Try.prog 21 #[.pointer (some ⟨H, 0, none⟩), .int .i64 i] w fun e w' => e = .returned (.tuple #[.int .i64 (getVI l i).1, .bool (getVI l i).2]) ∧ ∃ v', BagR w' H base v' (takeL l i) ∧ Fr w w' H none ∧ (v'.ownBlock = v.ownBlock ∨ ∃ b, v'.ownBlock = some b ∧ w.heap.size ≤ b) := by
  unfold takeL
  rcases getV_cases l i with ⟨k, x, rfl, hx⟩ | ⟨e, ho⟩
  · rw [getV_inI hx]
    refine (T.refTakeIn H base v l k x w h hl hx).mono ?_
    rintro e w' ⟨rfl, v', h1, h2, h3⟩
    exact ⟨rfl, v', h1, h2, .inr h3⟩
  · rw [e]
    refine (T.refTakeOut H base v l i w h hl ho).mono ?_
    rintro e w' ⟨rfl, rfl⟩
    exact ⟨rfl, v, h, Fr.of _ _ _ _ (Below.refl _ _), .inl rfl⟩
theorem T.DoubleV (H base : Nat) (v : Value) (l : List Int) (i : Int) (w : World) (h : BagI w H base v l) (hl : l.length ≤ 900000) :
    Calls Try.prog 15 #[.pointer (some ⟨H, 0, none⟩), .int .i64 i] w fun e w' => e = .returned (.bool (getVI l i).2) ∧ ∃ v', BagI w' H base v' (dblL l i) ∧ Fr w w' H v.ownBlock ∧ (v'.ownBlock = v.ownBlock ∨ ∃ b, v'.ownBlock = some b ∧ w.heap.size ≤ b) := by
  unfold dblL
  rcases getV_cases l i with ⟨k, x, rfl, hx⟩ | ⟨e, ho⟩
  · rw [getV_inI hx]; exact T.DoubleInI H base v l k x w (by omega) h hx
  · rw [e]
    refine (T.DoubleOutI (some ⟨H, 0, none⟩) base v l i w (by omega) (.inr ⟨H, rfl, h⟩) e).mono ?_
    rintro e w' ⟨rfl, hb⟩
    exact ⟨rfl, v, h.below hb, Fr.of _ _ _ _ hb, .inl rfl⟩
theorem T.refDoubleV (H base : Nat) (v : Value) (l : List Int) (i : Int) (w : World) (h : BagR w H base v l) (hl : l.length ≤ 900000) :
    Calls Try.prog 22 #[.pointer (some ⟨H, 0, none⟩), .int .i64 i] w fun e w' => e = .returned (.bool (getVI l i).2) ∧ ∃ v', BagR w' H base v' (dblL l i) ∧ Fr w w' H none ∧ (v'.ownBlock = v.ownBlock ∨ ∃ b, v'.ownBlock = some b ∧ w.heap.size ≤ b) := by
  unfold dblL
  rcases getV_cases l i with ⟨k, x, rfl, hx⟩ | ⟨e, ho⟩
  · rw [getV_inI hx]
    refine (T.refDoubleIn H base v l k x w h hl hx).mono ?_
    rintro e w' ⟨rfl, v', h1, h2, h3⟩
    exact ⟨rfl, v', h1, h2, .inr h3⟩
  · rw [e]
    refine (T.refDoubleOut H base v l i w h hl ho).mono ?_
    rintro e w' ⟨rfl, rfl⟩
    exact ⟨rfl, v, h, Fr.of _ _ _ _ (Below.refl _ _), .inl rfl⟩
theorem takeL_len (L : List Int) (i : Int) : (takeL L i).length ≤ L.length := by
  unfold takeL
  split
  · rw [List.length_eraseIdx]; split <;> omega
  · exact Nat.le_refl _
theorem dblL_len (L : List Int) (i : Int) : (dblL L i).length ≤ L.length + 1 := by
  unfold dblL
  split <;> simp
/-- Both bags, and the act at B7. -/
structure RC (w : World) (H1 H2 B0 B7 : Nat) (cs : Array Value) (v1 v2 : Value) (L1 L2 : List Int) (wr : World) : Prop where
  below : Below w.heap.size w wr
  bag : BagI wr H1 B0 v1 L1
  ref : BagR wr H2 B0 v2 L2
  act : wr.heap[B7]? = some (.cells cs 48 (0, 0))
  h1 : w.heap.size ≤ H1 ∧ H1 < B0
  h2 : w.heap.size ≤ H2 ∧ H2 < B0
  h7 : B0 ≤ B7
  ne : H1 ≠ H2
  apart : ∀ k, v1.ownBlock = some k → v2.ownBlock ≠ some k
  n1 : v1.ownBlock ≠ some B7
  n2 : v2.ownBlock ≠ some B7
section
variable {w wr w' : World} {H1 H2 B0 B7 : Nat} {cs : Array Value} {v1 v2 : Value} {L1 L2 : List Int}
theorem RC.lt7 (h : RC w H1 H2 B0 B7 cs v1 v2 L1 L2 wr) : B7 < wr.heap.size := (Array.getElem?_eq_some_iff.1 h.act).1
theorem RC.to (h : RC w H1 H2 B0 B7 cs v1 v2 L1 L2 wr) (hb : Below wr.heap.size wr w') : RC w H1 H2 B0 B7 cs v1 v2 L1 L2 w' :=
  ⟨h.below.trans (hb.mono h.below.size), h.bag.below hb, h.ref.below hb, (hb.block _ h.lt7).trans h.act, h.h1, h.h2, h.h7, h.ne, h.apart, h.n1, h.n2⟩
theorem RC.bagTo (h : RC w H1 H2 B0 B7 cs v1 v2 L1 L2 wr) {v1' : Value} {L1' : List Int} (hb : BagI w' H1 B0 v1' L1') (f : Fr wr w' H1 v1.ownBlock) (ho : v1'.ownBlock = v1.ownBlock ∨ ∃ b, v1'.ownBlock = some b ∧ wr.heap.size ≤ b) : RC w H1 H2 B0 B7 cs v1' v2 L1' L2 w' := by
  obtain ⟨p1, p2⟩ := h.h1
  obtain ⟨q1, q2⟩ := h.h2
  have h7 := h.h7
  have hr1 : ∀ k, v1.ownBlock = some k → B0 ≤ k := fun k e => (RowI.lt h.bag.2.1 k e).1
  refine ⟨below_fr h.below f (fun k e => by have := hr1 k e; omega) p1 (Nat.le_refl _), hb, ⟨?_, own_move h.ref.2.1 (fun k hk => ?_), Nat.le_trans h.ref.2.2 f.size⟩, ?_, h.h1, h.h2, h7, h.ne, fun k hk hk2 => ?_, fun e => ?_, h.n2⟩
  · rw [f.block H2 h.ref.lt (fun e => h.ne e.symm) (fun e => by have := hr1 _ e; omega)]; exact h.ref.1
  · have h3 := RowI.lt h.ref.2.1 k hk
    exact f.block k h3.2 (by omega) (fun e => h.apart k e hk)
  · rw [f.block B7 h.lt7 (by omega) h.n1]; exact h.act
  · have h3 := (RowI.lt h.ref.2.1 k hk2).2
    rcases ho with ho | ⟨b, ho, hb⟩
    · exact h.apart k (by rw [← ho]; exact hk) hk2
    · rw [ho] at hk; have := Option.some.inj hk; omega
  · have := h.lt7
    rcases ho with ho | ⟨b, ho, hb⟩
    · exact h.n1 (by rw [← ho]; exact e)
    · rw [ho] at e; have := Option.some.inj e; omega
theorem RC.refTo (h : RC w H1 H2 B0 B7 cs v1 v2 L1 L2 wr) {v2' : Value} {L2' : List Int} (hb : BagR w' H2 B0 v2' L2') (f : Fr wr w' H2 none) (ho : (v2'.ownBlock = none ∨ v2'.ownBlock = v2.ownBlock) ∨ ∃ b, v2'.ownBlock = some b ∧ wr.heap.size ≤ b) : RC w H1 H2 B0 B7 cs v1 v2' L1 L2' w' := by
  obtain ⟨p1, p2⟩ := h.h1
  obtain ⟨q1, q2⟩ := h.h2
  have h7 := h.h7
  refine ⟨below_fr h.below f (fun k e => by cases e) q1 (Nat.le_refl _), ⟨?_, own_move h.bag.2.1 (fun k hk => ?_), Nat.le_trans h.bag.2.2 f.size⟩, hb, ?_, h.h1, h.h2, h7, h.ne, fun k hk hk2 => ?_, h.n1, fun e => ?_⟩
  · rw [f.block H1 h.bag.lt h.ne (fun e => by cases e)]; exact h.bag.1
  · have h3 := RowI.lt h.bag.2.1 k hk
    exact f.block k h3.2 (by omega) (fun e => by cases e)
  · rw [f.block B7 h.lt7 (by omega) (fun e => by cases e)]; exact h.act
  · have h3 := (RowI.lt h.bag.2.1 k hk).2
    rcases ho with (ho | ho) | ⟨b, ho, hb⟩
    · rw [ho] at hk2; cases hk2
    · exact h.apart k hk (by rw [← ho]; exact hk2)
    · rw [ho] at hk2; have := Option.some.inj hk2; omega
  · have := h.lt7
    rcases ho with (ho | ho) | ⟨b, ho, hb⟩
    · rw [ho] at e; cases e
    · exact h.n2 (by rw [← ho]; exact e)
    · rw [ho] at e; have := Option.some.inj e; omega
theorem RC.put (h : RC w H1 H2 B0 B7 cs v1 v2 L1 L2 wr) (x : Int) (hl : L1.length ≤ 900000) :
    Calls Try.prog 11 #[.pointer (some ⟨H1, 0, none⟩), .slice (some ⟨wr.heap.size, 0, none⟩) 1 1] (wr.alloc (.cells #[.int .i64 x] 3)) fun e w' => e = .returned (.tuple #[]) ∧ ∃ v1', RC w H1 H2 B0 B7 cs v1' v2 (L1 ++ [x]) L2 w' := by
  have hA := h.to ((Below.refl wr.heap.size wr).alloc (Nat.le_refl _) (.cells #[.int .i64 x] 3))
  refine (T.PutI H1 B0 v1 L1 [x] _ 1 1 _ hA.bag (fun j y hy => ?_) rfl (by omega)).mono ?_
  · match j, hy with
    | 0, hy =>
      simp at hy; subst hy
      exact ⟨_, 0, rfl, by rw [cell_of_row _ _ _ _ _ _ (heap_alloc_new wr _)]; rfl⟩
  · rintro e w' ⟨rfl, v', g1, g2, g3⟩
    exact ⟨rfl, v', hA.bagTo g1 g2 g3⟩
theorem RC.refPut (h : RC w H1 H2 B0 B7 cs v1 v2 L1 L2 wr) (x : Int) (hl : L2.length ≤ 900000) :
    Calls Try.prog 20 #[.pointer (some ⟨H2, 0, none⟩), .int .i64 x] wr fun e w' => e = .returned (.tuple #[]) ∧ ∃ v2', RC w H1 H2 B0 B7 cs v1 v2' L1 (L2 ++ [x]) w' := by
  refine (T.refPut H2 B0 v2 L2 x _ h.ref hl).mono ?_
  rintro e w' ⟨rfl, v', g1, g2, g3⟩
  exact ⟨rfl, v', h.refTo g1 g2 (.inr g3)⟩
theorem RC.take (h : RC w H1 H2 B0 B7 cs v1 v2 L1 L2 wr) (i : Int) (hl : L1.length ≤ 900000) :
    Calls Try.prog 14 #[.pointer (some ⟨H1, 0, none⟩), .int .i64 i] wr fun e w' => e = .returned (.tuple #[.int .i64 (getVI L1 i).1, .bool (getVI L1 i).2]) ∧ ∃ v1', RC w H1 H2 B0 B7 cs v1' v2 (takeL L1 i) L2 w' := by
  refine (T.TakeV H1 B0 v1 L1 i _ h.bag hl).mono ?_
  rintro e w' ⟨rfl, v', g1, g2, g3⟩
  exact ⟨rfl, v', h.bagTo g1 g2 (.inl g3)⟩
theorem RC.refTake (h : RC w H1 H2 B0 B7 cs v1 v2 L1 L2 wr) (i : Int) (hl : L2.length ≤ 900000) :
    Calls Try.prog 21 #[.pointer (some ⟨H2, 0, none⟩), .int .i64 i] wr fun e w' => e = .returned (.tuple #[.int .i64 (getVI L2 i).1, .bool (getVI L2 i).2]) ∧ ∃ v2', RC w H1 H2 B0 B7 cs v1 v2' L1 (takeL L2 i) w' := by
  refine (T.refTakeV H2 B0 v2 L2 i _ h.ref hl).mono ?_
  rintro e w' ⟨rfl, v', g1, g2, g3⟩
  exact ⟨rfl, v', h.refTo g1 g2 (g3.elim (fun e => .inl (.inr e)) .inr)⟩
theorem RC.double (h : RC w H1 H2 B0 B7 cs v1 v2 L1 L2 wr) (i : Int) (hl : L1.length ≤ 900000) :
    Calls Try.prog 15 #[.pointer (some ⟨H1, 0, none⟩), .int .i64 i] wr fun e w' => e = .returned (.bool (getVI L1 i).2) ∧ ∃ v1', RC w H1 H2 B0 B7 cs v1' v2 (dblL L1 i) L2 w' := by
  refine (T.DoubleV H1 B0 v1 L1 i _ h.bag hl).mono ?_
  rintro e w' ⟨rfl, v', g1, g2, g3⟩
  exact ⟨rfl, v', h.bagTo g1 g2 g3⟩
theorem RC.refDouble (h : RC w H1 H2 B0 B7 cs v1 v2 L1 L2 wr) (i : Int) (hl : L2.length ≤ 900000) :
    Calls Try.prog 22 #[.pointer (some ⟨H2, 0, none⟩), .int .i64 i] wr fun e w' => e = .returned (.bool (getVI L2 i).2) ∧ ∃ v2', RC w H1 H2 B0 B7 cs v1 v2' L1 (dblL L2 i) w' := by
  refine (T.refDoubleV H2 B0 v2 L2 i _ h.ref hl).mono ?_
  rintro e w' ⟨rfl, v', g1, g2, g3⟩
  exact ⟨rfl, v', h.refTo g1 g2 (g3.elim (fun e => .inl (.inr e)) .inr)⟩
theorem RC.drop (h : RC w H1 H2 B0 B7 cs v1 v2 L1 L2 wr) (B : Nat) (q : Int) (hl : L1.length ≤ 900000) (hB : wr.cell? ⟨B, 0, none⟩ = some (.int .i64 q)) (hne : v1.ownBlock ≠ some B) (hBH : B ≠ H1) :
    Calls Try.prog 23 #[.pointer (some ⟨H1, 0, none⟩), .func (.func 24) #[] #[.pointer (some ⟨B, 0, none⟩)]] wr fun e w' => e = .returned (.int .i64 ((L1.length : Int) - ((keptF q L1).length : Int))) ∧ w'.cell? ⟨B, 0, none⟩ = some (.int .i64 q) ∧ ∃ v1', RC w H1 H2 B0 B7 cs v1' v2 (keptF q L1) L2 w' := by
  refine (T.DropI 24 _ (fun x => decide (atF x 3 = q)) (enters_of Try.func24 (by kernel_rfl) rfl) (fun W => W.cell? ⟨B, 0, none⟩ = some (.int .i64 q)) (fun x W hW => ?_) H1 B0 v1 L1 wr h.bag hl hB (fun W W' hW hg => (World.cell?_of_block (a := ⟨B, 0, none⟩) (hg.block B (block_lt_of_cell hW) (fun e => hne e.symm))).trans hW)).mono ?_
  · refine (T.clo24 B q x W hW).mono ?_
    rintro e w' ⟨rfl, h1, h2⟩
    exact ⟨rfl, (h2.cell (p := ⟨B, 0, none⟩) (block_lt_of_cell h1)).trans h1, h2⟩
  · rintro e w' ⟨rfl, v', g1, g2, g3⟩
    exact ⟨rfl, (World.cell?_of_block (a := ⟨B, 0, none⟩) (g2.block B (block_lt_of_cell hB) hBH hne)).trans hB, v', h.bagTo g1 g2 (.inl g3)⟩
theorem RC.refDrop (h : RC w H1 H2 B0 B7 cs v1 v2 L1 L2 wr) (q : Int) (hl : L2.length ≤ 900000) :
    Calls Try.prog 25 #[.pointer (some ⟨H2, 0, none⟩), .int .i64 q] wr fun e w' => e = .returned (.int .i64 ((L2.length : Int) - ((keptF q L2).length : Int))) ∧ ∃ v2', RC w H1 H2 B0 B7 cs v1 v2' L1 (keptF q L2) w' := by
  refine (T.refDrop H2 B0 v2 L2 q _ h.ref hl).mono ?_
  rintro e w' ⟨rfl, v', g1, g2, g3⟩
  exact ⟨rfl, v', h.refTo g1 g2 (g3.elim (fun e => .inl (.inl e)) .inr)⟩
end
set_option maxHeartbeats 4000000 in
set_option maxRecDepth 100000 in
theorem T.alikeQ (A B : Option Addr) (c d : Nat) (L : List Int) (w : World) (hA : SrcI w A L) (hB : SrcI w B L) (hL : L.length ≤ 900000) :
    Calls Try.prog 17 #[.slice A L.length c, .slice B L.length d] w fun e w' => e = .returned (.bool true) ∧ ∃ m, w' = w.drewN m := by
  have HA := Aside.mk hA
  have HB := Aside.mk hB
  have hlm : L.length ≤ 9223372036854775807 := by omega
  clear hA hB hL
  go_enter Try.func17, Try.ntmps17
  go_wp2
  go_loopg [13] L.length (fun kq v13 wr => ∃ k m : Nat, k + kq = L.length ∧ v13 = .int .i64 (k : Int) ∧ wr = w.drewN m)
  case atStart => exact ⟨0, 0, by omega, rfl, rfl⟩
  case round =>
    obtain ⟨k, m, hk, rfl, rfl⟩ := hrel
    have HK := Aside.mk hk
    by_cases hlt : k < L.length
    · obtain ⟨x, hx⟩ : ∃ x, L[k]? = some x := ⟨_, List.getElem?_eq_getElem hlt⟩
      obtain ⟨b1, o1, rfl, h1⟩ := HA.out k x hx
      obtain ⟨b2, o2, rfl, h2⟩ := HB.out k x hx
      have hlt' := Aside.mk hlt
      clear hx hk
      go_wp2
      refine still_lit (by kernel_rfl) (by kernel_rfl) ?_
      repeat still_step
      refine wpStill_nil ?_
      go_wp2
      go_roundg (gk - 1)
      case measure => have := HK.out; have := hlt'.out; omega
      case rel => exact ⟨k + 1, m + 1, by have := HK.out; have := hlt'.out; omega, by go_num, rfl⟩
    · have hke : k = L.length := by omega
      clear hlt hk
      subst hke
      go_wp2
      go_ret
      exact ⟨rfl, m, rfl⟩
end Go.Proofs.Ytmlnjelhiemlpaa

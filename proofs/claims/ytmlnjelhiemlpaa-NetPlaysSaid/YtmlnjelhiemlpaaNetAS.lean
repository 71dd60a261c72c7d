/- A bag's things in memory; contracts of slices.Clone, Put and Len. Conditions: where the bag lies, sizes. -/
import Derived.Test.YtmlnjelhiemlpaaNet0
namespace Go.Proofs.Ytmlnjelhiemlpaa
open Go.RowKit Go.Proofs.YtmlnjelhiemlpaaW.PrintWords Go.Proofs.YtmlnjelhiemlpaaW.PrintLast Go.Proofs.YtmlnjelhiemlpaaW.PrintMore
/-- These things are a row of memory that was made from block 'base' on. -/
def RowS (w : World) (base : Nat) (v : Value) (l : List ByteArray) : Prop := w.ownsRow base 9 1 v l.length (l.map Value.string)
/-- These things lie at this address. -/
def SrcS (w : World) (A : Option Addr) (l : List ByteArray) : Prop := ∀ i x, l[i]? = some x → ∃ b o, A = some ⟨b, o, none⟩ ∧ w.cell? ⟨b, o + i, none⟩ = some (Value.string x)
theorem SrcS.of_kept {w w' : World} {A : Option Addr} {l : List ByteArray} (h : SrcS w A l) (hk : ∀ a, A = some a → w'.heap[a.block]? = w.heap[a.block]?) : SrcS w' A l := fun i x hx => by
  obtain ⟨b, o, rfl, hc⟩ := h i x hx
  exact ⟨b, o, rfl, by rw [← hc]; exact World.cell?_of_block (a := ⟨b, o + i, none⟩) (hk ⟨b, o, none⟩ rfl)⟩
theorem RowS.slice {w : World} {base : Nat} {v : Value} {l : List ByteArray} (h : RowS w base v l) : (v = .slice none 0 0 ∧ l = []) ∨ ∃ g c cur, v = .slice (some ⟨g, 0, none⟩) l.length c ∧ base ≤ g ∧ l.length ≤ c ∧ c ≤ maxLen ∧ w.heap[g]? = some (.cells cur 9 (0, 0)) ∧ SrcS w (some ⟨g, 0, none⟩) l := by
  rcases h.2 with ⟨h1, h2⟩ | ⟨g, cap, cur, hv, hg, hh, hn, hm, hs, _⟩
  · exact .inl ⟨h1, List.eq_nil_of_length_eq_zero h2⟩
  · refine .inr ⟨g, cap, cur, hv, hg, hn, hm, hh, fun i x hx => ⟨g, 0, rfl, ?_⟩⟩
    have := h.cells (g := g) (by rw [hv]; rfl) i (Value.string x) (by rw [List.getElem?_map, hx]; rfl)
    rwa [Addr.add_mid] at this
theorem RowS.shape {w : World} {base : Nat} {v : Value} {l : List ByteArray} (h : RowS w base v l) : ∃ A n c, v = .slice A n c ∧ n = l.length := by
  rcases h.slice with ⟨rfl, rfl⟩ | ⟨g, c, cur, rfl, _⟩
  · exact ⟨none, 0, 0, rfl, rfl⟩
  · exact ⟨_, _, c, rfl, rfl⟩
theorem RowS.kept {w w' : World} {base : Nat} {v : Value} {l : List ByteArray} {row : Option Nat} (h : RowS w base v l) (hg : w.grownBy w' row) (hr : v.ownBlock = none ∨ v.ownBlock ≠ row) : RowS w' base v l := World.ownsRow.kept h hg hr
theorem RowS.below {w w' : World} {base : Nat} {v : Value} {l : List ByteArray} (h : RowS w base v l) (hb : Below w.heap.size w w') : RowS w' base v l :=
  World.ownsRow.kept h (row := none) ⟨hb.os, hb.tape, hb.output, hb.size, fun k hk _ => hb.block k hk⟩ (by cases hv : v.ownBlock <;> simp)
theorem infoS : (Try.prog.info? 9).map (fun i => (i.zero, i.size, i.bytes)) = some (some (.string ⟨#[]⟩), 1, 16) := by kernel_rfl
theorem RowS.nil (w : World) (base : Nat) : RowS w base (.slice none 0 0) [] := World.ownsRow_nil _ _ _ _
/-- 'append(v, xs...)' onto a row of the call's own. -/
theorem wpList_appendS {w : World} {ops : Array Oper} {rest : List Oper} {o : Oper} {a : Act} {Q : Exit → Act → World → Prop} (hgd : o.guard = none) (s x : Operand)
    (ho : o.op = .call { callee := .builtin .append, args := #[s, x], argTypes := #[53, 53] }) (base : Nat) (v : Value) (l xs : List ByteArray) (A : Option Addr) (m c : Nat) (hs : a.eval s = v) (hx : a.eval x = .slice A m c) (hm : xs.length = m)
    (HO : RowS w base v l) (HR : SrcS w A xs) (hbase : base ≤ w.heap.size) (hl : l.length + m ≤ 1000000)
    (h : ∀ v1 w1, RowS w1 base v1 (l ++ xs) → w.grownBy w1 v.ownBlock → (v1.ownBlock = v.ownBlock ∨ ∃ b, v1.ownBlock = some b ∧ w.heap.size ≤ b) → wpList Try.prog ops Q rest (a.put o.dst v1) w1) : wpList Try.prog ops Q (o :: rest) a w := by
  subst hm
  refine Kd.R_append_rows (Kd.string) (Rr := (Kd.string).K w) (w0 := w) base hgd s x 53 9 (.string ⟨#[]⟩) 16 ho Try.underlying53 infoS rfl (by decide) (by decide) v l xs A xs.length c (fun _ => True) (fun _ => False) hs hx (Kd.R_of_own HO (fun _ _ => trivial)) ⟨rfl, by omega, fun h0 => ?_⟩ (fun _ _ h => h) (fun _ h => h.elim) (fun _ _ => trivial) (Below.refl _ _) hbase (by omega) (fun v1 w1 h1 _ h3 h4 => h v1 w1 (Kd.own_of_R h1) h3 h4)
  obtain ⟨b, o, hA, _⟩ := HR 0 _ (List.getElem?_eq_getElem h0)
  subst hA
  refine ⟨_, rfl, fun j p hp => ⟨[Value.string p], rfl, rfl, fun i u hu => ?_⟩⟩
  obtain ⟨b', o', hA, hc⟩ := HR j p hp
  simp only [Option.some.injEq, Addr.mk.injEq] at hA
  obtain ⟨rfl, rfl, _⟩ := hA
  match i, hu with
  | 0, hu =>
    simp at hu; subst hu
    rw [Addr.add_mid, ← hc]
    show w.cell? ⟨b, o + (j * 1 + 0), none⟩ = _
    rw [Nat.mul_one]; rfl
/-- The bag at block H: its slice value, and what is in it. -/
def BagS (w : World) (H base : Nat) (v : Value) (l : List ByteArray) : Prop := w.heap[H]? = some (.cells #[v] 55 (0, 0)) ∧ RowS w base v l ∧ base ≤ w.heap.size
theorem BagS.apart {w : World} {H base : Nat} {v : Value} {l : List ByteArray} (h : BagS w H base v l) : v.ownBlock ≠ some H := by
  rcases h.2.1.slice with ⟨rfl, _⟩ | ⟨g, c, cur, rfl, _, _, _, hh, _⟩
  · simp [Value.ownBlock]
  · intro e
    obtain rfl : g = H := by simpa [Value.ownBlock] using e
    rw [h.1] at hh
    simp at hh
theorem BagS.lt {w : World} {H base : Nat} {v : Value} {l : List ByteArray} (h : BagS w H base v l) : H < w.heap.size := (Array.getElem?_eq_some_iff.1 h.1).1
theorem BagS.below {w w' : World} {H base : Nat} {v : Value} {l : List ByteArray} (h : BagS w H base v l) (hb : Below w.heap.size w w') : BagS w' H base v l :=
  ⟨(hb.block _ h.lt).trans h.1, h.2.1.below hb, Nat.le_trans h.2.2 hb.size⟩
theorem BagS.cell {w : World} {H base : Nat} {v : Value} {l : List ByteArray} (h : BagS w H base v l) : w.cell? ⟨H, 0, none⟩ = some v := by
  rw [cell_of_row _ _ _ _ _ _ h.1]; rfl
set_option maxHeartbeats 2000000 in
set_option maxRecDepth 100000 in
theorem T.LenS (H base : Nat) (v : Value) (l : List ByteArray) (w : World) (h : BagS w H base v l) : Calls Try.prog 33 #[.pointer (some ⟨H, 0, none⟩)] w fun e w' => e = .returned (.int .i64 l.length) ∧ w' = w := by
  have hc := h.cell
  rcases h.2.1.slice with ⟨rfl, rfl⟩ | ⟨g, c, cur, rfl, _⟩
  · clear h
    go_enter Try.func33, Try.ntmps33
    go_wp2
    go_ret
    exact ⟨rfl, rfl⟩
  · clear h
    go_enter Try.func33, Try.ntmps33
    go_wp2
    go_ret
    exact ⟨rfl, rfl⟩
set_option maxHeartbeats 2000000 in
set_option maxRecDepth 100000 in
theorem T.LenNilS (w : World) : Calls Try.prog 33 #[.pointer none] w fun e w' => e = .returned (.int .i64 0) ∧ w' = w := by
  go_enter Try.func33, Try.ntmps33
  go_wp2
  go_ret
  exact ⟨rfl, rfl⟩
set_option maxHeartbeats 2000000 in
set_option maxRecDepth 100000 in
theorem T.PutNilS (x : Value) (w : World) : Calls Try.prog 29 #[.pointer none, x] w fun e w' => e = .returned (.tuple #[]) ∧ w' = w := by
  go_enter Try.func29, Try.ntmps29
  go_wp2
  go_end0
  exact ⟨rfl, rfl⟩
set_option maxHeartbeats 2000000 in
set_option maxRecDepth 100000 in
theorem T.PutS (H base : Nat) (v : Value) (l xs : List ByteArray) (A : Option Addr) (m c : Nat) (w : World) (h : BagS w H base v l) (hS : SrcS w A xs) (hm : xs.length = m) (hl : l.length + m ≤ 1000000) :
    Calls Try.prog 29 #[.pointer (some ⟨H, 0, none⟩), .slice A m c] w fun e w' => e = .returned (.tuple #[]) ∧ ∃ v', BagS w' H base v' (l ++ xs) ∧ Fr w w' H v.ownBlock ∧ (v'.ownBlock = v.ownBlock ∨ ∃ b, v'.ownBlock = some b ∧ w.heap.size ≤ b) := by
  have hc := h.cell
  have HB := Aside.mk h
  have HS := Aside.mk hS
  have hap := Aside.mk h.apart
  clear h hS
  go_enter Try.func29, Try.ntmps29
  go_wp2_with ((with_reducible refine wpList_appendS rfl (.tmp 10) (.tmp 11) rfl base v l xs A m c rfl rfl hm ?ho ?hr ?hb hl ?_); (case ho => exact HB.out.2.1); (case hr => exact HS.out); (case hb => exact HB.out.2.2); intro v1 w1 h1 hg hw; obtain ⟨A1, n1, c1, rfl, hn1⟩ := h1.shape; have HN1 := Aside.mk hn1; clear hn1; have H1 := Aside.mk h1; have HG := Aside.mk hg; have HW := Aside.mk hw; have hk := (hg.block H HB.out.lt (fun e => hap.out e.symm)).trans HB.out.1; have hfr := frozen_of_row w1 H 0 _ _ hk; have hcc : w1.cell? ⟨H, 0, none⟩ = some v := (by rw [cell_of_row _ _ _ _ _ _ hk]; rfl); have HK := Aside.mk hk; clear hk h1 hg hw)
  go_end0
  refine ⟨rfl, .slice A1 n1 c1, ⟨setCell_one HK.out _, ?_, ?_⟩, ⟨HG.out.os, HG.out.tape, HG.out.output, ?_, ?_⟩, HW.out⟩
  · refine H1.out.kept (row := some H) ⟨rfl, rfl, rfl, by simp [World.setCell], fun k _ hne => Below.heap_setCell _ _ _ _ (fun e => hne (congrArg some e))⟩ ?_
    rcases h : (Value.slice A1 n1 c1).ownBlock with _ | k
    · exact .inl rfl
    · refine .inr (fun e => ?_)
      obtain rfl := Option.some.inj e
      rcases HW.out with h2 | ⟨b, h2, h3⟩
      · exact hap.out (by rw [← h2, h])
      · rw [h] at h2
        have := HB.out.lt
        obtain rfl := Option.some.inj h2
        omega
  · have := HG.out.size; have := HB.out.2.2; simp [World.setCell]; omega
  · simpa [World.setCell] using HG.out.size
  · intro k hk hne hr
    rw [Below.heap_setCell _ _ _ _ (fun e => hne e)]
    exact HG.out.block k hk (fun e => hr e.symm)
end Go.Proofs.Ytmlnjelhiemlpaa

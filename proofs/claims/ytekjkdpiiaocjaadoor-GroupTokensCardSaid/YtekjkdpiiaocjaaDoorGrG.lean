/- slices.Delete, about, Delete. Conditions: where the rows lie. -/
import Derived.Test.YtekjkdpiiaocjaaDoorGrF
namespace Go.Proofs.YtekjkdpiiaocjaaDoor
open Go.RowKit Go.Maps Go.Proofs.YtekjkdpiiaocjaaDoorW.PrintWords Go.Proofs.YtekjkdpiiaocjaaDoorW.PrintLast Go.Proofs.YtekjkdpiiaocjaaDoorW.PrintMore
theorem setCells_row (g : Nat) : ∀ (vs : List Value) (o : Nat) (w : World) (cur : Array Value) (t : Nat), w.heap[g]? = some (.cells cur t (0, 0)) → o + vs.length ≤ cur.size →
    ∃ cur' : Array Value, (w.setCells g o vs).heap[g]? = some (.cells cur' t (0, 0)) ∧ cur'.size = cur.size ∧ ∀ j : Nat, cur'[j]? = if o ≤ j ∧ j < o + vs.length then vs[j - o]? else cur[j]?
  | [], o, w, cur, t, h, _ => ⟨cur, h, rfl, fun j => by rw [if_neg (by simp)]⟩
  | v :: r, o, w, cur, t, h, hl => by
    simp only [List.length_cons] at hl
    have h1 := heap_setCell_same w g o cur t v h
    obtain ⟨cur', h2, h3, h4⟩ := setCells_row g r (o + 1) _ _ t h1 (by simp; omega)
    refine ⟨cur', h2, by rw [h3]; simp, fun j => ?_⟩
    rw [h4]
    by_cases hj : o + 1 ≤ j ∧ j < o + 1 + r.length
    · rw [if_pos hj, if_pos (by simp only [List.length_cons]; omega), show j - o = (j - (o + 1)) + 1 from by omega, List.getElem?_cons_succ]
    · rw [if_neg hj]
      by_cases ho : j = o
      · subst ho
        rw [if_pos (by simp only [List.length_cons]; omega), Nat.sub_self, Array.getElem?_setIfInBounds_self_of_lt (by omega)]
        rfl
      · rw [if_neg (by simp only [List.length_cons]; omega), Array.getElem?_setIfInBounds_ne (fun e => ho e.symm)]
theorem grownBy_setCells (g : Nat) : ∀ (vs : List Value) (o : Nat) (w w0 : World), w0.grownBy w (some g) → w0.grownBy (w.setCells g o vs) (some g)
  | [], _, _, _, h => h
  | v :: r, o, w, w0, h => grownBy_setCells g r (o + 1) _ w0 ⟨h.os, h.tape, h.output, by simpa [World.setCell] using h.size, fun k hk hne => by rw [Below.heap_setCell _ _ _ _ (fun e => hne (congrArg some e))]; exact h.block k hk hne⟩
/-- What is written behind a row's end leaves the row. -/
theorem R_tail {n0 : Nat} {α : Type} {f : α → List Value} {hn : ∀ x, (f x).length = n0} {h1 : ∀ x, ∀ u ∈ f x, u.oneCell' = true} {e base g m c o : Nat} {ok : Nat → Prop} {w : World} {l : List α} (h : (plainK n0 f hn h1).R e w base ok (.slice (some ⟨g, 0, none⟩) m c) l) (vs : List Value) (ho : m * n0 ≤ o) (hc : o + vs.length ≤ c * n0) :
    (plainK n0 f hn h1).R e (w.setCells g o vs) base ok (.slice (some ⟨g, 0, none⟩) m c) l ∧ w.grownBy (w.setCells g o vs) (some g) := by
  refine ⟨?_, grownBy_setCells g vs o _ w ⟨rfl, rfl, rfl, Nat.le_refl _, fun k _ _ => rfl⟩⟩
  obtain ⟨ho1, inner, hown, hr⟩ := h
  have hlen : l.length = m := by
    have := Kd.R_reads (d := plainK n0 f hn h1) (e := e) (w := w) (base := base) (ok := ok) ⟨ho1, inner, hown, hr⟩
    obtain ⟨A, c1, e1, _⟩ := this
    injection e1 with e2 e3 e4
    exact e3.symm
  rcases hown.2 with ⟨he, _⟩ | ⟨g', cap, cur, he, hg, hh, hnn, hmx, hs, htake⟩
  · cases he
  · obtain ⟨rfl, rfl, rfl⟩ : g = g' ∧ m = l.length ∧ c = cap := by
      injection he with e1 e2 e3
      injection e1 with e1
      injection e1 with e1
      exact ⟨e1, e2, e3⟩
    obtain ⟨cur', h2, h3, h4⟩ := setCells_row g vs o w cur e hh (by rw [hs]; exact hc)
    refine ⟨ho1, inner, ⟨hown.1, .inr ⟨g, c, cur', rfl, hg, h2, hnn, hmx, by rw [h3]; exact hs, ?_⟩⟩, hr⟩
    rw [← htake]
    refine List.ext_getElem? fun j => ?_
    rw [List.getElem?_take, List.getElem?_take]
    have ho' : l.length * (plainK n0 f hn h1).sz ≤ o := ho
    split
    · rename_i hj
      rw [Array.getElem?_toList, h4, if_neg (by omega), Array.getElem?_toList]
    · rfl
theorem run_clearK (w : World) (ty : TypeId) (g o c : Nat) (hc : w.there g o 6) :
    (Builtin.clear_ #[22] ty #[.slice (some ⟨g, o, none⟩) 1 c]).run Tryd.prog w = .ok (.tuple #[]) (w.setCells g o [.int .i64 0, .int .i64 0, .int .i64 0, .int .i64 0, .int .i64 0, .string ⟨#[]⟩]) := by
  have hst := run_storeCells_cells (P := Tryd.prog) g o [.int .i64 0, .int .i64 0, .int .i64 0, .int .i64 0, .int .i64 0, .string ⟨#[]⟩] 0 w (fun j hj => by simpa using (hc j (by simpa using hj)).1) (fun j hj => by simpa using (hc j (by simpa using hj)).2) (by intro v hv'; simp at hv'; rcases hv' with rfl | rfl <;> rfl)
  simp only [Nat.add_zero] at hst
  have hv : ∀ w : World, (zeroValue 61).run Tryd.prog w = .ok (.agg #[.int .i64 0, .int .i64 0, .int .i64 0, .int .i64 0, .int .i64 0, .string ⟨#[]⟩]) w := fun w => by kernel_rfl
  have hz : (Builtin.zeroCells (Value.agg #[.int .i64 0, .int .i64 0, .int .i64 0, .int .i64 0, .int .i64 0, .string ⟨#[]⟩]).cells 1).toList = [.int .i64 0, .int .i64 0, .int .i64 0, .int .i64 0, .int .i64 0, .string ⟨#[]⟩] := by kernel_rfl
  simp [Builtin.clear_, run_underlying Tryd.underlying22, hv, hz, hst]
set_option maxHeartbeats 4000000 in
set_option maxRecDepth 100000 in
/-- slices.Delete of one message, of a row of the caller's own. -/
theorem T.DelK (g base c k : Nat) (l : List Kept) (w : World) (h : keptK.R 61 w base (fun _ => True) (.slice (some ⟨g, 0, none⟩) l.length c) l) (hk : k < l.length) (hl : l.length ≤ 100000) (hbase : base ≤ w.heap.size) :
    Calls Tryd.prog 47 #[.slice (some ⟨g, 0, none⟩) l.length c, .int .i64 (k : Int), .int .i64 ((k + 1 : Nat) : Int)] w fun e w' => e = .returned (.slice (some ⟨g, 0, none⟩) (l.length - 1) c) ∧ keptK.R 61 w' base (fun _ => True) (.slice (some ⟨g, 0, none⟩) (l.length - 1) c) (l.eraseIdx k) ∧ w.grownBy w' (some g) := by
  obtain ⟨n, hn⟩ : ∃ n, n = l.length := ⟨_, rfl⟩
  rw [← hn] at h hk hl ⊢
  have hnc : n ≤ c ∧ c ≤ 9223372036854775807 := by
    obtain ⟨inner, hown⟩ := Kd.R_own h
    rcases hown.2 with ⟨he, _⟩ | ⟨g', cap, cur, he, hg, hh, hnn, hmx, hs, htake⟩
    · cases he
    · injection he with e1 e2 e3
      subst e3
      exact ⟨by omega, hmx⟩
  obtain ⟨m, rfl⟩ : ∃ m, n = m + 1 := ⟨n - 1, by omega⟩
  have HR := Aside.mk h
  have HN := Aside.mk hn
  clear h hn
  rw [show m + 1 - 1 = m from by omega]
  have h1 : (0 : Int) ≤ (k : Int) := by omega
  have h2 : (k : Int) ≤ ((k + 1 : Nat) : Int) := by omega
  have h3 : ((k + 1 : Nat) : Int) ≤ ((m + 1 : Nat) : Int) := by omega
  have h4 : ((m + 1 : Nat) : Int) ≤ (c : Int) := by omega
  have h5 : ¬ (k : Int) = ((k + 1 : Nat) : Int) := by omega
  have h6 : (k : Int) ≤ (c : Int) := by omega
  go_enter Tryd.func47, Tryd.ntmps47
  go_wp2_with fail
  clear h5
  have h7 : (0 : Int) ≤ (k : Int) + 1 ∧ (k : Int) + 1 ≤ (m : Int) + 1 := by omega
  obtain ⟨ao, hao⟩ : ∃ ao : Option Addr, (if c = k + 1 then some (⟨g, 0, none⟩ : Addr) else some ⟨g, (k + 1) * 6, none⟩) = ao := ⟨_, rfl⟩
  have hao2 : ao = if c = k + 1 then some (⟨g, 0, none⟩ : Addr) else (some (⟨g, 0, none⟩ : Addr)).map (·.add ((k + 1) * keptK.sz)) := by
    rw [← hao]
    split
    · rfl
    · simp only [Option.map_some, add_plain]; rfl
  have HAO := Aside.mk hao2
  clear hao2
  refine still_tail 6 (by kernel_rfl) (by kernel_rfl) ?_
  simp only [List.take_succ_cons, List.take_zero, List.drop_succ_cons, List.drop_zero]
  repeat still_step
  refine wpStill_nil ?_
  refine Kd.R_delete (w0 := w.drew) keptK base rfl (.tmp 22) (.tmp 25) 22 61 rfl Tryd.underlying22 (by kernel_rfl) (n := m + 1) (k := k) (m := m - k) (c2 := c - (k + 1)) rfl rfl HAO.out (by omega) (Kd.R_drew HR.out) hk (Below.refl _ _) (by simpa using hbase) (fun w3 h3 hb3 hg3 => ?_)
  have H3 := Aside.mk h3
  have HG3 := Aside.mk hg3
  clear h3 hb3 hg3
  have hown := H3.out
  have hth : w3.there g (m * 6) 6 := by
    obtain ⟨inner, hown⟩ := Kd.R_own H3.out
    rcases hown.2 with ⟨he, _⟩ | ⟨g', cap, cur, he, hg, hh, hnn, hmx, hs, htake⟩
    · cases he
    · injection he with e1 e2 e3
      injection e1 with e1
      injection e1 with e1
      subst e1 e3
      have hs' : cur.size = c * 6 := hs
      intro j hj
      refine ⟨?_, frozen_of_row _ _ _ _ _ hh⟩
      rw [cell_of_row _ _ _ _ _ _ hh, Array.getElem?_eq_getElem (by omega)]; rfl
  have hcl : ∀ ty, _ := fun ty => run_clearK w3 ty g (m * 6) (c - m) hth
  obtain ⟨r4, hg4⟩ := R_tail H3.out [.int .i64 0, .int .i64 0, .int .i64 0, .int .i64 0, .int .i64 0, .string ⟨#[]⟩] (show (m + 1 - 1) * 6 ≤ m * 6 by omega) (show m * 6 + 6 ≤ c * 6 by omega)
  have HR4 := Aside.mk r4
  have HG4 := Aside.mk hg4
  have h8 : (m : Int) ≤ (m : Int) + 1 := by omega
  have h9 : (m : Int) + 1 ≤ (c : Int) := by omega
  have h10 : ¬ c = m := by omega
  have h11 : m ≤ c := by omega
  clear r4 hg4 hown hth
  go_wp2
  go_ret
  have hg3 : w.grownBy w3 (some g) := ⟨HG3.out.os, HG3.out.tape, HG3.out.output, HG3.out.size, HG3.out.block⟩
  have f := (FC.grown hg3).trans (FC.grown HG4.out)
  exact ⟨rfl, HR4.out, f.os, f.tape, f.output, f.size, fun j hj hne => f.block j hj (fun e => hne (by simpa using e))⟩
/-- Where a delivery's message lies, and the error of one that is not so. -/
def aboutF (ks : List Kept) (now seq count : Int) : Int × Int :=
  match ks.findIdx? (fun m => decide (m.seq = seq)) with
  | none => (0, 8)
  | some i => match ks[i]? with
    | none => (0, 8)
    | some m => if m.count = count then (if m.till ≤ now then (0, 13) else ((i : Int), 0)) else (0, 12)
theorem firstP.idx {α : Type} {p : α → Bool} {l : List α} {r : Int} (h : firstP p l r) : (r = -1 ∧ l.findIdx? p = none) ∨ ∃ (i : Nat) (x : α), r = (i : Int) ∧ l.findIdx? p = some i ∧ l[i]? = some x ∧ p x = true := by
  rcases h with ⟨h1, h2⟩ | ⟨i, h1, h2, h3, x, h4, h5⟩
  · exact .inl ⟨h1, List.findIdx?_eq_none_iff.2 h2⟩
  · refine .inr ⟨i, x, h1, ?_, h4, h5⟩
    rw [List.findIdx?_eq_some_iff_getElem]
    obtain ⟨hlt, hx⟩ := List.getElem?_eq_some_iff.1 h4
    refine ⟨hlt, by rw [hx]; exact h5, fun j hj => ?_⟩
    have hjl : j < l.length := by omega
    have := h3 l[j] (List.mem_iff_getElem?.2 ⟨j, by rw [List.getElem?_take, if_pos hj, List.getElem?_eq_getElem hjl]⟩)
    rw [this]; simp
set_option maxHeartbeats 4000000 in
set_option maxRecDepth 100000 in
theorem T.about (next : Int) (A : Option Addr) (c : Nat) (vm : Value) (att : ByteArray) (ks : List Kept) (now seq count : Int) (w : World) (hK : Row keptK w A ks) (hl : ks.length ≤ 100000) (hvm : ∃ A' n' c', vm = .slice A' n' c') :
    Calls Tryd.prog 46 #[.agg (grV next (.slice A ks.length c) vm att), .int .i64 now, .int .i64 seq, .int .i64 count] w fun e w' => e = .returned (.tuple #[.int .i64 (aboutF ks now seq count).1, .int .i64 (aboutF ks now seq count).2]) ∧ Below w.heap.size w w' := by
  obtain ⟨A', n', c', rfl⟩ := hvm
  simp only [grV]
  obtain ⟨hb, h1, h2⟩ := alloc2 w (.cells #[.int .i64 next, .slice A ks.length c, .slice A' n' c', .string att] 25) (.cells #[.int .i64 seq] 3)
  go_enter Tryd.func46, Tryd.ntmps46
  go_wp2_with fail
  generalize hw1 : World.alloc (World.alloc w _) _ = w1 at hb h1 h2 ⊢
  have HB := Aside.mk hb
  have hcall := T.IndexK 57 #[.pointer (some ⟨w.heap.size + 1, 0, none⟩)] (fun m => decide (m.seq = seq)) (enters_of Tryd.func57 (by kernel_rfl) rfl) A c ks w1 hl (hK.below hb) (fun m W hW => T.about1 m (w.heap.size + 1) seq W (IBox.of h2 hW))
  refine hcall.mono ?_
  clear hcall hw1
  rintro e w2 ⟨r, rfl, hf, hb'⟩
  have HB' := Aside.mk hb'
  have G : GBox w2 w.heap.size next (.slice A ks.length c) (.slice A' n' c') att := (hb'.block _ (Array.getElem?_eq_some_iff.1 h1).1).trans h1
  obtain ⟨x0, x1, x2, x3, xf⟩ := G.cells
  have HRow := Aside.mk ((hK.below hb).below hb')
  have HIX := Aside.mk hf.idx
  obtain ⟨X, hX⟩ : ∃ X, X = w.heap.size := ⟨_, rfl⟩
  rw [← hX] at x0 x1 x2 x3 xf ⊢
  clear hb hb' G h1 h2 hf hX hK
  rcases HIX.out with ⟨rfl, hi⟩ | ⟨i, m, rfl, hi, hm, hp⟩
  · have hA : aboutF ks now seq count = (0, 8) := by unfold aboutF; rw [hi]
    have HA := Aside.mk hA
    clear hA hi
    go_wp2
    go_ret2
    exact ⟨by rw [HA.out]; rfl, HB.out.trans (HB'.out.mono HB.out.size)⟩
  · obtain ⟨g, rfl, hrg⟩ := HRow.out.at i m hm
    obtain ⟨m0, m1, m2, m3, m4, m5⟩ := cellsK hrg
    have hlt := (List.getElem?_eq_some_iff.1 hm).1
    have HI := Aside.mk (And.intro hi hm)
    have hA : aboutF ks now seq count = if m.count = count then (if m.till ≤ now then (0, 13) else ((i : Int), 0)) else (0, 12) := by unfold aboutF; rw [hi]; simp only [hm]
    have HA := Aside.mk hA
    clear hA hi hm hp hrg
    have hlt2 : (i : Int) < (ks.length : Int) := by omega
    by_cases hc : m.count = count
    · by_cases ht : m.till ≤ now
      · go_wp2
        go_ret2
        exact ⟨by rw [HA.out, if_pos hc, if_pos ht]; rfl, HB.out.trans (HB'.out.mono HB.out.size)⟩
      · go_wp2
        go_ret2
        exact ⟨by rw [HA.out, if_pos hc, if_neg (Int.not_le.2 ht)]; rfl, HB.out.trans (HB'.out.mono HB.out.size)⟩
    · go_wp2
      go_ret2
      exact ⟨by rw [HA.out, if_neg hc]; rfl, HB.out.trans (HB'.out.mono HB.out.size)⟩
/-- What Delete leaves. -/
def delF (ks : List Kept) (now seq count : Int) : List Kept := if (aboutF ks now seq count).2 = 0 then ks.eraseIdx (aboutF ks now seq count).1.toNat else ks
def delE (ks : List Kept) (now seq count : Int) : Int := if (aboutF ks now seq count).2 = 8 then 0 else (aboutF ks now seq count).2
theorem aboutF_some {ks : List Kept} {now seq count : Int} (h : (aboutF ks now seq count).2 = 0) : ∃ i : Nat, (aboutF ks now seq count).1 = (i : Int) ∧ i < ks.length := by
  unfold aboutF at h ⊢
  cases hi : ks.findIdx? (fun m => decide (m.seq = seq)) with
  | none => rw [hi] at h; simp at h
  | some i =>
    rw [hi] at h
    simp only at h ⊢
    have hlt := (List.findIdx?_eq_some_iff_getElem.1 hi).1
    rw [List.getElem?_eq_getElem hlt] at h ⊢
    simp only at h ⊢
    split at h
    · rename_i hc
      rw [if_pos hc]
      split at h
      · simp at h
      · rename_i ht
        rw [if_neg ht]
        exact ⟨i, rfl, hlt⟩
    · simp at h
set_option maxHeartbeats 4000000 in
set_option maxRecDepth 100000 in
/-- Delete. -/
theorem T.Delete (next : Int) (A A' : Option Addr) (c c' : Nat) (att : ByteArray) (ks : List Kept) (ms : List Mark) (now seq count : Int) (w : World) (hK : Row keptK w A ks) (hM : Row markK w A' ms) (hl : ks.length ≤ 100000) (hl' : ms.length ≤ 100000) :
    Calls Tryd.prog 25 #[.agg (grV next (.slice A ks.length c) (.slice A' ms.length c') att), .int .i64 now, .int .i64 seq, .int .i64 count] w fun e w' => ∃ vk vm, e = .returned (.tuple #[.agg (grV next vk vm att), .int .i64 (delE ks now seq count)]) ∧ keptK.R 61 w' w.heap.size (fun _ => True) vk (delF ks now seq count) ∧ markK.R 67 w' w.heap.size (fun _ => True) vm ms ∧ Below w.heap.size w w' := by
  simp only [grV]
  obtain ⟨hb, h1, h2⟩ := alloc2 w (.cells #[.int .i64 next, .slice A ks.length c, .slice A' ms.length c', .string att] 25) (.cells #[.int .i64 0, .slice none 0 0, .slice none 0 0, .string ⟨#[]⟩] 25)
  go_enter Tryd.func25, Tryd.ntmps25
  go_wp2_with fail
  generalize hw1 : World.alloc (World.alloc w _) _ = w1 at hb h1 h2 ⊢
  obtain ⟨X, hX⟩ : ∃ X, X = w.heap.size := ⟨_, rfl⟩
  have HX := Aside.mk hX
  rw [← hX] at h1 h2 ⊢
  have HB := Aside.mk hb
  have hcall := T.own next A A' ks.length ms.length c c' att ks ms w1 (hK.below hb).C (hM.below hb).C hl hl'
  simp only [grV] at hcall
  refine hcall.mono ?_
  clear hcall hw1 hb hX
  rintro e w2 ⟨vk, vm, rfl, hr1, hr2, hb2⟩
  have G1 : GBox w2 X next (.slice A ks.length c) (.slice A' ms.length c') att := (hb2.block X (Array.getElem?_eq_some_iff.1 h1).1).trans h1
  have G4 : GBox w2 (X + 1) 0 (.slice none 0 0) (.slice none 0 0) ⟨#[]⟩ := (hb2.block _ (Array.getElem?_eq_some_iff.1 h2).1).trans h2
  have hXX : X + 1 < w1.heap.size := (Array.getElem?_eq_some_iff.1 h2).1
  obtain ⟨Ak, ck, rfl, _⟩ := Row.of_R hr1
  obtain ⟨Am, cm, rfl, _⟩ := Row.of_R hr2
  have HG1 := Aside.mk G1
  have HG4 := Aside.mk G4
  have HR1' := Aside.mk hr1
  have HR2' := Aside.mk hr2
  have HB2 := Aside.mk hb2
  have HXX := Aside.mk hXX
  clear hb2 hr1 hr2 G1 G4 h1 h2 hXX
  go_wp2_with (with_reducible refine halt_at (.store 25 (.tmp 4) (.tmp 13)) rfl ?_)
  refine ⟨?_⟩
  refine wpList_storeG rfl (.tmp 4) (.tmp 13) rfl X next (.slice Ak ks.length ck) (.slice Am ms.length cm) att rfl rfl HG1.out rfl rfl (fun w3 hg3 hf3 => ?_)
  have hX1 : ∀ k ∈ [X], k < w1.heap.size := by have := HXX.out; simp; omega
  have HG3 := Aside.mk hg3
  have HG3' := Aside.mk (HG4.out.fc hf3 (by simp))
  have HR1 := Aside.mk (R_fcG HR1'.out hf3 hX1)
  have HR2 := Aside.mk (R_fcG HR2'.out hf3 hX1)
  have HB3 := Aside.mk (below_fc (HB.out.trans (HB2.out.mono HB.out.size)) hf3 (by simp [HX.out]))
  have HW3 := Aside.mk (show w1.heap.size ≤ w3.heap.size from Nat.le_trans HB2.out.size hf3.size)
  clear hg3 hf3 HR1' HR2' HG1 HG4 HB2 hX1
  obtain ⟨x0, x1, x2, x3, xf⟩ := HG3.out.cells
  go_wp2_with fail
  have hcall := T.about next Ak ck (.slice Am ms.length cm) att ks now seq count w3 (Row.of_R' HR1.out) hl ⟨_, _, _, rfl⟩
  simp only [grV] at hcall
  refine hcall.mono ?_
  clear hcall x0 x1 x2 x3 xf
  rintro e w4 ⟨rfl, hb4⟩
  have HG4 := Aside.mk (HG3.out.fc (FC.of (S := []) hb4) (by simp))
  have HG4' := Aside.mk (HG3'.out.fc (FC.of (S := []) hb4) (by simp))
  have HR4 := Aside.mk (Kd.R_below HR1.out hb4)
  have HM4 := Aside.mk (Kd.R_below HR2.out hb4)
  have HB4 := Aside.mk (HB3.out.trans (hb4.mono HB3.out.size))
  have HW4 := Aside.mk (Nat.le_trans HW3.out hb4.size)
  clear hb4 HR1 HR2 HG3 HG3'
  obtain ⟨x0, x1, x2, x3, xf⟩ := HG4.out.cells
  obtain ⟨y0, y1, y2, y3, yf⟩ := HG4'.out.cells
  have hS := @aboutF_some ks now seq count
  generalize hab : aboutF ks now seq count = ab at hS ⊢
  have HAB := Aside.mk hab
  obtain ⟨k0, e0⟩ := ab
  dsimp only at hS ⊢
  clear hab
  by_cases h8 : e0 = 8
  · subst h8
    have HP := Aside.mk (HG4'.out.put next (.slice Ak ks.length ck) (.slice Am ms.length cm) att)
    go_wp2
    refine bodyPost_ret (v := .tuple #[.agg #[.int .i64 next, .slice Ak ks.length ck, .slice Am ms.length cm, .string att], .int .i64 0]) (results_c1 _ _ 8 25 9 ⟨X + 1, 0, none⟩ _ _ _ (by kernel_rfl) (by rfl) (by rfl) (GBox.load HP.out.1)) (by rfl) ?_
    have e1 : w.heap.size ≤ w1.heap.size := HB.out.size
    have hX1 : ∀ k ∈ [X + 1], k < w1.heap.size := by have := HXX.out; simp; omega
    have r1 := R_fcG HR4.out HP.out.2 hX1
    have r2 := R_fcG HM4.out HP.out.2 hX1
    have b1 := below_fc (S := [X + 1]) HB4.out HP.out.2 (by simp [HX.out])
    unfold delF delE
    rw [HAB.out]
    exact ⟨_, _, rfl, Kd.R_lower r1 e1, Kd.R_lower r2 e1, b1⟩
  · by_cases hz : e0 = 0
    · subst hz
      obtain ⟨i, rfl, hi⟩ := hS rfl
      clear hS
      have hk0 : Ak ≠ none := fun e => by
        obtain ⟨ad, e2, _⟩ := (Row.of_R' HR4.out).C.2.2 (by omega)
        rw [e] at e2; cases e2
      obtain ⟨ad, rfl⟩ : ∃ ad, Ak = some ad := by cases Ak with | none => exact absurd rfl hk0 | some a => exact ⟨a, rfl⟩
      obtain ⟨g, rfl⟩ := Kd.R_head HR4.out
      have hw : wrap64 ((i : Int) + 1) = ((i + 1 : Nat) : Int) := by unfold wrap64; omega
      clear hk0
      go_wp2_with fail
      refine (T.DelK g w1.heap.size ck i ks w4 HR4.out hi hl HW4.out).mono ?_
      rintro e w5 ⟨rfl, hr5, hg5⟩
      have hgg : w4.grownBy w5 (Value.slice (some ⟨g, 0, none⟩) ks.length ck).ownBlock := hg5
      have G5 := HG4.out.grown HR4.out rfl (by decide) hgg
      have G5' := HG4'.out.grown HR4.out rfl (by decide) hgg
      have HM5 := Aside.mk (R_grownT HM4.out HR4.out rfl rfl (by decide) hgg)
      have HB5 := Aside.mk (HB4.out.grown hgg HB4.out.size (fun j e => Nat.le_trans HB.out.size ((Kd.R_bound HR4.out).1 j e).2.1))
      have HR5 := Aside.mk hr5
      clear hr5 hg5 hgg x0 x1 x2 x3 xf y0 y1 y2 y3 yf
      obtain ⟨x0, x1, x2, x3, xf⟩ := G5.cells
      obtain ⟨y0, y1, y2, y3, yf⟩ := G5'.cells
      obtain ⟨G6, hf6⟩ := G5.put1 (.slice (some ⟨g, 0, none⟩) (ks.length - 1) ck)
      obtain ⟨G7, hf7⟩ := (G5'.fc hf6 (by simp)).put next (.slice (some ⟨g, 0, none⟩) (ks.length - 1) ck) (.slice Am ms.length cm) att
      have HFE := Aside.mk ((hf6.sub (S' := [X, X + 1]) (by simp)).trans (hf7.sub (S' := [X, X + 1]) (by simp)))
      have HG7 := Aside.mk G7
      clear G5 G5' G6 G7 hf6 hf7
      go_wp2
      refine bodyPost_ret (v := .tuple #[.agg #[.int .i64 next, .slice (some ⟨g, 0, none⟩) (ks.length - 1) ck, .slice Am ms.length cm, .string att], .int .i64 0]) (results_c1 _ _ 8 25 9 ⟨X + 1, 0, none⟩ _ _ _ (by kernel_rfl) (by rfl) (by rfl) (GBox.load HG7.out)) (by rfl) ?_
      have e1 : w.heap.size ≤ w1.heap.size := HB.out.size
      have hX1 : ∀ k ∈ [X, X + 1], k < w1.heap.size := by have := HXX.out; simp; omega
      have r1 := R_fcG HR5.out HFE.out hX1
      have r2 := R_fcG HM5.out HFE.out hX1
      have b1 := below_fc HB5.out HFE.out (by simp [HX.out])
      unfold delF delE
      rw [HAB.out]
      exact ⟨_, _, rfl, Kd.R_lower r1 e1, Kd.R_lower r2 e1, b1⟩
    · have HP := Aside.mk (HG4'.out.put next (.slice Ak ks.length ck) (.slice Am ms.length cm) att)
      clear hS
      go_wp2
      refine bodyPost_ret (v := .tuple #[.agg #[.int .i64 next, .slice Ak ks.length ck, .slice Am ms.length cm, .string att], .int .i64 e0]) (results_c1 _ _ 8 25 9 ⟨X + 1, 0, none⟩ _ _ _ (by kernel_rfl) (by rfl) (by rfl) (GBox.load HP.out.1)) (by rfl) ?_
      have e1 : w.heap.size ≤ w1.heap.size := HB.out.size
      have hX1 : ∀ k ∈ [X + 1], k < w1.heap.size := by have := HXX.out; simp; omega
      have r1 := R_fcG HR4.out HP.out.2 hX1
      have r2 := R_fcG HM4.out HP.out.2 hX1
      have b1 := below_fc (S := [X + 1]) HB4.out HP.out.2 (by simp [HX.out])
      unfold delF delE
      rw [HAB.out]
      simp only [if_neg h8, if_neg hz]
      exact ⟨_, _, rfl, Kd.R_lower r1 e1, Kd.R_lower r2 e1, b1⟩
end Go.Proofs.YtekjkdpiiaocjaaDoor

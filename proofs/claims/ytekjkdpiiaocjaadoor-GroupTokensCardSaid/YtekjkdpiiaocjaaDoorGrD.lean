/- those: the items that a closure says so of. Conditions: where the row and the closure's boxes lie. -/
import Derived.Test.YtekjkdpiiaocjaaDoorGrB
namespace Go.Proofs.YtekjkdpiiaocjaaDoor
open Go.RowKit Go.Maps Go.Proofs.YtekjkdpiiaocjaaDoorW.PrintWords Go.Proofs.YtekjkdpiiaocjaaDoorW.PrintLast Go.Proofs.YtekjkdpiiaocjaaDoorW.PrintMore
/-- A box of one number. -/
def IBox (w : World) (b : Nat) (x : Int) : Prop := w.heap[b]? = some (.cells #[.int .i64 x] 3 (0, 0))
theorem IBox.of {w w' : World} {b : Nat} {x : Int} (h : IBox w b x) (hb : Below w.heap.size w w') : IBox w' b x := (hb.block b (Array.getElem?_eq_some_iff.1 h).1).trans h
theorem IBox.cell {w : World} {b : Nat} {x : Int} (h : IBox w b x) : w.cell? ⟨b, 0, none⟩ = some (.int .i64 x) := by rw [cell_of_row _ _ _ _ _ _ h]; rfl
theorem IBox.new {w w1 : World} {o : Obj} {b : Nat} {x : Int} (h : IBox w b x) (hw : w1 = w.alloc o) : IBox w1 b x := by subst hw; exact h.of ((Below.refl _ _).alloc (Nat.le_refl _) _)
/-- A row at the head of a block: messages, marks. -/
structure Row {α : Type} (d : Kd α) (w : World) (A : Option Addr) (l : List α) : Prop where
  C : d.C w A l.length l
  head : ∀ ad, A = some ad → ∃ g, ad = ⟨g, 0, none⟩
theorem Row.below {α : Type} {d : Kd α} {w w' : World} {A : Option Addr} {l : List α} (h : Row d w A l) (hb : Below w.heap.size w w') : Row d w' A l := ⟨Kd.C_below h.C hb, h.head⟩
theorem Row.nil {α : Type} (d : Kd α) (w : World) : Row d w none [] := ⟨⟨rfl, by simp, fun h => by simp at h⟩, fun _ h => by cases h⟩
theorem Row.of_R {α : Type} {d : Kd α} {e base : Nat} {ok : Nat → Prop} {w : World} {v : Value} {l : List α} (h : d.R e w base ok v l) : ∃ A c, v = .slice A l.length c ∧ Row d w A l := by
  obtain ⟨A, c, rfl, _, hC⟩ := Kd.R_reads h
  exact ⟨A, c, rfl, hC, fun ad e => by subst e; exact Kd.R_head h⟩
theorem Row.at {n : Nat} {α : Type} {f : α → List Value} {hn : ∀ x, (f x).length = n} {h1 : ∀ x, ∀ u ∈ f x, u.oneCell' = true} {w : World} {A : Option Addr} {l : List α} (h : Row (plainK n f hn h1) w A l) (k : Nat) (x : α) (hk : l[k]? = some x) : ∃ g, A = some ⟨g, 0, none⟩ ∧ w.rangeAt g (k * n) (f x) := by
  have hlt := (List.getElem?_eq_some_iff.1 hk).1
  obtain ⟨ad, e, hc⟩ := h.C.2.2 (by omega)
  obtain ⟨g, rfl⟩ := h.head ad e
  obtain ⟨c, _, h2, h3⟩ := hc k x hk
  have h2 : c = f x := h2
  subst h2
  refine ⟨g, e, fun j v hj => ?_⟩
  have := h3 j v hj
  rwa [add_plain] at this
theorem cellsK {w : World} {m : Kept} {g o : Nat} (h : w.rangeAt g o m.cells) : w.cell? ⟨g, o, none⟩ = some (.int .i64 m.seq) ∧ w.cell? ⟨g, o + 1, none⟩ = some (.int .i64 m.sent) ∧ w.cell? ⟨g, o + 2, none⟩ = some (.int .i64 m.count) ∧ w.cell? ⟨g, o + 3, none⟩ = some (.int .i64 m.till) ∧ w.cell? ⟨g, o + 4, none⟩ = some (.int .i64 m.home) ∧ w.cell? ⟨g, o + 5, none⟩ = some (.string m.body) :=
  ⟨h 0 _ rfl, h 1 _ rfl, h 2 _ rfl, h 3 _ rfl, h 4 _ rfl, h 5 _ rfl⟩
theorem cellsM {w : World} {m : Mark} {g o : Nat} (h : w.rangeAt g o m.cells) : w.cell? ⟨g, o, none⟩ = some (.string m.token) ∧ w.cell? ⟨g, o + 1, none⟩ = some (.int .i64 m.seq) ∧ w.cell? ⟨g, o + 2, none⟩ = some (.int .i64 m.at') :=
  ⟨h 0 _ rfl, h 1 _ rfl, h 2 _ rfl⟩
set_option maxHeartbeats 4000000 in
set_option maxRecDepth 100000 in
theorem T.expire1 (m : Kept) (b1 b2 : Nat) (now keep : Int) (w : World) (h1 : IBox w b1 now) (h2 : IBox w b2 keep) :
    Calls Tryd.prog 37 (#[.agg m.cells.toArray] ++ #[.pointer (some ⟨b1, 0, none⟩), .pointer (some ⟨b2, 0, none⟩)]) w fun e w' => e = .returned (.bool (decide (wrap64 (now - m.sent) < keep))) ∧ Below w.heap.size w w' := by
  obtain ⟨seq, sent, count, till, home, body⟩ := m
  simp only [Kept.cells]
  have hb : Below w.heap.size w (w.alloc (.cells #[.int .i64 seq, .int .i64 sent, .int .i64 count, .int .i64 till, .int .i64 home, .string body] 61)) := (Below.refl _ _).alloc (Nat.le_refl _) _
  have y1 := (h1.of hb).cell
  have y2 := (h2.of hb).cell
  have HB := Aside.mk hb
  clear hb h1 h2
  go_enter Tryd.func37, Tryd.ntmps37
  go_wp2
  go_ret
  exact ⟨rfl, HB.out⟩
set_option maxHeartbeats 4000000 in
set_option maxRecDepth 100000 in
theorem T.expire2 (m : Mark) (b1 : Nat) (now : Int) (w : World) (h1 : IBox w b1 now) :
    Calls Tryd.prog 39 (#[.agg m.cells.toArray] ++ #[.pointer (some ⟨b1, 0, none⟩)]) w fun e w' => e = .returned (.bool (decide (wrap64 (now - m.at') < 300))) ∧ Below w.heap.size w w' := by
  obtain ⟨token, seq, at'⟩ := m
  simp only [Mark.cells]
  have hb : Below w.heap.size w (w.alloc (.cells #[.string token, .int .i64 seq, .int .i64 at'] 67)) := (Below.refl _ _).alloc (Nat.le_refl _) _
  have y1 := (h1.of hb).cell
  have HB := Aside.mk hb
  clear hb h1
  go_enter Tryd.func39, Tryd.ntmps39
  go_wp2
  go_ret
  exact ⟨rfl, HB.out⟩
set_option maxHeartbeats 4000000 in
set_option maxRecDepth 100000 in
theorem T.flying1 (m : Kept) (b1 : Nat) (now : Int) (w : World) (h1 : IBox w b1 now) :
    Calls Tryd.prog 45 (#[.agg m.cells.toArray] ++ #[.pointer (some ⟨b1, 0, none⟩)]) w fun e w' => e = .returned (.bool (decide (now < m.till))) ∧ Below w.heap.size w w' := by
  obtain ⟨seq, sent, count, till, home, body⟩ := m
  simp only [Kept.cells]
  have hb : Below w.heap.size w (w.alloc (.cells #[.int .i64 seq, .int .i64 sent, .int .i64 count, .int .i64 till, .int .i64 home, .string body] 61)) := (Below.refl _ _).alloc (Nat.le_refl _) _
  have y1 := (h1.of hb).cell
  have HB := Aside.mk hb
  clear hb h1
  go_enter Tryd.func45, Tryd.ntmps45
  go_wp2
  go_ret
  exact ⟨rfl, HB.out⟩
set_option maxHeartbeats 4000000 in
set_option maxRecDepth 100000 in
theorem T.about1 (m : Kept) (b1 : Nat) (seq0 : Int) (w : World) (h1 : IBox w b1 seq0) :
    Calls Tryd.prog 57 (#[.agg m.cells.toArray] ++ #[.pointer (some ⟨b1, 0, none⟩)]) w fun e w' => e = .returned (.bool (decide (m.seq = seq0))) ∧ Below w.heap.size w w' := by
  obtain ⟨seq, sent, count, till, home, body⟩ := m
  simp only [Kept.cells]
  have hb : Below w.heap.size w (w.alloc (.cells #[.int .i64 seq, .int .i64 sent, .int .i64 count, .int .i64 till, .int .i64 home, .string body] 61)) := (Below.refl _ _).alloc (Nat.le_refl _) _
  have y1 := (h1.of hb).cell
  have HB := Aside.mk hb
  clear hb h1
  go_enter Tryd.func57, Tryd.ntmps57
  go_wp2
  go_ret
  exact ⟨rfl, HB.out⟩
theorem wpList_append1K {W : World} {ops : Array Oper} {rest : List Oper} {o : Oper} {a : Act} {Q : Exit → Act → World → Prop} (hgd : o.guard = none) (s x : Operand)
    (ho : o.op = .call { callee := .builtin .append, args := #[s, x], argTypes := #[22, 22] }) (base : Nat) (v : Value) (l : List Kept) (m : Kept) (hs : a.eval s = v) (hx : a.eval x = .slice (some ⟨W.heap.size, 0, none⟩) 1 1)
    (HO : keptK.R 61 W base (fun _ => True) v l) (hbase : base ≤ W.heap.size) (hl : l.length + 1 ≤ 1000000)
    (h : ∀ v1 w1, keptK.R 61 w1 base (fun _ => True) v1 (l ++ [m]) → W.grownBy w1 v.ownBlock → wpList Tryd.prog ops Q rest (a.put o.dst v1) w1) : wpList Tryd.prog ops Q (o :: rest) a (W.alloc (.cells m.cells.toArray 61)) :=
  Kd.R_append keptK (w0 := W) base hgd s x 22 61 (.agg #[.int .i64 0, .int .i64 0, .int .i64 0, .int .i64 0, .int .i64 0, .string ⟨#[]⟩]) 56 ho Tryd.underlying22 infoK rfl (by decide) (by decide) v l m m.cells (fun _ => True) (fun _ => False) hs hx rfl (fun _ h => h.elim) (fun _ _ => trivial) HO (Below.refl _ _) hbase (by omega) (fun v1 w1 h1 _ h3 _ => h v1 w1 h1 h3)
theorem wpList_append1M {W : World} {ops : Array Oper} {rest : List Oper} {o : Oper} {a : Act} {Q : Exit → Act → World → Prop} (hgd : o.guard = none) (s x : Operand)
    (ho : o.op = .call { callee := .builtin .append, args := #[s, x], argTypes := #[23, 23] }) (base : Nat) (v : Value) (l : List Mark) (m : Mark) (hs : a.eval s = v) (hx : a.eval x = .slice (some ⟨W.heap.size, 0, none⟩) 1 1)
    (HO : markK.R 67 W base (fun _ => True) v l) (hbase : base ≤ W.heap.size) (hl : l.length + 1 ≤ 1000000)
    (h : ∀ v1 w1, markK.R 67 w1 base (fun _ => True) v1 (l ++ [m]) → W.grownBy w1 v.ownBlock → wpList Tryd.prog ops Q rest (a.put o.dst v1) w1) : wpList Tryd.prog ops Q (o :: rest) a (W.alloc (.cells m.cells.toArray 67)) :=
  Kd.R_append markK (w0 := W) base hgd s x 23 67 (.agg #[.string ⟨#[]⟩, .int .i64 0, .int .i64 0]) 32 ho Tryd.underlying23 infoM rfl (by decide) (by decide) v l m m.cells (fun _ => True) (fun _ => False) hs hx rfl (fun _ h => h.elim) (fun _ _ => trivial) HO (Below.refl _ _) hbase (by omega) (fun v1 w1 h1 _ h3 _ => h v1 w1 h1 h3)
set_option maxHeartbeats 4000000 in
set_option maxRecDepth 100000 in
theorem T.ThoseK (fn : Nat) (caps : Array Value) (p : Kept → Bool) (eg : ∀ args w, (callFunc fn args).run Tryd.prog w = .ok (.enter fn args) w)
    (A : Option Addr) (c : Nat) (l : List Kept) (w : World) (hl : l.length ≤ 100000) (hS : Row keptK w A l)
    (hY : ∀ m W, Below w.heap.size w W → Calls Tryd.prog fn (#[.agg m.cells.toArray] ++ caps) W fun e W' => e = .returned (.bool (p m)) ∧ Below W.heap.size W W') :
    Calls Tryd.prog 36 #[.slice A l.length c, .func (.func fn) #[] caps] w fun e w' => ∃ v, e = .returned v ∧ keptK.R 61 w' w.heap.size (fun _ => True) v (l.filter p) ∧ Below w.heap.size w w' := by
  obtain ⟨n, hn⟩ : ∃ n, n = l.length := ⟨_, rfl⟩
  rw [← hn] at hl ⊢
  have HN := Aside.mk hn
  have HS := Aside.mk hS
  have HY := Aside.mk hY
  clear hn hS hY
  go_enter Tryd.func36, Tryd.ntmps36
  go_wp2
  go_loopg [5, 7, 10] n (fun kq v5 _ v10 wr => ∃ k : Nat, k + kq = n ∧ v10 = .int .i64 (k : Int) ∧ Aside (keptK.R 61 wr w.heap.size (fun _ => True) v5 ((l.take k).filter p) ∧ Below w.heap.size w wr))
  case atStart => exact ⟨0, by omega, rfl, ⟨Kd.R_nil _ _ _ _ _, Below.refl _ _⟩⟩
  case round =>
    obtain ⟨k, hk, rfl, hR⟩ := hrel
    have HK := Aside.mk hk
    by_cases hlt : k < n
    · obtain ⟨x, hx⟩ : ∃ x, l[k]? = some x := ⟨_, List.getElem?_eq_getElem (by rw [← HN.out]; exact hlt)⟩
      have hlt' := Aside.mk hlt
      have HX := Aside.mk hx
      clear hx hk
      obtain ⟨g, rfl, hrg⟩ := (HS.out.below hR.out.2).at k x HX.out
      obtain ⟨x0, x1, x2, x3, x4, x5⟩ := cellsK hrg
      have HRG := Aside.mk hrg
      clear hrg
      obtain ⟨seq, sent, count, till, home, body⟩ := x
      dsimp only at x0 x1 x2 x3 x4 x5
      have HY1 := Aside.mk (HY.out ⟨seq, sent, count, till, home, body⟩ (wr.alloc (.cells #[.int .i64 seq, .int .i64 sent, .int .i64 count, .int .i64 till, .int .i64 home, .string body] 61)) (hR.out.2.alloc hR.out.2.size _))
      go_wp2_with fail
      refine HY1.out.mono ?_
      clear x0 x1 x2 x3 x4 x5
      rintro e W3 ⟨rfl, hb3⟩
      have hrow := (hb3.block wr.heap.size (by simp)).trans (heap_alloc_new wr (.cells #[.int .i64 seq, .int .i64 sent, .int .i64 count, .int .i64 till, .int .i64 home, .string body] 61))
      have hcx := fun i => cell_of_row W3 wr.heap.size i _ _ _ hrow
      have hB3 := hR.out.2.alloc hR.out.2.size (.cells #[.int .i64 seq, .int .i64 sent, .int .i64 count, .int .i64 till, .int .i64 home, .string body] 61)
      have HB3 := Aside.mk (hB3.trans (hb3.mono hB3.size))
      have HR3 := Aside.mk (Kd.R_below hR.out.1 ((Below.refl _ _).alloc (Nat.le_refl _) (.cells #[.int .i64 seq, .int .i64 sent, .int .i64 count, .int .i64 till, .int .i64 home, .string body] 61) |>.trans (hb3.mono (by simp))))
      clear hb3 hB3 hrow
      have z0 : W3.cell? ⟨wr.heap.size, 0, none⟩ = some (.int .i64 seq) := hcx 0
      have z1 : W3.cell? ⟨wr.heap.size, 1, none⟩ = some (.int .i64 sent) := hcx 1
      have z2 : W3.cell? ⟨wr.heap.size, 2, none⟩ = some (.int .i64 count) := hcx 2
      have z3 : W3.cell? ⟨wr.heap.size, 3, none⟩ = some (.int .i64 till) := hcx 3
      have z4 : W3.cell? ⟨wr.heap.size, 4, none⟩ = some (.int .i64 home) := hcx 4
      have z5 : W3.cell? ⟨wr.heap.size, 5, none⟩ = some (.string body) := hcx 5
      clear hcx
      have HT := Aside.mk (List.take_add_one (l := l) (i := k))
      cases hpx : p ⟨seq, sent, count, till, home, body⟩
      · have HP := Aside.mk hpx
        clear hpx
        go_wp2
        go_roundg (gk - 1)
        case measure => have := HK.out; have := hlt'.out; omega
        case rel => exact ⟨k + 1, by have := HK.out; have := hlt'.out; omega, by go_num, ⟨by rw [HT.out, HX.out, List.filter_append]; simpa [HP.out] using HR3.out, HB3.out⟩⟩
      · have HP := Aside.mk hpx
        clear hpx
        go_wp2_with (with_reducible refine halt_at (.call { callee := .builtin .append, args := #[.tmp 17, .tmp 19], argTypes := #[22, 22] }) rfl ?_)
        refine ⟨?_⟩
        refine wpList_append1K rfl (.tmp 17) (.tmp 19) rfl w.heap.size _ _ ⟨seq, sent, count, till, home, body⟩ rfl rfl HR3.out HB3.out.size (by have := List.length_filter_le p (l.take k); have := List.length_take_le k l; have := HK.out; omega) (fun v1 w1 h1 hg1 => ?_)
        have H1 := Aside.mk h1
        have HB1 := Aside.mk (HB3.out.grown hg1 HB3.out.size (fun j e => (Kd.R_bound HR3.out).1 j e |>.2.1))
        clear h1 hg1
        go_wp2
        go_roundg (gk - 1)
        case measure => have := HK.out; have := hlt'.out; omega
        case rel => exact ⟨k + 1, by have := HK.out; have := hlt'.out; omega, by go_num, ⟨by rw [HT.out, HX.out, List.filter_append]; simpa [HP.out] using H1.out, HB1.out⟩⟩
    · have hke : k = n := by omega
      clear hlt hk
      subst hke
      go_wp2
      go_ret
      exact ⟨_, rfl, by have := hR.out.1; rwa [HN.out, List.take_length] at this, hR.out.2⟩
set_option maxHeartbeats 4000000 in
set_option maxRecDepth 100000 in
theorem T.ThoseM (fn : Nat) (caps : Array Value) (p : Mark → Bool) (eg : ∀ args w, (callFunc fn args).run Tryd.prog w = .ok (.enter fn args) w)
    (A : Option Addr) (c : Nat) (l : List Mark) (w : World) (hl : l.length ≤ 100000) (hS : Row markK w A l)
    (hY : ∀ m W, Below w.heap.size w W → Calls Tryd.prog fn (#[.agg m.cells.toArray] ++ caps) W fun e W' => e = .returned (.bool (p m)) ∧ Below W.heap.size W W') :
    Calls Tryd.prog 38 #[.slice A l.length c, .func (.func fn) #[] caps] w fun e w' => ∃ v, e = .returned v ∧ markK.R 67 w' w.heap.size (fun _ => True) v (l.filter p) ∧ Below w.heap.size w w' := by
  obtain ⟨n, hn⟩ : ∃ n, n = l.length := ⟨_, rfl⟩
  rw [← hn] at hl ⊢
  have HN := Aside.mk hn
  have HS := Aside.mk hS
  have HY := Aside.mk hY
  clear hn hS hY
  go_enter Tryd.func38, Tryd.ntmps38
  go_wp2
  go_loopg [5, 7, 10] n (fun kq v5 _ v10 wr => ∃ k : Nat, k + kq = n ∧ v10 = .int .i64 (k : Int) ∧ Aside (markK.R 67 wr w.heap.size (fun _ => True) v5 ((l.take k).filter p) ∧ Below w.heap.size w wr))
  case atStart => exact ⟨0, by omega, rfl, ⟨Kd.R_nil _ _ _ _ _, Below.refl _ _⟩⟩
  case round =>
    obtain ⟨k, hk, rfl, hR⟩ := hrel
    have HK := Aside.mk hk
    by_cases hlt : k < n
    · obtain ⟨x, hx⟩ : ∃ x, l[k]? = some x := ⟨_, List.getElem?_eq_getElem (by rw [← HN.out]; exact hlt)⟩
      have hlt' := Aside.mk hlt
      have HX := Aside.mk hx
      clear hx hk
      obtain ⟨g, rfl, hrg⟩ := (HS.out.below hR.out.2).at k x HX.out
      obtain ⟨x0, x1, x2⟩ := cellsM hrg
      have HRG := Aside.mk hrg
      clear hrg
      obtain ⟨token, seq, at'⟩ := x
      dsimp only at x0 x1 x2
      have HY1 := Aside.mk (HY.out ⟨token, seq, at'⟩ (wr.alloc (.cells #[.string token, .int .i64 seq, .int .i64 at'] 67)) (hR.out.2.alloc hR.out.2.size _))
      go_wp2_with fail
      refine HY1.out.mono ?_
      clear x0 x1 x2
      rintro e W3 ⟨rfl, hb3⟩
      have hrow := (hb3.block wr.heap.size (by simp)).trans (heap_alloc_new wr (.cells #[.string token, .int .i64 seq, .int .i64 at'] 67))
      have hcx := fun i => cell_of_row W3 wr.heap.size i _ _ _ hrow
      have hB3 := hR.out.2.alloc hR.out.2.size (.cells #[.string token, .int .i64 seq, .int .i64 at'] 67)
      have HB3 := Aside.mk (hB3.trans (hb3.mono hB3.size))
      have HR3 := Aside.mk (Kd.R_below hR.out.1 ((Below.refl _ _).alloc (Nat.le_refl _) (.cells #[.string token, .int .i64 seq, .int .i64 at'] 67) |>.trans (hb3.mono (by simp))))
      clear hb3 hB3 hrow
      have z0 : W3.cell? ⟨wr.heap.size, 0, none⟩ = some (.string token) := hcx 0
      have z1 : W3.cell? ⟨wr.heap.size, 1, none⟩ = some (.int .i64 seq) := hcx 1
      have z2 : W3.cell? ⟨wr.heap.size, 2, none⟩ = some (.int .i64 at') := hcx 2
      clear hcx
      have HT := Aside.mk (List.take_add_one (l := l) (i := k))
      cases hpx : p ⟨token, seq, at'⟩
      · have HP := Aside.mk hpx
        clear hpx
        go_wp2
        go_roundg (gk - 1)
        case measure => have := HK.out; have := hlt'.out; omega
        case rel => exact ⟨k + 1, by have := HK.out; have := hlt'.out; omega, by go_num, ⟨by rw [HT.out, HX.out, List.filter_append]; simpa [HP.out] using HR3.out, HB3.out⟩⟩
      · have HP := Aside.mk hpx
        clear hpx
        go_wp2_with (with_reducible refine halt_at (.call { callee := .builtin .append, args := #[.tmp 17, .tmp 19], argTypes := #[23, 23] }) rfl ?_)
        refine ⟨?_⟩
        refine wpList_append1M rfl (.tmp 17) (.tmp 19) rfl w.heap.size _ _ ⟨token, seq, at'⟩ rfl rfl HR3.out HB3.out.size (by have := List.length_filter_le p (l.take k); have := List.length_take_le k l; have := HK.out; omega) (fun v1 w1 h1 hg1 => ?_)
        have H1 := Aside.mk h1
        have HB1 := Aside.mk (HB3.out.grown hg1 HB3.out.size (fun j e => (Kd.R_bound HR3.out).1 j e |>.2.1))
        clear h1 hg1
        go_wp2
        go_roundg (gk - 1)
        case measure => have := HK.out; have := hlt'.out; omega
        case rel => exact ⟨k + 1, by have := HK.out; have := hlt'.out; omega, by go_num, ⟨by rw [HT.out, HX.out, List.filter_append]; simpa [HP.out] using H1.out, HB1.out⟩⟩
    · have hke : k = n := by omega
      clear hlt hk
      subst hke
      go_wp2
      go_ret
      exact ⟨_, rfl, by have := hR.out.1; rwa [HN.out, List.take_length] at this, hR.out.2⟩
end Go.Proofs.YtekjkdpiiaocjaaDoor

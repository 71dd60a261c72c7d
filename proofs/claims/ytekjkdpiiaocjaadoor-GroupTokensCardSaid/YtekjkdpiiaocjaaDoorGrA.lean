/- Messages and marks in memory; slices.Clone. Conditions: where they lie. -/
import Derived.Test.YtekjkdpiiaocjaaDoorGrBase
namespace Go.Proofs.YtekjkdpiiaocjaaDoor
open Go.RowKit Go.Maps Go.Proofs.YtekjkdpiiaocjaaDoorW.PrintWords Go.Proofs.YtekjkdpiiaocjaaDoorW.PrintLast Go.Proofs.YtekjkdpiiaocjaaDoorW.PrintMore
structure Kept where
  seq : Int
  sent : Int
  count : Int
  till : Int
  home : Int
  body : ByteArray
structure Mark where
  token : ByteArray
  seq : Int
  at' : Int
def Kept.cells (m : Kept) : List Value := [.int .i64 m.seq, .int .i64 m.sent, .int .i64 m.count, .int .i64 m.till, .int .i64 m.home, .string m.body]
def Mark.cells (m : Mark) : List Value := [.string m.token, .int .i64 m.seq, .int .i64 m.at']
/-- A kind whose cells are told outright. -/
def plainK {α : Type} (n : Nat) (f : α → List Value) (hn : ∀ x, (f x).length = n) (h1 : ∀ x, ∀ u ∈ f x, u.oneCell' = true) : Kd α where
  sz := n
  E := []
  K := fun _ x cs => cs = f x
  M := fun _ _ _ x cs => cs = f x
  K_len := fun h => by rw [h]; exact hn _
  K_one := fun h => by rw [h]; exact h1 _
  K_below := fun _ h => h
  K_of_M := fun h => h
  M_mono := fun _ h => h
  M_bound := fun h => h
  M_move := fun _ h => h
  M_lower := fun _ h => h
def keptK : Kd Kept := plainK 6 Kept.cells (fun _ => rfl) (fun x u hu => by simp [Kept.cells] at hu; rcases hu with rfl | rfl | rfl | rfl | rfl | rfl <;> rfl)
def markK : Kd Mark := plainK 3 Mark.cells (fun _ => rfl) (fun x u hu => by simp [Mark.cells] at hu; rcases hu with rfl | rfl | rfl <;> rfl)
theorem infoK : (Tryd.prog.info? 61).map (fun i => (i.zero, i.size, i.bytes)) = some (some (.agg #[.int .i64 0, .int .i64 0, .int .i64 0, .int .i64 0, .int .i64 0, .string ⟨#[]⟩]), 6, 56) := by kernel_rfl
theorem infoM : (Tryd.prog.info? 67).map (fun i => (i.zero, i.size, i.bytes)) = some (some (.agg #[.string ⟨#[]⟩, .int .i64 0, .int .i64 0]), 3, 32) := by kernel_rfl
theorem wpList_appendK {w : World} {ops : Array Oper} {rest : List Oper} {o : Oper} {a : Act} {Q : Exit → Act → World → Prop} (hgd : o.guard = none) (s x : Operand)
    (ho : o.op = .call { callee := .builtin .append, args := #[s, x], argTypes := #[22, 22] }) (base : Nat) (v : Value) (l xs : List Kept) (A : Option Addr) (m c : Nat) (hs : a.eval s = v) (hx : a.eval x = .slice A m c)
    (HO : keptK.R 61 w base (fun _ => True) v l) (HR : keptK.C w A m xs) (hbase : base ≤ w.heap.size) (hl : l.length + m ≤ 1000000)
    (h : ∀ v1 w1, keptK.R 61 w1 base (fun _ => True) v1 (l ++ xs) → w.grownBy w1 v.ownBlock → wpList Tryd.prog ops Q rest (a.put o.dst v1) w1) : wpList Tryd.prog ops Q (o :: rest) a w := by
  have hm := HR.1
  subst hm
  exact Kd.R_append_rows keptK (Rr := keptK.K w) (w0 := w) base hgd s x 22 61 (.agg #[.int .i64 0, .int .i64 0, .int .i64 0, .int .i64 0, .int .i64 0, .string ⟨#[]⟩]) 56 ho Tryd.underlying22 infoK rfl (by decide) (by decide) v l xs A xs.length c (fun _ => True) (fun _ => False) hs hx HO HR (fun _ _ h => h) (fun _ h => h.elim) (fun _ _ => trivial) (Below.refl _ _) hbase (by omega) (fun v1 w1 h1 _ h3 _ => h v1 w1 h1 h3)
theorem emptyK (w : World) : keptK.R 61 (w.alloc (.cells #[] 61)) w.heap.size (fun _ => True) (.slice (some ⟨w.heap.size, 0, none⟩) 0 0) [] :=
  ⟨fun _ _ => trivial, [], World.ownsRow_made (e := 61) (size := 6) w #[] 0 (Nat.le_refl _) (by decide) rfl, Reps.none _ _⟩
theorem wpList_appendM {w : World} {ops : Array Oper} {rest : List Oper} {o : Oper} {a : Act} {Q : Exit → Act → World → Prop} (hgd : o.guard = none) (s x : Operand)
    (ho : o.op = .call { callee := .builtin .append, args := #[s, x], argTypes := #[23, 23] }) (base : Nat) (v : Value) (l xs : List Mark) (A : Option Addr) (m c : Nat) (hs : a.eval s = v) (hx : a.eval x = .slice A m c)
    (HO : markK.R 67 w base (fun _ => True) v l) (HR : markK.C w A m xs) (hbase : base ≤ w.heap.size) (hl : l.length + m ≤ 1000000)
    (h : ∀ v1 w1, markK.R 67 w1 base (fun _ => True) v1 (l ++ xs) → w.grownBy w1 v.ownBlock → wpList Tryd.prog ops Q rest (a.put o.dst v1) w1) : wpList Tryd.prog ops Q (o :: rest) a w := by
  have hm := HR.1
  subst hm
  exact Kd.R_append_rows markK (Rr := markK.K w) (w0 := w) base hgd s x 23 67 (.agg #[.string ⟨#[]⟩, .int .i64 0, .int .i64 0]) 32 ho Tryd.underlying23 infoM rfl (by decide) (by decide) v l xs A xs.length c (fun _ => True) (fun _ => False) hs hx HO HR (fun _ _ h => h) (fun _ h => h.elim) (fun _ _ => trivial) (Below.refl _ _) hbase (by omega) (fun v1 w1 h1 _ h3 _ => h v1 w1 h1 h3)
theorem emptyM (w : World) : markK.R 67 (w.alloc (.cells #[] 67)) w.heap.size (fun _ => True) (.slice (some ⟨w.heap.size, 0, none⟩) 0 0) [] :=
  ⟨fun _ _ => trivial, [], World.ownsRow_made (e := 67) (size := 3) w #[] 0 (Nat.le_refl _) (by decide) rfl, Reps.none _ _⟩
set_option maxHeartbeats 2000000 in
set_option maxRecDepth 100000 in
/-- slices.Clone: the same in memory of the call's own. -/
theorem T.CloneK (A : Option Addr) (n c : Nat) (l : List Kept) (w : World) (hC : keptK.C w A n l) (hl : l.length ≤ 100000) :
    Calls Tryd.prog 52 #[.slice A n c] w fun e w' => ∃ v, e = .returned v ∧ keptK.R 61 w' w.heap.size (fun _ => True) v l ∧ Below w.heap.size w w' := by
  have hn := hC.1
  have HC := Aside.mk hC
  cases A with
  | none =>
    have hq : ∀ W, (binOp .eql 22 (.slice none n c) (.slice none 0 0)).run Tryd.prog W = .ok (.bool true) W := fun W => Lib.run_eql_slice_nil W 22 61 none n c 0 0 Tryd.underlying22
    have h0 : l = [] := by
      cases l with
      | nil => rfl
      | cons x t => obtain ⟨a, h, _⟩ := HC.out.2.2 (by simp at hn; omega); cases h
    subst h0
    clear hn hC
    go_enter Tryd.func52, Tryd.ntmps52
    go_wp2
    go_ret
    exact ⟨_, rfl, Kd.R_nil _ _ _ _ _, Below.refl _ _⟩
  | some a =>
    have hq : ∀ W, (binOp .eql 22 (.slice (some a) n c) (.slice none 0 0)).run Tryd.prog W = .ok (.bool false) W := fun W => Lib.run_eql_slice_nil W 22 61 (some a) n c 0 0 Tryd.underlying22
    have hb : Below w.heap.size w (w.alloc (.cells #[] 61)) := (Below.refl _ _).alloc (Nat.le_refl _) _
    have HB := Aside.mk hb
    clear hC hb
    go_enter Tryd.func52, Tryd.ntmps52
    go_wp2_with (with_reducible refine halt_at (.call { callee := .builtin .append, args := #[.tmp 5, .tmp 6], argTypes := #[22, 22] }) rfl ?_)
    refine ⟨?_⟩
    refine wpList_appendK rfl (.tmp 5) (.tmp 6) rfl w.heap.size (.slice (some ⟨w.heap.size, 0, none⟩) 0 0) [] l (some a) n c rfl rfl (emptyK w) (Kd.C_below HC.out HB.out) HB.out.size (by simp; omega) (fun v1 w1 h1 hg1 => ?_)
    rw [List.nil_append] at h1
    have H1 := Aside.mk h1
    have HB1 := Aside.mk (HB.out.grown hg1 HB.out.size (fun k e => by simp [Value.ownBlock] at e; omega))
    clear h1 hg1
    go_wp2
    go_ret
    exact ⟨_, rfl, H1.out, HB1.out⟩
set_option maxHeartbeats 2000000 in
set_option maxRecDepth 100000 in
/-- slices.Clone: the same in memory of the call's own. -/
theorem T.CloneM (A : Option Addr) (n c : Nat) (l : List Mark) (w : World) (hC : markK.C w A n l) (hl : l.length ≤ 100000) :
    Calls Tryd.prog 53 #[.slice A n c] w fun e w' => ∃ v, e = .returned v ∧ markK.R 67 w' w.heap.size (fun _ => True) v l ∧ Below w.heap.size w w' := by
  have hn := hC.1
  have HC := Aside.mk hC
  cases A with
  | none =>
    have hq : ∀ W, (binOp .eql 23 (.slice none n c) (.slice none 0 0)).run Tryd.prog W = .ok (.bool true) W := fun W => Lib.run_eql_slice_nil W 23 67 none n c 0 0 Tryd.underlying23
    have h0 : l = [] := by
      cases l with
      | nil => rfl
      | cons x t => obtain ⟨a, h, _⟩ := HC.out.2.2 (by simp at hn; omega); cases h
    subst h0
    clear hn hC
    go_enter Tryd.func53, Tryd.ntmps53
    go_wp2
    go_ret
    exact ⟨_, rfl, Kd.R_nil _ _ _ _ _, Below.refl _ _⟩
  | some a =>
    have hq : ∀ W, (binOp .eql 23 (.slice (some a) n c) (.slice none 0 0)).run Tryd.prog W = .ok (.bool false) W := fun W => Lib.run_eql_slice_nil W 23 67 (some a) n c 0 0 Tryd.underlying23
    have hb : Below w.heap.size w (w.alloc (.cells #[] 67)) := (Below.refl _ _).alloc (Nat.le_refl _) _
    have HB := Aside.mk hb
    clear hC hb
    go_enter Tryd.func53, Tryd.ntmps53
    go_wp2_with (with_reducible refine halt_at (.call { callee := .builtin .append, args := #[.tmp 5, .tmp 6], argTypes := #[23, 23] }) rfl ?_)
    refine ⟨?_⟩
    refine wpList_appendM rfl (.tmp 5) (.tmp 6) rfl w.heap.size (.slice (some ⟨w.heap.size, 0, none⟩) 0 0) [] l (some a) n c rfl rfl (emptyM w) (Kd.C_below HC.out HB.out) HB.out.size (by simp; omega) (fun v1 w1 h1 hg1 => ?_)
    rw [List.nil_append] at h1
    have H1 := Aside.mk h1
    have HB1 := Aside.mk (HB.out.grown hg1 HB.out.size (fun k e => by simp [Value.ownBlock] at e; omega))
    clear h1 hg1
    go_wp2
    go_ret
    exact ⟨_, rfl, H1.out, HB1.out⟩
end Go.Proofs.YtekjkdpiiaocjaaDoor

/- An asker and a control in memory: words; slices.Clone; the small readings. Conditions: where the blocks lie. -/
import Derived.Test.YtmepeolejlpehaaProg
import Derived.Test.YtmepeolejlpehaaWMore
import Derived.WalkKit
import Derived.Below
import Derived.Deep.QuietTactic
import Derived.BigQuiet
import Derived.StillTailTactics
import Derived.Deep.MidRow
import Derived.Deep.WholeRow
import Derived.Deep.LoopGhost
import Derived.Deep.RegionLaw
import Derived.Deep.RegionWith
import Derived.Maps.OwnOps
import Derived.Maps.Views
import Derived.Lib.SliceRun
namespace Go.Proofs.Ytmepeolejlpehaa
open Go.RowKit Go.Maps Go.Proofs.YtmepeolejlpehaaW.PrintWords Go.Proofs.YtmepeolejlpehaaW.PrintLast Go.Proofs.YtmepeolejlpehaaW.PrintMore
/-- Kept away from the walk. -/
structure Aside (p : Prop) : Prop where
  out : p
/-- Nothing turns but these blocks. -/
structure FC (S : List Nat) (w w' : World) : Prop where
  os : w'.os = w.os
  tape : w'.tape = w.tape
  output : w'.output = w.output
  size : w.heap.size ≤ w'.heap.size
  block : ∀ k, k < w.heap.size → k ∉ S → w'.heap[k]? = w.heap[k]?
theorem FC.refl (S : List Nat) (w : World) : FC S w w := ⟨rfl, rfl, rfl, Nat.le_refl _, fun _ _ _ => rfl⟩
theorem FC.trans {S : List Nat} {a b c : World} (h : FC S a b) (k : FC S b c) : FC S a c := ⟨k.os.trans h.os, k.tape.trans h.tape, k.output.trans h.output, Nat.le_trans h.size k.size, fun i hi hn => (k.block i (Nat.lt_of_lt_of_le hi h.size) hn).trans (h.block i hi hn)⟩
theorem FC.sub {S S' : List Nat} {a b : World} (h : FC S a b) (hs : ∀ k ∈ S, k ∈ S') : FC S' a b := ⟨h.os, h.tape, h.output, h.size, fun k hk hn => h.block k hk (fun e => hn (hs k e))⟩
theorem FC.of {S : List Nat} {a b : World} (h : Below a.heap.size a b) : FC S a b := ⟨h.os, h.tape, h.output, h.size, fun k hk _ => h.block k hk⟩
theorem FC.below {S : List Nat} {w a b : World} {B : Nat} (h : Below B w a) (k : FC S a b) (hs : ∀ x ∈ S, B ≤ x) (hB : B ≤ w.heap.size) : Below B w b :=
  ⟨k.os.trans h.os, k.tape.trans h.tape, k.output.trans h.output, Nat.le_trans h.size k.size, fun i hi => (k.block i (Nat.lt_of_lt_of_le hi (Nat.le_trans hB h.size)) (fun e => by have := hs i e; omega)).trans (h.block i hi)⟩
theorem still_lit {P : Program} {id : Nat} {Q : Exit → Act → World → Prop} {a : Act} {w : World} {l : List Oper} (hm : P.follows .mixedOrders = true) (hB : Region.lexB .any l.toArray = true)
    (h : wpStill P l.toArray w.drew (fun a' => Q .normal a' w.drew) l a) : (Code.region id l.toArray true).wp P Q a w := wp_region_still_lit hm hB h
theorem still_tail {P : Program} {id : Nat} {Q : Exit → Act → World → Prop} {a : Act} {w : World} {l : List Oper} (n : Nat) (hm : P.follows .mixedOrders = true) (hB : Region.lexTailB .any l.toArray n = true)
    (h : wpStill P l.toArray w.drew (fun a' => wpList P l.toArray Q (l.drop n) a' w.drew) (l.take n) a) : (Code.region id l.toArray true).wp P Q a w := wp_region_still_tail n hm hB h
/-- What a command has. -/
structure CmdV where
  kind : Int
  client : Int
  num : Int
  lo : Int
  hi : Int
  tgo : Int
  data : Value
def CmdV.list (c : CmdV) : List Value := [.int .i64 c.kind, .int .i64 c.client, .int .i64 c.num, .int .i64 0, .int .i64 0, .string ⟨#[]⟩, .string ⟨#[]⟩, .string ⟨#[]⟩, .string ⟨#[]⟩, .int .i64 0, .int .i64 0, .int .i64 0, .string ⟨#[]⟩, .int .i64 0, .int .i64 0, .int .i64 c.lo, .int .i64 c.hi, .int .i64 c.tgo, c.data]
/-- What an asker has. -/
structure AS where
  id : Int
  nodes : Int
  retry : Int
  num : Int
  group : Int
  cmd : CmdV
  busy : Bool
  sent : Bool
  waited : Int
def AS.cells (s : AS) (M : Nat) : Array Value := #[.int .i64 s.id, .int .i64 s.nodes, .int .i64 s.retry, .int .i64 s.num, .int .i64 s.group, .int .i64 s.cmd.kind, .int .i64 s.cmd.client, .int .i64 s.cmd.num, .int .i64 0, .int .i64 0, .string ⟨#[]⟩, .string ⟨#[]⟩, .string ⟨#[]⟩, .string ⟨#[]⟩, .int .i64 0, .int .i64 0, .int .i64 0, .string ⟨#[]⟩, .int .i64 0, .int .i64 0, .int .i64 s.cmd.lo, .int .i64 s.cmd.hi, .int .i64 s.cmd.tgo, s.cmd.data, .bool s.busy, .bool s.sent, .int .i64 s.waited, .map (some M)]
/-- What a control has. -/
structure CS where
  stage : Int
  lo : Int
  hi : Int
  from' : Int
  tgo : Int
  data : Value
  e : Int
  ended : Bool
def CS.cells (c : CS) (p : Option Addr) : Array Value := #[.pointer p, .int .i64 c.stage, .int .i64 c.lo, .int .i64 c.hi, .int .i64 c.from', .int .i64 c.tgo, c.data, .int .i64 c.e, .bool c.ended]
theorem infoS : (Try.prog.info? 9).map (fun i => (i.zero, i.size, i.bytes)) = some (some (.string ⟨#[]⟩), 1, 16) := by kernel_rfl
theorem wpList_appendS {w : World} {ops : Array Oper} {rest : List Oper} {o : Oper} {a : Act} {Q : Exit → Act → World → Prop} (hgd : o.guard = none) (s x : Operand)
    (ho : o.op = .call { callee := .builtin .append, args := #[s, x], argTypes := #[24, 24] }) (base : Nat) (v : Value) (l xs : List ByteArray) (A : Option Addr) (m c : Nat) (hs : a.eval s = v) (hx : a.eval x = .slice A m c)
    (HO : Kd.R Kd.string 9 w base (fun _ => True) v l) (HR : Kd.C Kd.string w A m xs) (hbase : base ≤ w.heap.size) (hl : l.length + m ≤ 1000000)
    (h : ∀ v1 w1, Kd.R Kd.string 9 w1 base (fun _ => True) v1 (l ++ xs) → w.grownBy w1 v.ownBlock → wpList Try.prog ops Q rest (a.put o.dst v1) w1) : wpList Try.prog ops Q (o :: rest) a w := by
  have hm := HR.1
  subst hm
  exact Kd.R_append_rows Kd.string (Rr := Kd.string.K w) (w0 := w) base hgd s x 24 9 (.string ⟨#[]⟩) 16 ho Try.underlying24 infoS rfl (by decide) (by decide) v l xs A xs.length c (fun _ => True) (fun _ => False) hs hx HO HR (fun _ _ h => h) (fun _ h => h.elim) (fun _ _ => trivial) (Below.refl _ _) hbase (by omega) (fun v1 w1 h1 _ h3 _ => h v1 w1 h1 h3)
theorem emptyS (w : World) : Kd.R Kd.string 9 (w.alloc (.cells #[] 9)) w.heap.size (fun _ => True) (.slice (some ⟨w.heap.size, 0, none⟩) 0 0) [] :=
  Kd.R_of_own (World.ownsRow_made (e := 9) (size := 1) w #[] 0 (Nat.le_refl _) (by decide) rfl) (fun _ _ => trivial)
set_option maxHeartbeats 2000000 in
set_option maxRecDepth 100000 in
/-- slices.Clone of texts: the same in memory of the call's own. -/
theorem T.Clone (A : Option Addr) (n c : Nat) (l : List ByteArray) (w : World) (hC : Kd.C Kd.string w A n l) (hl : l.length ≤ 1000) :
    Calls Try.prog 25 #[.slice A n c] w fun e w' => ∃ v, e = .returned v ∧ Kd.R Kd.string 9 w' w.heap.size (fun _ => True) v l ∧ Below w.heap.size w w' := by
  have hn := hC.1
  have HC := Aside.mk hC
  cases A with
  | none =>
    have hq : ∀ W, (binOp .eql 24 (.slice none n c) (.slice none 0 0)).run Try.prog W = .ok (.bool true) W := fun W => Lib.run_eql_slice_nil W 24 9 none n c 0 0 Try.underlying24
    have h0 : l = [] := by
      cases l with
      | nil => rfl
      | cons x t => obtain ⟨a, h, _⟩ := HC.out.2.2 (by simp at hn; omega); cases h
    subst h0
    clear hn hC
    go_enter Try.func25, Try.ntmps25
    go_wp2
    go_ret
    exact ⟨_, rfl, Kd.R_nil _ _ _ _ _, Below.refl _ _⟩
  | some a =>
    have hq : ∀ W, (binOp .eql 24 (.slice (some a) n c) (.slice none 0 0)).run Try.prog W = .ok (.bool false) W := fun W => Lib.run_eql_slice_nil W 24 9 (some a) n c 0 0 Try.underlying24
    have hb : Below w.heap.size w (w.alloc (.cells #[] 9)) := (Below.refl _ _).alloc (Nat.le_refl _) _
    have HB := Aside.mk hb
    clear hC hb
    go_enter Try.func25, Try.ntmps25
    go_wp2_with ((with_reducible refine wpList_appendS rfl (.tmp 5) (.tmp 6) rfl w.heap.size (.slice (some ⟨w.heap.size, 0, none⟩) 0 0) [] l (some a) n c rfl rfl ?ho ?hr ?hb ?hl ?_); (case ho => exact emptyS w); (case hr => exact Kd.C_below HC.out HB.out); (case hb => exact HB.out.size); (case hl => simp; omega); intro v1 w1 h1 hg1; rw [List.nil_append] at h1; have H1 := Aside.mk h1; have HB1 := Aside.mk (HB.out.grown hg1 HB.out.size (fun k e => by simp [Value.ownBlock] at e; omega)); clear h1 hg1)
    go_ret
    exact ⟨_, rfl, H1.out, HB1.out⟩
set_option maxHeartbeats 2000000 in
set_option maxRecDepth 100000 in
theorem T.CloneG (w : World) : Calls Try.prog 26 #[.slice none 0 0] w fun e w' => e = .returned (.slice none 0 0) ∧ w' = w := by
  have hq : ∀ W, (binOp .eql 49 (.slice none 0 0) (.slice none 0 0)).run Try.prog W = .ok (.bool true) W := fun W => by
    exact Lib.run_eql_slice_nil W 49 _ none 0 0 0 0 Try.underlying49
  go_enter Try.func26, Try.ntmps26
  go_wp2
  go_ret
  exact ⟨rfl, rfl⟩
set_option maxHeartbeats 2000000 in
set_option maxRecDepth 100000 in
theorem T.CloneR (w : World) : Calls Try.prog 27 #[.slice none 0 0] w fun e w' => e = .returned (.slice none 0 0) ∧ w' = w := by
  have hq : ∀ W, (binOp .eql 50 (.slice none 0 0) (.slice none 0 0)).run Try.prog W = .ok (.bool true) W := fun W => by
    exact Lib.run_eql_slice_nil W 50 _ none 0 0 0 0 Try.underlying50
  go_enter Try.func27, Try.ntmps27
  go_wp2
  go_ret
  exact ⟨rfl, rfl⟩
/-- The asker lies at P. -/
def AP (w : World) (P M : Nat) (s : AS) : Prop := w.heap[P]? = some (.cells (s.cells M) 77 (0, 0))
theorem AP.cell {w : World} {P M : Nat} {s : AS} (h : AP w P M s) (j : Nat) : w.cell? ⟨P, j, none⟩ = (s.cells M)[j]? := cell_of_row _ _ _ _ _ _ h
set_option maxHeartbeats 2000000 in
set_option maxRecDepth 100000 in
theorem T.noneA (P M : Nat) (s : AS) (w : World) (h : AP w P M s) (hid : 1 ≤ s.id) : Calls Try.prog 28 #[.pointer (some ⟨P, 0, none⟩)] w fun e w' => e = .returned (.bool false) ∧ w' = w := by
  have h0 : w.cell? ⟨P, 0, none⟩ = some (.int .i64 s.id) := h.cell 0
  have hne : (s.id == 0) = false := by simp; omega
  clear h
  go_enter Try.func28, Try.ntmps28
  go_wp2
  go_ret
  exact ⟨rfl, rfl⟩
set_option maxHeartbeats 2000000 in
set_option maxRecDepth 100000 in
theorem T.Busy (P M : Nat) (s : AS) (w : World) (h : AP w P M s) (hid : 1 ≤ s.id) : Calls Try.prog 23 #[.pointer (some ⟨P, 0, none⟩)] w fun e w' => e = .returned (.bool s.busy) ∧ w' = w := by
  have h0 : w.cell? ⟨P, 24, none⟩ = some (.bool s.busy) := h.cell 24
  have hN := Aside.mk (T.noneA P M s w h hid)
  clear h hid
  go_enter Try.func23, Try.ntmps23
  go_wp2_with (go_at_call 28; refine hN.out.mono ?_; rintro e w' ⟨rfl, hw⟩; subst w')
  go_ret
  exact ⟨rfl, rfl⟩
set_option maxHeartbeats 2000000 in
set_option maxRecDepth 100000 in
theorem T.isG (n : Int) (w : World) : Calls Try.prog 29 #[.int .i64 n] w fun e w' => e = .returned (.bool (decide (0 ≤ n ∧ n ≤ 6))) ∧ w' = w := by
  by_cases h0 : 0 ≤ n
  · by_cases h1 : n ≤ 6
    · have hd : decide (0 ≤ n ∧ n ≤ 6) = true := by simp; omega
      rw [hd]; clear hd
      go_enter Try.func29, Try.ntmps29
      go_wp2
      go_ret
      exact ⟨rfl, rfl⟩
    · have hd : decide (0 ≤ n ∧ n ≤ 6) = false := by simp; omega
      rw [hd]; clear hd
      have h1' : 6 < n := by omega
      have h6 : decide (n ≤ 6) = false := by simp; omega
      clear h1
      go_enter Try.func29, Try.ntmps29
      go_wp2
      go_ret
      exact ⟨rfl, rfl⟩
  · have hd : decide (0 ≤ n ∧ n ≤ 6) = false := by simp; omega
    rw [hd]; clear hd
    have h0' : n < 0 := by omega
    clear h0
    go_enter Try.func29, Try.ntmps29
    go_wp2
    go_ret
    exact ⟨rfl, rfl⟩
end Go.Proofs.Ytmepeolejlpehaa

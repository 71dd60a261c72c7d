/- Rows of the law's own beside a control. Conditions: where they lie. -/
import Derived.Test.YtmepeolejlpehaaCtW
namespace Go.Proofs.Ytmepeolejlpehaa
open Go.RowKit Go.Maps Go.Proofs.YtmepeolejlpehaaW.PrintWords Go.Proofs.YtmepeolejlpehaaW.PrintLast Go.Proofs.YtmepeolejlpehaaW.PrintMore
theorem R_fcG {α : Type} {d : Kd α} {e : Nat} {S : List Nat} {w w' : World} {base : Nat} {v : Value} {l : List α} (h : d.R e w base (fun _ => True) v l) (f : FC S w w') (hS : ∀ k ∈ S, k < base) : d.R e w' base (fun _ => True) v l :=
  Kd.R_mono (Kd.R_step (Kd.R_bound h) (fun k hk hlt => f.block k hlt (fun e => by have := hS k e; have := hk.2.1; omega))) (fun _ _ => trivial)
/-- A row stands where a block of another type turns. -/
theorem R_fcT {α : Type} {d : Kd α} {e g t : Nat} {cells : Array Value} {w w' : World} {base : Nat} {v : Value} {l : List α} (h : d.R e w base (fun _ => True) v l) (f : FC [g] w w') (hg : w.heap[g]? = some (.cells cells t (0, 0))) (ht : ∀ q ∈ e :: d.E, q ≠ t) : d.R e w' base (fun _ => True) v l :=
  Kd.R_mono (Kd.R_step (Kd.R_bound h) (fun k hk hlt => f.block k hlt (fun e1 => by
    obtain ⟨_, _, _, q, hq, c2, hc⟩ := hk
    have : k = g := by simpa using e1
    subst this
    rw [hg] at hc
    have := Option.some.inj hc
    injection this with h1 h2
    exact ht q hq h2.symm))) (fun _ _ => trivial)
theorem FC.grown {w w' : World} {g : Nat} (h : w.grownBy w' (some g)) : FC [g] w w' := ⟨h.os, h.tape, h.output, h.size, fun k hk hn => h.block k hk (fun e => hn (by simp [Option.some.inj e]))⟩
theorem FC.grown0 {w w' : World} (h : w.grownBy w' none) : FC [] w w' := ⟨h.os, h.tape, h.output, h.size, fun k hk _ => h.block k hk (fun e => by cases e)⟩
theorem CJ.of_fc0 {w w' : World} {P M Q base n : Nat} {s : AS} {c : CS} {sl cl : List ByteArray} (h : CJ w P M Q base n s c sl cl) (f : FC [] w w') : CJ w' P M Q base n s c sl cl :=
  h.of_pm (f.sub (by simp)) (h.ask.of_fc f (by simp) (by simp)) rfl
theorem CJ.of_typed {w w' : World} {P M Q base n g t : Nat} {cells : Array Value} {s : AS} {c : CS} {sl cl : List ByteArray} (h : CJ w P M Q base n s c sl cl) (f : FC [g] w w') (hg : w.heap[g]? = some (.cells cells t (0, 0))) (ht : t ≠ 9) (hb : base ≤ g) : CJ w' P M Q base n s c sl cl := by
  have h1 := h.hP
  have h2 := h.hM
  have h3 := h.hQ
  have ht' : ∀ q ∈ 9 :: Kd.string.E, q ≠ t := fun q hq => by
    have : q = 9 := by simpa [Kd.string, Kd.scalar] using hq
    omega
  exact ⟨h.ask.of_fc f (by simp; omega) (by simp; omega), (f.block Q (Array.getElem?_eq_some_iff.1 h.ctl).1 (by simp; omega)).trans h.ctl, R_fcT h.srow f hg ht', R_fcT h.crow f hg ht', h1, h2, h3, Nat.le_trans h.hbase f.size, h.hlen, h.hfrom, h.hto⟩
theorem infoI : (Try.prog.info? 3).map (fun i => (i.zero, i.size, i.bytes)) = some (some (.int .i64 0), 1, 8) := by kernel_rfl
theorem wpList_appendI {w : World} {ops : Array Oper} {rest : List Oper} {o : Oper} {a : Act} {Q : Exit → Act → World → Prop} (hgd : o.guard = none) (s x : Operand)
    (ho : o.op = .call { callee := .builtin .append, args := #[s, x], argTypes := #[65, 65] }) (base : Nat) (v : Value) (l xs : List Int) (A : Option Addr) (m c : Nat) (hs : a.eval s = v) (hx : a.eval x = .slice A m c)
    (HO : (Kd.int .i64).R 3 w base (fun _ => True) v l) (HR : (Kd.int .i64).C w A m xs) (hbase : base ≤ w.heap.size) (hl : l.length + m ≤ 1000000)
    (h : ∀ v1 w1, (Kd.int .i64).R 3 w1 base (fun _ => True) v1 (l ++ xs) → w.grownBy w1 v.ownBlock → wpList Try.prog ops Q rest (a.put o.dst v1) w1) : wpList Try.prog ops Q (o :: rest) a w := by
  have hm := HR.1
  subst hm
  exact Kd.R_append_rows (Kd.int .i64) (Rr := (Kd.int .i64).K w) (w0 := w) base hgd s x 65 3 (.int .i64 0) 8 ho Try.underlying65 infoI rfl (by decide) (by decide) v l xs A xs.length c (fun _ => True) (fun _ => False) hs hx HO HR (fun _ _ h => h) (fun _ h => h.elim) (fun _ _ => trivial) (Below.refl _ _) hbase (by omega) (fun v1 w1 h1 _ h3 _ => h v1 w1 h1 h3)
theorem emptyI (w : World) : (Kd.int .i64).R 3 (w.alloc (.cells #[] 3)) w.heap.size (fun _ => True) (.slice (some ⟨w.heap.size, 0, none⟩) 0 0) [] :=
  Kd.R_of_own (World.ownsRow_made (e := 3) (size := 1) w #[] 0 (Nat.le_refl _) (by decide) rfl) (fun _ _ => trivial)
/-- A slice of one number, just made. -/
theorem C_oneI (w : World) (b : Int) : (Kd.int .i64).C (w.alloc (.cells #[.int .i64 b] 3)) (some ⟨w.heap.size, 0, none⟩) 1 [b] :=
  ⟨rfl, by decide, fun _ => ⟨_, rfl, fun j q hj => by
    match j with
    | 0 =>
      have : b = q := by simpa using hj
      subst this
      refine ⟨[.int .i64 b], rfl, rfl, fun i u hu => ?_⟩
      match i with
      | 0 =>
        have : Value.int .i64 b = u := by simpa using hu
        subst this
        show World.cell? _ ⟨w.heap.size, 0, none⟩ = _
        rw [cell_of_row _ _ _ _ _ _ (heap_alloc_new w _)]; rfl
      | i + 1 => simp at hu
    | j + 1 => simp at hj⟩⟩
/-- The block of a row of the law's own, with its type. -/
theorem R_typed {α : Type} {d : Kd α} {e : Nat} {w : World} {base : Nat} {v : Value} {l : List α} (h : d.R e w base (fun _ => True) v l) (hE : d.E = []) (g : Nat) (hg : v.ownBlock = some g) : base ≤ g ∧ ∃ cells, w.heap[g]? = some (.cells cells e (0, 0)) := by
  have := (Kd.R_bound h).1 g hg
  obtain ⟨_, h1, _, q, hq, hc⟩ := this
  rw [hE] at hq
  have : q = e := by simpa using hq
  subst this
  exact ⟨h1, hc⟩
end Go.Proofs.Ytmepeolejlpehaa

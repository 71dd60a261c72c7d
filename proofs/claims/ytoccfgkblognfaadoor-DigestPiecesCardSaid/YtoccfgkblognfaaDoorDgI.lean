/- Two equal digests are equal to Go; a row of bytes that is appended to. Plain steps for the walks of the statements. -/
import Derived.Test.YtoccfgkblognfaaDoorDgH
import Derived.Deep.RegionHeld3
namespace Go.Proofs.YtoccfgkblognfaaDoor
open Go.RowKit Go.Proofs.YtoccfgkblognfaaDoorW.PrintWords Go.Proofs.YtoccfgkblognfaaDoorW.PrintLast Go.Proofs.YtoccfgkblognfaaDoorW.PrintMore
theorem guard24 : Tryd.prog.eqGuardType Tryd.prog.depth 24 = false := by kernel_rfl
theorem part_u8 (l : List Int) (i : Nat) (hi : i < l.length) (W : World) : (part 5 (T.bs l) i).run Tryd.prog W = .ok (.int .u8 (l.getD i 0)) W := by
  have h1 : (isAgg 5).run Tryd.prog W = .ok false W := by unfold isAgg; rw [Sem.run_bind, run_underlying Tryd.underlying5]; rfl
  have h2 : (T.bs l)[i]? = some (.int .u8 (l.getD i 0)) := by simp [T.bs, List.getElem?_eq_getElem hi, List.getD_eq_getElem?_getD]
  unfold part
  simp only [Sem.run_bind, h1, Result.andThen_ok, Bool.false_eq_true, if_false, h2, Sem.run_pure]
theorem equalIn24 (d : Nat) (l : List Int) (h : l.length = 32) (W : World) : (Op.equalIn (d + 2) 24 (.agg (T.bs l)) (.agg (T.bs l))).run Tryd.prog W = .ok true W := by
  have hs : (sizeOf 5).run Tryd.prog W = .ok 1 W := Tryd.sizeOf5 W
  unfold Op.equalIn
  simp only [Sem.run_bind, run_underlying Tryd.underlying24, Result.andThen_ok, hs, Nat.mul_one]
  simp only [Std.Legacy.Range.forIn_eq_forIn_range']
  have key : ∀ L : List Nat, (∀ i ∈ L, i < l.length) → (forIn (m := Sem) L ((none, ()) : Option Bool × Unit) fun i _ => do
        let a ← part 5 (T.bs l) i
        let b ← part 5 (T.bs l) i
        let r ← Op.equalIn (d + 1) 5 a b
        if (!r) = true then pure (ForInStep.done (some false, ())) else pure (ForInStep.yield (none, ()))).run Tryd.prog W = .ok (none, ()) W := by
    intro L
    induction L with
    | nil => intro _; simp
    | cons i L ih =>
      intro hL
      have hi := hL i (by simp)
      have he : (Op.equalIn (d + 1) 5 (.int .u8 (l.getD i 0)) (.int .u8 (l.getD i 0))).run Tryd.prog W = .ok true W := by
        rw [run_equalIn_int W d 5 .u8 .u8 _ _ Tryd.underlying5]; simp
      simp only [List.forIn_cons, Sem.run_bind, part_u8 l i hi W, Result.andThen_ok, he, Bool.not_true, Bool.false_eq_true, if_false, Sem.run_pure]
      exact ih (fun j hj => hL j (by simp [hj]))
  rw [key _ (fun i hi => by rw [h]; simpa using hi)]
  rfl
theorem eq24 (l : List Int) (h : l.length = 32) : ∀ W : World, (binOp .eql 24 (.agg (T.bs l)) (.agg (T.bs l))).run Tryd.prog W = .ok (.bool true) W := by
  intro W
  have := equalIn24 9998 l h W
  unfold binOp Op.equal Op.maxDepth
  simp only [Sem.run_bind, this, Result.andThen_ok, Sem.run_pure]
theorem neq24 (l : List Int) (h : l.length = 32) : ∀ W : World, (binOp .neq 24 (.agg (T.bs l)) (.agg (T.bs l))).run Tryd.prog W = .ok (.bool false) W := by
  intro W
  have := equalIn24 9998 l h W
  unfold binOp Op.equal Op.maxDepth
  simp only [Sem.run_bind, this, Result.andThen_ok, Sem.run_pure]
  rfl
/-- 'append(v, xs...)' onto a row of bytes of the call's own. -/
theorem wpList_append_bytes {w : World} {ops : Array Oper} {rest : List Oper} {o : Oper} {a : Act} {Q : Exit → Act → World → Prop} (hgd : o.guard = none) (s x : Operand)
    (ho : o.op = .call { callee := .builtin .append, args := #[s, x], argTypes := #[22, 22] }) (base : Nat) (v : Value) (l xs : List Int) (A : Option Addr) (m c : Nat) (hs : a.eval s = v) (hx : a.eval x = .slice A m c) (hm : xs.length = m)
    (HO : Bytes w base v l) (HR : Src w A xs) (hbase : base ≤ w.heap.size) (hl : l.length + m ≤ 140737488355328)
    (h : ∀ v1 w1, Bytes w1 base v1 (l ++ xs) → w.grownBy w1 v.ownBlock → wpList Tryd.prog ops Q rest (a.put o.dst v1) w1) : wpList Tryd.prog ops Q (o :: rest) a w := by
  subst hm
  refine Kd.R_append_rows (Kd.int .u8) (Rr := (Kd.int .u8).K w) (w0 := w) base hgd s x 22 5 (.int .u8 0) 1 ho Tryd.underlying22 PA.info5 rfl (by decide) (by decide) v l xs A xs.length c (fun _ => True) (fun _ => False) hs hx (Kd.R_of_own HO (fun _ _ => trivial)) ⟨rfl, by omega, fun h0 => ?_⟩ (fun _ _ h => h) (fun _ h => h.elim) (fun _ _ => trivial) (Below.refl _ _) hbase (by omega) (fun v1 w1 h1 _ h3 _ => h v1 w1 (Kd.own_of_R h1) h3)
  obtain ⟨b, o, hA, _⟩ := HR 0 _ (List.getElem?_eq_getElem h0)
  subst hA
  refine ⟨_, rfl, fun j p hp => ⟨[.int .u8 p], rfl, rfl, fun i u hu => ?_⟩⟩
  obtain ⟨b', o', hA, hc⟩ := HR j p hp
  simp only [Option.some.injEq, Addr.mk.injEq] at hA
  obtain ⟨rfl, rfl, _⟩ := hA
  match i, hu with
  | 0, hu =>
    simp at hu; subst hu
    rw [Addr.add_mid, ← hc]
    show w.cell? ⟨b, o + (j * 1 + 0), none⟩ = _
    rw [Nat.mul_one]; rfl
end Go.Proofs.YtoccfgkblognfaaDoor

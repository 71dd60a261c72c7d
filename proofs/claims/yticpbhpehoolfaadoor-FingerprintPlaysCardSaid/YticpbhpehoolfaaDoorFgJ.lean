/- Plain steps for the walks of the statements: what lies where, rows of bytes, equal fingerprints. Conditions: as in each theorem. -/
import Derived.Test.YticpbhpehoolfaaDoorDgM
import Derived.Deep.RegionWith
import Derived.Deep.RegionHeld3
import Derived.Laws.BytesArg
namespace Go.Proofs.YticpbhpehoolfaaDoor
open Go.RowKit Go.Proofs.YticpbhpehoolfaaDoor.PA Go.Proofs.YticpbhpehoolfaaDoorW.PrintWords Go.Proofs.YticpbhpehoolfaaDoorW.PrintLast Go.Proofs.YticpbhpehoolfaaDoorW.PrintMore
def Kp (w0 w : World) : Prop := Below w0.heap.size w0 w
theorem Kp.refl (w : World) : Kp w w.drew := (Below.refl _ _).drew
theorem Kp.step {w0 w w' : World} (h : Kp w0 w) (hb : Below w.heap.size w w') : Kp w0 w' := Below.trans h (hb.mono h.size)
theorem Src.below {w w' : World} {A : Option Addr} {bs : List Int} (h : Src w A bs) (hA : ∀ a, A = some a → a.block < w.heap.size) (hb : Below w.heap.size w w') : Src w' A bs := h.of_kept fun a ha => hb.block _ (hA a ha)
theorem Bytes.src {w : World} {base c n : Nat} {A : Option Addr} {l : List Int} (h : Bytes w base (.slice A n c) l) : n = l.length ∧ l.length ≤ c ∧ Src w A l ∧ (∀ a, A = some a → base ≤ a.block ∧ a.block < w.heap.size) := by
  obtain ⟨A', c', he, h1, h2, h3⟩ := h.slice
  obtain ⟨rfl, rfl, rfl⟩ : A = A' ∧ n = l.length ∧ c = c' := by simpa using he
  exact ⟨rfl, h1, h2, h3⟩
theorem Bytes.hash {w w' : World} {base H : Nat} {v : Value} {l : List Int} {cs : Array Value} {fr : Nat × Nat} (h : Bytes w base v l) (hH : w.heap[H]? = some (.cells cs 49 fr)) (hg : w.grownBy w' (some H)) : Bytes w' base v l := by
  refine World.ownsRow.kept h hg ?_
  rcases h.2 with ⟨rfl, _⟩ | ⟨g, cap, cur, rfl, _, hh, _⟩
  · exact .inl rfl
  · refine .inr fun e => ?_
    have : g = H := by simpa [Value.ownBlock] using e
    subst this
    rw [hh] at hH
    simp at hH
theorem Hashes.block {w : World} {H : Nat} {all : List Int} (h : Hashes w H all) : ∃ cs, w.heap[H]? = some (.cells cs 49 (0, 0)) := by
  obtain ⟨bl, _, h2, _⟩ := h
  exact ⟨_, h2⟩
theorem Hashes.lt {w : World} {H : Nat} {all : List Int} (h : Hashes w H all) : H < w.heap.size := block_lt_of_cell h.made
theorem Hashes.below {w w' : World} {H : Nat} {all : List Int} (h : Hashes w H all) (hb : Below w.heap.size w w') : Hashes w' H all := h.of_block (hb.block _ h.lt)
theorem Hashes.other {w w' : World} {H K : Nat} {all : List Int} (h : Hashes w H all) (hg : w.grownBy w' (some K)) (hn : H ≠ K) : Hashes w' H all := h.of_block (hg.block _ h.lt (by simpa using hn))
theorem WriteB {w : World} {base H cap : Nat} {A : Option Addr} {all bs : List Int} (hst : Hashes w H all) (hb : Bytes w base (.slice A bs.length cap) bs) (hl : all.length + bs.length ≤ 4611686018427387904) (hk : Tabs w) :
    Calls Tryd.prog 15 #[.pointer (some ⟨H, 0, none⟩), .slice A bs.length cap] w fun e w' => e = .returned (.int .i64 0) ∧ Hashes w' H (all ++ bs) ∧ w.grownBy w' (some H) := by
  obtain ⟨_, _, h2, _⟩ := hb.src
  refine T.Write H all bs A cap w hst h2 (fun a ha e => ?_) hl hk
  subst ha
  obtain ⟨cs, hcs⟩ := hst.block
  rcases hb.2 with ⟨he, _⟩ | ⟨g, cap', cur, he, _, hh, _⟩
  · cases he
  · simp only [Value.slice.injEq, Option.some.injEq] at he
    obtain ⟨rfl, _⟩ := he
    rw [← e, hh] at hcs
    simp at hcs
theorem guard24 : Tryd.prog.eqGuardType Tryd.prog.depth 24 = false := by kernel_rfl
theorem part_u8 (l : List Int) (i : Nat) (hi : i < l.length) (W : World) : (part 5 (T.bs l) i).run Tryd.prog W = .ok (.int .u8 (l.getD i 0)) W := by
  have h1 : (isAgg 5).run Tryd.prog W = .ok false W := by unfold isAgg; rw [Sem.run_bind, run_underlying Tryd.underlying5]; rfl
  have h2 : (T.bs l)[i]? = some (.int .u8 (l.getD i 0)) := by simp [T.bs, List.getElem?_eq_getElem hi, List.getD_eq_getElem?_getD]
  unfold part
  simp only [Sem.run_bind, h1, Result.andThen_ok, Bool.false_eq_true, if_false, h2, Sem.run_pure]
theorem equalIn24 (d : Nat) (l : List Int) (h : l.length = 16) (W : World) : (Op.equalIn (d + 2) 24 (.agg (T.bs l)) (.agg (T.bs l))).run Tryd.prog W = .ok true W := by
  have hs : (sizeOf 5).run Tryd.prog W = .ok 1 W := Tryd.sizeOf5 W
  unfold Op.equalIn
  simp only [Sem.run_bind, run_underlying Tryd.underlying24, Result.andThen_ok, hs, Nat.mul_one]
  simp only [Std.Legacy.Range.forIn_eq_forIn_range']
  have key : ∀ L : List Nat, (∀ i ∈ L, i < l.length) → (forIn (m := Sem) L ((none, ()) : Option Bool × Unit) fun i _ => do
        let a ← part 5 (T.bs l) i
        let b ← part 5 (T.bs l) i
        let r ← Op.equalIn (d + 1) 5 a b
        if (!r) = true then pure (ForInStep.done (some false, ())) else pure (ForInStep.yield (none, ()))).run Tryd.prog W = .ok (none, ()) W := by
    intro L
    induction L with
    | nil => intro _; simp
    | cons i L ih =>
      intro hL
      have hi := hL i (by simp)
      have he : (Op.equalIn (d + 1) 5 (.int .u8 (l.getD i 0)) (.int .u8 (l.getD i 0))).run Tryd.prog W = .ok true W := by
        rw [run_equalIn_int W d 5 .u8 .u8 _ _ Tryd.underlying5]; simp
      simp only [List.forIn_cons, Sem.run_bind, part_u8 l i hi W, Result.andThen_ok, he, Bool.not_true, Bool.false_eq_true, if_false, Sem.run_pure]
      exact ih (fun j hj => hL j (by simp [hj]))
  rw [key _ (fun i hi => by rw [h]; simpa using hi)]
  rfl
theorem eq24 (l : List Int) (h : l.length = 16) : ∀ W : World, (binOp .eql 24 (.agg (T.bs l)) (.agg (T.bs l))).run Tryd.prog W = .ok (.bool true) W := by
  intro W
  have := equalIn24 9998 l h W
  unfold binOp Op.equal Op.maxDepth
  simp only [Sem.run_bind, this, Result.andThen_ok, Sem.run_pure]
theorem neq24 (l : List Int) (h : l.length = 16) : ∀ W : World, (binOp .neq 24 (.agg (T.bs l)) (.agg (T.bs l))).run Tryd.prog W = .ok (.bool false) W := by
  intro W
  have := equalIn24 9998 l h W
  unfold binOp Op.equal Op.maxDepth
  simp only [Sem.run_bind, this, Result.andThen_ok, Sem.run_pure]
  rfl
theorem wpList_append_bytes {w : World} {ops : Array Oper} {rest : List Oper} {o : Oper} {a : Act} {Q : Exit → Act → World → Prop} (hgd : o.guard = none) (s x : Operand)
    (ho : o.op = .call { callee := .builtin .append, args := #[s, x], argTypes := #[22, 22] }) (base : Nat) (v : Value) (l xs : List Int) (A : Option Addr) (m c : Nat) (hs : a.eval s = v) (hx : a.eval x = .slice A m c) (hm : xs.length = m)
    (HO : Bytes w base v l) (HR : Src w A xs) (hbase : base ≤ w.heap.size) (hl : l.length + m ≤ 140737488355328)
    (h : ∀ v1 w1, Bytes w1 base v1 (l ++ xs) → w.grownBy w1 v.ownBlock → wpList Tryd.prog ops Q rest (a.put o.dst v1) w1) : wpList Tryd.prog ops Q (o :: rest) a w := by
  subst hm
  refine Kd.R_append_rows (Kd.int .u8) (Rr := (Kd.int .u8).K w) (w0 := w) base hgd s x 22 5 (.int .u8 0) 1 ho Tryd.underlying22 PA.info5 rfl (by decide) (by decide) v l xs A xs.length c (fun _ => True) (fun _ => False) hs hx (Kd.R_of_own HO (fun _ _ => trivial)) ⟨rfl, by omega, fun h0 => ?_⟩ (fun _ _ h => h) (fun _ h => h.elim) (fun _ _ => trivial) (Below.refl _ _) hbase (by omega) (fun v1 w1 h1 _ h3 _ => h v1 w1 (Kd.own_of_R h1) h3)
  obtain ⟨b, o, hA, _⟩ := HR 0 _ (List.getElem?_eq_getElem h0)
  subst hA
  refine ⟨_, rfl, fun j p hp => ⟨[.int .u8 p], rfl, rfl, fun i u hu => ?_⟩⟩
  obtain ⟨b', o', hA, hc⟩ := HR j p hp
  simp only [Option.some.injEq, Addr.mk.injEq] at hA
  obtain ⟨rfl, rfl, _⟩ := hA
  match i, hu with
  | 0, hu =>
    simp at hu; subst hu
    rw [Addr.add_mid, ← hc]
    show w.cell? ⟨b, o + (j * 1 + 0), none⟩ = _
    rw [Nat.mul_one]; rfl
theorem wpList_append_bytes_n {w : World} {ops : Array Oper} {rest : List Oper} {o : Oper} {a : Act} {Q : Exit → Act → World → Prop} (hgd : o.guard = none) (s x : Operand)
    (ho : o.op = .call { callee := .builtin .append, args := #[s, x], argTypes := #[22, 22] }) (base : Nat) (v : Value) (l xs : List Int) (A : Option Addr) (m c : Nat) (hs : a.eval s = v) (hx : a.eval x = .slice A m c) (hm : xs.length = m)
    (HO : Bytes w base v l) (HR : Src w A xs) (hbase : base ≤ w.heap.size) (hl : l.length + m ≤ 140737488355328)
    (h : ∀ v1 w1, Bytes w1 base v1 (l ++ xs) → w.grownBy w1 v.ownBlock → (v1.ownBlock = v.ownBlock ∨ ∃ b, v1.ownBlock = some b ∧ w.heap.size ≤ b) → wpList Tryd.prog ops Q rest (a.put o.dst v1) w1) : wpList Tryd.prog ops Q (o :: rest) a w := by
  subst hm
  refine Kd.R_append_rows (Kd.int .u8) (Rr := (Kd.int .u8).K w) (w0 := w) base hgd s x 22 5 (.int .u8 0) 1 ho Tryd.underlying22 PA.info5 rfl (by decide) (by decide) v l xs A xs.length c (fun _ => True) (fun _ => False) hs hx (Kd.R_of_own HO (fun _ _ => trivial)) ⟨rfl, by omega, fun h0 => ?_⟩ (fun _ _ h => h) (fun _ h => h.elim) (fun _ _ => trivial) (Below.refl _ _) hbase (by omega) (fun v1 w1 h1 _ h3 h4 => h v1 w1 (Kd.own_of_R h1) h3 h4)
  obtain ⟨b, o, hA, _⟩ := HR 0 _ (List.getElem?_eq_getElem h0)
  subst hA
  refine ⟨_, rfl, fun j p hp => ⟨[.int .u8 p], rfl, rfl, fun i u hu => ?_⟩⟩
  obtain ⟨b', o', hA, hc⟩ := HR j p hp
  simp only [Option.some.injEq, Addr.mk.injEq] at hA
  obtain ⟨rfl, rfl, _⟩ := hA
  match i, hu with
  | 0, hu =>
    simp at hu; subst hu
    rw [Addr.add_mid, ← hc]
    show w.cell? ⟨b, o + (j * 1 + 0), none⟩ = _
    rw [Nat.mul_one]; rfl
theorem conv_own {w : World} {base n : Nat} {v : Value} {ds : List Int} (h : w.ownsRow base 5 1 v n (ds.map (Value.int .u8))) (h0 : 0 < n) : ∃ g cap, v = .slice (some ⟨g, 0, none⟩) n cap ∧ (convert 22 9 (.slice (some ⟨g, 0, none⟩) n cap)).run Tryd.prog w = .ok (.string (strOfNums ds)) w := by
  have hl : ds.length = n := by have := h.1; simpa using this
  rcases h.2 with ⟨_, h2⟩ | ⟨g, cap, cur, hv, _⟩
  · omega
  · refine ⟨g, cap, hv, run_convert_bytes_arg w 22 5 Tryd.underlying22 Tryd.underlying5 g 0 n cap ds hl (fun i hi => ?_) 9 Tryd.underlying9⟩
    have := h.cells (g := g) (by rw [hv]; rfl) i (.int .u8 (ds.getD i 0)) (by rw [List.getElem?_map, List.getElem?_eq_getElem (by omega), List.getD_eq_getElem?_getD, List.getElem?_eq_getElem (by omega)]; rfl)
    rwa [Addr.add_mid] at this
theorem conv_row {W : World} {B t : Nat} {l : List Int} (h : W.heap[B]? = some (.cells (T.bs l) t (0, 0))) (hl : l.length = 16) : (convert 22 9 (.slice (some ⟨B, 0, none⟩) 16 16)).run Tryd.prog W = .ok (.string (strOfNums l)) W :=
  run_convert_bytes_arg W 22 5 Tryd.underlying22 Tryd.underlying5 B 0 16 16 l hl (fun i hi => by rw [Nat.zero_add]; exact T.bs_cell h i (by omega)) 9 Tryd.underlying9
theorem keepC {w0 W W' : World} {B : Nat} {d : List Int} (hd : d.length = 16) (h : (convert 22 9 (.slice (some ⟨B, 0, none⟩) 16 16)).run Tryd.prog W = .ok (.string (strOfNums d)) W ∧ W.heap[B]? = some (.cells (T.bs d) 24 (0, 0)) ∧ Kp w0 W) (hb : Below W.heap.size W W') :
    (convert 22 9 (.slice (some ⟨B, 0, none⟩) 16 16)).run Tryd.prog W' = .ok (.string (strOfNums d)) W' ∧ W'.heap[B]? = some (.cells (T.bs d) 24 (0, 0)) ∧ Kp w0 W' := by
  have h1 : W'.heap[B]? = some (.cells (T.bs d) 24 (0, 0)) := (hb.block _ (Array.getElem?_eq_some_iff.1 h.2.1).1).trans h.2.1
  exact ⟨conv_row h1 hd, h1, h.2.2.step hb⟩
theorem Tabs.from {w w' : World} {n : Nat} (h : Tabs w) (hb : Below n w w') (hn : 1 < n) : Tabs w' := h.of_block (hb.block 0 (by omega)) (hb.block 1 hn)
/-- Where a cut of a row of bytes lies. -/
def subA (A : Option Addr) (c lo : Nat) : Option Addr := if c = lo then A else A.map fun a => a.add lo
theorem Src.sub {w : World} {A : Option Addr} {bs : List Int} (h : Src w A bs) (c lo n : Nat) (hc : bs.length ≤ c) : Src w (subA A c lo) ((bs.drop lo).take n) := fun i x hx => by
  rw [List.getElem?_take] at hx
  split at hx
  · rw [List.getElem?_drop] at hx
    obtain ⟨b, o, rfl, hcl⟩ := h _ _ hx
    have hlt := (List.getElem?_eq_some_iff.1 hx).1
    refine ⟨b, o + lo, ?_, ?_⟩
    · unfold subA
      rw [if_neg (by omega)]
      simp [Addr.add_mid]
    · rw [Nat.add_assoc]; exact hcl
  · cases hx
theorem subA_block {A : Option Addr} {c lo : Nat} {a : Addr} (h : subA A c lo = some a) : ∃ a0, A = some a0 ∧ a0.block = a.block := by
  unfold subA at h
  split at h
  · exact ⟨a, h, rfl⟩
  · obtain ⟨a0, h1, rfl⟩ := Option.map_eq_some_iff.1 h
    exact ⟨a0, h1, by unfold Addr.add; split <;> rfl⟩
end Go.Proofs.YticpbhpehoolfaaDoor

/- The law's packet. Conditions: where the act's texts lie. -/
import Derived.Test.YtmepeolejlpehaaCtR
import Derived.Laws.Tables
namespace Go.Proofs.Ytmepeolejlpehaa
open Go.RowKit Go.Maps Go.Proofs.YtmepeolejlpehaaW.PrintWords Go.Proofs.YtmepeolejlpehaaW.PrintLast Go.Proofs.YtmepeolejlpehaaW.PrintMore
/-- The walk stands here. -/
structure Halt (p : Prop) : Prop where
  out : p
theorem halt_at {P : Program} {ops : Array Oper} {rest : List Oper} {o : Oper} {a : Act} {w : World} {Q : Exit → Act → World → Prop} (op : Op) (_ : o.op = op) (h : Halt (wpList P ops Q (o :: rest) a w)) : wpList P ops Q (o :: rest) a w := h.out
theorem wpList_buildL {P : Program} {ops : Array Oper} {rest : List Oper} {o : Oper} {a : Act} {w : World} {Q : Exit → Act → World → Prop} (hg : o.guard = none) (t : TypeId) (parts : Array (Nat × Operand)) (ho : o.op = .build t parts) (C : Array Value) (ps : List (Nat × Value)) (hp : (parts.map fun (i, x) => (i, a.eval x)).toList = ps) (hf : P.built t ps = some C)
    (h : wpList P ops Q rest (a.put o.dst (.agg C)) w) : wpList P ops Q (o :: rest) a w :=
  wpList_build hg t parts ho (by rw [hp, hf]; rfl) (by rw [hp, hf]; exact h)
theorem results_cell {P : Program} (fn : Func) (tmps : Array Value) (slot : Tmp) (t : TypeId) (a : Addr) (v : Value) (w : World) (hr : fn.results = #[.cell slot t]) (ha : tmps.getD slot undef = .pointer (some a)) (hl : (loadVar t a).run P w = .ok v w) : (results fn tmps).run P w = .ok v w := by
  unfold results
  rw [hr]
  rw [Array.getD_eq_getD_getElem?] at ha
  simp [ha, asAddr, Sem.run_bind, Sem.run_pure, hl]
theorem there_row {w : World} {b t : Nat} {cs : Array Value} (h : w.heap[b]? = some (.cells cs t (0, 0))) (n : Nat) (hn : n = cs.size) : w.there b 0 n := fun j hj => ⟨by rw [cell_of_row _ _ _ _ _ _ h, Array.getElem?_eq_getElem (by omega)]; rfl, frozen_of_row _ _ _ _ _ h⟩
theorem range_row {w : World} {b t : Nat} {L : List Value} (h : w.heap[b]? = some (.cells L.toArray t (0, 0))) : w.rangeAt b 0 L := fun j v hj => by
  rw [cell_of_row _ _ _ _ _ _ h]; simpa using hj
/-- A block filled from its head. -/
theorem fill_row {w : World} {b t : Nat} {Z : Array Value} (h : w.heap[b]? = some (.cells Z t (0, 0))) (L : List Value) (hZ : Z.size = L.length) : (w.setCells b 0 L).heap[b]? = some (.cells L.toArray t (0, 0)) := by
  have h0 : CellsF w b t (fun k => Z[k]?) := CellsF.of_row h
  exact (h0.sets L 0 _ _ (fun j hj => by rw [Array.getElem?_eq_getElem (by omega)]; rfl)).row L.toArray (fun k => by
    by_cases hk : k < L.length
    · rw [if_pos (by omega), Nat.sub_zero, List.getElem?_toArray]
    · have h1 : Z[k]? = none := Array.getElem?_eq_none (by omega)
      have h2 : L.toArray[k]? = none := Array.getElem?_eq_none (by simp; omega)
      rw [if_neg (by omega), h1, h2])
def actV (kd fr tg er : Int) (own : Bool) (lo hi : Int) (d : Value) : Array Value := #[.int .i64 kd, .int .i64 fr, .int .i64 tg, .int .i64 er, .bool own, .int .i64 lo, .int .i64 hi, d]
set_option maxHeartbeats 4000000 in
set_option maxRecDepth 100000 in
/-- The law's packet: its texts in memory of its own. -/
theorem T.packet (kd fr tg er lo hi id gp num : Int) (own : Bool) (A : Option Addr) (c : Nat) (l : List ByteArray) (w : World) (hC : Kd.C Kd.string w A l.length l) (hc : l.length ≤ c) :
    Calls Try.prog 11 #[.agg (actV kd fr tg er own lo hi (.slice A l.length c)), .int .i64 id, .int .i64 gp, .int .i64 num] w fun e w' => ∃ d, e = .returned (.agg (if own then packV (wrap64 (-id)) gp id num er tg d else packV fr tg fr tg er tg d)) ∧ Kd.R Kd.string 9 w' w.heap.size (fun _ => True) d (l.take 8) ∧ Below w.heap.size w w' := by
  have HC := Aside.mk hC
  have hlm : l.length ≤ 9223372036854775807 := hC.2.1
  clear hC
  have HA0 := Aside.mk (show Below w.heap.size w (w.alloc (.cells #[.int .i64 kd, .int .i64 fr, .int .i64 tg, .int .i64 er, .bool own, .int .i64 lo, .int .i64 hi, .slice A l.length c] 26)) from (Below.refl _ _).alloc (Nat.le_refl _) _)
  simp only [actV]
  have h3 : (A = none ∧ l = []) ∨ (∃ a, A = some a ∧ l.length ≤ 8) ∨ (∃ a, A = some a ∧ 8 < l.length) := by
    cases A with
    | none => exact .inl ⟨rfl, by
        cases l with
        | nil => rfl
        | cons x t => obtain ⟨a, h, _⟩ := HC.out.2.2 (by simp); cases h⟩
    | some a => exact .inr (by by_cases h : l.length ≤ 8; exact .inl ⟨a, rfl, h⟩; exact .inr ⟨a, rfl, by omega⟩)
  have HB0 := Aside.mk (show Below w.heap.size w (((w.alloc (.cells #[.int .i64 kd, .int .i64 fr, .int .i64 tg, .int .i64 er, .bool own, .int .i64 lo, .int .i64 hi, .slice A l.length c] 26)).alloc (.cells #[.int .i64 0, .int .i64 0, .int .i64 0, .int .i64 0, .int .i64 0, .int .i64 0, .int .i64 0, .int .i64 0, .int .i64 0, .int .i64 0, .slice none 0 0, .slice none 0 0, .int .i64 0, .int .i64 0, .int .i64 0, .int .i64 0, .int .i64 0, .string ⟨#[]⟩, .string ⟨#[]⟩, .string ⟨#[]⟩, .string ⟨#[]⟩, .int .i64 0, .int .i64 0, .int .i64 0, .string ⟨#[]⟩, .int .i64 0, .int .i64 0, .int .i64 0, .int .i64 0, .int .i64 0, .slice none 0 0, .int .i64 0, .int .i64 0, .int .i64 0, .slice none 0 0, .slice none 0 0, .slice none 0 0, .int .i64 0, .slice none 0 0, .slice none 0 0] 57)).alloc (.cells #[] 9)) from (((Below.refl _ _).alloc (Nat.le_refl _) _).alloc (by simp) _).alloc (by simp; omega) _)
  have hE := emptyS ((w.alloc (.cells #[.int .i64 kd, .int .i64 fr, .int .i64 tg, .int .i64 er, .bool own, .int .i64 lo, .int .i64 hi, .slice A l.length c] 26)).alloc (.cells #[.int .i64 0, .int .i64 0, .int .i64 0, .int .i64 0, .int .i64 0, .int .i64 0, .int .i64 0, .int .i64 0, .int .i64 0, .int .i64 0, .slice none 0 0, .slice none 0 0, .int .i64 0, .int .i64 0, .int .i64 0, .int .i64 0, .int .i64 0, .string ⟨#[]⟩, .string ⟨#[]⟩, .string ⟨#[]⟩, .string ⟨#[]⟩, .int .i64 0, .int .i64 0, .int .i64 0, .string ⟨#[]⟩, .int .i64 0, .int .i64 0, .int .i64 0, .int .i64 0, .int .i64 0, .slice none 0 0, .int .i64 0, .int .i64 0, .int .i64 0, .slice none 0 0, .slice none 0 0, .slice none 0 0, .int .i64 0, .slice none 0 0, .slice none 0 0] 57))
  have hBX : (((w.alloc (.cells #[.int .i64 kd, .int .i64 fr, .int .i64 tg, .int .i64 er, .bool own, .int .i64 lo, .int .i64 hi, .slice A l.length c] 26)).alloc (.cells #[.int .i64 0, .int .i64 0, .int .i64 0, .int .i64 0, .int .i64 0, .int .i64 0, .int .i64 0, .int .i64 0, .int .i64 0, .int .i64 0, .slice none 0 0, .slice none 0 0, .int .i64 0, .int .i64 0, .int .i64 0, .int .i64 0, .int .i64 0, .string ⟨#[]⟩, .string ⟨#[]⟩, .string ⟨#[]⟩, .string ⟨#[]⟩, .int .i64 0, .int .i64 0, .int .i64 0, .string ⟨#[]⟩, .int .i64 0, .int .i64 0, .int .i64 0, .int .i64 0, .int .i64 0, .slice none 0 0, .int .i64 0, .int .i64 0, .int .i64 0, .slice none 0 0, .slice none 0 0, .slice none 0 0, .int .i64 0, .slice none 0 0, .slice none 0 0] 57)).alloc (.cells #[] 9)).heap[w.heap.size]? = some (.cells #[.int .i64 kd, .int .i64 fr, .int .i64 tg, .int .i64 er, .bool own, .int .i64 lo, .int .i64 hi, .slice A l.length c] 26 (0, 0)) := (Below.heap_alloc _ _ _ (by simp; omega)).trans (heap_alloc2_old w _ _)
  have hBZ : (((w.alloc (.cells #[.int .i64 kd, .int .i64 fr, .int .i64 tg, .int .i64 er, .bool own, .int .i64 lo, .int .i64 hi, .slice A l.length c] 26)).alloc (.cells #[.int .i64 0, .int .i64 0, .int .i64 0, .int .i64 0, .int .i64 0, .int .i64 0, .int .i64 0, .int .i64 0, .int .i64 0, .int .i64 0, .slice none 0 0, .slice none 0 0, .int .i64 0, .int .i64 0, .int .i64 0, .int .i64 0, .int .i64 0, .string ⟨#[]⟩, .string ⟨#[]⟩, .string ⟨#[]⟩, .string ⟨#[]⟩, .int .i64 0, .int .i64 0, .int .i64 0, .string ⟨#[]⟩, .int .i64 0, .int .i64 0, .int .i64 0, .int .i64 0, .int .i64 0, .slice none 0 0, .int .i64 0, .int .i64 0, .int .i64 0, .slice none 0 0, .slice none 0 0, .slice none 0 0, .int .i64 0, .slice none 0 0, .slice none 0 0] 57)).alloc (.cells #[] 9)).heap[w.heap.size + 1]? = some (.cells #[.int .i64 0, .int .i64 0, .int .i64 0, .int .i64 0, .int .i64 0, .int .i64 0, .int .i64 0, .int .i64 0, .int .i64 0, .int .i64 0, .slice none 0 0, .slice none 0 0, .int .i64 0, .int .i64 0, .int .i64 0, .int .i64 0, .int .i64 0, .string ⟨#[]⟩, .string ⟨#[]⟩, .string ⟨#[]⟩, .string ⟨#[]⟩, .int .i64 0, .int .i64 0, .int .i64 0, .string ⟨#[]⟩, .int .i64 0, .int .i64 0, .int .i64 0, .int .i64 0, .int .i64 0, .slice none 0 0, .int .i64 0, .int .i64 0, .int .i64 0, .slice none 0 0, .slice none 0 0, .slice none 0 0, .int .i64 0, .slice none 0 0, .slice none 0 0] 57 (0, 0)) := (Below.heap_alloc _ _ _ (by simp)).trans (by have := heap_alloc_new (w.alloc (.cells #[.int .i64 kd, .int .i64 fr, .int .i64 tg, .int .i64 er, .bool own, .int .i64 lo, .int .i64 hi, .slice A l.length c] 26)) (.cells #[.int .i64 0, .int .i64 0, .int .i64 0, .int .i64 0, .int .i64 0, .int .i64 0, .int .i64 0, .int .i64 0, .int .i64 0, .int .i64 0, .slice none 0 0, .slice none 0 0, .int .i64 0, .int .i64 0, .int .i64 0, .int .i64 0, .int .i64 0, .string ⟨#[]⟩, .string ⟨#[]⟩, .string ⟨#[]⟩, .string ⟨#[]⟩, .int .i64 0, .int .i64 0, .int .i64 0, .string ⟨#[]⟩, .int .i64 0, .int .i64 0, .int .i64 0, .int .i64 0, .int .i64 0, .slice none 0 0, .int .i64 0, .int .i64 0, .int .i64 0, .slice none 0 0, .slice none 0 0, .slice none 0 0, .int .i64 0, .slice none 0 0, .slice none 0 0] 57); simpa using this)
  simp only [World.size_alloc] at hE
  have HE := Aside.mk hE
  have HS3 := Aside.mk (show (((w.alloc (.cells #[.int .i64 kd, .int .i64 fr, .int .i64 tg, .int .i64 er, .bool own, .int .i64 lo, .int .i64 hi, .slice A l.length c] 26)).alloc (.cells #[.int .i64 0, .int .i64 0, .int .i64 0, .int .i64 0, .int .i64 0, .int .i64 0, .int .i64 0, .int .i64 0, .int .i64 0, .int .i64 0, .slice none 0 0, .slice none 0 0, .int .i64 0, .int .i64 0, .int .i64 0, .int .i64 0, .int .i64 0, .string ⟨#[]⟩, .string ⟨#[]⟩, .string ⟨#[]⟩, .string ⟨#[]⟩, .int .i64 0, .int .i64 0, .int .i64 0, .string ⟨#[]⟩, .int .i64 0, .int .i64 0, .int .i64 0, .int .i64 0, .int .i64 0, .slice none 0 0, .int .i64 0, .int .i64 0, .int .i64 0, .slice none 0 0, .slice none 0 0, .slice none 0 0, .int .i64 0, .slice none 0 0, .slice none 0 0] 57)).alloc (.cells #[] 9)).heap.size = w.heap.size + 3 by simp)
  have HC3 := Aside.mk (Kd.C_below HC.out HB0.out)
  -- what stands behind the append, whatever it was
  have hT : ∀ v1 w1, Kd.R Kd.string 9 w1 (w.heap.size + 1 + 1) (fun _ => True) v1 (l.take 8) → (((w.alloc (.cells #[.int .i64 kd, .int .i64 fr, .int .i64 tg, .int .i64 er, .bool own, .int .i64 lo, .int .i64 hi, .slice A l.length c] 26)).alloc (.cells #[.int .i64 0, .int .i64 0, .int .i64 0, .int .i64 0, .int .i64 0, .int .i64 0, .int .i64 0, .int .i64 0, .int .i64 0, .int .i64 0, .slice none 0 0, .slice none 0 0, .int .i64 0, .int .i64 0, .int .i64 0, .int .i64 0, .int .i64 0, .string ⟨#[]⟩, .string ⟨#[]⟩, .string ⟨#[]⟩, .string ⟨#[]⟩, .int .i64 0, .int .i64 0, .int .i64 0, .string ⟨#[]⟩, .int .i64 0, .int .i64 0, .int .i64 0, .int .i64 0, .int .i64 0, .slice none 0 0, .int .i64 0, .int .i64 0, .int .i64 0, .slice none 0 0, .slice none 0 0, .slice none 0 0, .int .i64 0, .slice none 0 0, .slice none 0 0] 57)).alloc (.cells #[] 9)).grownBy w1 (some (w.heap.size + 1 + 1)) → ∃ A1 m c1, v1 = .slice A1 m c1 ∧ Aside (Kd.R Kd.string 9 w1 (w.heap.size + 1 + 1) (fun _ => True) (.slice A1 m c1) (l.take 8)) ∧ Aside (Below w.heap.size w w1) ∧ Aside (w1.heap[w.heap.size]? = some (.cells #[.int .i64 kd, .int .i64 fr, .int .i64 tg, .int .i64 er, .bool own, .int .i64 lo, .int .i64 hi, .slice A l.length c] 26 (0, 0))) ∧ Aside (w1.heap[w.heap.size + 1]? = some (.cells #[.int .i64 0, .int .i64 0, .int .i64 0, .int .i64 0, .int .i64 0, .int .i64 0, .int .i64 0, .int .i64 0, .int .i64 0, .int .i64 0, .slice none 0 0, .slice none 0 0, .int .i64 0, .int .i64 0, .int .i64 0, .int .i64 0, .int .i64 0, .string ⟨#[]⟩, .string ⟨#[]⟩, .string ⟨#[]⟩, .string ⟨#[]⟩, .int .i64 0, .int .i64 0, .int .i64 0, .string ⟨#[]⟩, .int .i64 0, .int .i64 0, .int .i64 0, .int .i64 0, .int .i64 0, .slice none 0 0, .int .i64 0, .int .i64 0, .int .i64 0, .slice none 0 0, .slice none 0 0, .slice none 0 0, .int .i64 0, .slice none 0 0, .slice none 0 0] 57 (0, 0))) ∧ Aside (w.heap.size + 3 ≤ w1.heap.size) := fun v1 w1 h1 hg1 => by
    obtain ⟨A1, c1, rfl, _, _⟩ := Kd.R_reads h1
    exact ⟨A1, _, c1, rfl, ⟨h1⟩, ⟨HB0.out.grown hg1 (by simp; omega) (fun k e => by cases e; omega)⟩, ⟨(hg1.block w.heap.size (by simp; omega) (fun e => by have := Option.some.inj e; omega)).trans hBX⟩, ⟨(hg1.block (w.heap.size + 1) (by simp) (fun e => by have := Option.some.inj e; omega)).trans hBZ⟩, ⟨by have := hg1.size; have := HS3.out; omega⟩⟩
  have HT := Aside.mk hT
  clear hE hBX hBZ hT
  have hlen8 : (l.take 8).length ≤ 8 := by simp; omega
  rcases h3 with ⟨rfl, rfl⟩ | ⟨a, rfl, h8⟩ | ⟨a, rfl, h8⟩
  · go_enter Try.func11, Try.ntmps11
    go_wp2_with (refine wpList_appendS rfl (.tmp 11) (.tmp 18) rfl (w.heap.size + 1 + 1) (.slice (some ⟨w.heap.size + 1 + 1, 0, none⟩) 0 0) [] [] none 0 c rfl rfl ?ho ?hr ?hb ?hl ?hk; (case ho => exact HE.out); (case hr => exact HC3.out); (case hb => simp); (case hl => simp); (case' hk => (intro v1 w1 h1 hg1; obtain ⟨A1, m, c1, rfl, HR1, HB1, HX1, HZ1, HS1⟩ := HT.out v1 w1 h1 hg1; clear h1 hg1; refine Halt.out ?_)))
    all_goals refine ⟨?_⟩
    all_goals (clear HT HE HC3 HB0 HC)



    obtain ⟨L, hL⟩ : ∃ L : List Value, L = [.int .i64 3, .int .i64 0, .int .i64 fr, .int .i64 tg, .int .i64 0, .int .i64 0, .int .i64 0, .int .i64 0, .int .i64 0, .int .i64 0, .slice none 0 0, .slice none 0 0, .int .i64 0, .int .i64 fr, .int .i64 tg, .int .i64 0, .int .i64 0, .string ⟨#[]⟩, .string ⟨#[]⟩, .string ⟨#[]⟩, .string ⟨#[]⟩, .int .i64 0, .int .i64 0, .int .i64 0, .string ⟨#[]⟩, .int .i64 0, .int .i64 0, .int .i64 0, .int .i64 0, .int .i64 0, .slice none 0 0, .int .i64 er, .int .i64 0, .int .i64 tg, .slice none 0 0, .slice A1 m c1, .slice none 0 0, .int .i64 0, .slice none 0 0, .slice none 0 0] := ⟨_, rfl⟩
    have HBd := Aside.mk (show Try.prog.built 57 [(0, .int .i64 3), (2, .int .i64 fr), (3, .int .i64 tg), (5, .agg #[.int .i64 0, .int .i64 fr, .int .i64 tg, .int .i64 0, .int .i64 0, .string ⟨#[]⟩, .string ⟨#[]⟩, .string ⟨#[]⟩, .string ⟨#[]⟩, .int .i64 0, .int .i64 0, .int .i64 0, .string ⟨#[]⟩, .int .i64 0, .int .i64 0, .int .i64 0, .int .i64 0, .int .i64 0, .slice none 0 0]), (6, .agg #[.int .i64 er, .int .i64 0, .int .i64 tg, .slice none 0 0, .slice A1 m c1, .slice none 0 0])] = some L.toArray by rw [hL]; kernel_rfl)
    have hLl : L.length = 40 := by rw [hL]; rfl
    have HL := Aside.mk hL
    have HLl := Aside.mk hLl
    have HI := Aside.mk (show (Try.prog.info? 57).map (·.size) = some L.toArray.size by rw [List.size_toArray, hLl]; kernel_rfl)
    have HL1 := Aside.mk (show (L.toArray.all (·.oneCell')) = true by rw [hL]; simp [Value.oneCell'])
    have y1 : w1.cell? ⟨w.heap.size, 1, none⟩ = some (.int .i64 fr) := by rw [cell_of_row _ _ _ _ _ _ HX1.out]; rfl
    have y2 : w1.cell? ⟨w.heap.size, 2, none⟩ = some (.int .i64 tg) := by rw [cell_of_row _ _ _ _ _ _ HX1.out]; rfl
    have y3 : w1.cell? ⟨w.heap.size, 3, none⟩ = some (.int .i64 er) := by rw [cell_of_row _ _ _ _ _ _ HX1.out]; rfl
    clear hL hLl
    go_wp2_with (with_reducible refine halt_at (.build 57 _) rfl ?_)
    refine ⟨?_⟩
    refine wpList_buildL rfl 57 _ rfl L.toArray _ (by simp [Act.eval]) HBd.out ?_
    go_wp2_with (with_reducible refine halt_at (.store 57 (.tmp 10) (.tmp 35)) rfl ?_)
    refine ⟨?_⟩
    have HBO := box_of w1 57 #[.int .i64 0, .int .i64 0, .int .i64 0, .int .i64 0, .int .i64 0, .int .i64 0, .int .i64 0, .int .i64 0, .int .i64 0, .int .i64 0, .slice none 0 0, .slice none 0 0, .int .i64 0, .int .i64 0, .int .i64 0, .int .i64 0, .int .i64 0, .string ⟨#[]⟩, .string ⟨#[]⟩, .string ⟨#[]⟩, .string ⟨#[]⟩, .int .i64 0, .int .i64 0, .int .i64 0, .string ⟨#[]⟩, .int .i64 0, .int .i64 0, .int .i64 0, .int .i64 0, .int .i64 0, .slice none 0 0, .int .i64 0, .int .i64 0, .int .i64 0, .slice none 0 0, .slice none 0 0, .slice none 0 0, .int .i64 0, .slice none 0 0, .slice none 0 0] L (by rw [HLl.out]; rfl)
    refine wpList_store_mid rfl 57 (.tmp 10) (.tmp 35) rfl w1.heap.size 0 L.toArray rfl rfl (by rw [List.size_toArray]; exact HBO.2.2.1) HI.out HL1.out ?_
    have HR2 : ((w1.alloc (.cells #[.int .i64 0, .int .i64 0, .int .i64 0, .int .i64 0, .int .i64 0, .int .i64 0, .int .i64 0, .int .i64 0, .int .i64 0, .int .i64 0, .slice none 0 0, .slice none 0 0, .int .i64 0, .int .i64 0, .int .i64 0, .int .i64 0, .int .i64 0, .string ⟨#[]⟩, .string ⟨#[]⟩, .string ⟨#[]⟩, .string ⟨#[]⟩, .int .i64 0, .int .i64 0, .int .i64 0, .string ⟨#[]⟩, .int .i64 0, .int .i64 0, .int .i64 0, .int .i64 0, .int .i64 0, .slice none 0 0, .int .i64 0, .int .i64 0, .int .i64 0, .slice none 0 0, .slice none 0 0, .slice none 0 0, .int .i64 0, .slice none 0 0, .slice none 0 0] 57)).setCells w1.heap.size 0 L).heap[w1.heap.size]? = some (.cells L.toArray 57 (0, 0)) := HBO.1
    have HF2 : FC [] w1 ((w1.alloc (.cells #[.int .i64 0, .int .i64 0, .int .i64 0, .int .i64 0, .int .i64 0, .int .i64 0, .int .i64 0, .int .i64 0, .int .i64 0, .int .i64 0, .slice none 0 0, .slice none 0 0, .int .i64 0, .int .i64 0, .int .i64 0, .int .i64 0, .int .i64 0, .string ⟨#[]⟩, .string ⟨#[]⟩, .string ⟨#[]⟩, .string ⟨#[]⟩, .int .i64 0, .int .i64 0, .int .i64 0, .string ⟨#[]⟩, .int .i64 0, .int .i64 0, .int .i64 0, .int .i64 0, .int .i64 0, .slice none 0 0, .int .i64 0, .int .i64 0, .int .i64 0, .slice none 0 0, .slice none 0 0, .slice none 0 0, .int .i64 0, .slice none 0 0, .slice none 0 0] 57)).setCells w1.heap.size 0 L) := HBO.2.1
    clear HBO y1 y2 y3 HBd
    dsimp only at HR2 HF2 ⊢
    obtain ⟨X, hX⟩ : ∃ X, X = w1.heap.size := ⟨_, rfl⟩
    rw [← hX] at HR2 HF2 ⊢
    generalize World.setCells (World.alloc w1 _) _ _ _ = w2 at HR2 HF2 ⊢

    have z4 : w2.cell? ⟨w.heap.size, 4, none⟩ = some (.bool own) := by rw [cell_of_row _ _ _ _ _ _ ((HF2.block _ (by have := HS1.out; omega) (by simp)).trans HX1.out)]; rfl
    have HZ2 := Aside.mk ((HF2.block (w.heap.size + 1) (by have := HS1.out; omega) (by simp)).trans HZ1.out)
    have HXv := Aside.mk hX
    have HR2 := Aside.mk HR2
    have HF2 := Aside.mk HF2
    clear hX
    cases own
    · go_wp2_with (with_reducible refine halt_at (.load 57 (.tmp 10)) rfl ?_)
      refine ⟨?_⟩
      have HR3 := HR2.out
      have HZ3 := HZ2.out
      obtain ⟨w3, hw3⟩ : ∃ w3, w3 = w2 := ⟨_, rfl⟩
      have HF3 : Aside (FC [X] w1 w3) := ⟨by rw [hw3]; exact HF2.out.sub (by simp)⟩
      rw [← hw3] at HR3 HZ3 ⊢
      obtain ⟨L2, hL2⟩ : ∃ L2, L2 = L := ⟨_, rfl⟩
      have HL2 : Aside (L2 = [.int .i64 3, .int .i64 0, .int .i64 fr, .int .i64 tg, .int .i64 0, .int .i64 0, .int .i64 0, .int .i64 0, .int .i64 0, .int .i64 0, .slice none 0 0, .slice none 0 0, .int .i64 0, .int .i64 fr, .int .i64 tg, .int .i64 0, .int .i64 0, .string ⟨#[]⟩, .string ⟨#[]⟩, .string ⟨#[]⟩, .string ⟨#[]⟩, .int .i64 0, .int .i64 0, .int .i64 0, .string ⟨#[]⟩, .int .i64 0, .int .i64 0, .int .i64 0, .int .i64 0, .int .i64 0, .slice none 0 0, .int .i64 er, .int .i64 0, .int .i64 tg, .slice none 0 0, .slice A1 m c1, .slice none 0 0, .int .i64 0, .slice none 0 0, .slice none 0 0]) := ⟨hL2.trans HL.out⟩
      have HL2l : Aside (L2.length = 40) := ⟨by rw [hL2]; exact HLl.out⟩
      have HL21 : Aside ((L2.toArray.all (·.oneCell')) = true) := ⟨by rw [hL2]; exact HL1.out⟩
      rw [← hL2] at HR3
      clear HR2 HF2 HZ2 hw3 hL2 z4

      refine wpList_load_mid rfl 57 (.tmp 10) rfl X 0 rfl L2 _ (range_row HR3) Try.underlying57 rfl (by rw [HL2l.out]; kernel_rfl) ?_
      refine wpList_store_mid rfl 57 (.tmp 8) (.tmp 49) rfl (w.heap.size + 1) 0 L2.toArray rfl rfl (there_row HZ3 _ (by rw [List.size_toArray, HL2l.out]; rfl)) (by rw [List.size_toArray, HL2l.out]; kernel_rfl) HL21.out ?_
      have HR4 := fill_row HZ3 L2 (by rw [HL2l.out]; rfl)
      have HF4 : FC [w.heap.size + 1] w3 (w3.setCells (w.heap.size + 1) 0 L2) := FC.setCells (.inl (by simp)) _ _ _ (FC.refl _ _)
      dsimp only
      generalize World.setCells w3 _ _ _ = w4 at HR4 HF4 ⊢
      have HR4 := Aside.mk HR4
      have HF4 := Aside.mk HF4
      clear HR3 HZ3
      go_wp2
      refine bodyPost_ret (v := .agg L2.toArray) (results_cell _ _ 8 57 ⟨w.heap.size + 1, 0, none⟩ _ w4 (by kernel_rfl) rfl (run_loadVar_mid w4 (w.heap.size + 1) 0 57 L2 _ (range_row HR4.out) Try.underlying57 rfl (by rw [HL2l.out]; kernel_rfl))) rfl ?_
      refine ⟨.slice A1 m c1, by rw [HL2.out]; rfl, ?_, ?_⟩
      · have hb3 : Below w1.heap.size w1 w3 := ⟨HF3.out.os, HF3.out.tape, HF3.out.output, HF3.out.size, fun k hk => HF3.out.block k hk (by have := HXv.out; simp; omega)⟩
        exact Kd.R_lower (R_fc (Kd.R_below HR1.out hb3) HF4.out (fun k hk => by have := (show k = w.heap.size + 1 from by simpa using hk); omega)) (by omega)
      · refine ⟨HF4.out.os.trans (HF3.out.os.trans HB1.out.os), HF4.out.tape.trans (HF3.out.tape.trans HB1.out.tape), HF4.out.output.trans (HF3.out.output.trans HB1.out.output), Nat.le_trans HB1.out.size (Nat.le_trans HF3.out.size HF4.out.size), fun k hk => ?_⟩
        have hk1 := Nat.lt_of_lt_of_le hk HB1.out.size
        rw [HF4.out.block k (Nat.lt_of_lt_of_le hk1 HF3.out.size) (by simp; omega), HF3.out.block k hk1 (by have := HXv.out; have := HS1.out; simp; try omega)]
        exact HB1.out.block k hk

    · have x2 : w2.cell? ⟨X, 2, none⟩ = some (.int .i64 fr) := by rw [cell_of_row _ _ _ _ _ _ HR2.out, HL.out]; rfl
      have x3 : w2.cell? ⟨X, 3, none⟩ = some (.int .i64 tg) := by rw [cell_of_row _ _ _ _ _ _ HR2.out, HL.out]; rfl
      have x13 : w2.cell? ⟨X, 13, none⟩ = some (.int .i64 fr) := by rw [cell_of_row _ _ _ _ _ _ HR2.out, HL.out]; rfl
      have x14 : w2.cell? ⟨X, 14, none⟩ = some (.int .i64 tg) := by rw [cell_of_row _ _ _ _ _ _ HR2.out, HL.out]; rfl
      have f2 := frozen_of_row w2 X 2 _ _ HR2.out
      have f3 := frozen_of_row w2 X 3 _ _ HR2.out
      have f13 := frozen_of_row w2 X 13 _ _ HR2.out
      have f14 := frozen_of_row w2 X 14 _ _ HR2.out
      go_wp2_with (with_reducible refine halt_at (.load 57 (.tmp 10)) rfl ?_)
      refine ⟨?_⟩
      have HR3 := heap_setCell_same _ X 14 _ _ (.int .i64 num) (heap_setCell_same _ X 13 _ _ (.int .i64 id) (heap_setCell_same _ X 3 _ _ (.int .i64 gp) (heap_setCell_same _ X 2 _ _ (.int .i64 (wrap64 (-id))) HR2.out)))
      have HF3 := Aside.mk (show FC [X] w1 _ from ((((HF2.out.sub (S' := [X]) (by simp)).setCell (p := ⟨X, 2, none⟩) (.inl (by simp)) (.int .i64 (wrap64 (-id)))).setCell (p := ⟨X, 3, none⟩) (.inl (by simp)) (.int .i64 gp)).setCell (p := ⟨X, 13, none⟩) (.inl (by simp)) (.int .i64 id)).setCell (p := ⟨X, 14, none⟩) (.inl (by simp)) (.int .i64 num))
      have HZ3 := (HF3.out.block (w.heap.size + 1) (by have := HS1.out; omega) (by have := HXv.out; have := HS1.out; simp; omega)).trans HZ1.out
      clear x2 x3 x13 x14 f2 f3 f13 f14 z4 HR2 HF2 HZ2
      rw [HL.out] at HR3
      simp only [List.setIfInBounds_toArray, List.set_cons_succ, List.set_cons_zero] at HR3
      generalize World.setCell (World.setCell (World.setCell _ _ _) _ _) ⟨X, 14, none⟩ _ = w3 at HR3 HF3 HZ3 ⊢
      obtain ⟨L2, hL2⟩ : ∃ L2 : List Value, L2 = [.int .i64 3, .int .i64 0, .int .i64 (wrap64 (-id)), .int .i64 gp, .int .i64 0, .int .i64 0, .int .i64 0, .int .i64 0, .int .i64 0, .int .i64 0, .slice none 0 0, .slice none 0 0, .int .i64 0, .int .i64 id, .int .i64 num, .int .i64 0, .int .i64 0, .string ⟨#[]⟩, .string ⟨#[]⟩, .string ⟨#[]⟩, .string ⟨#[]⟩, .int .i64 0, .int .i64 0, .int .i64 0, .string ⟨#[]⟩, .int .i64 0, .int .i64 0, .int .i64 0, .int .i64 0, .int .i64 0, .slice none 0 0, .int .i64 er, .int .i64 0, .int .i64 tg, .slice none 0 0, .slice A1 m c1, .slice none 0 0, .int .i64 0, .slice none 0 0, .slice none 0 0] := ⟨_, rfl⟩
      have HL2 := Aside.mk hL2
      have HL2l := Aside.mk (show L2.length = 40 by rw [hL2]; rfl)
      have HL21 := Aside.mk (show (L2.toArray.all (·.oneCell')) = true by rw [hL2]; simp [Value.oneCell'])
      rw [← hL2] at HR3
      clear hL2

      refine wpList_load_mid rfl 57 (.tmp 10) rfl X 0 rfl L2 _ (range_row HR3) Try.underlying57 rfl (by rw [HL2l.out]; kernel_rfl) ?_
      refine wpList_store_mid rfl 57 (.tmp 8) (.tmp 49) rfl (w.heap.size + 1) 0 L2.toArray rfl rfl (there_row HZ3 _ (by rw [List.size_toArray, HL2l.out]; rfl)) (by rw [List.size_toArray, HL2l.out]; kernel_rfl) HL21.out ?_
      have HR4 := fill_row HZ3 L2 (by rw [HL2l.out]; rfl)
      have HF4 : FC [w.heap.size + 1] w3 (w3.setCells (w.heap.size + 1) 0 L2) := FC.setCells (.inl (by simp)) _ _ _ (FC.refl _ _)
      dsimp only
      generalize World.setCells w3 _ _ _ = w4 at HR4 HF4 ⊢
      have HR4 := Aside.mk HR4
      have HF4 := Aside.mk HF4
      clear HR3 HZ3
      go_wp2
      refine bodyPost_ret (v := .agg L2.toArray) (results_cell _ _ 8 57 ⟨w.heap.size + 1, 0, none⟩ _ w4 (by kernel_rfl) rfl (run_loadVar_mid w4 (w.heap.size + 1) 0 57 L2 _ (range_row HR4.out) Try.underlying57 rfl (by rw [HL2l.out]; kernel_rfl))) rfl ?_
      refine ⟨.slice A1 m c1, by rw [HL2.out]; rfl, ?_, ?_⟩
      · have hb3 : Below w1.heap.size w1 w3 := ⟨HF3.out.os, HF3.out.tape, HF3.out.output, HF3.out.size, fun k hk => HF3.out.block k hk (by have := HXv.out; simp; omega)⟩
        exact Kd.R_lower (R_fc (Kd.R_below HR1.out hb3) HF4.out (fun k hk => by have := (show k = w.heap.size + 1 from by simpa using hk); omega)) (by omega)
      · refine ⟨HF4.out.os.trans (HF3.out.os.trans HB1.out.os), HF4.out.tape.trans (HF3.out.tape.trans HB1.out.tape), HF4.out.output.trans (HF3.out.output.trans HB1.out.output), Nat.le_trans HB1.out.size (Nat.le_trans HF3.out.size HF4.out.size), fun k hk => ?_⟩
        have hk1 := Nat.lt_of_lt_of_le hk HB1.out.size
        rw [HF4.out.block k (Nat.lt_of_lt_of_le hk1 HF3.out.size) (by simp; omega), HF3.out.block k hk1 (by have := HXv.out; have := HS1.out; simp; try omega)]
        exact HB1.out.block k hk


  · have h8' : ((l.length : Nat) : Int) ≤ 8 := by omega
    go_enter Try.func11, Try.ntmps11
    go_wp2_with (with_reducible refine halt_at (.call { callee := .builtin .append, args := #[.tmp 11, .tmp 18], argTypes := #[24, 24] }) rfl ?_)
    all_goals refine ⟨?_⟩
    refine wpList_appendS rfl (.tmp 11) (.tmp 18) rfl (w.heap.size + 1 + 1) (.slice (some ⟨w.heap.size + 1 + 1, 0, none⟩) 0 0) [] l (some a) l.length c rfl rfl HE.out HC3.out (by simp) (by simp; omega) (fun v1 w1 h1 hg1 => ?_)
    obtain ⟨A1, m, c1, rfl, HR1, HB1, HX1, HZ1, HS1⟩ := HT.out v1 w1 (by rw [List.take_of_length_le h8]; simpa using h1) hg1
    clear h1 hg1 HT HE HC3 HB0 HC

    obtain ⟨L, hL⟩ : ∃ L : List Value, L = [.int .i64 3, .int .i64 0, .int .i64 fr, .int .i64 tg, .int .i64 0, .int .i64 0, .int .i64 0, .int .i64 0, .int .i64 0, .int .i64 0, .slice none 0 0, .slice none 0 0, .int .i64 0, .int .i64 fr, .int .i64 tg, .int .i64 0, .int .i64 0, .string ⟨#[]⟩, .string ⟨#[]⟩, .string ⟨#[]⟩, .string ⟨#[]⟩, .int .i64 0, .int .i64 0, .int .i64 0, .string ⟨#[]⟩, .int .i64 0, .int .i64 0, .int .i64 0, .int .i64 0, .int .i64 0, .slice none 0 0, .int .i64 er, .int .i64 0, .int .i64 tg, .slice none 0 0, .slice A1 m c1, .slice none 0 0, .int .i64 0, .slice none 0 0, .slice none 0 0] := ⟨_, rfl⟩
    have HBd := Aside.mk (show Try.prog.built 57 [(0, .int .i64 3), (2, .int .i64 fr), (3, .int .i64 tg), (5, .agg #[.int .i64 0, .int .i64 fr, .int .i64 tg, .int .i64 0, .int .i64 0, .string ⟨#[]⟩, .string ⟨#[]⟩, .string ⟨#[]⟩, .string ⟨#[]⟩, .int .i64 0, .int .i64 0, .int .i64 0, .string ⟨#[]⟩, .int .i64 0, .int .i64 0, .int .i64 0, .int .i64 0, .int .i64 0, .slice none 0 0]), (6, .agg #[.int .i64 er, .int .i64 0, .int .i64 tg, .slice none 0 0, .slice A1 m c1, .slice none 0 0])] = some L.toArray by rw [hL]; kernel_rfl)
    have hLl : L.length = 40 := by rw [hL]; rfl
    have HL := Aside.mk hL
    have HLl := Aside.mk hLl
    have HI := Aside.mk (show (Try.prog.info? 57).map (·.size) = some L.toArray.size by rw [List.size_toArray, hLl]; kernel_rfl)
    have HL1 := Aside.mk (show (L.toArray.all (·.oneCell')) = true by rw [hL]; simp [Value.oneCell'])
    have y1 : w1.cell? ⟨w.heap.size, 1, none⟩ = some (.int .i64 fr) := by rw [cell_of_row _ _ _ _ _ _ HX1.out]; rfl
    have y2 : w1.cell? ⟨w.heap.size, 2, none⟩ = some (.int .i64 tg) := by rw [cell_of_row _ _ _ _ _ _ HX1.out]; rfl
    have y3 : w1.cell? ⟨w.heap.size, 3, none⟩ = some (.int .i64 er) := by rw [cell_of_row _ _ _ _ _ _ HX1.out]; rfl
    clear hL hLl
    go_wp2_with (with_reducible refine halt_at (.build 57 _) rfl ?_)
    refine ⟨?_⟩
    refine wpList_buildL rfl 57 _ rfl L.toArray _ (by simp [Act.eval]) HBd.out ?_
    go_wp2_with (with_reducible refine halt_at (.store 57 (.tmp 10) (.tmp 35)) rfl ?_)
    refine ⟨?_⟩
    have HBO := box_of w1 57 #[.int .i64 0, .int .i64 0, .int .i64 0, .int .i64 0, .int .i64 0, .int .i64 0, .int .i64 0, .int .i64 0, .int .i64 0, .int .i64 0, .slice none 0 0, .slice none 0 0, .int .i64 0, .int .i64 0, .int .i64 0, .int .i64 0, .int .i64 0, .string ⟨#[]⟩, .string ⟨#[]⟩, .string ⟨#[]⟩, .string ⟨#[]⟩, .int .i64 0, .int .i64 0, .int .i64 0, .string ⟨#[]⟩, .int .i64 0, .int .i64 0, .int .i64 0, .int .i64 0, .int .i64 0, .slice none 0 0, .int .i64 0, .int .i64 0, .int .i64 0, .slice none 0 0, .slice none 0 0, .slice none 0 0, .int .i64 0, .slice none 0 0, .slice none 0 0] L (by rw [HLl.out]; rfl)
    refine wpList_store_mid rfl 57 (.tmp 10) (.tmp 35) rfl w1.heap.size 0 L.toArray rfl rfl (by rw [List.size_toArray]; exact HBO.2.2.1) HI.out HL1.out ?_
    have HR2 : ((w1.alloc (.cells #[.int .i64 0, .int .i64 0, .int .i64 0, .int .i64 0, .int .i64 0, .int .i64 0, .int .i64 0, .int .i64 0, .int .i64 0, .int .i64 0, .slice none 0 0, .slice none 0 0, .int .i64 0, .int .i64 0, .int .i64 0, .int .i64 0, .int .i64 0, .string ⟨#[]⟩, .string ⟨#[]⟩, .string ⟨#[]⟩, .string ⟨#[]⟩, .int .i64 0, .int .i64 0, .int .i64 0, .string ⟨#[]⟩, .int .i64 0, .int .i64 0, .int .i64 0, .int .i64 0, .int .i64 0, .slice none 0 0, .int .i64 0, .int .i64 0, .int .i64 0, .slice none 0 0, .slice none 0 0, .slice none 0 0, .int .i64 0, .slice none 0 0, .slice none 0 0] 57)).setCells w1.heap.size 0 L).heap[w1.heap.size]? = some (.cells L.toArray 57 (0, 0)) := HBO.1
    have HF2 : FC [] w1 ((w1.alloc (.cells #[.int .i64 0, .int .i64 0, .int .i64 0, .int .i64 0, .int .i64 0, .int .i64 0, .int .i64 0, .int .i64 0, .int .i64 0, .int .i64 0, .slice none 0 0, .slice none 0 0, .int .i64 0, .int .i64 0, .int .i64 0, .int .i64 0, .int .i64 0, .string ⟨#[]⟩, .string ⟨#[]⟩, .string ⟨#[]⟩, .string ⟨#[]⟩, .int .i64 0, .int .i64 0, .int .i64 0, .string ⟨#[]⟩, .int .i64 0, .int .i64 0, .int .i64 0, .int .i64 0, .int .i64 0, .slice none 0 0, .int .i64 0, .int .i64 0, .int .i64 0, .slice none 0 0, .slice none 0 0, .slice none 0 0, .int .i64 0, .slice none 0 0, .slice none 0 0] 57)).setCells w1.heap.size 0 L) := HBO.2.1
    clear HBO y1 y2 y3 HBd
    dsimp only at HR2 HF2 ⊢
    obtain ⟨X, hX⟩ : ∃ X, X = w1.heap.size := ⟨_, rfl⟩
    rw [← hX] at HR2 HF2 ⊢
    generalize World.setCells (World.alloc w1 _) _ _ _ = w2 at HR2 HF2 ⊢

    have z4 : w2.cell? ⟨w.heap.size, 4, none⟩ = some (.bool own) := by rw [cell_of_row _ _ _ _ _ _ ((HF2.block _ (by have := HS1.out; omega) (by simp)).trans HX1.out)]; rfl
    have HZ2 := Aside.mk ((HF2.block (w.heap.size + 1) (by have := HS1.out; omega) (by simp)).trans HZ1.out)
    have HXv := Aside.mk hX
    have HR2 := Aside.mk HR2
    have HF2 := Aside.mk HF2
    clear hX
    cases own
    · go_wp2_with (with_reducible refine halt_at (.load 57 (.tmp 10)) rfl ?_)
      refine ⟨?_⟩
      have HR3 := HR2.out
      have HZ3 := HZ2.out
      obtain ⟨w3, hw3⟩ : ∃ w3, w3 = w2 := ⟨_, rfl⟩
      have HF3 : Aside (FC [X] w1 w3) := ⟨by rw [hw3]; exact HF2.out.sub (by simp)⟩
      rw [← hw3] at HR3 HZ3 ⊢
      obtain ⟨L2, hL2⟩ : ∃ L2, L2 = L := ⟨_, rfl⟩
      have HL2 : Aside (L2 = [.int .i64 3, .int .i64 0, .int .i64 fr, .int .i64 tg, .int .i64 0, .int .i64 0, .int .i64 0, .int .i64 0, .int .i64 0, .int .i64 0, .slice none 0 0, .slice none 0 0, .int .i64 0, .int .i64 fr, .int .i64 tg, .int .i64 0, .int .i64 0, .string ⟨#[]⟩, .string ⟨#[]⟩, .string ⟨#[]⟩, .string ⟨#[]⟩, .int .i64 0, .int .i64 0, .int .i64 0, .string ⟨#[]⟩, .int .i64 0, .int .i64 0, .int .i64 0, .int .i64 0, .int .i64 0, .slice none 0 0, .int .i64 er, .int .i64 0, .int .i64 tg, .slice none 0 0, .slice A1 m c1, .slice none 0 0, .int .i64 0, .slice none 0 0, .slice none 0 0]) := ⟨hL2.trans HL.out⟩
      have HL2l : Aside (L2.length = 40) := ⟨by rw [hL2]; exact HLl.out⟩
      have HL21 : Aside ((L2.toArray.all (·.oneCell')) = true) := ⟨by rw [hL2]; exact HL1.out⟩
      rw [← hL2] at HR3
      clear HR2 HF2 HZ2 hw3 hL2 z4

      refine wpList_load_mid rfl 57 (.tmp 10) rfl X 0 rfl L2 _ (range_row HR3) Try.underlying57 rfl (by rw [HL2l.out]; kernel_rfl) ?_
      refine wpList_store_mid rfl 57 (.tmp 8) (.tmp 49) rfl (w.heap.size + 1) 0 L2.toArray rfl rfl (there_row HZ3 _ (by rw [List.size_toArray, HL2l.out]; rfl)) (by rw [List.size_toArray, HL2l.out]; kernel_rfl) HL21.out ?_
      have HR4 := fill_row HZ3 L2 (by rw [HL2l.out]; rfl)
      have HF4 : FC [w.heap.size + 1] w3 (w3.setCells (w.heap.size + 1) 0 L2) := FC.setCells (.inl (by simp)) _ _ _ (FC.refl _ _)
      dsimp only
      generalize World.setCells w3 _ _ _ = w4 at HR4 HF4 ⊢
      have HR4 := Aside.mk HR4
      have HF4 := Aside.mk HF4
      clear HR3 HZ3
      go_wp2
      refine bodyPost_ret (v := .agg L2.toArray) (results_cell _ _ 8 57 ⟨w.heap.size + 1, 0, none⟩ _ w4 (by kernel_rfl) rfl (run_loadVar_mid w4 (w.heap.size + 1) 0 57 L2 _ (range_row HR4.out) Try.underlying57 rfl (by rw [HL2l.out]; kernel_rfl))) rfl ?_
      refine ⟨.slice A1 m c1, by rw [HL2.out]; rfl, ?_, ?_⟩
      · have hb3 : Below w1.heap.size w1 w3 := ⟨HF3.out.os, HF3.out.tape, HF3.out.output, HF3.out.size, fun k hk => HF3.out.block k hk (by have := HXv.out; simp; omega)⟩
        exact Kd.R_lower (R_fc (Kd.R_below HR1.out hb3) HF4.out (fun k hk => by have := (show k = w.heap.size + 1 from by simpa using hk); omega)) (by omega)
      · refine ⟨HF4.out.os.trans (HF3.out.os.trans HB1.out.os), HF4.out.tape.trans (HF3.out.tape.trans HB1.out.tape), HF4.out.output.trans (HF3.out.output.trans HB1.out.output), Nat.le_trans HB1.out.size (Nat.le_trans HF3.out.size HF4.out.size), fun k hk => ?_⟩
        have hk1 := Nat.lt_of_lt_of_le hk HB1.out.size
        rw [HF4.out.block k (Nat.lt_of_lt_of_le hk1 HF3.out.size) (by simp; omega), HF3.out.block k hk1 (by have := HXv.out; have := HS1.out; simp; try omega)]
        exact HB1.out.block k hk

    · have x2 : w2.cell? ⟨X, 2, none⟩ = some (.int .i64 fr) := by rw [cell_of_row _ _ _ _ _ _ HR2.out, HL.out]; rfl
      have x3 : w2.cell? ⟨X, 3, none⟩ = some (.int .i64 tg) := by rw [cell_of_row _ _ _ _ _ _ HR2.out, HL.out]; rfl
      have x13 : w2.cell? ⟨X, 13, none⟩ = some (.int .i64 fr) := by rw [cell_of_row _ _ _ _ _ _ HR2.out, HL.out]; rfl
      have x14 : w2.cell? ⟨X, 14, none⟩ = some (.int .i64 tg) := by rw [cell_of_row _ _ _ _ _ _ HR2.out, HL.out]; rfl
      have f2 := frozen_of_row w2 X 2 _ _ HR2.out
      have f3 := frozen_of_row w2 X 3 _ _ HR2.out
      have f13 := frozen_of_row w2 X 13 _ _ HR2.out
      have f14 := frozen_of_row w2 X 14 _ _ HR2.out
      go_wp2_with (with_reducible refine halt_at (.load 57 (.tmp 10)) rfl ?_)
      refine ⟨?_⟩
      have HR3 := heap_setCell_same _ X 14 _ _ (.int .i64 num) (heap_setCell_same _ X 13 _ _ (.int .i64 id) (heap_setCell_same _ X 3 _ _ (.int .i64 gp) (heap_setCell_same _ X 2 _ _ (.int .i64 (wrap64 (-id))) HR2.out)))
      have HF3 := Aside.mk (show FC [X] w1 _ from ((((HF2.out.sub (S' := [X]) (by simp)).setCell (p := ⟨X, 2, none⟩) (.inl (by simp)) (.int .i64 (wrap64 (-id)))).setCell (p := ⟨X, 3, none⟩) (.inl (by simp)) (.int .i64 gp)).setCell (p := ⟨X, 13, none⟩) (.inl (by simp)) (.int .i64 id)).setCell (p := ⟨X, 14, none⟩) (.inl (by simp)) (.int .i64 num))
      have HZ3 := (HF3.out.block (w.heap.size + 1) (by have := HS1.out; omega) (by have := HXv.out; have := HS1.out; simp; omega)).trans HZ1.out
      clear x2 x3 x13 x14 f2 f3 f13 f14 z4 HR2 HF2 HZ2
      rw [HL.out] at HR3
      simp only [List.setIfInBounds_toArray, List.set_cons_succ, List.set_cons_zero] at HR3
      generalize World.setCell (World.setCell (World.setCell _ _ _) _ _) ⟨X, 14, none⟩ _ = w3 at HR3 HF3 HZ3 ⊢
      obtain ⟨L2, hL2⟩ : ∃ L2 : List Value, L2 = [.int .i64 3, .int .i64 0, .int .i64 (wrap64 (-id)), .int .i64 gp, .int .i64 0, .int .i64 0, .int .i64 0, .int .i64 0, .int .i64 0, .int .i64 0, .slice none 0 0, .slice none 0 0, .int .i64 0, .int .i64 id, .int .i64 num, .int .i64 0, .int .i64 0, .string ⟨#[]⟩, .string ⟨#[]⟩, .string ⟨#[]⟩, .string ⟨#[]⟩, .int .i64 0, .int .i64 0, .int .i64 0, .string ⟨#[]⟩, .int .i64 0, .int .i64 0, .int .i64 0, .int .i64 0, .int .i64 0, .slice none 0 0, .int .i64 er, .int .i64 0, .int .i64 tg, .slice none 0 0, .slice A1 m c1, .slice none 0 0, .int .i64 0, .slice none 0 0, .slice none 0 0] := ⟨_, rfl⟩
      have HL2 := Aside.mk hL2
      have HL2l := Aside.mk (show L2.length = 40 by rw [hL2]; rfl)
      have HL21 := Aside.mk (show (L2.toArray.all (·.oneCell')) = true by rw [hL2]; simp [Value.oneCell'])
      rw [← hL2] at HR3
      clear hL2

      refine wpList_load_mid rfl 57 (.tmp 10) rfl X 0 rfl L2 _ (range_row HR3) Try.underlying57 rfl (by rw [HL2l.out]; kernel_rfl) ?_
      refine wpList_store_mid rfl 57 (.tmp 8) (.tmp 49) rfl (w.heap.size + 1) 0 L2.toArray rfl rfl (there_row HZ3 _ (by rw [List.size_toArray, HL2l.out]; rfl)) (by rw [List.size_toArray, HL2l.out]; kernel_rfl) HL21.out ?_
      have HR4 := fill_row HZ3 L2 (by rw [HL2l.out]; rfl)
      have HF4 : FC [w.heap.size + 1] w3 (w3.setCells (w.heap.size + 1) 0 L2) := FC.setCells (.inl (by simp)) _ _ _ (FC.refl _ _)
      dsimp only
      generalize World.setCells w3 _ _ _ = w4 at HR4 HF4 ⊢
      have HR4 := Aside.mk HR4
      have HF4 := Aside.mk HF4
      clear HR3 HZ3
      go_wp2
      refine bodyPost_ret (v := .agg L2.toArray) (results_cell _ _ 8 57 ⟨w.heap.size + 1, 0, none⟩ _ w4 (by kernel_rfl) rfl (run_loadVar_mid w4 (w.heap.size + 1) 0 57 L2 _ (range_row HR4.out) Try.underlying57 rfl (by rw [HL2l.out]; kernel_rfl))) rfl ?_
      refine ⟨.slice A1 m c1, by rw [HL2.out]; rfl, ?_, ?_⟩
      · have hb3 : Below w1.heap.size w1 w3 := ⟨HF3.out.os, HF3.out.tape, HF3.out.output, HF3.out.size, fun k hk => HF3.out.block k hk (by have := HXv.out; simp; omega)⟩
        exact Kd.R_lower (R_fc (Kd.R_below HR1.out hb3) HF4.out (fun k hk => by have := (show k = w.heap.size + 1 from by simpa using hk); omega)) (by omega)
      · refine ⟨HF4.out.os.trans (HF3.out.os.trans HB1.out.os), HF4.out.tape.trans (HF3.out.tape.trans HB1.out.tape), HF4.out.output.trans (HF3.out.output.trans HB1.out.output), Nat.le_trans HB1.out.size (Nat.le_trans HF3.out.size HF4.out.size), fun k hk => ?_⟩
        have hk1 := Nat.lt_of_lt_of_le hk HB1.out.size
        rw [HF4.out.block k (Nat.lt_of_lt_of_le hk1 HF3.out.size) (by simp; omega), HF3.out.block k hk1 (by have := HXv.out; have := HS1.out; simp; try omega)]
        exact HB1.out.block k hk


  · have h8' : 8 ≤ c := by omega
    have HT8 := Aside.mk (show Kd.C Kd.string _ (some a) 8 (l.take 8) from by
      have := Kd.C_take (m := 8) HC3.out (by omega)
      rwa [List.length_take, Nat.min_eq_left (by omega)] at this)
    go_enter Try.func11, Try.ntmps11
    go_wp2_with (with_reducible refine halt_at (.call { callee := .builtin .append, args := #[.tmp 11, .tmp 18], argTypes := #[24, 24] }) rfl ?_)
    all_goals refine ⟨?_⟩
    refine wpList_appendS rfl (.tmp 11) (.tmp 18) rfl (w.heap.size + 1 + 1) (.slice (some ⟨w.heap.size + 1 + 1, 0, none⟩) 0 0) [] (l.take 8) (some a) 8 c rfl rfl HE.out HT8.out (by simp) (by simp) (fun v1 w1 h1 hg1 => ?_)
    obtain ⟨A1, m, c1, rfl, HR1, HB1, HX1, HZ1, HS1⟩ := HT.out v1 w1 (by simpa using h1) hg1
    clear h1 hg1 HT HE HC3 HB0 HC HT8

    obtain ⟨L, hL⟩ : ∃ L : List Value, L = [.int .i64 3, .int .i64 0, .int .i64 fr, .int .i64 tg, .int .i64 0, .int .i64 0, .int .i64 0, .int .i64 0, .int .i64 0, .int .i64 0, .slice none 0 0, .slice none 0 0, .int .i64 0, .int .i64 fr, .int .i64 tg, .int .i64 0, .int .i64 0, .string ⟨#[]⟩, .string ⟨#[]⟩, .string ⟨#[]⟩, .string ⟨#[]⟩, .int .i64 0, .int .i64 0, .int .i64 0, .string ⟨#[]⟩, .int .i64 0, .int .i64 0, .int .i64 0, .int .i64 0, .int .i64 0, .slice none 0 0, .int .i64 er, .int .i64 0, .int .i64 tg, .slice none 0 0, .slice A1 m c1, .slice none 0 0, .int .i64 0, .slice none 0 0, .slice none 0 0] := ⟨_, rfl⟩
    have HBd := Aside.mk (show Try.prog.built 57 [(0, .int .i64 3), (2, .int .i64 fr), (3, .int .i64 tg), (5, .agg #[.int .i64 0, .int .i64 fr, .int .i64 tg, .int .i64 0, .int .i64 0, .string ⟨#[]⟩, .string ⟨#[]⟩, .string ⟨#[]⟩, .string ⟨#[]⟩, .int .i64 0, .int .i64 0, .int .i64 0, .string ⟨#[]⟩, .int .i64 0, .int .i64 0, .int .i64 0, .int .i64 0, .int .i64 0, .slice none 0 0]), (6, .agg #[.int .i64 er, .int .i64 0, .int .i64 tg, .slice none 0 0, .slice A1 m c1, .slice none 0 0])] = some L.toArray by rw [hL]; kernel_rfl)
    have hLl : L.length = 40 := by rw [hL]; rfl
    have HL := Aside.mk hL
    have HLl := Aside.mk hLl
    have HI := Aside.mk (show (Try.prog.info? 57).map (·.size) = some L.toArray.size by rw [List.size_toArray, hLl]; kernel_rfl)
    have HL1 := Aside.mk (show (L.toArray.all (·.oneCell')) = true by rw [hL]; simp [Value.oneCell'])
    have y1 : w1.cell? ⟨w.heap.size, 1, none⟩ = some (.int .i64 fr) := by rw [cell_of_row _ _ _ _ _ _ HX1.out]; rfl
    have y2 : w1.cell? ⟨w.heap.size, 2, none⟩ = some (.int .i64 tg) := by rw [cell_of_row _ _ _ _ _ _ HX1.out]; rfl
    have y3 : w1.cell? ⟨w.heap.size, 3, none⟩ = some (.int .i64 er) := by rw [cell_of_row _ _ _ _ _ _ HX1.out]; rfl
    clear hL hLl
    go_wp2_with (with_reducible refine halt_at (.build 57 _) rfl ?_)
    refine ⟨?_⟩
    refine wpList_buildL rfl 57 _ rfl L.toArray _ (by simp [Act.eval]) HBd.out ?_
    go_wp2_with (with_reducible refine halt_at (.store 57 (.tmp 10) (.tmp 35)) rfl ?_)
    refine ⟨?_⟩
    have HBO := box_of w1 57 #[.int .i64 0, .int .i64 0, .int .i64 0, .int .i64 0, .int .i64 0, .int .i64 0, .int .i64 0, .int .i64 0, .int .i64 0, .int .i64 0, .slice none 0 0, .slice none 0 0, .int .i64 0, .int .i64 0, .int .i64 0, .int .i64 0, .int .i64 0, .string ⟨#[]⟩, .string ⟨#[]⟩, .string ⟨#[]⟩, .string ⟨#[]⟩, .int .i64 0, .int .i64 0, .int .i64 0, .string ⟨#[]⟩, .int .i64 0, .int .i64 0, .int .i64 0, .int .i64 0, .int .i64 0, .slice none 0 0, .int .i64 0, .int .i64 0, .int .i64 0, .slice none 0 0, .slice none 0 0, .slice none 0 0, .int .i64 0, .slice none 0 0, .slice none 0 0] L (by rw [HLl.out]; rfl)
    refine wpList_store_mid rfl 57 (.tmp 10) (.tmp 35) rfl w1.heap.size 0 L.toArray rfl rfl (by rw [List.size_toArray]; exact HBO.2.2.1) HI.out HL1.out ?_
    have HR2 : ((w1.alloc (.cells #[.int .i64 0, .int .i64 0, .int .i64 0, .int .i64 0, .int .i64 0, .int .i64 0, .int .i64 0, .int .i64 0, .int .i64 0, .int .i64 0, .slice none 0 0, .slice none 0 0, .int .i64 0, .int .i64 0, .int .i64 0, .int .i64 0, .int .i64 0, .string ⟨#[]⟩, .string ⟨#[]⟩, .string ⟨#[]⟩, .string ⟨#[]⟩, .int .i64 0, .int .i64 0, .int .i64 0, .string ⟨#[]⟩, .int .i64 0, .int .i64 0, .int .i64 0, .int .i64 0, .int .i64 0, .slice none 0 0, .int .i64 0, .int .i64 0, .int .i64 0, .slice none 0 0, .slice none 0 0, .slice none 0 0, .int .i64 0, .slice none 0 0, .slice none 0 0] 57)).setCells w1.heap.size 0 L).heap[w1.heap.size]? = some (.cells L.toArray 57 (0, 0)) := HBO.1
    have HF2 : FC [] w1 ((w1.alloc (.cells #[.int .i64 0, .int .i64 0, .int .i64 0, .int .i64 0, .int .i64 0, .int .i64 0, .int .i64 0, .int .i64 0, .int .i64 0, .int .i64 0, .slice none 0 0, .slice none 0 0, .int .i64 0, .int .i64 0, .int .i64 0, .int .i64 0, .int .i64 0, .string ⟨#[]⟩, .string ⟨#[]⟩, .string ⟨#[]⟩, .string ⟨#[]⟩, .int .i64 0, .int .i64 0, .int .i64 0, .string ⟨#[]⟩, .int .i64 0, .int .i64 0, .int .i64 0, .int .i64 0, .int .i64 0, .slice none 0 0, .int .i64 0, .int .i64 0, .int .i64 0, .slice none 0 0, .slice none 0 0, .slice none 0 0, .int .i64 0, .slice none 0 0, .slice none 0 0] 57)).setCells w1.heap.size 0 L) := HBO.2.1
    clear HBO y1 y2 y3 HBd
    dsimp only at HR2 HF2 ⊢
    obtain ⟨X, hX⟩ : ∃ X, X = w1.heap.size := ⟨_, rfl⟩
    rw [← hX] at HR2 HF2 ⊢
    generalize World.setCells (World.alloc w1 _) _ _ _ = w2 at HR2 HF2 ⊢

    have z4 : w2.cell? ⟨w.heap.size, 4, none⟩ = some (.bool own) := by rw [cell_of_row _ _ _ _ _ _ ((HF2.block _ (by have := HS1.out; omega) (by simp)).trans HX1.out)]; rfl
    have HZ2 := Aside.mk ((HF2.block (w.heap.size + 1) (by have := HS1.out; omega) (by simp)).trans HZ1.out)
    have HXv := Aside.mk hX
    have HR2 := Aside.mk HR2
    have HF2 := Aside.mk HF2
    clear hX
    cases own
    · go_wp2_with (with_reducible refine halt_at (.load 57 (.tmp 10)) rfl ?_)
      refine ⟨?_⟩
      have HR3 := HR2.out
      have HZ3 := HZ2.out
      obtain ⟨w3, hw3⟩ : ∃ w3, w3 = w2 := ⟨_, rfl⟩
      have HF3 : Aside (FC [X] w1 w3) := ⟨by rw [hw3]; exact HF2.out.sub (by simp)⟩
      rw [← hw3] at HR3 HZ3 ⊢
      obtain ⟨L2, hL2⟩ : ∃ L2, L2 = L := ⟨_, rfl⟩
      have HL2 : Aside (L2 = [.int .i64 3, .int .i64 0, .int .i64 fr, .int .i64 tg, .int .i64 0, .int .i64 0, .int .i64 0, .int .i64 0, .int .i64 0, .int .i64 0, .slice none 0 0, .slice none 0 0, .int .i64 0, .int .i64 fr, .int .i64 tg, .int .i64 0, .int .i64 0, .string ⟨#[]⟩, .string ⟨#[]⟩, .string ⟨#[]⟩, .string ⟨#[]⟩, .int .i64 0, .int .i64 0, .int .i64 0, .string ⟨#[]⟩, .int .i64 0, .int .i64 0, .int .i64 0, .int .i64 0, .int .i64 0, .slice none 0 0, .int .i64 er, .int .i64 0, .int .i64 tg, .slice none 0 0, .slice A1 m c1, .slice none 0 0, .int .i64 0, .slice none 0 0, .slice none 0 0]) := ⟨hL2.trans HL.out⟩
      have HL2l : Aside (L2.length = 40) := ⟨by rw [hL2]; exact HLl.out⟩
      have HL21 : Aside ((L2.toArray.all (·.oneCell')) = true) := ⟨by rw [hL2]; exact HL1.out⟩
      rw [← hL2] at HR3
      clear HR2 HF2 HZ2 hw3 hL2 z4

      refine wpList_load_mid rfl 57 (.tmp 10) rfl X 0 rfl L2 _ (range_row HR3) Try.underlying57 rfl (by rw [HL2l.out]; kernel_rfl) ?_
      refine wpList_store_mid rfl 57 (.tmp 8) (.tmp 49) rfl (w.heap.size + 1) 0 L2.toArray rfl rfl (there_row HZ3 _ (by rw [List.size_toArray, HL2l.out]; rfl)) (by rw [List.size_toArray, HL2l.out]; kernel_rfl) HL21.out ?_
      have HR4 := fill_row HZ3 L2 (by rw [HL2l.out]; rfl)
      have HF4 : FC [w.heap.size + 1] w3 (w3.setCells (w.heap.size + 1) 0 L2) := FC.setCells (.inl (by simp)) _ _ _ (FC.refl _ _)
      dsimp only
      generalize World.setCells w3 _ _ _ = w4 at HR4 HF4 ⊢
      have HR4 := Aside.mk HR4
      have HF4 := Aside.mk HF4
      clear HR3 HZ3
      go_wp2
      refine bodyPost_ret (v := .agg L2.toArray) (results_cell _ _ 8 57 ⟨w.heap.size + 1, 0, none⟩ _ w4 (by kernel_rfl) rfl (run_loadVar_mid w4 (w.heap.size + 1) 0 57 L2 _ (range_row HR4.out) Try.underlying57 rfl (by rw [HL2l.out]; kernel_rfl))) rfl ?_
      refine ⟨.slice A1 m c1, by rw [HL2.out]; rfl, ?_, ?_⟩
      · have hb3 : Below w1.heap.size w1 w3 := ⟨HF3.out.os, HF3.out.tape, HF3.out.output, HF3.out.size, fun k hk => HF3.out.block k hk (by have := HXv.out; simp; omega)⟩
        exact Kd.R_lower (R_fc (Kd.R_below HR1.out hb3) HF4.out (fun k hk => by have := (show k = w.heap.size + 1 from by simpa using hk); omega)) (by omega)
      · refine ⟨HF4.out.os.trans (HF3.out.os.trans HB1.out.os), HF4.out.tape.trans (HF3.out.tape.trans HB1.out.tape), HF4.out.output.trans (HF3.out.output.trans HB1.out.output), Nat.le_trans HB1.out.size (Nat.le_trans HF3.out.size HF4.out.size), fun k hk => ?_⟩
        have hk1 := Nat.lt_of_lt_of_le hk HB1.out.size
        rw [HF4.out.block k (Nat.lt_of_lt_of_le hk1 HF3.out.size) (by simp; omega), HF3.out.block k hk1 (by have := HXv.out; have := HS1.out; simp; try omega)]
        exact HB1.out.block k hk

    · have x2 : w2.cell? ⟨X, 2, none⟩ = some (.int .i64 fr) := by rw [cell_of_row _ _ _ _ _ _ HR2.out, HL.out]; rfl
      have x3 : w2.cell? ⟨X, 3, none⟩ = some (.int .i64 tg) := by rw [cell_of_row _ _ _ _ _ _ HR2.out, HL.out]; rfl
      have x13 : w2.cell? ⟨X, 13, none⟩ = some (.int .i64 fr) := by rw [cell_of_row _ _ _ _ _ _ HR2.out, HL.out]; rfl
      have x14 : w2.cell? ⟨X, 14, none⟩ = some (.int .i64 tg) := by rw [cell_of_row _ _ _ _ _ _ HR2.out, HL.out]; rfl
      have f2 := frozen_of_row w2 X 2 _ _ HR2.out
      have f3 := frozen_of_row w2 X 3 _ _ HR2.out
      have f13 := frozen_of_row w2 X 13 _ _ HR2.out
      have f14 := frozen_of_row w2 X 14 _ _ HR2.out
      go_wp2_with (with_reducible refine halt_at (.load 57 (.tmp 10)) rfl ?_)
      refine ⟨?_⟩
      have HR3 := heap_setCell_same _ X 14 _ _ (.int .i64 num) (heap_setCell_same _ X 13 _ _ (.int .i64 id) (heap_setCell_same _ X 3 _ _ (.int .i64 gp) (heap_setCell_same _ X 2 _ _ (.int .i64 (wrap64 (-id))) HR2.out)))
      have HF3 := Aside.mk (show FC [X] w1 _ from ((((HF2.out.sub (S' := [X]) (by simp)).setCell (p := ⟨X, 2, none⟩) (.inl (by simp)) (.int .i64 (wrap64 (-id)))).setCell (p := ⟨X, 3, none⟩) (.inl (by simp)) (.int .i64 gp)).setCell (p := ⟨X, 13, none⟩) (.inl (by simp)) (.int .i64 id)).setCell (p := ⟨X, 14, none⟩) (.inl (by simp)) (.int .i64 num))
      have HZ3 := (HF3.out.block (w.heap.size + 1) (by have := HS1.out; omega) (by have := HXv.out; have := HS1.out; simp; omega)).trans HZ1.out
      clear x2 x3 x13 x14 f2 f3 f13 f14 z4 HR2 HF2 HZ2
      rw [HL.out] at HR3
      simp only [List.setIfInBounds_toArray, List.set_cons_succ, List.set_cons_zero] at HR3
      generalize World.setCell (World.setCell (World.setCell _ _ _) _ _) ⟨X, 14, none⟩ _ = w3 at HR3 HF3 HZ3 ⊢
      obtain ⟨L2, hL2⟩ : ∃ L2 : List Value, L2 = [.int .i64 3, .int .i64 0, .int .i64 (wrap64 (-id)), .int .i64 gp, .int .i64 0, .int .i64 0, .int .i64 0, .int .i64 0, .int .i64 0, .int .i64 0, .slice none 0 0, .slice none 0 0, .int .i64 0, .int .i64 id, .int .i64 num, .int .i64 0, .int .i64 0, .string ⟨#[]⟩, .string ⟨#[]⟩, .string ⟨#[]⟩, .string ⟨#[]⟩, .int .i64 0, .int .i64 0, .int .i64 0, .string ⟨#[]⟩, .int .i64 0, .int .i64 0, .int .i64 0, .int .i64 0, .int .i64 0, .slice none 0 0, .int .i64 er, .int .i64 0, .int .i64 tg, .slice none 0 0, .slice A1 m c1, .slice none 0 0, .int .i64 0, .slice none 0 0, .slice none 0 0] := ⟨_, rfl⟩
      have HL2 := Aside.mk hL2
      have HL2l := Aside.mk (show L2.length = 40 by rw [hL2]; rfl)
      have HL21 := Aside.mk (show (L2.toArray.all (·.oneCell')) = true by rw [hL2]; simp [Value.oneCell'])
      rw [← hL2] at HR3
      clear hL2

      refine wpList_load_mid rfl 57 (.tmp 10) rfl X 0 rfl L2 _ (range_row HR3) Try.underlying57 rfl (by rw [HL2l.out]; kernel_rfl) ?_
      refine wpList_store_mid rfl 57 (.tmp 8) (.tmp 49) rfl (w.heap.size + 1) 0 L2.toArray rfl rfl (there_row HZ3 _ (by rw [List.size_toArray, HL2l.out]; rfl)) (by rw [List.size_toArray, HL2l.out]; kernel_rfl) HL21.out ?_
      have HR4 := fill_row HZ3 L2 (by rw [HL2l.out]; rfl)
      have HF4 : FC [w.heap.size + 1] w3 (w3.setCells (w.heap.size + 1) 0 L2) := FC.setCells (.inl (by simp)) _ _ _ (FC.refl _ _)
      dsimp only
      generalize World.setCells w3 _ _ _ = w4 at HR4 HF4 ⊢
      have HR4 := Aside.mk HR4
      have HF4 := Aside.mk HF4
      clear HR3 HZ3
      go_wp2
      refine bodyPost_ret (v := .agg L2.toArray) (results_cell _ _ 8 57 ⟨w.heap.size + 1, 0, none⟩ _ w4 (by kernel_rfl) rfl (run_loadVar_mid w4 (w.heap.size + 1) 0 57 L2 _ (range_row HR4.out) Try.underlying57 rfl (by rw [HL2l.out]; kernel_rfl))) rfl ?_
      refine ⟨.slice A1 m c1, by rw [HL2.out]; rfl, ?_, ?_⟩
      · have hb3 : Below w1.heap.size w1 w3 := ⟨HF3.out.os, HF3.out.tape, HF3.out.output, HF3.out.size, fun k hk => HF3.out.block k hk (by have := HXv.out; simp; omega)⟩
        exact Kd.R_lower (R_fc (Kd.R_below HR1.out hb3) HF4.out (fun k hk => by have := (show k = w.heap.size + 1 from by simpa using hk); omega)) (by omega)
      · refine ⟨HF4.out.os.trans (HF3.out.os.trans HB1.out.os), HF4.out.tape.trans (HF3.out.tape.trans HB1.out.tape), HF4.out.output.trans (HF3.out.output.trans HB1.out.output), Nat.le_trans HB1.out.size (Nat.le_trans HF3.out.size HF4.out.size), fun k hk => ?_⟩
        have hk1 := Nat.lt_of_lt_of_le hk HB1.out.size
        rw [HF4.out.block k (Nat.lt_of_lt_of_le hk1 HF3.out.size) (by simp; omega), HF3.out.block k hk1 (by have := HXv.out; have := HS1.out; simp; try omega)]
        exact HB1.out.block k hk


end Go.Proofs.Ytmepeolejlpehaa

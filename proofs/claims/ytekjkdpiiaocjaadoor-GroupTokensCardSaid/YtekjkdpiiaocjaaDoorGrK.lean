/- GroupTokens: the story, its acts. Conditions: where the acts lie. -/
import Derived.Test.YtekjkdpiiaocjaaDoorGrJ
namespace Go.Proofs.YtekjkdpiiaocjaaDoor
open Go.RowKit Go.Maps Go.Proofs.YtekjkdpiiaocjaaDoorW.PrintWords Go.Proofs.YtekjkdpiiaocjaaDoorW.PrintLast Go.Proofs.YtekjkdpiiaocjaaDoorW.PrintMore
/-- An act, as it lies in memory. -/
structure ActT where
  kind : Int
  n : Int
  secs : Int
  wait : Int
  body : ByteArray
  token : ByteArray
def ActT.cells (m : ActT) : List Value := [.int .i64 m.kind, .int .i64 m.n, .int .i64 m.secs, .int .i64 m.wait, .string m.body, .string m.token]
def actK : Kd ActT := plainK 6 ActT.cells (fun _ => rfl) (fun x u hu => by simp [ActT.cells] at hu; rcases hu with rfl | rfl | rfl | rfl | rfl | rfl <;> rfl)
theorem act_at {W : World} {A : Option Addr} {l : List ActT} (h : actK.C W A l.length l) (i : Nat) (x : ActT) (hx : l[i]? = some x) : ∃ a, A = some a ∧ W.cell? (a.add (i * 6)) = some (.int .i64 x.kind) ∧ W.cell? ⟨(a.add (i * 6)).block, (a.add (i * 6)).off + 1, none⟩ = some (.int .i64 x.n) ∧ W.cell? ⟨(a.add (i * 6)).block, (a.add (i * 6)).off + 2, none⟩ = some (.int .i64 x.secs) ∧ W.cell? ⟨(a.add (i * 6)).block, (a.add (i * 6)).off + 3, none⟩ = some (.int .i64 x.wait) ∧ W.cell? ⟨(a.add (i * 6)).block, (a.add (i * 6)).off + 4, none⟩ = some (.string x.body) ∧ W.cell? ⟨(a.add (i * 6)).block, (a.add (i * 6)).off + 5, none⟩ = some (.string x.token) := by
  have hlt := (List.getElem?_eq_some_iff.1 hx).1
  obtain ⟨a, e, hc⟩ := h.2.2 (by omega)
  obtain ⟨c, _, h2, h3⟩ := hc i x hx
  have h2 : c = x.cells := h2
  subst h2
  have key : ∀ j u, x.cells[j]? = some u → W.cell? ((a.add (i * 6)).add j) = some u := fun j u hu => by
    have := h3 j u hu
    rw [show actK.sz = 6 from rfl, ← Addr.add_add] at this
    exact this
  exact ⟨a, e, key 0 _ rfl, key 1 _ rfl, key 2 _ rfl, key 3 _ rfl, key 4 _ rfl, key 5 _ rfl⟩
/-- The story's block. -/
def SB (w : World) (X : Nat) (next : Int) (vk vm : Value) (att : ByteArray) (now : Int) (vg : Value) (b1 b2 : Nat) : Prop := w.heap[X]? = some (.cells #[.int .i64 next, vk, vm, .string att, .int .i64 now, vg, .map (some b1), .map (some b2)] 42 (0, 0))
section
variable {w w' : World} {X : Nat} {next now : Int} {vk vm vg : Value} {att : ByteArray} {b1 b2 : Nat}
theorem SB.lt (h : SB w X next vk vm att now vg b1 b2) : X < w.heap.size := (Array.getElem?_eq_some_iff.1 h).1
theorem SB.cells (h : SB w X next vk vm att now vg b1 b2) : w.cell? ⟨X, 0, none⟩ = some (.int .i64 next) ∧ w.cell? ⟨X, 1, none⟩ = some vk ∧ w.cell? ⟨X, 2, none⟩ = some vm ∧ w.cell? ⟨X, 3, none⟩ = some (.string att) ∧ w.cell? ⟨X, 4, none⟩ = some (.int .i64 now) ∧ w.cell? ⟨X, 5, none⟩ = some vg ∧ w.cell? ⟨X, 6, none⟩ = some (.map (some b1)) ∧ w.cell? ⟨X, 7, none⟩ = some (.map (some b2)) ∧ ∀ k, w.frozen? ⟨X, k, none⟩ = false :=
  ⟨by rw [cell_of_row _ _ _ _ _ _ h]; rfl, by rw [cell_of_row _ _ _ _ _ _ h]; rfl, by rw [cell_of_row _ _ _ _ _ _ h]; rfl, by rw [cell_of_row _ _ _ _ _ _ h]; rfl, by rw [cell_of_row _ _ _ _ _ _ h]; rfl, by rw [cell_of_row _ _ _ _ _ _ h]; rfl, by rw [cell_of_row _ _ _ _ _ _ h]; rfl, by rw [cell_of_row _ _ _ _ _ _ h]; rfl, fun k => frozen_of_row w X k _ _ h⟩
theorem SB.fc {S : List Nat} (h : SB w X next vk vm att now vg b1 b2) (f : FC S w w') (hX : X ∉ S) : SB w' X next vk vm att now vg b1 b2 := (f.block X h.lt hX).trans h
theorem SB.putNow (h : SB w X next vk vm att now vg b1 b2) (x : Int) : SB (w.setCell ⟨X, 4, none⟩ (.int .i64 x)) X next vk vm att x vg b1 b2 ∧ FC [X] w (w.setCell ⟨X, 4, none⟩ (.int .i64 x)) := by
  have h4 := heap_setCell_same w X 4 _ _ (.int .i64 x) h
  simp only [List.setIfInBounds_toArray, List.set_cons_succ, List.set_cons_zero] at h4
  exact ⟨h4, (FC.refl [X] w).setCell (p := ⟨X, 4, none⟩) (.inl (by simp)) _⟩
theorem SB.range (h : SB w X next vk vm att now vg b1 b2) : w.rangeAt X 0 [.int .i64 next, vk, vm, .string att] := fun j v hj => by
  obtain ⟨x0, x1, x2, x3, _⟩ := h.cells
  match j, hj with
  | 0, hj => simp at hj; subst hj; exact x0
  | 1, hj => simp at hj; subst hj; exact x1
  | 2, hj => simp at hj; subst hj; exact x2
  | 3, hj => simp at hj; subst hj; exact x3
theorem SB.there (h : SB w X next vk vm att now vg b1 b2) : w.there X 0 4 := fun j hj => by
  obtain ⟨x0, x1, x2, x3, _, _, _, _, xf⟩ := h.cells
  refine ⟨?_, by simpa using xf j⟩
  have : j = 0 ∨ j = 1 ∨ j = 2 ∨ j = 3 := by omega
  rcases this with rfl | rfl | rfl | rfl
  · simp [x0]
  · simp [x1]
  · simp [x2]
  · simp [x3]
theorem SB.putG (h : SB w X next vk vm att now vg b1 b2) (next' : Int) (vk' vm' : Value) (att' : ByteArray) : SB (w.setCells X 0 [.int .i64 next', vk', vm', .string att']) X next' vk' vm' att' now vg b1 b2 ∧ FC [X] w (w.setCells X 0 [.int .i64 next', vk', vm', .string att']) := by
  have h4 := heap_setCell_same _ X 3 _ _ (.string att') (heap_setCell_same _ X 2 _ _ vm' (heap_setCell_same _ X 1 _ _ vk' (heap_setCell_same w X 0 _ _ (.int .i64 next') h)))
  simp only [List.setIfInBounds_toArray, List.set_cons_succ, List.set_cons_zero] at h4
  exact ⟨h4, FC.setCells (.inl (by simp)) _ _ _ (FC.refl _ _)⟩
theorem SB.loadG (h : SB w X next vk vm att now vg b1 b2) {o : Oper} {a : Act} {K : Act → World → Prop} {Q : Exit → Act → World → Prop} (x : Operand) (ho : o.op = .load 25 x) (hx : a.eval x = .pointer (some ⟨X, 0, none⟩))
    (hk : K (a.put o.dst (.agg #[.int .i64 next, vk, vm, .string att])) w) : o.wp Tryd.prog a w K Q :=
  wp_load_mid 25 x ho X 0 hx [.int .i64 next, vk, vm, .string att] _ h.range Tryd.underlying25 (by rfl) (by kernel_rfl) hk
theorem SB.storeG (h : SB w X next vk vm att now vg b1 b2) {o : Oper} {a : Act} {K : Act → World → Prop} {Q : Exit → Act → World → Prop} (x y : Operand) (ho : o.op = .store 25 x y) (hx : a.eval x = .pointer (some ⟨X, 0, none⟩)) (next' : Int) (vk' vm' : Value) (att' : ByteArray) (hy : a.eval y = .agg #[.int .i64 next', vk', vm', .string att']) (h1 : vk'.oneCell' = true) (h2 : vm'.oneCell' = true)
    (hk : ∀ w', SB w' X next' vk' vm' att' now vg b1 b2 → FC [X] w w' → K (a.put o.dst undef) w') : o.wp Tryd.prog a w K Q :=
  wp_store_mid 25 x y ho X 0 #[.int .i64 next', vk', vm', .string att'] hx hy h.there (by kernel_rfl) (all_oneCell_toArray (cs := [.int .i64 next', vk', vm', .string att']) (fun v hv => by simp at hv; rcases hv with rfl | rfl | rfl | rfl; rfl; exact h1; exact h2; rfl)) (hk _ (h.putG next' vk' vm' att').1 (h.putG next' vk' vm' att').2)
end
theorem SB.storeL {w : World} {X : Nat} {next now : Int} {vk vm vg : Value} {att : ByteArray} {b1 b2 : Nat} (h : SB w X next vk vm att now vg b1 b2) {ops : Array Oper} {rest : List Oper} {o : Oper} {a : Act} {Q : Exit → Act → World → Prop} (hgd : o.guard = none) (x y : Operand) (ho : o.op = .store 25 x y) (hx : a.eval x = .pointer (some ⟨X, 0, none⟩)) (next' : Int) (vk' vm' : Value) (att' : ByteArray) (hy : a.eval y = .agg #[.int .i64 next', vk', vm', .string att']) (h1 : vk'.oneCell' = true) (h2 : vm'.oneCell' = true)
    (hk : ∀ w', SB w' X next' vk' vm' att' now vg b1 b2 → FC [X] w w' → wpList Tryd.prog ops Q rest (a.put o.dst undef) w') : wpList Tryd.prog ops Q (o :: rest) a w :=
  wpList_store_mid hgd 25 x y ho X 0 #[.int .i64 next', vk', vm', .string att'] hx hy h.there (by kernel_rfl) (all_oneCell_toArray (cs := [.int .i64 next', vk', vm', .string att']) (fun v hv => by simp at hv; rcases hv with rfl | rfl | rfl | rfl; rfl; exact h1; exact h2; rfl)) (hk _ (h.putG next' vk' vm' att').1 (h.putG next' vk' vm' att').2)
theorem oneCell_R {α : Type} {d : Kd α} {e base : Nat} {ok : Nat → Prop} {w : World} {v : Value} {l : List α} (h : d.R e w base ok v l) : v.oneCell' = true := by
  obtain ⟨A, c, rfl, _⟩ := Kd.R_reads h
  rfl
theorem alloc3 (w : World) (o1 o2 o3 : Obj) : Below w.heap.size w (((w.alloc o1).alloc o2).alloc o3) ∧ (((w.alloc o1).alloc o2).alloc o3).heap[w.heap.size]? = some o1 ∧ (((w.alloc o1).alloc o2).alloc o3).heap[w.heap.size + 1]? = some o2 ∧ (((w.alloc o1).alloc o2).alloc o3).heap[w.heap.size + 1 + 1]? = some o3 ∧ (((w.alloc o1).alloc o2).alloc o3).heap.size = w.heap.size + 1 + 1 + 1 := by
  have s1 : (w.alloc o1).heap.size = w.heap.size + 1 := by simp
  have s2 : ((w.alloc o1).alloc o2).heap.size = w.heap.size + 1 + 1 := by simp
  refine ⟨(((Below.refl _ _).alloc (Nat.le_refl _) _).alloc (by simp) _).alloc (by simp; omega) _, ?_, ?_, ?_, by simp⟩
  · rw [Below.heap_alloc _ _ _ (by omega), Below.heap_alloc _ _ _ (by omega)]; exact heap_alloc_new w _
  · rw [Below.heap_alloc _ _ _ (by omega), ← s1]; exact heap_alloc_new _ _
  · rw [← s2]; exact heap_alloc_new _ _
set_option maxHeartbeats 4000000 in
set_option maxRecDepth 100000 in
theorem T.begin (w : World) : Calls Tryd.prog 13 #[] w fun e w' => ∃ X b1 b2, e = .returned (.pointer (some ⟨X, 0, none⟩)) ∧ SB w' X 1 (.slice none 0 0) (.slice none 0 0) ⟨#[]⟩ 0 (.slice none 0 0) b1 b2 ∧ MapS w' b1 0 (fun _ => none) ∧ MapS w' b2 0 (fun _ => none) ∧ Below w.heap.size w w' ∧ w.heap.size ≤ b1 ∧ b1 < b2 ∧ b2 < X ∧ X < w'.heap.size := by
  have hmm := @run_makeMap Tryd.prog
  go_enter Tryd.func13, Tryd.ntmps13
  go_wp2_with fail
  have hcall := T.Fresh w
  simp only [grV] at hcall
  refine hcall.mono ?_
  clear hcall
  rintro e w1 ⟨rfl, hb1⟩
  have HB1 := Aside.mk hb1
  clear hb1
  go_wp2
  go_ret
  obtain ⟨h1, h2, h3, h4, h5⟩ := alloc3 w1 (.map #[] 0) (.map #[] 0) (.cells #[.int .i64 1, .slice none 0 0, .slice none 0 0, .string ⟨#[]⟩, .int .i64 0, .slice none 0 0, .map (some w1.heap.size), .map (some (w1.heap.size + 1))] 42)
  have hm1 := (MapS.made w1).fc (w' := ((w1.alloc (.map #[] 0)).alloc (.map #[] 0)).alloc (.cells #[.int .i64 1, .slice none 0 0, .slice none 0 0, .string ⟨#[]⟩, .int .i64 0, .slice none 0 0, .map (some w1.heap.size), .map (some (w1.heap.size + 1))] 42)) (S := []) (FC.of (((Below.refl _ _).alloc (Nat.le_refl _) _).alloc (by simp) _)) (by simp)
  have hm2 := (MapS.made (w1.alloc (.map #[] 0))).fc (w' := ((w1.alloc (.map #[] 0)).alloc (.map #[] 0)).alloc (.cells #[.int .i64 1, .slice none 0 0, .slice none 0 0, .string ⟨#[]⟩, .int .i64 0, .slice none 0 0, .map (some w1.heap.size), .map (some (w1.heap.size + 1))] 42)) (S := []) (FC.of ((Below.refl _ _).alloc (Nat.le_refl _) _)) (by simp)
  rw [show (w1.alloc (.map #[] 0)).heap.size = w1.heap.size + 1 by simp] at hm2
  exact ⟨w1.heap.size + 1 + 1, w1.heap.size, w1.heap.size + 1, rfl, h4, hm1, hm2, HB1.out.trans (h1.mono HB1.out.size), HB1.out.size, by omega, by omega, by rw [h5]; omega⟩
def vexp (X : Nat) (next now1 : Int) (A1 A2 : Option Addr) (n1 n2 c1 c2 : Nat) (g : Value × Value) (i : Nat) : Value := ([(.pointer (some ⟨X, 0, none⟩)), (.pointer (some ⟨X, 0, none⟩)), (.pointer (some ⟨X, 0, none⟩)), (.pointer (some ⟨X, 0, none⟩)), (.agg #[.int .i64 next, .slice A1 n1 c1, .slice A2 n2 c2, .string ⟨#[]⟩]), (.pointer (some ⟨X, 0, none⟩)), (.pointer (some ⟨X, 0, none⟩)), (.pointer (some ⟨X, 4, none⟩)), (.int .i64 now1), (.agg #[.int .i64 next, g.1, g.2, .string ⟨#[]⟩]), (.pointer (some ⟨X, 0, none⟩)), (.pointer (some ⟨X, 0, none⟩)), undef] : List Value).getD i undef
theorem vexp_9 (X : Nat) (next now1 : Int) (A1 A2 : Option Addr) (n1 n2 c1 c2 : Nat) (g g' : Value × Value) : ∀ j, j ≠ 9 → vexp X next now1 A1 A2 n1 n2 c1 c2 g' j = vexp X next now1 A1 A2 n1 n2 c1 c2 g j
  | 0, _ | 1, _ | 2, _ | 3, _ | 4, _ | 5, _ | 6, _ | 7, _ | 8, _ | 10, _ | 11, _ | 12, _ => rfl
  | 9, h => absurd rfl h
  | j + 13, _ => by simp [vexp]
def vtok (X Y bm n1 n2 c3 c4 : Nat) (A3 A4 : Option Addr) (next now1 sN sQ sE : Int) (body tk : ByteArray) (g : Value × Value × Nat) (i : Nat) : Value := ([(.pointer (some ⟨X, 0, none⟩)), (.pointer (some ⟨X, 0, none⟩)), (.pointer (some ⟨X, 0, none⟩)), (.agg #[.int .i64 next, .slice A3 n1 c3, .slice A4 n2 c4, .string ⟨#[]⟩]), (.pointer (some ⟨X, 0, none⟩)), (.pointer (some ⟨X, 0, none⟩)), (.pointer (some ⟨X, 4, none⟩)), (.int .i64 now1), (.pointer (some ⟨Y, 4, none⟩)), (.string body), (.pointer (some ⟨Y, 4, none⟩)), (.string body), (.int .i64 (body.size : Int)), (.int .i64 (bm : Int)), (.string (body.extract 0 bm)), (.string tk), (.tuple #[.agg #[.int .i64 sN, g.1, g.2.1, .string ⟨#[]⟩], .int .i64 sQ, .int .i64 sE]), (.tuple #[.agg #[.int .i64 sN, g.1, g.2.1, .string ⟨#[]⟩], .int .i64 sQ, .int .i64 sE]), (.agg #[.int .i64 sN, g.1, g.2.1, .string ⟨#[]⟩]), (.int .i64 sQ), (.int .i64 sE), (.pointer (some ⟨g.2.2, 0, none⟩)), undef, (.int .i64 sQ), (.int .i64 sE)] : List Value).getD i undef
theorem vtok_16 (X Y bm n1 n2 c3 c4 : Nat) (A3 A4 : Option Addr) (next now1 sN sQ sE : Int) (body tk : ByteArray) (g g' : Value × Value × Nat) (hg : g'.2.2 = g.2.2) : ∀ j, j ≠ 16 → j ≠ 17 → j ≠ 18 → vtok X Y bm n1 n2 c3 c4 A3 A4 next now1 sN sQ sE body tk g' j = vtok X Y bm n1 n2 c3 c4 A3 A4 next now1 sN sQ sE body tk g j
  | 0, _, _, _ => rfl
  | 1, _, _, _ => rfl
  | 2, _, _, _ => rfl
  | 3, _, _, _ => rfl
  | 4, _, _, _ => rfl
  | 5, _, _, _ => rfl
  | 6, _, _, _ => rfl
  | 7, _, _, _ => rfl
  | 8, _, _, _ => rfl
  | 9, _, _, _ => rfl
  | 10, _, _, _ => rfl
  | 11, _, _, _ => rfl
  | 12, _, _, _ => rfl
  | 13, _, _, _ => rfl
  | 14, _, _, _ => rfl
  | 15, _, _, _ => rfl
  | 19, _, _, _ => rfl
  | 20, _, _, _ => rfl
  | 22, _, _, _ => rfl
  | 23, _, _, _ => rfl
  | 24, _, _, _ => rfl
  | 21, _, _, _ => by simp [vtok, hg]
  | 16, h, _, _ => absurd rfl h
  | 17, _, h, _ => absurd rfl h
  | 18, _, _, h => absurd rfl h
  | j + 25, _, _, _ => by simp [vtok]
theorem vtok_21 (X Y bm n1 n2 c3 c4 : Nat) (A3 A4 : Option Addr) (next now1 sN sQ sE : Int) (body tk : ByteArray) (g g' : Value × Value × Nat) (h1 : g'.1 = g.1) (h2 : g'.2.1 = g.2.1) : ∀ j, j ≠ 21 → vtok X Y bm n1 n2 c3 c4 A3 A4 next now1 sN sQ sE body tk g' j = vtok X Y bm n1 n2 c3 c4 A3 A4 next now1 sN sQ sE body tk g j
  | 0, _ => rfl
  | 1, _ => rfl
  | 2, _ => rfl
  | 3, _ => rfl
  | 4, _ => rfl
  | 5, _ => rfl
  | 6, _ => rfl
  | 7, _ => rfl
  | 8, _ => rfl
  | 9, _ => rfl
  | 10, _ => rfl
  | 11, _ => rfl
  | 12, _ => rfl
  | 13, _ => rfl
  | 14, _ => rfl
  | 15, _ => rfl
  | 19, _ => rfl
  | 20, _ => rfl
  | 22, _ => rfl
  | 23, _ => rfl
  | 24, _ => rfl
  | 16, _ => by simp [vtok, h1, h2]
  | 17, _ => by simp [vtok, h1, h2]
  | 18, _ => by simp [vtok, h1, h2]
  | 21, h => absurd rfl h
  | j + 25, _ => by simp [vtok]
def vmap (X b1 b2 : Nat) (now1 sQ : Int) (tk : ByteArray) (g : (Value × Nat × Obj) × (Value × Nat × Obj)) (i : Nat) : Value := ([(.pointer (some ⟨X, 0, none⟩)), (.pointer (some ⟨X, 0, none⟩)), (.pointer (some ⟨X, 6, none⟩)), (.map (some b1)), (.string tk), (.pointer (some ⟨X, 0, none⟩)), (.pointer (some ⟨X, 0, none⟩)), (.pointer (some ⟨X, 7, none⟩)), (.map (some b2)), (.string tk), (.int .i64 sQ), (.pointer (some ⟨X, 0, none⟩)), (.pointer (some ⟨X, 0, none⟩)), (.pointer (some ⟨X, 4, none⟩)), (.int .i64 now1), (.tuple #[g.1.1, goInt g.1.2.1]), (goInt g.1.2.1), undef, (.tuple #[g.2.1, goInt g.2.2.1]), (goInt g.2.2.1), undef] : List Value).getD i undef
theorem vmap_15 (X b1 b2 : Nat) (now1 sQ : Int) (tk : ByteArray) (g g' : (Value × Nat × Obj) × (Value × Nat × Obj)) (hg : g'.2 = g.2) : ∀ j, j ≠ 15 → j ≠ 16 → vmap X b1 b2 now1 sQ tk g' j = vmap X b1 b2 now1 sQ tk g j
  | 0, _, _ => rfl
  | 1, _, _ => rfl
  | 2, _, _ => rfl
  | 3, _, _ => rfl
  | 4, _, _ => rfl
  | 5, _, _ => rfl
  | 6, _, _ => rfl
  | 7, _, _ => rfl
  | 8, _, _ => rfl
  | 9, _, _ => rfl
  | 10, _, _ => rfl
  | 11, _, _ => rfl
  | 12, _, _ => rfl
  | 13, _, _ => rfl
  | 14, _, _ => rfl
  | 17, _, _ => rfl
  | 20, _, _ => rfl
  | 18, _, _ => by simp [vmap, hg]
  | 19, _, _ => by simp [vmap, hg]
  | 15, h, _ => absurd rfl h
  | 16, _, h => absurd rfl h
  | j + 21, _, _ => by simp [vmap]
theorem vmap_18 (X b1 b2 : Nat) (now1 sQ : Int) (tk : ByteArray) (g g' : (Value × Nat × Obj) × (Value × Nat × Obj)) (hg : g'.1 = g.1) : ∀ j, j ≠ 18 → j ≠ 19 → vmap X b1 b2 now1 sQ tk g' j = vmap X b1 b2 now1 sQ tk g j
  | 0, _, _ => rfl
  | 1, _, _ => rfl
  | 2, _, _ => rfl
  | 3, _, _ => rfl
  | 4, _, _ => rfl
  | 5, _, _ => rfl
  | 6, _, _ => rfl
  | 7, _, _ => rfl
  | 8, _, _ => rfl
  | 9, _, _ => rfl
  | 10, _, _ => rfl
  | 11, _, _ => rfl
  | 12, _, _ => rfl
  | 13, _, _ => rfl
  | 14, _, _ => rfl
  | 17, _, _ => rfl
  | 20, _, _ => rfl
  | 15, _, _ => by simp [vmap, hg]
  | 16, _, _ => by simp [vmap, hg]
  | 18, h, _ => absurd rfl h
  | 19, _, h => absurd rfl h
  | j + 21, _, _ => by simp [vmap]
/-- A map's block, by what is listed. -/
def MapL (w' : World) (b k : Nat) (f : ByteArray → Option Int) (tk : ByteArray) (v : Int) (st : Nat) (X1 : Obj) (l1 l2 : Bool) : Prop :=
  (l1 = false → l2 = false → MapS w' b k f) ∧ (l1 = true → l2 = false → w'.heap[b]? = some X1 ∧ ∀ (w2 : World) (u : Int), (Lit.int .i64 u).wf = true → w2.heap[b]? = some X1 → ∃ X2, (Instr.entryStore 40 (.map (some b)) (goInt st) (.int .i64 u)).run Tryd.prog w2 = .ok () (ChangeMaps.setBlock w2 b X2) ∧ MapS (ChangeMaps.setBlock w2 b X2) b (k + 1) (setS f tk u)) ∧ (l2 = true → MapS w' b (k + 1) (setS f tk v))
theorem MapL.move {w w' : World} {b k : Nat} {f : ByteArray → Option Int} {tk : ByteArray} {v : Int} {st : Nat} {X1 : Obj} {l1 l2 : Bool} (h : MapL w b k f tk v st X1 l1 l2) (hb : w'.heap[b]? = w.heap[b]?) : MapL w' b k f tk v st X1 l1 l2 :=
  ⟨fun a c => (h.1 a c).move hb, fun a c => ⟨hb.trans (h.2.1 a c).1, (h.2.1 a c).2⟩, fun a => (h.2.2 a).move hb⟩
theorem fc_setBlock {S : List Nat} {w w' : World} (h : FC S w w') (b : Nat) (o : Obj) (hb : b ∈ S) : FC S w (ChangeMaps.setBlock w' b o) :=
  ⟨h.os, h.tape, h.output, by simpa [ChangeMaps.setBlock] using h.size, fun k hk hn => by
    have hne : b ≠ k := fun e => hn (e ▸ hb)
    have : (ChangeMaps.setBlock w' b o).heap[k]? = w'.heap[k]? := by simp [ChangeMaps.setBlock, hne]
    rw [this]; exact h.block k hk hn⟩
theorem setBlock_other {w : World} {b b' : Nat} {o : Obj} (h : b ≠ b') : (ChangeMaps.setBlock w b o).heap[b']? = w.heap[b']? := by simp [ChangeMaps.setBlock, h]
theorem setBlock_same {w : World} {b : Nat} {o : Obj} (h : b < w.heap.size) : (ChangeMaps.setBlock w b o).heap[b]? = some o := by simp [ChangeMaps.setBlock, h]
def ops22 : Array Oper := #[{ dst := some 202, op := Op.move (Operand.tmp 3), type := 36, pos := "outright.go:123", after := #[], guard := none }, { dst := some 203, op := Op.nilCheck (Operand.tmp 202), type := 0, pos := "outright.go:123", after := #[{ on := 0, ground := Ground.data }], guard := none }, { dst := some 204, op := Op.fieldAddr 42 (Operand.tmp 203) 3, type := 0, pos := "outright.go:123", after := #[{ on := 1, ground := Ground.data }], guard := none }, { dst := some 205, op := Op.load 40 (Operand.tmp 204), type := 40, pos := "outright.go:123", after := #[{ on := 2, ground := Ground.data }], guard := none }, { dst := some 206, op := Op.move (Operand.tmp 6), type := 9, pos := "outright.go:123", after := #[], guard := none }, { dst := some 207, op := Op.move (Operand.tmp 3), type := 36, pos := "outright.go:123", after := #[], guard := none }, { dst := some 208, op := Op.nilCheck (Operand.tmp 207), type := 0, pos := "outright.go:123", after := #[{ on := 5, ground := Ground.data }], guard := none }, { dst := some 209, op := Op.fieldAddr 42 (Operand.tmp 208) 4, type := 0, pos := "outright.go:123", after := #[{ on := 6, ground := Ground.data }], guard := none }, { dst := some 210, op := Op.load 40 (Operand.tmp 209), type := 40, pos := "outright.go:123", after := #[{ on := 7, ground := Ground.data }], guard := none }, { dst := some 211, op := Op.move (Operand.tmp 6), type := 9, pos := "outright.go:123", after := #[{ on := 17, ground := Ground.gcOnly Departure.lateStores }], guard := none }, { dst := some 212, op := Op.move (Operand.tmp 9), type := 3, pos := "outright.go:123", after := #[{ on := 15, ground := Ground.gcOnly Departure.tupleMapEntryFirst }], guard := none }, { dst := some 213, op := Op.move (Operand.tmp 3), type := 36, pos := "outright.go:123", after := #[], guard := none }, { dst := some 214, op := Op.nilCheck (Operand.tmp 213), type := 0, pos := "outright.go:123", after := #[{ on := 11, ground := Ground.data }], guard := none }, { dst := some 215, op := Op.fieldAddr 42 (Operand.tmp 214) 1, type := 0, pos := "outright.go:123", after := #[{ on := 12, ground := Ground.data }], guard := none }, { dst := some 216, op := Op.load 3 (Operand.tmp 215), type := 3, pos := "outright.go:123", after := #[{ on := 13, ground := Ground.data }], guard := none }, { dst := some 217, op := Op.mapEntry 40 (Operand.tmp 205) (Operand.tmp 206), type := 0, pos := "outright.go:123", after := #[{ on := 3, ground := Ground.data }, { on := 4, ground := Ground.data }, { on := 0, ground := Ground.textOnly Departure.tupleMapEntryFirst }, { on := 1, ground := Ground.textOnly Departure.tupleMapEntryFirst }, { on := 2, ground := Ground.textOnly Departure.tupleMapEntryFirst }, { on := 3, ground := Ground.textOnly Departure.tupleMapEntryFirst }, { on := 4, ground := Ground.textOnly Departure.tupleMapEntryFirst }, { on := 5, ground := Ground.textOnly Departure.lateStores }, { on := 6, ground := Ground.textOnly Departure.lateStoresUnsure }, { on := 7, ground := Ground.textOnly Departure.lateStoresUnsure }, { on := 8, ground := Ground.phase }, { on := 9, ground := Ground.textOnly Departure.lateStores }, { on := 10, ground := Ground.textOnly Departure.tupleMapEntryFirst }, { on := 11, ground := Ground.textOnly Departure.lateStores }, { on := 12, ground := Ground.textOnly Departure.lateStoresUnsure }, { on := 13, ground := Ground.textOnly Departure.lateStoresUnsure }, { on := 14, ground := Ground.phase }], guard := none }, { dst := some 218, op := Op.extract (Operand.tmp 217) 1, type := 3, pos := "outright.go:123", after := #[{ on := 15, ground := Ground.data }], guard := none }, { dst := none, op := Op.entryStore 40 (Operand.tmp 205) (Operand.tmp 218) (Operand.tmp 212), type := 0, pos := "outright.go:123", after := #[{ on := 3, ground := Ground.data }, { on := 16, ground := Ground.data }, { on := 10, ground := Ground.data }, { on := 15, ground := Ground.chain }, { on := 0, ground := Ground.phase }, { on := 1, ground := Ground.phase }, { on := 2, ground := Ground.phase }, { on := 3, ground := Ground.phase }, { on := 4, ground := Ground.phase }, { on := 5, ground := Ground.textOnly Departure.lateStores }, { on := 6, ground := Ground.textOnly Departure.lateStoresUnsure }, { on := 7, ground := Ground.textOnly Departure.lateStoresUnsure }, { on := 8, ground := Ground.phase }, { on := 9, ground := Ground.textOnly Departure.lateStores }, { on := 10, ground := Ground.phase }, { on := 11, ground := Ground.textOnly Departure.lateStores }, { on := 12, ground := Ground.textOnly Departure.lateStoresUnsure }, { on := 13, ground := Ground.textOnly Departure.lateStoresUnsure }, { on := 14, ground := Ground.phase }, { on := 15, ground := Ground.phase }], guard := none }, { dst := some 219, op := Op.mapEntry 40 (Operand.tmp 210) (Operand.tmp 211), type := 0, pos := "outright.go:123", after := #[{ on := 8, ground := Ground.data }, { on := 9, ground := Ground.data }, { on := 17, ground := Ground.chain }, { on := 0, ground := Ground.phase }, { on := 1, ground := Ground.phase }, { on := 2, ground := Ground.phase }, { on := 3, ground := Ground.phase }, { on := 4, ground := Ground.phase }, { on := 5, ground := Ground.textOnly Departure.tupleMapEntryFirst }, { on := 6, ground := Ground.textOnly Departure.lateStoresUnsure }, { on := 7, ground := Ground.textOnly Departure.lateStoresUnsure }, { on := 8, ground := Ground.phase }, { on := 9, ground := Ground.textOnly Departure.tupleMapEntryFirst }, { on := 10, ground := Ground.phase }, { on := 11, ground := Ground.textOnly Departure.tupleMapEntryFirst }, { on := 12, ground := Ground.textOnly Departure.lateStoresUnsure }, { on := 13, ground := Ground.textOnly Departure.lateStoresUnsure }, { on := 14, ground := Ground.phase }, { on := 15, ground := Ground.phase }, { on := 16, ground := Ground.phase }, { on := 17, ground := Ground.phase }], guard := none }, { dst := some 220, op := Op.extract (Operand.tmp 219) 1, type := 3, pos := "outright.go:123", after := #[{ on := 18, ground := Ground.data }], guard := none }, { dst := none, op := Op.entryStore 40 (Operand.tmp 210) (Operand.tmp 220) (Operand.tmp 216), type := 0, pos := "outright.go:123", after := #[{ on := 8, ground := Ground.data }, { on := 19, ground := Ground.data }, { on := 14, ground := Ground.data }, { on := 18, ground := Ground.chain }, { on := 0, ground := Ground.phase }, { on := 1, ground := Ground.phase }, { on := 2, ground := Ground.phase }, { on := 3, ground := Ground.phase }, { on := 4, ground := Ground.phase }, { on := 5, ground := Ground.phase }, { on := 6, ground := Ground.phase }, { on := 7, ground := Ground.phase }, { on := 8, ground := Ground.phase }, { on := 9, ground := Ground.phase }, { on := 10, ground := Ground.phase }, { on := 11, ground := Ground.phase }, { on := 12, ground := Ground.phase }, { on := 13, ground := Ground.phase }, { on := 14, ground := Ground.phase }, { on := 15, ground := Ground.phase }, { on := 16, ground := Ground.phase }, { on := 17, ground := Ground.phase }, { on := 18, ground := Ground.phase }], guard := none }]
set_option maxHeartbeats 8000000 in
set_option maxRecDepth 100000 in
/-- The region that tells the maps. -/
theorem T.reg22 (X b1 b2 k : Nat) (nx next now1 : Int) (vk vm vg : Value) (att tk : ByteArray) (fs fa : ByteArray → Option Int) (wq : World) (a0 : Act) (Q : Exit → Act → World → Prop)
    (h3 : a0.tmps[3]? = some (.pointer (some ⟨X, 0, none⟩))) (h6 : a0.tmps[6]? = some (.string tk)) (h9 : a0.tmps[9]? = some (.int .i64 next)) (hsz : a0.tmps.size = 226)
    (HSB5 : Aside (SB wq X nx vk vm att now1 vg b1 b2)) (HMA : Aside (MapS wq b1 k fs)) (HMB : Aside (MapS wq b2 k fa)) (HLO : Aside (b1 < b2 ∧ b2 < X)) (HTK : Aside (True ∧ tk.size ≤ 1000)) (hk : k ≤ 40) (HWF1 : Aside ((Lit.int .i64 next).wf = true)) (HWF2 : Aside ((Lit.int .i64 now1).wf = true))
    (hK : ∀ (g : (Value × Nat × Obj) × (Value × Nat × Obj)) (w6 : World), FC [b1, b2] wq w6 → MapS w6 b1 (k + 1) (setS fs tk next) → MapS w6 b2 (k + 1) (setS fa tk now1) → Q .normal { tmps := fill ops22 (vmap X b1 b2 now1 next tk g) ops22.size a0.tmps, defers := a0.defers } w6) : (Code.region 22 ops22 true).wp Tryd.prog Q a0 wq := by
  unfold ops22 at hK ⊢
  let W : ((Value × Nat × Obj) × (Value × Nat × Obj)) → Array Bool → World → Prop := fun g listed w' => FC [b1, b2] wq w' ∧ MapL w' b1 k fs tk next g.1.2.1 g.1.2.2 (listed.getD 15 false) (listed.getD 17 false) ∧ MapL w' b2 k fa tk now1 g.2.2.1 g.2.2.2 (listed.getD 18 false) (listed.getD 20 false)
  have hkeep : ∀ g listed w' i, i < listed.size → i ≠ 15 → i ≠ 17 → i ≠ 18 → i ≠ 20 → W g listed w' → W g (listed.setIfInBounds i true) w' := fun g listed w' i hi h15 h17 h18 h20 hW => by
    obtain ⟨a1, a2, a3⟩ := hW
    refine ⟨a1, ?_, ?_⟩
    · rw [getD_set _ _ _ _ _ hi, getD_set _ _ _ _ _ hi, if_neg (Ne.symm h15), if_neg (Ne.symm h17)]; exact a2
    · rw [getD_set _ _ _ _ _ hi, getD_set _ _ _ _ _ hi, if_neg (Ne.symm h18), if_neg (Ne.symm h20)]; exact a3
  refine wp_region_confD (by kernel_rfl) (fun g i => vmap X b1 b2 now1 next tk g i) W ((undef, 0, .map #[] 0), (undef, 0, .map #[] 0)) (by rw [hsz]; kernel_rfl) ?_ ?_ ?_
  · exact ⟨(FC.refl _ _).drew, ⟨fun _ _ => HMA.out, fun h => by simp at h, fun h => by simp at h⟩, ⟨fun _ _ => HMB.out, fun h => by simp at h, fun h => by simp at h⟩⟩
  ·
    intro g i o listed a w' ho hs hn hp hcl hd hW
    have hi : i < 21 := (Array.getElem?_eq_some_iff.1 ho).1
    have hs21 : listed.size = 21 := hs
    have hil : i < listed.size := by omega
    have hcase : i = 0 ∨ i = 1 ∨ i = 2 ∨ i = 3 ∨ i = 4 ∨ i = 5 ∨ i = 6 ∨ i = 7 ∨ i = 8 ∨ i = 9 ∨ i = 10 ∨ i = 11 ∨ i = 12 ∨ i = 13 ∨ i = 14 ∨ i = 15 ∨ i = 16 ∨ i = 17 ∨ i = 18 ∨ i = 19 ∨ i = 20 := by omega
    rcases hcase with rfl | rfl | rfl | rfl | rfl | rfl | rfl | rfl | rfl | rfl | rfl | rfl | rfl | rfl | rfl | rfl | rfl | rfl | rfl | rfl | rfl
    all_goals
      simp only [List.getElem?_toArray, List.getElem?_cons_succ, List.getElem?_cons_zero, Option.some.injEq] at ho
      subst ho
      refine ⟨rfl, ?_⟩
    · have e3 := hd.base 3 (.pointer (some ⟨X, 0, none⟩)) (by kernel_rfl) h3
      exact wp_val ((.pointer (some ⟨X, 0, none⟩))) (by simp only [execOp, e3]; simp [go_sem]) ⟨g, fun _ _ => rfl, rfl, hkeep g listed w' 0 hil (by decide) (by decide) (by decide) (by decide) hW⟩
    · have l0 := hp { on := 0, ground := Ground.data } (by simp) rfl
      have e202 : a.eval (.tmp 202) = (.pointer (some ⟨X, 0, none⟩)) := hd.ev 0 202 rfl l0
      exact wp_val ((.pointer (some ⟨X, 0, none⟩))) (by simp only [execOp, e202]; simp [go_sem]) ⟨g, fun _ _ => rfl, rfl, hkeep g listed w' 1 hil (by decide) (by decide) (by decide) (by decide) hW⟩
    · have l1 := hp { on := 1, ground := Ground.data } (by simp) rfl
      have e203 : a.eval (.tmp 203) = (.pointer (some ⟨X, 0, none⟩)) := hd.ev 1 203 rfl l1
      exact wp_val ((.pointer (some ⟨X, 6, none⟩))) (by simp only [execOp, e203]; simp [go_sem]) ⟨g, fun _ _ => rfl, rfl, hkeep g listed w' 2 hil (by decide) (by decide) (by decide) (by decide) hW⟩
    · have l2 := hp { on := 2, ground := Ground.data } (by simp) rfl
      have e204 : a.eval (.tmp 204) = (.pointer (some ⟨X, 6, none⟩)) := hd.ev 2 204 rfl l2
      have hq := (HSB5.out.fc hW.1 (by have := HLO.out; simp; omega)).cells.2.2.2.2.2.2.1
      exact wp_val ((.map (some b1))) (by simp only [execOp, e204]; simp [go_sem, hq]) ⟨g, fun _ _ => rfl, rfl, hkeep g listed w' 3 hil (by decide) (by decide) (by decide) (by decide) hW⟩
    · have e6 := hd.base 6 (.string tk) (by kernel_rfl) h6
      exact wp_val ((.string tk)) (by simp only [execOp, e6]; simp [go_sem]) ⟨g, fun _ _ => rfl, rfl, hkeep g listed w' 4 hil (by decide) (by decide) (by decide) (by decide) hW⟩
    · have e3 := hd.base 3 (.pointer (some ⟨X, 0, none⟩)) (by kernel_rfl) h3
      exact wp_val ((.pointer (some ⟨X, 0, none⟩))) (by simp only [execOp, e3]; simp [go_sem]) ⟨g, fun _ _ => rfl, rfl, hkeep g listed w' 5 hil (by decide) (by decide) (by decide) (by decide) hW⟩
    · have l5 := hp { on := 5, ground := Ground.data } (by simp) rfl
      have e207 : a.eval (.tmp 207) = (.pointer (some ⟨X, 0, none⟩)) := hd.ev 5 207 rfl l5
      exact wp_val ((.pointer (some ⟨X, 0, none⟩))) (by simp only [execOp, e207]; simp [go_sem]) ⟨g, fun _ _ => rfl, rfl, hkeep g listed w' 6 hil (by decide) (by decide) (by decide) (by decide) hW⟩
    · have l6 := hp { on := 6, ground := Ground.data } (by simp) rfl
      have e208 : a.eval (.tmp 208) = (.pointer (some ⟨X, 0, none⟩)) := hd.ev 6 208 rfl l6
      exact wp_val ((.pointer (some ⟨X, 7, none⟩))) (by simp only [execOp, e208]; simp [go_sem]) ⟨g, fun _ _ => rfl, rfl, hkeep g listed w' 7 hil (by decide) (by decide) (by decide) (by decide) hW⟩
    · have l7 := hp { on := 7, ground := Ground.data } (by simp) rfl
      have e209 : a.eval (.tmp 209) = (.pointer (some ⟨X, 7, none⟩)) := hd.ev 7 209 rfl l7
      have hq := (HSB5.out.fc hW.1 (by have := HLO.out; simp; omega)).cells.2.2.2.2.2.2.2.1
      exact wp_val ((.map (some b2))) (by simp only [execOp, e209]; simp [go_sem, hq]) ⟨g, fun _ _ => rfl, rfl, hkeep g listed w' 8 hil (by decide) (by decide) (by decide) (by decide) hW⟩
    · have e6 := hd.base 6 (.string tk) (by kernel_rfl) h6
      exact wp_val ((.string tk)) (by simp only [execOp, e6]; simp [go_sem]) ⟨g, fun _ _ => rfl, rfl, hkeep g listed w' 9 hil (by decide) (by decide) (by decide) (by decide) hW⟩
    · have e9 := hd.base 9 (.int .i64 next) (by kernel_rfl) h9
      exact wp_val ((.int .i64 next)) (by simp only [execOp, e9]; simp [go_sem]) ⟨g, fun _ _ => rfl, rfl, hkeep g listed w' 10 hil (by decide) (by decide) (by decide) (by decide) hW⟩
    · have e3 := hd.base 3 (.pointer (some ⟨X, 0, none⟩)) (by kernel_rfl) h3
      exact wp_val ((.pointer (some ⟨X, 0, none⟩))) (by simp only [execOp, e3]; simp [go_sem]) ⟨g, fun _ _ => rfl, rfl, hkeep g listed w' 11 hil (by decide) (by decide) (by decide) (by decide) hW⟩
    · have l11 := hp { on := 11, ground := Ground.data } (by simp) rfl
      have e213 : a.eval (.tmp 213) = (.pointer (some ⟨X, 0, none⟩)) := hd.ev 11 213 rfl l11
      exact wp_val ((.pointer (some ⟨X, 0, none⟩))) (by simp only [execOp, e213]; simp [go_sem]) ⟨g, fun _ _ => rfl, rfl, hkeep g listed w' 12 hil (by decide) (by decide) (by decide) (by decide) hW⟩
    · have l12 := hp { on := 12, ground := Ground.data } (by simp) rfl
      have e214 : a.eval (.tmp 214) = (.pointer (some ⟨X, 0, none⟩)) := hd.ev 12 214 rfl l12
      exact wp_val ((.pointer (some ⟨X, 4, none⟩))) (by simp only [execOp, e214]; simp [go_sem]) ⟨g, fun _ _ => rfl, rfl, hkeep g listed w' 13 hil (by decide) (by decide) (by decide) (by decide) hW⟩
    · have l13 := hp { on := 13, ground := Ground.data } (by simp) rfl
      have e215 : a.eval (.tmp 215) = (.pointer (some ⟨X, 4, none⟩)) := hd.ev 13 215 rfl l13
      have hq := (HSB5.out.fc hW.1 (by have := HLO.out; simp; omega)).cells.2.2.2.2.1
      exact wp_val ((.int .i64 now1)) (by simp only [execOp, e215]; simp [go_sem, hq]) ⟨g, fun _ _ => rfl, rfl, hkeep g listed w' 14 hil (by decide) (by decide) (by decide) (by decide) hW⟩
    · have l3 := hp { on := 3, ground := Ground.data } (by simp) rfl
      have e205 : a.eval (.tmp 205) = (.map (some b1)) := hd.ev 3 205 rfl l3
      have l4 := hp { on := 4, ground := Ground.data } (by simp) rfl
      have e206 : a.eval (.tmp 206) = (.string tk) := hd.ev 4 206 rfl l4
      have hn2 : listed.getD 17 false = false := by
        cases h : listed.getD 17 false with
        | false => rfl
        | true => rw [hcl.of 17 15 h (by kernel_rfl)] at hn; cases hn
      have hmm := hW.2.1.1 hn hn2
      obtain ⟨v0, st, X1, hrun, hst⟩ := hmm.entry tk HTK.out.2 (by omega)
      refine wp_val (w2 := ChangeMaps.setBlock w' b1 X1) (.tuple #[v0, goInt st]) (by simp only [execOp, e205, e206]; simp [hrun, go_sem]) ⟨((v0, st, X1), g.2), fun j hj => vmap_15 X b1 b2 now1 next tk g ((v0, st, X1), g.2) rfl j (fun e => by subst e; rw [hj] at hn; cases hn) (fun e => by subst e; rw [hcl.of 16 15 hj (by kernel_rfl)] at hn; cases hn), rfl, fc_setBlock hW.1 _ _ (by simp), ?_, ?_⟩
      · rw [getD_set _ _ _ _ _ hil, getD_set _ _ _ _ _ hil, if_pos rfl, if_neg (by decide), hn2]
        exact ⟨(fun h => by cases h), (fun _ _ => ⟨setBlock_same hmm.lt, hst⟩), (fun h => by cases h)⟩
      · rw [getD_set _ _ _ _ _ hil, getD_set _ _ _ _ _ hil, if_neg (by decide), if_neg (by decide)]
        exact hW.2.2.move (setBlock_other (by have := HLO.out; omega))
    · have l15 := hp { on := 15, ground := Ground.data } (by simp) rfl
      have e217 : a.eval (.tmp 217) = (.tuple #[g.1.1, goInt g.1.2.1]) := hd.ev 15 217 rfl l15
      exact wp_val ((goInt g.1.2.1)) (by simp only [execOp, e217]; simp [go_sem]) ⟨g, fun _ _ => rfl, rfl, hkeep g listed w' 16 hil (by decide) (by decide) (by decide) (by decide) hW⟩
    · have l3 := hp { on := 3, ground := Ground.data } (by simp) rfl
      have e205 : a.eval (.tmp 205) = (.map (some b1)) := hd.ev 3 205 rfl l3
      have l16 := hp { on := 16, ground := Ground.data } (by simp) rfl
      have e218 : a.eval (.tmp 218) = (goInt g.1.2.1) := hd.ev 16 218 rfl l16
      have l10 := hp { on := 10, ground := Ground.data } (by simp) rfl
      have e212 : a.eval (.tmp 212) = (.int .i64 next) := hd.ev 10 212 rfl l10
      have l15 := hp { on := 15, ground := Ground.chain } (by simp) rfl
      have l1' := hcl.of 16 15 l16 (by kernel_rfl)
      obtain ⟨hx, hst⟩ := hW.2.1.2.1 l1' hn
      obtain ⟨X2, hrun, hms⟩ := hst w' _ HWF1.out hx
      simp only [goInt] at hrun
      refine wp_skip (w2 := ChangeMaps.setBlock w' b1 X2) (by simp only [execOp, e205, e218, e212]; simp [hrun, go_sem]) ⟨g, fun _ _ => rfl, rfl, fc_setBlock hW.1 _ _ (by simp), ?_, ?_⟩
      · rw [getD_set _ _ _ _ _ hil, getD_set _ _ _ _ _ hil, if_neg (by decide), if_pos rfl]
        exact ⟨(fun _ h => by cases h), (fun _ h => by cases h), (fun _ => hms)⟩
      · rw [getD_set _ _ _ _ _ hil, getD_set _ _ _ _ _ hil, if_neg (by decide), if_neg (by decide)]
        exact hW.2.2.move (setBlock_other (by have := HLO.out; omega))
    · have l8 := hp { on := 8, ground := Ground.data } (by simp) rfl
      have e210 : a.eval (.tmp 210) = (.map (some b2)) := hd.ev 8 210 rfl l8
      have l9 := hp { on := 9, ground := Ground.data } (by simp) rfl
      have e211 : a.eval (.tmp 211) = (.string tk) := hd.ev 9 211 rfl l9
      have l17 := hp { on := 17, ground := Ground.chain } (by simp) rfl
      have hn2 : listed.getD 20 false = false := by
        cases h : listed.getD 20 false with
        | false => rfl
        | true => rw [hcl.of 20 18 h (by kernel_rfl)] at hn; cases hn
      have hmm := hW.2.2.1 hn hn2
      obtain ⟨v0, st, X1, hrun, hst⟩ := hmm.entry tk HTK.out.2 (by omega)
      refine wp_val (w2 := ChangeMaps.setBlock w' b2 X1) (.tuple #[v0, goInt st]) (by simp only [execOp, e210, e211]; simp [hrun, go_sem]) ⟨(g.1, (v0, st, X1)), fun j hj => vmap_18 X b1 b2 now1 next tk g (g.1, (v0, st, X1)) rfl j (fun e => by subst e; rw [hj] at hn; cases hn) (fun e => by subst e; rw [hcl.of 19 18 hj (by kernel_rfl)] at hn; cases hn), rfl, fc_setBlock hW.1 _ _ (by simp), ?_, ?_⟩
      · rw [getD_set _ _ _ _ _ hil, getD_set _ _ _ _ _ hil, if_neg (by decide), if_neg (by decide)]
        exact hW.2.1.move (setBlock_other (by have := HLO.out; omega))
      · rw [getD_set _ _ _ _ _ hil, getD_set _ _ _ _ _ hil, if_pos rfl, if_neg (by decide), hn2]
        exact ⟨(fun h => by cases h), (fun _ _ => ⟨setBlock_same hmm.lt, hst⟩), (fun h => by cases h)⟩
    · have l18 := hp { on := 18, ground := Ground.data } (by simp) rfl
      have e219 : a.eval (.tmp 219) = (.tuple #[g.2.1, goInt g.2.2.1]) := hd.ev 18 219 rfl l18
      exact wp_val ((goInt g.2.2.1)) (by simp only [execOp, e219]; simp [go_sem]) ⟨g, fun _ _ => rfl, rfl, hkeep g listed w' 19 hil (by decide) (by decide) (by decide) (by decide) hW⟩
    · have l8 := hp { on := 8, ground := Ground.data } (by simp) rfl
      have e210 : a.eval (.tmp 210) = (.map (some b2)) := hd.ev 8 210 rfl l8
      have l19 := hp { on := 19, ground := Ground.data } (by simp) rfl
      have e220 : a.eval (.tmp 220) = (goInt g.2.2.1) := hd.ev 19 220 rfl l19
      have l14 := hp { on := 14, ground := Ground.data } (by simp) rfl
      have e216 : a.eval (.tmp 216) = (.int .i64 now1) := hd.ev 14 216 rfl l14
      have l18 := hp { on := 18, ground := Ground.chain } (by simp) rfl
      have l1' := hcl.of 19 18 l19 (by kernel_rfl)
      obtain ⟨hx, hst⟩ := hW.2.2.2.1 l1' hn
      obtain ⟨X2, hrun, hms⟩ := hst w' _ HWF2.out hx
      simp only [goInt] at hrun
      refine wp_skip (w2 := ChangeMaps.setBlock w' b2 X2) (by simp only [execOp, e210, e220, e216]; simp [hrun, go_sem]) ⟨g, fun _ _ => rfl, rfl, fc_setBlock hW.1 _ _ (by simp), ?_, ?_⟩
      · rw [getD_set _ _ _ _ _ hil, getD_set _ _ _ _ _ hil, if_neg (by decide), if_neg (by decide)]
        exact hW.2.1.move (setBlock_other (by have := HLO.out; omega))
      · rw [getD_set _ _ _ _ _ hil, getD_set _ _ _ _ _ hil, if_neg (by decide), if_pos rfl]
        exact ⟨(fun _ h => by cases h), (fun _ h => by cases h), (fun _ => hms)⟩
  · intro g listed a' w6 hs hall hd hW
    obtain ⟨hf6, hA6, hB6⟩ := hW
    have hmA := hA6.2.2 (hall 17 (by decide))
    have hmB := hB6.2.2 (hall 20 (by decide))
    rw [hd.full (md := .any) (fits_of (by rw [hsz]; kernel_rfl)) hall]
    exact hK g w6 hf6 hmA hmB
/-- What stands at the head of a round of GroupTokens. -/
structure TJ (w wr : World) (X B b1 b2 k : Nat) (next now : Int) (vk vm : Value) (ks : List Kept) (ms : List Mark) (fs fa : ByteArray → Option Int) : Prop where
  st : SB wr X next vk vm ⟨#[]⟩ now (.slice none 0 0) b1 b2
  rk : keptK.R 61 wr B (fun _ => True) vk ks
  rm : markK.R 67 wr B (fun _ => True) vm ms
  m1 : MapS wr b1 k fs
  m2 : MapS wr b2 k fa
  below : Below w.heap.size w wr
  lo : w.heap.size ≤ b1 ∧ b1 < b2 ∧ b2 < X ∧ X < B ∧ B ≤ wr.heap.size
  h1 : ∀ m ∈ ms, fs m.token = some m.seq ∧ fa m.token = some m.at' ∧ m.token.size ≤ 1000
  h2 : ∀ t q a, fs t = some q → fa t = some a → now - a < 300 → ∃ m ∈ ms, m.token = t
  h4 : ∀ t, (fs t).isSome = (fa t).isSome
  ha : ∀ t a, fa t = some a → 0 ≤ a ∧ a ≤ now
  hnow : 0 ≤ now ∧ now ≤ 200 * (k : Int)
  hnext : 1 ≤ next ∧ next ≤ (k : Int) + 1
  lk : ks.length ≤ k
  lm : ms.length ≤ k
/-- What stands behind Expire. -/
structure TE (k : Nat) (now1 : Int) (ks1 : List Kept) (ms1 : List Mark) (fs fa : ByteArray → Option Int) : Prop where
  h1 : ∀ m ∈ ms1, fs m.token = some m.seq ∧ fa m.token = some m.at' ∧ m.token.size ≤ 1000
  h2 : ∀ t q a, fs t = some q → fa t = some a → now1 - a < 300 → ∃ m ∈ ms1, m.token = t
  h3 : ∀ m ∈ ms1, now1 - m.at' < 300
  h4 : ∀ t, (fs t).isSome = (fa t).isSome
  ha : ∀ t a, fa t = some a → 0 ≤ a ∧ a ≤ now1
  lk : ks1.length ≤ k
  lm : ms1.length ≤ k
theorem TJ.expire {w wr : World} {X B b1 b2 k : Nat} {next now now1 : Int} {vk vm : Value} {ks : List Kept} {ms : List Mark} {fs fa : ByteArray → Option Int} (h : TJ w wr X B b1 b2 k next now vk vm ks ms fs fa) (hn : now ≤ now1 ∧ 0 ≤ now1 ∧ now1 ≤ 200 * ((k : Int) + 1)) (hk : k ≤ 40) (p : Kept → Bool) : TE k now1 (ks.filter p) (ms.filter fun m => decide (wrap64 (now1 - m.at') < 300)) fs fa := by
  have hw : ∀ m ∈ ms, wrap64 (now1 - m.at') = now1 - m.at' := fun m hm => by
    have := h.ha _ _ (h.h1 m hm).2.1
    unfold wrap64; omega
  refine ⟨fun m hm => h.h1 m (List.mem_filter.1 hm).1, fun t q a e1 e2 e3 => ?_, fun m hm => ?_, h.h4, fun t a e => ?_, Nat.le_trans (List.length_filter_le _ _) h.lk, Nat.le_trans (List.length_filter_le _ _) h.lm⟩
  · obtain ⟨m, hm, rfl⟩ := h.h2 t q a e1 e2 (by omega)
    have := (h.h1 m hm).2.1
    rw [e2] at this
    have : a = m.at' := by injection this
    subst this
    exact ⟨m, List.mem_filter.2 ⟨hm, by rw [hw m hm]; simpa using e3⟩, rfl⟩
  · obtain ⟨h1, h2⟩ := List.mem_filter.1 hm
    rw [hw m h1] at h2
    simpa using h2
  · have := h.ha t a e; omega
theorem MapS.mono {w : World} {b n m : Nat} {f : ByteArray → Option Int} (h : MapS w b n f) (hn : n ≤ m) : MapS w b m f := by
  obtain ⟨D, hD, hf⟩ := h
  exact ⟨D, hD.mono hn, hf⟩
theorem wf64 {n : Int} (h0 : 0 ≤ n) (h1 : n ≤ 1000000) : (Lit.int .i64 n).wf = true := by
  simp [Lit.wf, IntKind.min, IntKind.max, IntKind.signed, IntKind.bits]; omega
/-- A send of a token: known of late; or not, and there is no room; or it comes. -/
theorem TE.cases {k : Nat} {now1 : Int} {ks1 : List Kept} {ms1 : List Mark} {fs fa : ByteArray → Option Int} (h : TE k now1 ks1 ms1 fs fa) (tk : ByteArray) (next : Int) :
    (∃ q a0, fs tk = some q ∧ fa tk = some a0 ∧ now1 - a0 < 300 ∧ 0 ≤ a0 ∧ a0 ≤ now1 ∧ sendF next ks1 ms1 tk = (q, 0, false)) ∨
    ((∀ m ∈ ms1, m.token ≠ tk) ∧ ((fs tk = none ∧ fa tk = none) ∨ ∃ q a0, fs tk = some q ∧ fa tk = some a0 ∧ 300 ≤ now1 - a0 ∧ 0 ≤ a0 ∧ a0 ≤ now1) ∧ ((sendF next ks1 ms1 tk = (0, 7, false) ∧ (12 ≤ ks1.length ∨ 40 ≤ ms1.length)) ∨ (sendF next ks1 ms1 tk = (next, 0, true) ∧ ks1.length < 12 ∧ ms1.length < 40))) := by
  cases hf : ms1.find? (fun m => decide (m.token = tk)) with
  | some m =>
    refine .inl ⟨m.seq, m.at', ?_⟩
    have hm := List.mem_of_find?_eq_some hf
    have ht : m.token = tk := by simpa using List.find?_some hf
    obtain ⟨h1, h2, _⟩ := h.h1 m hm
    rw [ht] at h1 h2
    exact ⟨h1, h2, h.h3 m hm, (h.ha _ _ h2).1, (h.ha _ _ h2).2, by unfold sendF; rw [hf]⟩
  | none =>
    have hn : ∀ m ∈ ms1, m.token ≠ tk := fun m hm e => by
      have := List.find?_eq_none.1 hf m hm
      simp [e] at this
    refine .inr ⟨hn, ?_, ?_⟩
    · cases hs : fs tk with
      | none =>
        have := h.h4 tk
        rw [hs] at this
        cases ha : fa tk with
        | none => exact .inl ⟨rfl, rfl⟩
        | some a => rw [ha] at this; cases this
      | some q =>
        have := h.h4 tk
        rw [hs] at this
        cases ha : fa tk with
        | none => rw [ha] at this; cases this
        | some a0 =>
          refine .inr ⟨q, a0, rfl, rfl, ?_, (h.ha _ _ ha).1, (h.ha _ _ ha).2⟩
          by_cases hlt : now1 - a0 < 300
          · obtain ⟨m, hm, e⟩ := h.h2 tk q a0 hs ha hlt
            exact absurd e (hn m hm)
          · omega
    · unfold sendF
      rw [hf]
      by_cases hfull : 12 ≤ ks1.length ∨ 40 ≤ ms1.length
      · exact .inl ⟨if_pos hfull, hfull⟩
      · exact .inr ⟨if_neg hfull, by omega, by omega⟩
theorem TE.same {w w7 : World} {X B b1 b2 k : Nat} {next now1 : Int} {vk vm : Value} {ks1 : List Kept} {ms1 : List Mark} {fs fa : ByteArray → Option Int} (h : TE k now1 ks1 ms1 fs fa) (st : SB w7 X next vk vm ⟨#[]⟩ now1 (.slice none 0 0) b1 b2) (rk : keptK.R 61 w7 B (fun _ => True) vk ks1) (rm : markK.R 67 w7 B (fun _ => True) vm ms1) (m1 : MapS w7 b1 k fs) (m2 : MapS w7 b2 k fa) (below : Below w.heap.size w w7) (lo : w.heap.size ≤ b1 ∧ b1 < b2 ∧ b2 < X ∧ X < B ∧ B ≤ w7.heap.size) (hnow : 0 ≤ now1 ∧ now1 ≤ 200 * ((k : Int) + 1)) (hnext : 1 ≤ next ∧ next ≤ (k : Int) + 1) : TJ w w7 X B b1 b2 (k + 1) next now1 vk vm ks1 ms1 fs fa :=
  ⟨st, rk, rm, m1.mono (by omega), m2.mono (by omega), below, lo, h.h1, h.h2, h.h4, h.ha, by have := hnow; exact ⟨this.1, by rw [Int.natCast_add]; exact this.2⟩, by rw [Int.natCast_add]; omega, by have := h.lk; omega, by have := h.lm; omega⟩
theorem TE.sent {w w7 : World} {X B b1 b2 k : Nat} {next now1 : Int} {vk vm : Value} {ks1 ks5 : List Kept} {x : Kept} {ms1 ms5 : List Mark} {tk : ByteArray} {fs fa : ByteArray → Option Int} (h : TE k now1 ks1 ms1 fs fa) (hks : ks5 = ks1 ++ [x]) (hms : ms5 = ms1 ++ [⟨tk, next, now1⟩]) (hn : ∀ m ∈ ms1, m.token ≠ tk) (htk : tk.size ≤ 1000) (st : SB w7 X (next + 1) vk vm ⟨#[]⟩ now1 (.slice none 0 0) b1 b2) (rk : keptK.R 61 w7 B (fun _ => True) vk ks5) (rm : markK.R 67 w7 B (fun _ => True) vm ms5) (m1 : MapS w7 b1 (k + 1) (setS fs tk next)) (m2 : MapS w7 b2 (k + 1) (setS fa tk now1)) (below : Below w.heap.size w w7) (lo : w.heap.size ≤ b1 ∧ b1 < b2 ∧ b2 < X ∧ X < B ∧ B ≤ w7.heap.size) (hnow : 0 ≤ now1 ∧ now1 ≤ 200 * ((k : Int) + 1)) (hnext : 1 ≤ next ∧ next ≤ (k : Int) + 1) : TJ w w7 X B b1 b2 (k + 1) (next + 1) now1 vk vm ks5 ms5 (setS fs tk next) (setS fa tk now1) := by
  subst hks hms
  refine ⟨st, rk, rm, m1, m2, below, lo, fun m hm => ?_, fun t q a e1 e2 e3 => ?_, fun t => ?_, fun t a e => ?_, by have := hnow; exact ⟨this.1, by rw [Int.natCast_add]; exact this.2⟩, by rw [Int.natCast_add]; omega, by have := h.lk; simp; omega, by have := h.lm; simp; omega⟩
  · rcases List.mem_append.1 hm with hm | hm
    · unfold setS
      rw [if_neg (hn m hm), if_neg (hn m hm)]
      exact h.h1 m hm
    · obtain rfl : m = ⟨tk, next, now1⟩ := by simpa using hm
      unfold setS
      exact ⟨if_pos rfl, if_pos rfl, htk⟩
  · unfold setS at e1 e2
    by_cases ht : t = tk
    · exact ⟨⟨tk, next, now1⟩, by simp, ht.symm⟩
    · rw [if_neg ht] at e1 e2
      obtain ⟨m, hm, e⟩ := h.h2 t q a e1 e2 e3
      exact ⟨m, List.mem_append_left _ hm, e⟩
  · unfold setS
    split
    · rfl
    · exact h.h4 t
  · unfold setS at e
    split at e
    · injection e with e; omega
    · exact h.ha t a e
/-- What stands behind Expire and Purge. -/
structure PE (wr wx : World) (X Y b1 b2 k base : Nat) (next now1 : Int) (fs fa : ByteArray → Option Int) (ac : Array Value) (A3 : Option Addr) (c3 : Nat) (A4 : Option Addr) (c4 : Nat) (ks1 : List Kept) (ms1 : List Mark) : Prop where
  hsb : SB wx X next (.slice A3 ks1.length c3) (.slice A4 ms1.length c4) ⟨#[]⟩ now1 (.slice none 0 0) b1 b2
  hr : keptK.R 61 wx base (fun _ => True) (.slice A3 ks1.length c3) ks1
  hm : markK.R 67 wx base (fun _ => True) (.slice A4 ms1.length c4) ms1
  hf : FC [X] wr wx
  ha : wx.heap[Y]? = some (.cells ac 39 (0, 0))
  hte : TE k now1 ks1 ms1 fs fa
  hw : base ≤ wx.heap.size
/-- What stands behind Send. -/
structure PS (w2 w5 : World) (P : Nat) (sN : Int) (ks5 : List Kept) (ms5 : List Mark) (A5 : Option Addr) (c5 : Nat) (A6 : Option Addr) (c6 : Nat) : Prop where
  hf : FC [] w2 w5
  hr : keptK.R 61 w5 w2.heap.size (fun _ => True) (.slice A5 ks5.length c5) ks5
  hm : markK.R 67 w5 w2.heap.size (fun _ => True) (.slice A6 ms5.length c6) ms5
  hg : GBox w5 P sN (.slice A5 ks5.length c5) (.slice A6 ms5.length c6) ⟨#[]⟩
  hp : w2.heap.size ≤ P
set_option maxHeartbeats 16000000 in
set_option maxRecDepth 100000 in
theorem T.walk_tokens (A : Option Addr) (c : Nat) (l : List ActT) (w : World) (hC : actK.C w A l.length l) (_ : l.length ≤ c) :
    Calls Tryd.prog 4 #[.slice A l.length c] w fun e w' => e = .returned (.bool true) ∧ Below w.heap.size w w' := by
  have HC := Aside.mk hC
  obtain ⟨n, hn⟩ : ∃ n, n = l.length := ⟨_, rfl⟩
  rw [← hn]
  have HN := Aside.mk hn
  have hlm : n ≤ 9223372036854775807 := by have := hC.2.1; omega
  clear hC hn
  go_enter Tryd.func4, Tryd.ntmps4
  go_wp2_with fail
  refine (T.begin w).mono ?_
  rintro e w1 ⟨X, b1, b2, rfl, hst, hm1, hm2, hb1, q1, q2, q3, q4⟩
  have HJ := Aside.mk (show TJ w w1 X w1.heap.size b1 b2 0 1 0 (.slice none 0 0) (.slice none 0 0) [] [] (fun _ => none) (fun _ => none) from ⟨hst, Kd.R_nil _ _ _ _ _, Kd.R_nil _ _ _ _ _, hm1, hm2, hb1, by omega, by simp, by simp, by simp, by simp, by simp, by simp, by simp, by simp⟩)
  obtain ⟨B, hB⟩ : ∃ B, B = w1.heap.size := ⟨_, rfl⟩
  rw [← hB] at HJ
  clear hst hm1 hm2 hb1 q1 q2 q3 q4 hB
  go_wp2_with fail
  go_loopg [4, 5, 6, 7, 8, 9, 10, 11, 12, 13] 41 (fun kq v4 _ _ _ _ _ _ _ _ _ wr => ∃ (k : Nat) (next now : Int) (A1 : Option Addr) (c1 : Nat) (A2 : Option Addr) (c2 : Nat) (ks : List Kept) (ms : List Mark) (fs fa : ByteArray → Option Int), k + kq = 41 ∧ v4 = .int .i64 (k : Int) ∧ k ≤ 40 ∧ Aside (TJ w wr X B b1 b2 k next now (.slice A1 ks.length c1) (.slice A2 ms.length c2) ks ms fs fa))
  case atStart => exact ⟨0, 1, 0, none, 0, none, 0, [], [], _, _, by omega, rfl, by omega, ⟨HJ.out⟩⟩
  case round =>
    obtain ⟨k, next, now, A1, c1, A2, c2, ks, ms, fs, fa, hk, rfl, hk40, hR⟩ := hrel
    have HK := Aside.mk hk
    clear hk
    by_cases hlt : k < n ∧ k < 40
    · obtain ⟨hlt, hltb⟩ := hlt
      obtain ⟨x, hx⟩ : ∃ x, l[k]? = some x := ⟨_, List.getElem?_eq_getElem (by rw [← HN.out]; exact hlt)⟩
      have HX := Aside.mk hx
      clear hx
      obtain ⟨a, rfl, g0, g1, g2, g3, g4, g5⟩ := act_at (Kd.C_below HC.out hR.out.below) k x HX.out
      obtain ⟨kind, nn, secs, wait, body, token⟩ := x
      dsimp only at g0 g1 g2 g3 g4 g5
      have hj0 := hR.out
      have hA0 := heap_alloc_new wr (.cells #[.int .i64 kind, .int .i64 nn, .int .i64 secs, .int .i64 wait, .string body, .string token] 39)
      have hbA := (Below.refl wr.heap.size wr).alloc (Nat.le_refl _) (.cells #[.int .i64 kind, .int .i64 nn, .int .i64 secs, .int .i64 wait, .string body, .string token] 39)
      obtain ⟨r, hr⟩ : ∃ r, r = Int.emod wait 200 := ⟨_, rfl⟩
      have hr0 : 0 ≤ r ∧ r < 200 := by rw [hr]; exact ⟨Int.emod_nonneg _ (by decide), Int.emod_lt_of_pos _ (by decide)⟩
      have HSM := Aside.mk (fun W => T.small wait 200 W (by decide) (by decide))
      rw [← hr] at HSM
      obtain ⟨now1, hnow1⟩ : ∃ now1, now1 = now + r := ⟨_, rfl⟩
      have hwn : wrap64 (now + r) = now1 := by have := hj0.hnow; unfold wrap64; omega
      have HNW := Aside.mk (show now ≤ now1 ∧ 0 ≤ now1 ∧ now1 ≤ 200 * ((k : Int) + 1) by have := hj0.hnow; omega)
      clear hr hr0 hnow1
      go_wp2_with fail
      have HA0 := Aside.mk hA0
      have HBA := Aside.mk hbA
      have HlA := Aside.mk (show wr.heap.size < (wr.alloc (.cells #[.int .i64 kind, .int .i64 nn, .int .i64 secs, .int .i64 wait, .string body, .string token] 39)).heap.size by simp)
      have HlX := Aside.mk (show X < wr.heap.size from hj0.st.lt)
      have HlB := Aside.mk (show B ≤ wr.heap.size from hj0.lo.2.2.2.2)
      have HST0 := Aside.mk (hj0.st.fc (FC.of (S := []) hbA) (by simp))
      clear hj0 hA0 hbA g0 g1 g2 g3 g4 g5
      obtain ⟨Y, hY⟩ : ∃ Y, Y = wr.heap.size := ⟨_, rfl⟩
      have HY := Aside.mk hY
      rw [← hY] at HA0 HlA HlX HlB ⊢
      generalize World.alloc wr _ = W0 at HA0 HBA HlA HST0 ⊢
      have hXY : X < Y := HlX.out
      obtain ⟨s0, s1, s2, s3, s4, s5, s6, s7, sf⟩ := HST0.out.cells
      have t0 : W0.cell? ⟨Y, 0, none⟩ = some (.int .i64 kind) := cell_of_row _ _ _ _ _ _ HA0.out
      have t1 : W0.cell? ⟨Y, 3, none⟩ = some (.int .i64 wait) := cell_of_row _ _ _ _ _ _ HA0.out
      obtain ⟨HST1, HF1⟩ := HST0.out.putNow now1
      have HST1 := Aside.mk HST1
      have HF1 := Aside.mk HF1
      clear hY hXY
      refine still_tail 7 (by kernel_rfl) (by kernel_rfl) ?_
      simp only [List.take_succ_cons, List.take_zero, List.drop_succ_cons, List.drop_zero]
      repeat still_step
      still_call (HSM.out _)
      repeat still_step
      refine wpStill_nil ?_
      go_wp2_with fail
      clear s0 s1 s2 s3 s4 s5 s6 s7 sf t0 t1
      have HJ0 := hR
      have HST1 := Aside.mk (show SB (World.drew (W0.setCell ⟨X, 4, none⟩ (.int .i64 now1))) X next (.slice A1 ks.length c1) (.slice A2 ms.length c2) ⟨#[]⟩ now1 (.slice none 0 0) b1 b2 from HST1.out)
      have HF1 := Aside.mk ((FC.of (S := [X]) HBA.out).trans HF1.out.drew)
      have HA1 := Aside.mk (show (World.drew (W0.setCell ⟨X, 4, none⟩ (.int .i64 now1))).heap[Y]? = _ from (Below.heap_setCell _ _ _ _ (fun e => by have := HlX.out; have : Y = X := e; omega)).trans HA0.out)
      clear HST0 HA0 HBA HlA hR
      generalize World.drew _ = W1 at HST1 HF1 HA1 ⊢
      have hXB : ∀ k ∈ [X], k < B := by simpa using HJ0.out.lo.2.2.2.1
      have hXW : ∀ k ∈ [X], k < W1.heap.size := by simpa using HST1.out.lt
      have hRK := HJ0.out.rk
      have hRM := HJ0.out.rm
      have HF0 := HF1.out
      have hlk : ks.length ≤ 100000 := by have := HJ0.out.lk; omega
      have hlm : ms.length ≤ 100000 := by have := HJ0.out.lm; omega
      let W : (Value × Value) → Array Bool → World → Prop := fun g listed w' => FC [X] W1 w' ∧ (∃ nx vk vm, SB w' X nx vk vm ⟨#[]⟩ now1 (.slice none 0 0) b1 b2 ∧ (listed.getD 12 false = false → nx = next ∧ vk = .slice A1 ks.length c1 ∧ vm = .slice A2 ms.length c2) ∧ (listed.getD 12 false = true → nx = next ∧ vk = g.1 ∧ vm = g.2)) ∧ (listed.getD 9 false = true → keptK.R 61 w' W1.heap.size (fun _ => True) g.1 (ks.filter fun m => decide (wrap64 (now1 - m.sent) < 10000)) ∧ markK.R 67 w' W1.heap.size (fun _ => True) g.2 (ms.filter fun m => decide (wrap64 (now1 - m.at') < 300)))
      have hkeep : ∀ g listed w' i, i < listed.size → i ≠ 9 → i ≠ 12 → W g listed w' → W g (listed.setIfInBounds i true) w' := fun g listed w' i hi h9 h12 hW => by
        obtain ⟨a1, ⟨nx, vk, vm, b1, b2, b3⟩, a3⟩ := hW
        refine ⟨a1, ⟨nx, vk, vm, b1, fun h => b2 ?_, fun h => b3 ?_⟩, fun h => a3 ?_⟩
        all_goals
          rw [getD_set _ _ _ _ _ hi] at h
          first
            | (rw [if_neg (Ne.symm h9)] at h; exact h)
            | (rw [if_neg (Ne.symm h12)] at h; exact h)
      refine wp_region_confD (by kernel_rfl) (fun (g : Value × Value) i => vexp X next now1 A1 A2 ks.length ms.length c1 c2 g i) W (.slice none 0 0, .slice none 0 0) (by kernel_rfl) ?h0 ?hex ?hfin
      case h0 => exact ⟨(FC.refl _ _).drew, ⟨_, _, _, HST1.out, fun _ => ⟨rfl, rfl, rfl⟩, fun h => by simp at h⟩, fun h => by simp at h⟩
      case hex =>
        as_aux_lemma =>
          intro g i o listed a w' ho hs hn hp hcl hd hW
          have hi : i < 13 := (Array.getElem?_eq_some_iff.1 ho).1
          have hs13 : listed.size = 13 := hs
          have hil : i < listed.size := by omega
          have hcase : i = 0 ∨ i = 1 ∨ i = 2 ∨ i = 3 ∨ i = 4 ∨ i = 5 ∨ i = 6 ∨ i = 7 ∨ i = 8 ∨ i = 9 ∨ i = 10 ∨ i = 11 ∨ i = 12 := by omega
          rcases hcase with rfl | rfl | rfl | rfl | rfl | rfl | rfl | rfl | rfl | rfl | rfl | rfl | rfl
          all_goals
            simp only [List.getElem?_toArray, List.getElem?_cons_succ, List.getElem?_cons_zero, Option.some.injEq] at ho
            subst ho
            refine ⟨rfl, ?_⟩
          · have e3 := hd.base 3 (.pointer (some ⟨X, 0, none⟩)) (by kernel_rfl) rfl
            exact wp_val ((.pointer (some ⟨X, 0, none⟩))) (by simp only [execOp, e3]; simp [go_sem]) ⟨g, fun _ _ => rfl, rfl, hkeep g listed w' 0 hil (by decide) (by decide) hW⟩
          · have e3 := hd.base 3 (.pointer (some ⟨X, 0, none⟩)) (by kernel_rfl) rfl
            exact wp_val ((.pointer (some ⟨X, 0, none⟩))) (by simp only [execOp, e3]; simp [go_sem]) ⟨g, fun _ _ => rfl, rfl, hkeep g listed w' 1 hil (by decide) (by decide) hW⟩
          · have l1 := hp { on := 1, ground := Ground.data } (by simp) rfl
            have e40 : a.eval (.tmp 40) = (.pointer (some ⟨X, 0, none⟩)) := hd.ev 1 40 rfl l1
            exact wp_val ((.pointer (some ⟨X, 0, none⟩))) (by simp only [execOp, e40]; simp [go_sem]) ⟨g, fun _ _ => rfl, rfl, hkeep g listed w' 2 hil (by decide) (by decide) hW⟩
          · have l2 := hp { on := 2, ground := Ground.data } (by simp) rfl
            have e41 : a.eval (.tmp 41) = (.pointer (some ⟨X, 0, none⟩)) := hd.ev 2 41 rfl l2
            exact wp_val ((.pointer (some ⟨X, 0, none⟩))) (by simp only [execOp, e41]; simp [go_sem]) ⟨g, fun _ _ => rfl, rfl, hkeep g listed w' 3 hil (by decide) (by decide) hW⟩
          · have l3 := hp { on := 3, ground := Ground.data } (by simp) rfl
            have e42 : a.eval (.tmp 42) = (.pointer (some ⟨X, 0, none⟩)) := hd.ev 3 42 rfl l3
            have h12 : listed.getD 12 false = false := by
              cases h : listed.getD 12 false with
              | false => rfl
              | true => rw [hcl.of 9 4 (hcl.of 12 9 h (by kernel_rfl)) (by kernel_rfl)] at hn; cases hn
            obtain ⟨nx, vk, vm, hsb, hb0, _⟩ := hW.2.1
            obtain ⟨rfl, rfl, rfl⟩ := hb0 h12
            exact hsb.loadG (.tmp 42) rfl e42 ⟨g, fun _ _ => rfl, rfl, hkeep g listed w' 4 hil (by decide) (by decide) hW⟩
          · have e3 := hd.base 3 (.pointer (some ⟨X, 0, none⟩)) (by kernel_rfl) rfl
            exact wp_val ((.pointer (some ⟨X, 0, none⟩))) (by simp only [execOp, e3]; simp [go_sem]) ⟨g, fun _ _ => rfl, rfl, hkeep g listed w' 5 hil (by decide) (by decide) hW⟩
          · have l5 := hp { on := 5, ground := Ground.data } (by simp) rfl
            have e44 : a.eval (.tmp 44) = (.pointer (some ⟨X, 0, none⟩)) := hd.ev 5 44 rfl l5
            exact wp_val ((.pointer (some ⟨X, 0, none⟩))) (by simp only [execOp, e44]; simp [go_sem]) ⟨g, fun _ _ => rfl, rfl, hkeep g listed w' 6 hil (by decide) (by decide) hW⟩
          · have l6 := hp { on := 6, ground := Ground.data } (by simp) rfl
            have e45 : a.eval (.tmp 45) = (.pointer (some ⟨X, 0, none⟩)) := hd.ev 6 45 rfl l6
            exact wp_val ((.pointer (some ⟨X, 4, none⟩))) (by simp only [execOp, e45]; simp [go_sem]) ⟨g, fun _ _ => rfl, rfl, hkeep g listed w' 7 hil (by decide) (by decide) hW⟩
          · have l7 := hp { on := 7, ground := Ground.data } (by simp) rfl
            have e46 : a.eval (.tmp 46) = (.pointer (some ⟨X, 4, none⟩)) := hd.ev 7 46 rfl l7
            obtain ⟨nx, vk, vm, hsb, _, _⟩ := hW.2.1
            have hq := hsb.cells.2.2.2.2.1
            exact wp_val ((.int .i64 now1)) (by simp only [execOp, e46]; simp [go_sem, hq]) ⟨g, fun _ _ => rfl, rfl, hkeep g listed w' 8 hil (by decide) (by decide) hW⟩
          · have l4 := hp { on := 4, ground := Ground.data } (by simp) rfl
            have e43 : a.eval (.tmp 43) = (.agg #[.int .i64 next, .slice A1 ks.length c1, .slice A2 ms.length c2, .string ⟨#[]⟩]) := hd.ev 4 43 rfl l4
            have l8 := hp { on := 8, ground := Ground.data } (by simp) rfl
            have e47 : a.eval (.tmp 47) = (.int .i64 now1) := hd.ev 8 47 rfl l8
            have hrk := R_fcG hRK (HF0.trans hW.1) hXB
            have hrm := R_fcG hRM (HF0.trans hW.1) hXB
            have h12 : listed.getD 12 false = false := by
              cases h : listed.getD 12 false with
              | false => rfl
              | true => rw [hcl.of 12 9 h (by kernel_rfl)] at hn; cases hn
            have hcall := T.Expire next A1 A2 c1 c2 ⟨#[]⟩ ks ms now1 10000 w' (Row.of_R' hrk) (Row.of_R' hrm) hlk hlm
            simp only [grV] at hcall
            refine wp_calls 15 #[.tmp 43, .tmp 47, .const (.int .i64 10000)] #[25, 3, 3] rfl (enters_of Tryd.func15 (by kernel_rfl) rfl) _ (by simp [e43, e47]; rfl) (hcall.mono ?_)
            rintro e' w4 ⟨vk', vm', rfl, hr4, hm4, hb4⟩
            refine ⟨_, rfl, (vk', vm'), fun j hj => ?_, rfl, hW.1.trans (FC.of hb4), ?_, fun _ => ⟨Kd.R_lower hr4 hW.1.size, Kd.R_lower hm4 hW.1.size⟩⟩
            · have hjn : j ≠ 9 := fun e => by subst e; rw [hj] at hn; cases hn
              exact vexp_9 X next now1 A1 A2 ks.length ms.length c1 c2 g (vk', vm') j hjn
            · obtain ⟨nx, vk, vm, hsb, hb0, _⟩ := hW.2.1
              obtain ⟨rfl, rfl, rfl⟩ := hb0 h12
              refine ⟨_, _, _, hsb.fc (FC.of (S := []) hb4) (by simp), fun _ => ⟨rfl, rfl, rfl⟩, fun h => ?_⟩
              rw [getD_set _ _ _ _ _ hil, if_neg (by decide), h12] at h; cases h
          · have l0 := hp { on := 0, ground := Ground.data } (by simp) rfl
            have e39 : a.eval (.tmp 39) = (.pointer (some ⟨X, 0, none⟩)) := hd.ev 0 39 rfl l0
            exact wp_val ((.pointer (some ⟨X, 0, none⟩))) (by simp only [execOp, e39]; simp [go_sem]) ⟨g, fun _ _ => rfl, rfl, hkeep g listed w' 10 hil (by decide) (by decide) hW⟩
          · have l10 := hp { on := 10, ground := Ground.data } (by simp) rfl
            have e49 : a.eval (.tmp 49) = (.pointer (some ⟨X, 0, none⟩)) := hd.ev 10 49 rfl l10
            exact wp_val ((.pointer (some ⟨X, 0, none⟩))) (by simp only [execOp, e49]; simp [go_sem]) ⟨g, fun _ _ => rfl, rfl, hkeep g listed w' 11 hil (by decide) (by decide) hW⟩
          · have l11 := hp { on := 11, ground := Ground.data } (by simp) rfl
            have e50 : a.eval (.tmp 50) = (.pointer (some ⟨X, 0, none⟩)) := hd.ev 11 50 rfl l11
            have l9 := hp { on := 9, ground := Ground.data } (by simp) rfl
            have e48 : a.eval (.tmp 48) = (.agg #[.int .i64 next, g.1, g.2, .string ⟨#[]⟩]) := hd.ev 9 48 rfl l9
            obtain ⟨hrk, hrm⟩ := hW.2.2 l9
            obtain ⟨nx, vk, vm, hsb, _, _⟩ := hW.2.1
            refine hsb.storeG (.tmp 50) (.tmp 48) rfl e50 next g.1 g.2 ⟨#[]⟩ e48 (oneCell_R hrk) (oneCell_R hrm) (fun w5 hs5 hf5 => ⟨g, fun _ _ => rfl, rfl, hW.1.trans hf5, ⟨_, _, _, hs5, fun h => ?_, fun _ => ⟨rfl, rfl, rfl⟩⟩, fun _ => ⟨R_fcG hrk hf5 hXW, R_fcG hrm hf5 hXW⟩⟩)
            rw [getD_set _ _ _ _ _ hil, if_pos rfl] at h; cases h

      case hfin =>
        intro g listed a' w2 hs hall hd hW
        obtain ⟨hf2, ⟨nx, vk2, vm2, hsb, _, hb1⟩, hrows⟩ := hW
        obtain ⟨hnx, rfl, rfl⟩ := hb1 (hall 12 (by decide))
        have hnx2 := hnx.symm
        subst hnx2
        clear hnx
        obtain ⟨hr2, hm2⟩ := hrows (hall 9 (by decide))
        rw [hd.full (md := .any) (fits_of (by kernel_rfl)) hall]
        clear hd hall hs hkeep W hb1 hrows
        obtain ⟨vk2, vm2⟩ := g
        dsimp only at hsb hr2 hm2
        obtain ⟨A3, c3, rfl, _⟩ := Row.of_R hr2
        obtain ⟨A4, c4, rfl, _⟩ := Row.of_R hm2
        simp only [vexp, List.size_toArray, List.length_cons, List.length_nil, Nat.reduceAdd, fill, List.getElem?_toArray, List.getElem?_cons_succ, List.getElem?_cons_zero, Option.bind_some, List.setIfInBounds_toArray, List.set_cons_succ, List.set_cons_zero, List.getD_cons_succ, List.getD_cons_zero]
        have hte := HJ0.out.expire HNW.out hk40 (fun m => decide (wrap64 (now1 - m.sent) < 10000))
        generalize (ks.filter fun m => decide (wrap64 (now1 - m.sent) < 10000)) = ks1 at hr2 hsb hte ⊢
        generalize (ms.filter fun m => decide (wrap64 (now1 - m.at') < 300)) = ms1 at hm2 hsb hte ⊢
        have HTE := Aside.mk hte
        have HF2 := Aside.mk (HF1.out.trans hf2)
        have HSB := Aside.mk hsb
        have HR2 := Aside.mk hr2
        have HM2 := Aside.mk hm2
        have HW1 := Aside.mk (show W1.heap.size ≤ w2.heap.size from hf2.size)
        have HA2 := Aside.mk ((hf2.block Y (Array.getElem?_eq_some_iff.1 HA1.out).1 (by have := HlX.out; simp; omega)).trans HA1.out)
        clear hte hf2 hsb hr2 hm2 hRK hRM HF0 hlk hlm hXB hXW
        have t0 : w2.cell? ⟨Y, 0, none⟩ = some (.int .i64 kind) := cell_of_row _ _ _ _ _ _ HA2.out
        have t4 : w2.cell? ⟨Y, 4, none⟩ = some (.string body) := cell_of_row _ _ _ _ _ _ HA2.out
        have t5 : w2.cell? ⟨Y, 5, none⟩ = some (.string token) := cell_of_row _ _ _ _ _ _ HA2.out
        obtain ⟨s0, s1, s2, s3, s4, s5, s6, s7, sf⟩ := HSB.out.cells
        obtain ⟨tm, htm⟩ : ∃ tm : Nat, tm = min token.size 20 := ⟨_, rfl⟩
        have htm0 : tm ≤ token.size := by omega
        have htm1 : tm ≤ 20 := by omega
        have htif : (if (20 : Int) < (token.size : Int) then (20 : Int) else (token.size : Int)) = (tm : Int) := by rw [htm]; split <;> omega
        obtain ⟨bm, hbm⟩ : ∃ bm : Nat, bm = min body.size 20 := ⟨_, rfl⟩
        have hbm0 : bm ≤ body.size := by omega
        have hbm1 : bm ≤ 20 := by omega
        have hbif : (if (20 : Int) < (body.size : Int) then (20 : Int) else (body.size : Int)) = (bm : Int) := by rw [hbm]; split <;> omega
        have HTK := Aside.mk (show ¬ (⟨#[116]⟩ : ByteArray) ++ token.extract 0 tm = ⟨#[]⟩ ∧ ((⟨#[116]⟩ : ByteArray) ++ token.extract 0 tm).size ≤ 1000 by
          have h1 : ((⟨#[116]⟩ : ByteArray) ++ token.extract 0 tm).size = 1 + (token.extract 0 tm).size := by rw [ByteArray.size_append]; rfl
          have h2 : (token.extract 0 tm).size = tm := by rw [ByteArray.size_extract]; omega
          exact ⟨fun e => by rw [e] at h1; have : (⟨#[]⟩ : ByteArray).size = 0 := rfl; omega, by omega⟩)
        have HTB := Aside.mk (show (body.extract 0 bm).size ≤ 1000000 by rw [ByteArray.size_extract]; omega)
        clear htm hbm
        go_upto_if 61 with fail
        generalize (⟨#[116]⟩ : ByteArray) ++ ByteArray.extract token 0 tm = tk at HTK ⊢
        go_cut [5] (fun s5 wx => s5 = .pointer (some ⟨Y, 0, none⟩) ∧ Aside (∃ (A3 : Option Addr) (c3 : Nat) (A4 : Option Addr) (c4 : Nat) (ks2 : List Kept), PE wr wx X Y b1 b2 k W1.heap.size next now1 fs fa #[.int .i64 kind, .int .i64 nn, .int .i64 secs, .int .i64 wait, .string body, .string token] A3 c3 A4 c4 ks2 ms1))
        case first =>
          as_aux_lemma =>
            by_cases hkd : kind = 1
            · subst hkd
              go_wp2_with fail
              have hcall := T.Purge next A3 A4 c3 c4 ⟨#[]⟩ ks1 ms1 w2 (Row.of_R' HR2.out) (Row.of_R' HM2.out) (by have := HTE.out.lk; omega) (by have := HTE.out.lm; omega)
              simp only [grV] at hcall
              refine hcall.mono ?_
              clear hcall s0 s1 s2 s3 s4 s5 s6 s7 sf t0 t4 t5
              rintro e w3 ⟨vm3, rfl, hm3, hb3⟩
              obtain ⟨A4, c4, rfl, _⟩ := Row.of_R hm3
              have HSB3 := Aside.mk (HSB.out.fc (FC.of (S := []) hb3) (by simp))
              have HMK := Aside.mk hm3
              have HB3 := Aside.mk hb3
              clear hm3 hb3
              obtain ⟨s0, s1, s2, s3, s4, s5, s6, s7, sf⟩ := HSB3.out.cells
              have HNN := Aside.mk (show ks1.length ≤ 100000 by have := HTE.out.lk; omega)
              go_wp2_with (with_reducible refine halt_at (.store 25 (.tmp 72) (.tmp 69)) rfl ?_)
              refine ⟨?_⟩
              refine HSB3.out.storeL rfl (.tmp 72) (.tmp 69) rfl rfl next (.slice none 0 0) (.slice A4 ms1.length c4) ⟨#[]⟩ rfl rfl rfl (fun w4 hs4 hf4 => ?_)
              clear s0 s1 s2 s3 s4 s5 s6 s7 sf
              have hXW1 : ∀ k ∈ [X], k < W1.heap.size := by simpa using HST1.out.lt
              have HTE4 : TE k now1 [] ms1 fs fa := ⟨HTE.out.h1, HTE.out.h2, HTE.out.h3, HTE.out.h4, HTE.out.ha, Nat.zero_le _, HTE.out.lm⟩
              have HPE : Aside (∃ (A3 : Option Addr) (c3 : Nat) (A4 : Option Addr) (c4 : Nat) (ks2 : List Kept), PE wr w4 X Y b1 b2 k W1.heap.size next now1 fs fa #[.int .i64 1, .int .i64 nn, .int .i64 secs, .int .i64 wait, .string body, .string token] A3 c3 A4 c4 ks2 ms1) := ⟨none, 0, A4, c4, [], hs4, Kd.R_nil _ _ _ _ _, R_fcG (Kd.R_lower HMK.out HW1.out) hf4 hXW1, HF2.out.trans ((FC.of HB3.out).trans hf4), (hf4.block Y (Nat.lt_of_lt_of_le (Array.getElem?_eq_some_iff.1 HA2.out).1 HB3.out.size) (by have := HlX.out; simp; omega)).trans ((HB3.out.block Y (Array.getElem?_eq_some_iff.1 HA2.out).1).trans HA2.out), HTE4, Nat.le_trans HW1.out (Nat.le_trans HB3.out.size hf4.size)⟩
              clear hs4 hf4 hXW1 HTE4
              go_wp2_with fail
              go_meet
              exact ⟨rfl, HPE⟩
            · go_wp2_with fail
              go_meet
              exact ⟨rfl, ⟨A3, c3, A4, c4, ks1, HSB.out, HR2.out, HM2.out, HF2.out, HA2.out, HTE.out, HW1.out⟩⟩
        case rest =>
          clear HSB HR2 HM2 HF2 HA2 HW1 HTE s0 s1 s2 s3 s4 s5 s6 s7 sf t0 t4 t5
          obtain ⟨rfl, hPE⟩ := hcut
          obtain ⟨A3, c3, A4, c4, ks1, hpe⟩ := hPE.out
          obtain ⟨w2, hw2⟩ : ∃ w2, w2 = wc := ⟨_, rfl⟩
          subst hw2
          have HSB := Aside.mk hpe.hsb
          have HR2 := Aside.mk hpe.hr
          have HM2 := Aside.mk hpe.hm
          have HF2 := Aside.mk hpe.hf
          have HA2 := Aside.mk hpe.ha
          have HTE := Aside.mk hpe.hte
          have HW1 := Aside.mk hpe.hw
          clear hPE hpe htif htm0 htm1
          obtain ⟨s0, s1, s2, s3, s4, s5, s6, s7, sf⟩ := HSB.out.cells
          go_wp2_with fail
          clear s0 s1 s2 s3 s4 s5 s6 s7 sf
          obtain ⟨sN, hsN⟩ : ∃ sN, sendN next ks1 ms1 tk = sN := ⟨_, rfl⟩
          obtain ⟨sQ, hsQ⟩ : ∃ sQ, (sendF next ks1 ms1 tk).1 = sQ := ⟨_, rfl⟩
          obtain ⟨sE, hsE⟩ : ∃ sE, (sendF next ks1 ms1 tk).2.1 = sE := ⟨_, rfl⟩
          have HS1 := Aside.mk hsN
          have HS2 := Aside.mk hsQ
          have HS3 := Aside.mk hsE
          clear hsN hsQ hsE
          go_cut [8, 9, 10] (fun s8 s9 s10 wx => ∃ P : Nat, s8 = .pointer (some ⟨P, 0, none⟩) ∧ s9 = .int .i64 sQ ∧ s10 = .int .i64 sE ∧ Aside (∃ (A5 : Option Addr) (c5 : Nat) (A6 : Option Addr) (c6 : Nat), PS w2 wx P sN (sendK next ks1 ms1 now1 0 (body.extract 0 bm) tk) (sendM next ks1 ms1 now1 tk) A5 c5 A6 c6))
          case first =>
            as_aux_lemma =>
              have hbm2 : (bm : Int) ≤ (body.size : Int) := by omega
              have hlk : ks1.length ≤ 100000 := by have := HTE.out.lk; omega
              have hlm : ms1.length ≤ 100000 := by have := HTE.out.lm; omega
              let W : (Value × Value × Nat) → Array Bool → World → Prop := fun g listed w' => FC [] w2 w' ∧ (listed.getD 16 false = true → keptK.R 61 w' w2.heap.size (fun _ => True) g.1 (sendK next ks1 ms1 now1 0 (body.extract 0 bm) tk) ∧ markK.R 67 w' w2.heap.size (fun _ => True) g.2.1 (sendM next ks1 ms1 now1 tk)) ∧ (listed.getD 21 false = true → w2.heap.size ≤ g.2.2 ∧ ∃ cs, w'.heap[g.2.2]? = some (.cells cs 25 (0, 0)) ∧ cs.size = 4 ∧ (listed.getD 22 false = true → cs = #[.int .i64 sN, g.1, g.2.1, .string ⟨#[]⟩]))
              have hkeep : ∀ g listed w' i, i < listed.size → i ≠ 16 → i ≠ 21 → i ≠ 22 → W g listed w' → W g (listed.setIfInBounds i true) w' := fun g listed w' i hi h16 h21 h22 hW => by
                obtain ⟨a1, a2, a3⟩ := hW
                refine ⟨a1, fun h => a2 ?_, fun h => ?_⟩
                · rw [getD_set _ _ _ _ _ hi, if_neg (Ne.symm h16)] at h; exact h
                · rw [getD_set _ _ _ _ _ hi, if_neg (Ne.symm h21)] at h
                  obtain ⟨q1, cs, q2, q3, q4⟩ := a3 h
                  refine ⟨q1, cs, q2, q3, fun h' => q4 ?_⟩
                  rw [getD_set _ _ _ _ _ hi, if_neg (Ne.symm h22)] at h'; exact h'
              refine wp_region_confD (by kernel_rfl) (fun (g : Value × Value × Nat) i => vtok X Y bm ks1.length ms1.length c3 c4 A3 A4 next now1 sN sQ sE body tk g i) W (.slice none 0 0, .slice none 0 0, 0) (by kernel_rfl) ?_ ?_ ?_
              · exact ⟨(FC.refl _ _).drew, fun h => by simp at h, fun h => by simp at h⟩
              ·
                intro g i o listed a w' ho hs hn hp hcl hd hW
                have hi : i < 25 := (Array.getElem?_eq_some_iff.1 ho).1
                have hs25 : listed.size = 25 := hs
                have hil : i < listed.size := by omega
                have hcase : i = 0 ∨ i = 1 ∨ i = 2 ∨ i = 3 ∨ i = 4 ∨ i = 5 ∨ i = 6 ∨ i = 7 ∨ i = 8 ∨ i = 9 ∨ i = 10 ∨ i = 11 ∨ i = 12 ∨ i = 13 ∨ i = 14 ∨ i = 15 ∨ i = 16 ∨ i = 17 ∨ i = 18 ∨ i = 19 ∨ i = 20 ∨ i = 21 ∨ i = 22 ∨ i = 23 ∨ i = 24 := by omega
                rcases hcase with rfl | rfl | rfl | rfl | rfl | rfl | rfl | rfl | rfl | rfl | rfl | rfl | rfl | rfl | rfl | rfl | rfl | rfl | rfl | rfl | rfl | rfl | rfl | rfl | rfl
                all_goals
                  simp only [List.getElem?_toArray, List.getElem?_cons_succ, List.getElem?_cons_zero, Option.some.injEq] at ho
                  subst ho
                  refine ⟨rfl, ?_⟩
                · have e3 := hd.base 3 (.pointer (some ⟨X, 0, none⟩)) (by kernel_rfl) rfl
                  exact wp_val ((.pointer (some ⟨X, 0, none⟩))) (by simp only [execOp, e3]; simp [go_sem]) ⟨g, fun _ _ => rfl, rfl, hkeep g listed w' 0 hil (by decide) (by decide) (by decide) hW⟩
                · have l0 := hp { on := 0, ground := Ground.data } (by simp) rfl
                  have e80 : a.eval (.tmp 80) = (.pointer (some ⟨X, 0, none⟩)) := hd.ev 0 80 rfl l0
                  exact wp_val ((.pointer (some ⟨X, 0, none⟩))) (by simp only [execOp, e80]; simp [go_sem]) ⟨g, fun _ _ => rfl, rfl, hkeep g listed w' 1 hil (by decide) (by decide) (by decide) hW⟩
                · have l1 := hp { on := 1, ground := Ground.data } (by simp) rfl
                  have e81 : a.eval (.tmp 81) = (.pointer (some ⟨X, 0, none⟩)) := hd.ev 1 81 rfl l1
                  exact wp_val ((.pointer (some ⟨X, 0, none⟩))) (by simp only [execOp, e81]; simp [go_sem]) ⟨g, fun _ _ => rfl, rfl, hkeep g listed w' 2 hil (by decide) (by decide) (by decide) hW⟩
                · have l2 := hp { on := 2, ground := Ground.data } (by simp) rfl
                  have e82 : a.eval (.tmp 82) = (.pointer (some ⟨X, 0, none⟩)) := hd.ev 2 82 rfl l2
                  have hsb := HSB.out.fc hW.1 (by simp)
                  exact hsb.loadG (.tmp 82) rfl e82 ⟨g, fun _ _ => rfl, rfl, hkeep g listed w' 3 hil (by decide) (by decide) (by decide) hW⟩
                · have e3 := hd.base 3 (.pointer (some ⟨X, 0, none⟩)) (by kernel_rfl) rfl
                  exact wp_val ((.pointer (some ⟨X, 0, none⟩))) (by simp only [execOp, e3]; simp [go_sem]) ⟨g, fun _ _ => rfl, rfl, hkeep g listed w' 4 hil (by decide) (by decide) (by decide) hW⟩
                · have l4 := hp { on := 4, ground := Ground.data } (by simp) rfl
                  have e84 : a.eval (.tmp 84) = (.pointer (some ⟨X, 0, none⟩)) := hd.ev 4 84 rfl l4
                  exact wp_val ((.pointer (some ⟨X, 0, none⟩))) (by simp only [execOp, e84]; simp [go_sem]) ⟨g, fun _ _ => rfl, rfl, hkeep g listed w' 5 hil (by decide) (by decide) (by decide) hW⟩
                · have l5 := hp { on := 5, ground := Ground.data } (by simp) rfl
                  have e85 : a.eval (.tmp 85) = (.pointer (some ⟨X, 0, none⟩)) := hd.ev 5 85 rfl l5
                  exact wp_val ((.pointer (some ⟨X, 4, none⟩))) (by simp only [execOp, e85]; simp [go_sem]) ⟨g, fun _ _ => rfl, rfl, hkeep g listed w' 6 hil (by decide) (by decide) (by decide) hW⟩
                · have l6 := hp { on := 6, ground := Ground.data } (by simp) rfl
                  have e86 : a.eval (.tmp 86) = (.pointer (some ⟨X, 4, none⟩)) := hd.ev 6 86 rfl l6
                  have hq := (HSB.out.fc hW.1 (by simp)).cells.2.2.2.2.1
                  exact wp_val ((.int .i64 now1)) (by simp only [execOp, e86]; simp [go_sem, hq]) ⟨g, fun _ _ => rfl, rfl, hkeep g listed w' 7 hil (by decide) (by decide) (by decide) hW⟩
                · have e5 := hd.base 5 (.pointer (some ⟨Y, 0, none⟩)) (by kernel_rfl) rfl
                  exact wp_val ((.pointer (some ⟨Y, 4, none⟩))) (by simp only [execOp, e5]; simp [go_sem]) ⟨g, fun _ _ => rfl, rfl, hkeep g listed w' 8 hil (by decide) (by decide) (by decide) hW⟩
                · have l8 := hp { on := 8, ground := Ground.data } (by simp) rfl
                  have e88 : a.eval (.tmp 88) = (.pointer (some ⟨Y, 4, none⟩)) := hd.ev 8 88 rfl l8
                  have hq : w'.cell? ⟨Y, 4, none⟩ = some (.string body) := cell_of_row _ _ _ _ _ _ ((hW.1.block Y (Array.getElem?_eq_some_iff.1 HA2.out).1 (by simp)).trans HA2.out)
                  exact wp_val ((.string body)) (by simp only [execOp, e88]; simp [go_sem, hq]) ⟨g, fun _ _ => rfl, rfl, hkeep g listed w' 9 hil (by decide) (by decide) (by decide) hW⟩
                · have e5 := hd.base 5 (.pointer (some ⟨Y, 0, none⟩)) (by kernel_rfl) rfl
                  exact wp_val ((.pointer (some ⟨Y, 4, none⟩))) (by simp only [execOp, e5]; simp [go_sem]) ⟨g, fun _ _ => rfl, rfl, hkeep g listed w' 10 hil (by decide) (by decide) (by decide) hW⟩
                · have l10 := hp { on := 10, ground := Ground.data } (by simp) rfl
                  have e90 : a.eval (.tmp 90) = (.pointer (some ⟨Y, 4, none⟩)) := hd.ev 10 90 rfl l10
                  have hq : w'.cell? ⟨Y, 4, none⟩ = some (.string body) := cell_of_row _ _ _ _ _ _ ((hW.1.block Y (Array.getElem?_eq_some_iff.1 HA2.out).1 (by simp)).trans HA2.out)
                  exact wp_val ((.string body)) (by simp only [execOp, e90]; simp [go_sem, hq]) ⟨g, fun _ _ => rfl, rfl, hkeep g listed w' 11 hil (by decide) (by decide) (by decide) hW⟩
                · have l11 := hp { on := 11, ground := Ground.data } (by simp) rfl
                  have e91 : a.eval (.tmp 91) = (.string body) := hd.ev 11 91 rfl l11
                  have e91' : (a.tmps[91]?.getD undef) = (.string body) := by simpa [Act.eval] using e91
                  exact wp_val ((.int .i64 (body.size : Int))) (by simp only [execOp]; simp [go_sem, e91', Tryd.underlying9]) ⟨g, fun _ _ => rfl, rfl, hkeep g listed w' 12 hil (by decide) (by decide) (by decide) hW⟩
                · have l12 := hp { on := 12, ground := Ground.data } (by simp) rfl
                  have e92 : a.eval (.tmp 92) = (.int .i64 (body.size : Int)) := hd.ev 12 92 rfl l12
                  have e92' : (a.tmps[92]?.getD undef) = (.int .i64 (body.size : Int)) := by simpa [Act.eval] using e92
                  exact wp_val ((.int .i64 (bm : Int))) (by simp only [execOp]; simp [go_sem, e92', hbif]) ⟨g, fun _ _ => rfl, rfl, hkeep g listed w' 13 hil (by decide) (by decide) (by decide) hW⟩
                · have l9 := hp { on := 9, ground := Ground.data } (by simp) rfl
                  have e89 : a.eval (.tmp 89) = (.string body) := hd.ev 9 89 rfl l9
                  have l13 := hp { on := 13, ground := Ground.data } (by simp) rfl
                  have e93 : a.eval (.tmp 93) = (.int .i64 (bm : Int)) := hd.ev 13 93 rfl l13
                  have e93' : (a.tmps[93]?.getD undef) = (.int .i64 (bm : Int)) := by simpa [Act.eval] using e93
                  exact wp_val ((.string (body.extract 0 bm))) (by simp only [execOp, e89]; simp [go_sem, e93', hbm2, Tryd.underlying9]) ⟨g, fun _ _ => rfl, rfl, hkeep g listed w' 14 hil (by decide) (by decide) (by decide) hW⟩
                · have e6 := hd.base 6 (.string tk) (by kernel_rfl) rfl
                  exact wp_val ((.string tk)) (by simp only [execOp, e6]; simp [go_sem]) ⟨g, fun _ _ => rfl, rfl, hkeep g listed w' 15 hil (by decide) (by decide) (by decide) hW⟩
                · have l3 := hp { on := 3, ground := Ground.data } (by simp) rfl
                  have e83 : a.eval (.tmp 83) = (.agg #[.int .i64 next, .slice A3 ks1.length c3, .slice A4 ms1.length c4, .string ⟨#[]⟩]) := hd.ev 3 83 rfl l3
                  have l7 := hp { on := 7, ground := Ground.data } (by simp) rfl
                  have e87 : a.eval (.tmp 87) = (.int .i64 now1) := hd.ev 7 87 rfl l7
                  have l14 := hp { on := 14, ground := Ground.data } (by simp) rfl
                  have e94 : a.eval (.tmp 94) = (.string (body.extract 0 bm)) := hd.ev 14 94 rfl l14
                  have l15 := hp { on := 15, ground := Ground.data } (by simp) rfl
                  have e95 : a.eval (.tmp 95) = (.string tk) := hd.ev 15 95 rfl l15
                  have hrk := R_fcG HR2.out hW.1 (by simp)
                  have hrm := R_fcG HM2.out hW.1 (by simp)
                  have hcall := T.Send next A3 A4 c3 c4 ⟨#[]⟩ ks1 ms1 now1 0 (body.extract 0 bm) tk tk w' (Row.of_R' hrk) (Row.of_R' hrm) hlk hlm HTB.out (.inr ⟨HTK.out.1, rfl⟩)
                  rw [HS1.out, HS2.out, HS3.out] at hcall
                  simp only [grV] at hcall
                  refine wp_calls 17 #[.tmp 83, .tmp 87, .const (.int .i64 0), .tmp 94, .tmp 95] #[25, 3, 3, 9, 9] rfl (enters_of Tryd.func17 (by kernel_rfl) rfl) _ (by simp [e83, e87, e94, e95]; rfl) (hcall.mono ?_)
                  rintro e' w4 ⟨vk', vm', rfl, hr4, hm4, hb4⟩
                  refine ⟨_, rfl, (vk', vm', g.2.2), fun j hj => ?_, rfl, hW.1.trans (FC.of hb4), fun _ => ⟨Kd.R_lower hr4 hW.1.size, Kd.R_lower hm4 hW.1.size⟩, fun h => ?_⟩
                  · refine vtok_16 X Y bm ks1.length ms1.length c3 c4 A3 A4 next now1 sN sQ sE body tk g (vk', vm', g.2.2) rfl j (fun e => ?_) (fun e => ?_) (fun e => ?_)
                    · subst e; rw [hj] at hn; cases hn
                    · subst e; rw [hcl.of 17 16 hj (by kernel_rfl)] at hn; cases hn
                    · subst e; rw [hcl.of 17 16 (hcl.of 18 17 hj (by kernel_rfl)) (by kernel_rfl)] at hn; cases hn
                  · rw [getD_set _ _ _ _ _ hil, if_neg (by decide)] at h
                    obtain ⟨q1, cs, q2, q3, q4⟩ := hW.2.2 h
                    refine ⟨q1, cs, (hb4.block _ (Array.getElem?_eq_some_iff.1 q2).1).trans q2, q3, fun h22 => ?_⟩
                    rw [getD_set _ _ _ _ _ hil, if_neg (by decide)] at h22
                    rw [hcl.of 22 16 h22 (by kernel_rfl)] at hn; cases hn
                · have l16 := hp { on := 16, ground := Ground.data } (by simp) rfl
                  have e96 : a.eval (.tmp 96) = (.tuple #[.agg #[.int .i64 sN, g.1, g.2.1, .string ⟨#[]⟩], .int .i64 sQ, .int .i64 sE]) := hd.ev 16 96 rfl l16
                  exact wp_val ((.tuple #[.agg #[.int .i64 sN, g.1, g.2.1, .string ⟨#[]⟩], .int .i64 sQ, .int .i64 sE])) (by simp only [execOp, e96]; simp [go_sem]) ⟨g, fun _ _ => rfl, rfl, hkeep g listed w' 17 hil (by decide) (by decide) (by decide) hW⟩
                · have l17 := hp { on := 17, ground := Ground.data } (by simp) rfl
                  have e79 : a.eval (.tmp 79) = (.tuple #[.agg #[.int .i64 sN, g.1, g.2.1, .string ⟨#[]⟩], .int .i64 sQ, .int .i64 sE]) := hd.ev 17 79 rfl l17
                  exact wp_val ((.agg #[.int .i64 sN, g.1, g.2.1, .string ⟨#[]⟩])) (by simp only [execOp, e79]; simp [go_sem]) ⟨g, fun _ _ => rfl, rfl, hkeep g listed w' 18 hil (by decide) (by decide) (by decide) hW⟩
                · have l17 := hp { on := 17, ground := Ground.data } (by simp) rfl
                  have e79 : a.eval (.tmp 79) = (.tuple #[.agg #[.int .i64 sN, g.1, g.2.1, .string ⟨#[]⟩], .int .i64 sQ, .int .i64 sE]) := hd.ev 17 79 rfl l17
                  exact wp_val ((.int .i64 sQ)) (by simp only [execOp, e79]; simp [go_sem]) ⟨g, fun _ _ => rfl, rfl, hkeep g listed w' 19 hil (by decide) (by decide) (by decide) hW⟩
                · have l17 := hp { on := 17, ground := Ground.data } (by simp) rfl
                  have e79 : a.eval (.tmp 79) = (.tuple #[.agg #[.int .i64 sN, g.1, g.2.1, .string ⟨#[]⟩], .int .i64 sQ, .int .i64 sE]) := hd.ev 17 79 rfl l17
                  exact wp_val ((.int .i64 sE)) (by simp only [execOp, e79]; simp [go_sem]) ⟨g, fun _ _ => rfl, rfl, hkeep g listed w' 20 hil (by decide) (by decide) (by decide) hW⟩
                · refine wp_val (w2 := w'.alloc (.cells #[.int .i64 0, .slice none 0 0, .slice none 0 0, .string ⟨#[]⟩] 25)) (.pointer (some ⟨w'.heap.size, 0, none⟩)) (by simp only [execOp]; simp [go_sem]) ⟨(g.1, g.2.1, w'.heap.size), fun j hj => vtok_21 X Y bm ks1.length ms1.length c3 c4 A3 A4 next now1 sN sQ sE body tk g (g.1, g.2.1, w'.heap.size) rfl rfl j (fun e => by subst e; rw [hj] at hn; cases hn), rfl, hW.1.alloc _, fun h => ?_, fun _ => ⟨hW.1.size, _, heap_alloc_new w' _, rfl, fun h22 => ?_⟩⟩
                  · rw [getD_set _ _ _ _ _ hil, if_neg (by decide)] at h
                    obtain ⟨r1, r2⟩ := hW.2.1 h
                    exact ⟨Kd.R_alloc r1 _, Kd.R_alloc r2 _⟩
                  · rw [getD_set _ _ _ _ _ hil, if_neg (by decide)] at h22
                    rw [hcl.of 22 21 h22 (by kernel_rfl)] at hn; cases hn
                · have l21 := hp { on := 21, ground := Ground.data } (by simp) rfl
                  have e8 : a.eval (.tmp 8) = (.pointer (some ⟨g.2.2, 0, none⟩)) := hd.ev 21 8 rfl l21
                  have l18 := hp { on := 18, ground := Ground.data } (by simp) rfl
                  have e97 : a.eval (.tmp 97) = (.agg #[.int .i64 sN, g.1, g.2.1, .string ⟨#[]⟩]) := hd.ev 18 97 rfl l18
                  have l16 := hp { on := 16, ground := Ground.chain } (by simp) rfl
                  have l16' := hcl.of 17 16 (hcl.of 18 17 l18 (by kernel_rfl)) (by kernel_rfl)
                  obtain ⟨r1, r2⟩ := hW.2.1 l16'
                  obtain ⟨q1, cs, q2, q3, _⟩ := hW.2.2 l21
                  refine wp_store_mid 25 (.tmp 8) (.tmp 97) rfl g.2.2 0 #[.int .i64 sN, g.1, g.2.1, .string ⟨#[]⟩] e8 e97 (there_row q2 _ (by rw [q3]; rfl)) (by kernel_rfl) (all_oneCell_toArray (cs := [.int .i64 sN, g.1, g.2.1, .string ⟨#[]⟩]) (fun v hv => by simp at hv; rcases hv with rfl | rfl | rfl | rfl; rfl; exact oneCell_R r1; exact oneCell_R r2; rfl)) ?_
                  have hfs := FC.setCells (S := [g.2.2]) (g := g.2.2) (.inl (by simp)) [.int .i64 sN, g.1, g.2.1, .string ⟨#[]⟩] 0 w' (FC.refl _ _)
                  refine ⟨g, fun _ _ => rfl, rfl, ?_, fun _ => ⟨R_fcT r1 hfs q2 (fun q hq e => by subst e; simp [keptK, plainK] at hq), R_fcT r2 hfs q2 (fun q hq e => by subst e; simp [markK, plainK] at hq)⟩, fun _ => ⟨q1, _, fill_row q2 [.int .i64 sN, g.1, g.2.1, .string ⟨#[]⟩] (by rw [q3]; rfl), rfl, fun _ => rfl⟩⟩
                  exact ⟨hfs.os.trans hW.1.os, hfs.tape.trans hW.1.tape, hfs.output.trans hW.1.output, Nat.le_trans hW.1.size hfs.size, fun j hj _ => (hfs.block j (Nat.lt_of_lt_of_le hj hW.1.size) (by simp; omega)).trans (hW.1.block j hj (by simp))⟩
                · have l19 := hp { on := 19, ground := Ground.data } (by simp) rfl
                  have e98 : a.eval (.tmp 98) = (.int .i64 sQ) := hd.ev 19 98 rfl l19
                  have l22 := hp { on := 22, ground := Ground.chain } (by simp) rfl
                  exact wp_val ((.int .i64 sQ)) (by simp only [execOp, e98]; simp [go_sem]) ⟨g, fun _ _ => rfl, rfl, hkeep g listed w' 23 hil (by decide) (by decide) (by decide) hW⟩
                · have l20 := hp { on := 20, ground := Ground.data } (by simp) rfl
                  have e99 : a.eval (.tmp 99) = (.int .i64 sE) := hd.ev 20 99 rfl l20
                  have l23 := hp { on := 23, ground := Ground.chain } (by simp) rfl
                  exact wp_val ((.int .i64 sE)) (by simp only [execOp, e99]; simp [go_sem]) ⟨g, fun _ _ => rfl, rfl, hkeep g listed w' 24 hil (by decide) (by decide) (by decide) hW⟩
              · intro g listed a' w5 hs hall hd hW
                obtain ⟨hf5, hrows, hbox⟩ := hW
                obtain ⟨hr5, hm5⟩ := hrows (hall 16 (by decide))
                obtain ⟨hP, cs, hbx, _, hcs⟩ := hbox (hall 21 (by decide))
                have hcs' := hcs (hall 22 (by decide))
                subst hcs'
                rw [hd.full (md := .any) (fits_of (by kernel_rfl)) hall]
                clear hd hall hs hkeep W hrows hbox hcs
                obtain ⟨vk5, vm5, P⟩ := g
                dsimp only at hr5 hm5 hP hbx
                obtain ⟨A5, c5, rfl, _⟩ := Row.of_R hr5
                obtain ⟨A6, c6, rfl, _⟩ := Row.of_R hm5
                simp only [vtok, List.size_toArray, List.length_cons, List.length_nil, Nat.reduceAdd, fill, List.getElem?_toArray, List.getElem?_cons_succ, List.getElem?_cons_zero, Option.bind_some, List.setIfInBounds_toArray, List.set_cons_succ, List.set_cons_zero, List.getD_cons_succ, List.getD_cons_zero]
                have HPS : Aside (∃ (A5 : Option Addr) (c5 : Nat) (A6 : Option Addr) (c6 : Nat), PS w2 w5 P sN (sendK next ks1 ms1 now1 0 (body.extract 0 bm) tk) (sendM next ks1 ms1 now1 tk) A5 c5 A6 c6) := ⟨A5, c5, A6, c6, hf5, hr5, hm5, hbx, hP⟩
                clear hf5 hr5 hm5 hbx hP
                go_wp2_with fail
                go_meet
                exact ⟨P, rfl, rfl, rfl, HPS⟩
          case rest =>
            obtain ⟨P, rfl, rfl, rfl, hPS⟩ := hcut
            obtain ⟨A5, c5, A6, c6, hps⟩ := hPS.out
            obtain ⟨w5, hw5⟩ : ∃ w5, w5 = wc := ⟨_, rfl⟩
            subst hw5
            have hf5 := hps.hf
            have hr5 := hps.hr
            have hm5 := hps.hm
            have hbx := hps.hg
            have hP := hps.hp
            clear hPS hps
            generalize hks5 : sendK next ks1 ms1 now1 0 (body.extract 0 bm) tk = ks5 at hr5 hbx
            generalize hms5 : sendM next ks1 ms1 now1 tk = ms5 at hm5 hbx
            have HK5 := Aside.mk hks5
            have HM5' := Aside.mk hms5
            have HF5 := Aside.mk hf5
            have HR5 := Aside.mk hr5
            have HM5 := Aside.mk hm5
            have HP := Aside.mk hP
            have HSB5 := Aside.mk (HSB.out.fc hf5 (by simp))
            have HG5 := Aside.mk (show GBox w5 P sN (.slice A5 ks5.length c5) (.slice A6 ms5.length c6) ⟨#[]⟩ from hbx)
            have HLO := Aside.mk HJ0.out.lo
            have HFT := Aside.mk (HF2.out.trans (hf5.sub (S' := [X]) (by simp)))
            have HMA := Aside.mk (HJ0.out.m1.fc HFT.out (by have := HLO.out; simp; omega))
            have HMB := Aside.mk (HJ0.out.m2.fc HFT.out (by have := HLO.out; simp; omega))
            have hlA := (HMA.out.look tk HTK.out.2).1
            have hlB := (HMB.out.look tk HTK.out.2).2
            have hlC : ∀ m, (Instr.lookup 40 (.map (some b2)) (.string tk) false).run Tryd.prog (w5.drewN m) = .ok (.int .i64 ((fa tk).getD 0)) (w5.drewN m) := fun m => ((HMB.out.move (w' := w5.drewN m) rfl).look tk HTK.out.2).2
            have HNX := Aside.mk HJ0.out.hnext
            have HXW2 := Aside.mk (show ∀ k ∈ [X], k < w2.heap.size by simpa using HSB.out.lt)
            have HBW := Aside.mk (show B ≤ w2.heap.size ∧ w2.heap.size ≤ w5.heap.size from ⟨Nat.le_trans HlB.out (Nat.le_of_lt (Array.getElem?_eq_some_iff.1 HA2.out).1) , hf5.size⟩)
            clear hks5 hms5 hf5 hr5 hm5 hP hbx hbif hbm0 hbm1 hlB
            obtain ⟨s0, s1, s2, s3, s4, s5, s6, s7, sf⟩ := HSB5.out.cells
            obtain ⟨p0, p1, p2, p3, pf⟩ := HG5.out.cells
            have HCS := Aside.mk (HTE.out.cases tk next)
            obtain ⟨kn, hkn'⟩ : ∃ kn, (fs tk).isSome = kn := ⟨_, rfl⟩
            obtain ⟨wv, hwv⟩ : ∃ wv, (fs tk).getD 0 = wv := ⟨_, rfl⟩
            obtain ⟨av, hav⟩ : ∃ av, (fa tk).getD 0 = av := ⟨_, rfl⟩
            rw [hkn', hwv] at hlA
            rw [hav] at hlC
            rcases HCS.out with ⟨q, a0, e1, e2, e3, e4, e5, hF⟩ | ⟨hnt, hkn, hss⟩
            · have f1 := HS1.out
              have f2 := HS2.out
              have f3 := HS3.out
              have f4 := HK5.out
              have f5 := HM5'.out
              unfold sendN at f1
              unfold sendK at f4
              unfold sendM at f5
              rw [hF] at f1 f2 f3 f4 f5
              simp only at f1 f2 f3
              simp only [Bool.false_eq_true, if_false] at f1 f4 f5
              subst f1 f2 f3 f4 f5
              rw [e1] at hkn' hwv
              rw [e2] at hav
              simp only [Option.getD_some, Option.isSome_some] at hkn' hwv hav
              subst hkn' hwv hav
              have hwr : wrap64 (now1 - a0) = now1 - a0 := by have := HNW.out; unfold wrap64; omega
              have hge : ¬ 300 ≤ now1 - a0 := by omega
              clear e1 e2 e3 e4 e5 hF
              clear HS1 HS2 HS3 HK5 HM5' HCS
              go_wp2_with fail
              go_quiet (fail)
              generalize hwq : World.drewN w5 _ = wq
              have hfq : FC [] w5 wq := by rw [← hwq]; exact ⟨rfl, rfl, rfl, Nat.le_refl _, fun _ _ _ => rfl⟩
              clear hwq
              have HSBq := Aside.mk (HSB5.out.fc hfq (by simp))
              have HGq := Aside.mk (HG5.out.fc hfq (by simp))
              have HFq := Aside.mk hfq
              clear hfq s0 s1 s2 s3 s4 s5 s6 s7 sf p0 p1 p2 p3 pf hlA hlC
              obtain ⟨s0, s1, s2, s3, s4, s5, s6, s7, sf⟩ := HSBq.out.cells
              obtain ⟨p0, p1, p2, p3, pf⟩ := HGq.out.cells
              as_aux_lemma =>
                go_wp2_with (with_reducible refine halt_at (.store 25 (.tmp 224) (.tmp 222)) rfl ?_)
                refine ⟨?_⟩
                refine HSBq.out.storeL rfl (.tmp 224) (.tmp 222) rfl rfl next (.slice A5 ks1.length c5) (.slice A6 ms1.length c6) ⟨#[]⟩ rfl rfl rfl (fun w7 hs7 hf7 => ?_)
                have hft := HFT.out.trans ((HFq.out.sub (S' := [X]) (by simp)).trans hf7)
                have HT := Aside.mk (HTE.out.same (w := w) hs7 (Kd.R_lower (R_fcG (R_fcG HR5.out HFq.out (by simp)) hf7 HXW2.out) HBW.out.1) (Kd.R_lower (R_fcG (R_fcG HM5.out HFq.out (by simp)) hf7 HXW2.out) HBW.out.1) (HJ0.out.m1.fc hft (by have := HLO.out; simp; omega)) (HJ0.out.m2.fc hft (by have := HLO.out; simp; omega)) (FC.below HJ0.out.below hft (by have := HLO.out; simp; omega) (Nat.le_refl _)) ⟨HLO.out.1, HLO.out.2.1, HLO.out.2.2.1, HLO.out.2.2.2.1, Nat.le_trans HLO.out.2.2.2.2 hft.size⟩ HNW.out.2 HNX.out)
                clear s0 s1 s2 s3 s4 s5 s6 s7 sf p0 p1 p2 p3 pf hs7 hf7 hft
                go_wp2
                go_roundg (gk - 1)
                case measure => have := HK.out; omega
                case rel => exact ⟨k + 1, next, now1, A5, c5, A6, c6, ks1, ms1, fs, fa, by have := HK.out; omega, by go_num, by omega, ⟨HT.out⟩⟩
            · have HNT := Aside.mk hnt
              have hka : kn = true → 300 ≤ now1 - av ∧ wrap64 (now1 - av) = now1 - av := fun hk => by
                rcases hkn with ⟨e1, _⟩ | ⟨q, a0, e1, e2, e3, e4, e5⟩
                · rw [e1] at hkn'
                  rw [← hkn'] at hk; cases hk
                · rw [e2] at hav
                  have hav' : a0 = av := hav
                  rw [← hav']
                  exact ⟨e3, by have := HNW.out; unfold wrap64; omega⟩
              have HKA := Aside.mk hka
              clear hnt hkn hka hkn' hwv hav
              go_upto_region 14 with fail
              go_cut [8, 13] (fun s8 s13 wx => s8 = .pointer (some ⟨P, 0, none⟩) ∧ s13 = .bool true ∧ Aside (FC [] w5 wx))
              case first =>
                as_aux_lemma =>
                  cases kn
                  · go_quiet (fail)
                    generalize hwq : World.drewN w5 _ = wq
                    have hfq : Aside (FC [] w5 wq) := ⟨by rw [← hwq]; exact ⟨rfl, rfl, rfl, Nat.le_refl _, fun _ _ _ => rfl⟩⟩
                    go_wp2_with fail
                    go_meet
                    exact ⟨rfl, rfl, hfq⟩
                  · obtain ⟨hge, hwr⟩ := HKA.out rfl
                    go_quiet (fail)
                    generalize hwq : World.drewN w5 _ = wq
                    have hfq : Aside (FC [] w5 wq) := ⟨by rw [← hwq]; exact ⟨rfl, rfl, rfl, Nat.le_refl _, fun _ _ _ => rfl⟩⟩
                    go_wp2_with fail
                    go_meet
                    exact ⟨rfl, rfl, hfq⟩
              case rest =>
                obtain ⟨rfl, rfl, hfq'⟩ := hcut
                have hfq := hfq'.out
                obtain ⟨wq, hwq⟩ : ∃ wq, wq = wc := ⟨_, rfl⟩
                subst hwq
                have HSBq := Aside.mk (HSB5.out.fc hfq (by simp))
                have HGq := Aside.mk (HG5.out.fc hfq (by simp))
                have HFq := Aside.mk hfq
                clear hfq s0 s1 s2 s3 s4 s5 s6 s7 sf p0 p1 p2 p3 pf hlA hlC
                obtain ⟨s0, s1, s2, s3, s4, s5, s6, s7, sf⟩ := HSBq.out.cells
                obtain ⟨p0, p1, p2, p3, pf⟩ := HGq.out.cells
                clear hfq'
                rcases hss with ⟨hF, hfull⟩ | ⟨hF, hk12, hm40⟩
                · have f1 := HS1.out
                  have f2 := HS2.out
                  have f3 := HS3.out
                  have f4 := HK5.out
                  have f5 := HM5'.out
                  unfold sendN at f1
                  unfold sendK at f4
                  unfold sendM at f5
                  rw [hF] at f1 f2 f3 f4 f5
                  simp only at f1 f2 f3
                  simp only [Bool.false_eq_true, if_false] at f1 f4 f5
                  subst f1 f2 f3 f4 f5
                  by_cases h12 : (ks1.length : Int) < 12
                  · have h40 : ¬ (ms1.length : Int) < 40 := by omega
                    clear hF hfull HCS
                    as_aux_lemma =>
                      go_wp2_with (with_reducible refine halt_at (.store 25 (.tmp 224) (.tmp 222)) rfl ?_)
                      refine ⟨?_⟩
                      refine HSBq.out.storeL rfl (.tmp 224) (.tmp 222) rfl rfl next (.slice A5 ks1.length c5) (.slice A6 ms1.length c6) ⟨#[]⟩ rfl rfl rfl (fun w7 hs7 hf7 => ?_)
                      have hft := HFT.out.trans ((HFq.out.sub (S' := [X]) (by simp)).trans hf7)
                      have HT := Aside.mk (HTE.out.same (w := w) hs7 (Kd.R_lower (R_fcG (R_fcG HR5.out HFq.out (by simp)) hf7 HXW2.out) HBW.out.1) (Kd.R_lower (R_fcG (R_fcG HM5.out HFq.out (by simp)) hf7 HXW2.out) HBW.out.1) (HJ0.out.m1.fc hft (by have := HLO.out; simp; omega)) (HJ0.out.m2.fc hft (by have := HLO.out; simp; omega)) (FC.below HJ0.out.below hft (by have := HLO.out; simp; omega) (Nat.le_refl _)) ⟨HLO.out.1, HLO.out.2.1, HLO.out.2.2.1, HLO.out.2.2.2.1, Nat.le_trans HLO.out.2.2.2.2 hft.size⟩ HNW.out.2 HNX.out)
                      clear s0 s1 s2 s3 s4 s5 s6 s7 sf p0 p1 p2 p3 pf hs7 hf7 hft
                      go_wp2
                      go_roundg (gk - 1)
                      case measure => have := HK.out; omega
                      case rel => exact ⟨k + 1, next, now1, A5, c5, A6, c6, ks1, ms1, fs, fa, by have := HK.out; omega, by go_num, by omega, ⟨HT.out⟩⟩
                  · clear hF hfull HCS
                    as_aux_lemma =>
                      go_wp2_with (with_reducible refine halt_at (.store 25 (.tmp 224) (.tmp 222)) rfl ?_)
                      refine ⟨?_⟩
                      refine HSBq.out.storeL rfl (.tmp 224) (.tmp 222) rfl rfl next (.slice A5 ks1.length c5) (.slice A6 ms1.length c6) ⟨#[]⟩ rfl rfl rfl (fun w7 hs7 hf7 => ?_)
                      have hft := HFT.out.trans ((HFq.out.sub (S' := [X]) (by simp)).trans hf7)
                      have HT := Aside.mk (HTE.out.same (w := w) hs7 (Kd.R_lower (R_fcG (R_fcG HR5.out HFq.out (by simp)) hf7 HXW2.out) HBW.out.1) (Kd.R_lower (R_fcG (R_fcG HM5.out HFq.out (by simp)) hf7 HXW2.out) HBW.out.1) (HJ0.out.m1.fc hft (by have := HLO.out; simp; omega)) (HJ0.out.m2.fc hft (by have := HLO.out; simp; omega)) (FC.below HJ0.out.below hft (by have := HLO.out; simp; omega) (Nat.le_refl _)) ⟨HLO.out.1, HLO.out.2.1, HLO.out.2.2.1, HLO.out.2.2.2.1, Nat.le_trans HLO.out.2.2.2.2 hft.size⟩ HNW.out.2 HNX.out)
                      clear s0 s1 s2 s3 s4 s5 s6 s7 sf p0 p1 p2 p3 pf hs7 hf7 hft
                      go_wp2
                      go_roundg (gk - 1)
                      case measure => have := HK.out; omega
                      case rel => exact ⟨k + 1, next, now1, A5, c5, A6, c6, ks1, ms1, fs, fa, by have := HK.out; omega, by go_num, by omega, ⟨HT.out⟩⟩
                · have f1 := HS1.out
                  have f2 := HS2.out
                  have f3 := HS3.out
                  have f4 := HK5.out
                  have f5 := HM5'.out
                  unfold sendN at f1
                  unfold sendK at f4
                  unfold sendM at f5
                  rw [hF] at f1 f2 f3 f4 f5
                  simp only at f1 f2 f3
                  have hwn1 : wrap64 (next + 1) = next + 1 := by have := HNX.out; unfold wrap64; omega
                  simp only [if_true] at f1 f4 f5
                  rw [hwn1] at f1
                  subst f1 f2 f3
                  have hl5 : (ks5.length : Int) = (ks1.length : Int) + 1 := by rw [← f4, List.length_append]; simp
                  have hwl : wrap64 ((ks1.length : Int) + 1) = (ks1.length : Int) + 1 := by unfold wrap64; omega
                  have HKS := Aside.mk f4.symm
                  have HMS := Aside.mk f5.symm
                  clear f4 f5 hF hm40 HCS
                  as_aux_lemma =>
                    have HWF1 := Aside.mk (wf64 (n := next) (by have := HNX.out; omega) (by have := HNX.out; omega))
                    have HWF2 := Aside.mk (wf64 (n := now1) (by have := HNW.out; omega) (by have := HNW.out; omega))
                    have HMA := Aside.mk (HMA.out.fc HFq.out (by simp))
                    have HMB := Aside.mk (HMB.out.fc HFq.out (by simp))
                    have HSB5 := HSBq
                    go_wp2_with fail
                    clear s0 s1 s2 s3 s4 s5 s6 s7 sf p0 p1 p2 p3 pf
                    refine T.reg22 X b1 b2 k next next now1 (.slice A3 ks1.length c3) (.slice A4 ms1.length c4) (.slice none 0 0) ⟨#[]⟩ tk fs fa wq _ _ rfl rfl rfl rfl HSB5 HMA HMB ⟨by have := HLO.out; omega⟩ ⟨⟨trivial, HTK.out.2⟩⟩ hk40 HWF1 HWF2 (fun g w6 hf6 hmA hmB => ?_)
                    · simp only [ops22, vmap, List.size_toArray, List.length_cons, List.length_nil, Nat.reduceAdd, fill, List.getElem?_toArray, List.getElem?_cons_succ, List.getElem?_cons_zero, Option.bind_some, List.setIfInBounds_toArray, List.set_cons_succ, List.set_cons_zero, List.getD_cons_succ, List.getD_cons_zero]
                      have hb12 : ∀ k ∈ [b1, b2], k < w2.heap.size := by have := HLO.out; have := HBW.out; simp; omega
                      have HSB6 := Aside.mk (HSB5.out.fc hf6 (by have := HLO.out; simp; omega))
                      have HG6 := Aside.mk (HGq.out.fc hf6 (by have := HLO.out; have := HBW.out; have := HP.out; simp; omega))
                      have HMA6 := Aside.mk hmA
                      have HMB6 := Aside.mk hmB
                      have HF6 := Aside.mk hf6
                      have HR6 := Aside.mk (R_fcG (R_fcG HR5.out HFq.out (by simp)) hf6 hb12)
                      have HM6 := Aside.mk (R_fcG (R_fcG HM5.out HFq.out (by simp)) hf6 hb12)
                      clear hmA hmB hf6 hb12
                      obtain ⟨s0, s1, s2, s3, s4, s5, s6, s7, sf⟩ := HSB6.out.cells
                      obtain ⟨p0, p1, p2, p3, pf⟩ := HG6.out.cells
                      go_wp2_with (with_reducible refine halt_at (.store 25 (.tmp 224) (.tmp 222)) rfl ?_)
                      refine ⟨?_⟩
                      refine HSB6.out.storeL rfl (.tmp 224) (.tmp 222) rfl rfl (next + 1) (.slice A5 ks5.length c5) (.slice A6 ms5.length c6) ⟨#[]⟩ rfl rfl rfl (fun w7 hs7 hf7 => ?_)
                      have hft := (HFT.out.sub (S' := [X, b1, b2]) (by simp)).trans ((HFq.out.sub (S' := [X, b1, b2]) (by simp)).trans ((HF6.out.sub (S' := [X, b1, b2]) (by simp)).trans (hf7.sub (by simp))))
                      have HT := Aside.mk (HTE.out.sent (w := w) HKS.out HMS.out HNT.out HTK.out.2 hs7 (Kd.R_lower (R_fcG HR6.out hf7 HXW2.out) HBW.out.1) (Kd.R_lower (R_fcG HM6.out hf7 HXW2.out) HBW.out.1) (HMA6.out.fc hf7 (by have := HLO.out; simp; omega)) (HMB6.out.fc hf7 (by have := HLO.out; simp; omega)) (FC.below HJ0.out.below hft (by have := HLO.out; simp; omega) (Nat.le_refl _)) ⟨HLO.out.1, HLO.out.2.1, HLO.out.2.2.1, HLO.out.2.2.2.1, Nat.le_trans HLO.out.2.2.2.2 hft.size⟩ HNW.out.2 HNX.out)
                      clear s0 s1 s2 s3 s4 s5 s6 s7 sf p0 p1 p2 p3 pf hs7 hf7 hft
                      go_wp2
                      go_roundg (gk - 1)
                      case measure => have := HK.out; omega
                      case rel => exact ⟨k + 1, next + 1, now1, A5, c5, A6, c6, ks5, ms5, _, _, by have := HK.out; omega, by go_num, by omega, ⟨HT.out⟩⟩
    · have HBW := Aside.mk hR.out.below
      clear hR
      by_cases hkn : k < n
      · have hk4 : ¬ k < 40 := fun h => hlt ⟨hkn, h⟩
        clear hlt
        go_wp2_with fail
        refine (T.works _).mono ?_
        rintro e w8 ⟨rfl, hb8⟩
        have HB8 := Aside.mk hb8
        clear hb8
        go_wp2
        go_ret
        exact ⟨rfl, HBW.out.trans (HB8.out.mono HBW.out.size)⟩
      · clear hlt
        go_wp2_with fail
        refine (T.works _).mono ?_
        rintro e w8 ⟨rfl, hb8⟩
        have HB8 := Aside.mk hb8
        clear hb8
        go_wp2
        go_ret
        exact ⟨rfl, HBW.out.trans (HB8.out.mono HBW.out.size)⟩
end Go.Proofs.YtekjkdpiiaocjaaDoor

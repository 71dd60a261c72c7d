/- basic.Encode: base 64, three bytes by three. Conditions: those of each theorem. -/
import Derived.Test.YtgopfelmhlgglaaEnc2
import Derived.Laws.CopyOwn
namespace Go.Proofs.YtgopfelmhlgglaaEnc
open Go.Shelf Go.RowKit Go.Proofs.YtgopfelmhlgglaaW.PrintWords
set_option linter.unusedVariables false
attribute [local go_sem] Oper.semAt_some
/-- The sign of six bits. -/
def signB : List Int := [65, 66, 67, 68, 69, 70, 71, 72, 73, 74, 75, 76, 77, 78, 79, 80, 81, 82, 83, 84, 85, 86, 87, 88, 89, 90, 97, 98, 99, 100, 101, 102, 103, 104, 105, 106, 107, 108, 109, 110, 111, 112, 113, 114, 115, 116, 117, 118, 119, 120, 121, 122, 48, 49, 50, 51, 52, 53, 54, 55, 56, 57, 43, 47]
def sgn (n : Nat) : Int := signB.getD n 0
/-- The four signs of one to three bytes. -/
def enc3 : List Int → List Int
  | [a] => [sgn (a.toNat / 4), sgn (a.toNat % 4 * 16), 61, 61]
  | [a, b] => [sgn (a.toNat / 4), sgn (a.toNat % 4 * 16 + b.toNat / 16), sgn (b.toNat % 16 * 4), 61]
  | a :: b :: c :: _ => [sgn (a.toNat / 4), sgn (a.toNat % 4 * 16 + b.toNat / 16), sgn (b.toNat % 16 * 4 + c.toNat / 64), sgn (c.toNat % 64)]
  | [] => []
def encL (l : List Int) : List Int := (chunks l).flatMap enc3
def outV (w0 : World) (pre : List (Piece w0)) : List Value := ((pre.map (·.1.2)).flatMap enc3).map (Value.int .u8)
theorem isB_grown {B b : Nat} {bs : List Value} {W W' : World} {row : Option Nat} (h : Lib.IsBuilderF 44 5 B b bs W) (hg : W.grownBy W' row) (hrow : ∀ r, row = some r → r ≠ b ∧ ∃ o, W.heap[r]? = some o ∧ ∀ c fz, o ≠ .cells c 5 fz) : Lib.IsBuilderF 44 5 B b bs W' := by
  have one : ∀ p, Lib.BuilderAtF 44 5 B b p bs W → Lib.BuilderAtF 44 5 B b p bs W' := by
    rintro p ⟨hB, v, hb, hown, hne⟩
    refine ⟨hB, v, ?_, hown.kept hg ?_, hne⟩
    · rw [hg.block b (Array.getElem?_eq_some_iff.1 hb).1 (fun e => (hrow b e.symm).1 rfl)]; exact hb
    · cases h0 : v.ownBlock with
      | none => exact .inl rfl
      | some r =>
        refine .inr fun e => ?_
        obtain ⟨_, o, ho, hno⟩ := hrow r e.symm
        obtain ⟨c, fz, hk⟩ := Lib.ownsRowF_kind hown r h0
        exact hno c fz (by rw [ho] at hk; exact Option.some.inj hk)
  exact h.elim (fun x => .inl (one _ x)) (fun x => .inr (one _ x))
theorem grown_set (W : World) (b i : Nat) (v : Value) : W.grownBy (W.setCell ⟨b, i, none⟩ v) (some b) :=
  ⟨rfl, rfl, rfl, by simp [World.setCell], fun k _ hk => Below.heap_setCell _ _ _ _ (fun e => hk (by simp [e]))⟩
/-- Between two rounds: what the builder holds; the iterator's two cells; what lay before stands. -/
def InvE (w : World) (pre : List (Piece w)) (W : World) : Prop :=
  Lib.IsBuilderF 44 5 w.heap.size w.heap.size (outV w pre) W ∧ (∃ v, W.heap[w.heap.size + 1]? = some (.cells #[v] 22 (0, 0))) ∧ W.heap[w.heap.size + 2]? = some (.cells #[.int .i64 3] 3 (0, 0)) ∧ Below w.heap.size w W
theorem inv_grown {w : World} {pre : List (Piece w)} {W W' : World} {row : Option Nat} (h : InvE w pre W) (hg : W.grownBy W' row) (hrow : ∀ r, row = some r → w.heap.size + 3 ≤ r ∧ ∃ o : Obj, W.heap[r]? = some o ∧ o.isCells = false) : InvE w pre W' := by
  obtain ⟨h1, ⟨v, h2⟩, h3, h4⟩ := h
  refine ⟨isB_grown h1 hg fun r e => ⟨by have := (hrow r e).1; omega, ?_⟩, ⟨v, ?_⟩, ?_, h4.grown hg h4.size fun r e => by have := (hrow r e).1; omega⟩
  · obtain ⟨_, o, ho, hc⟩ := hrow r e
    exact ⟨o, ho, fun c fz e => by rw [e] at hc; simp [Obj.isCells] at hc⟩
  · rw [hg.block _ (Array.getElem?_eq_some_iff.1 h2).1 (fun e => by have := (hrow _ e.symm).1; omega)]; exact h2
  · rw [hg.block _ (Array.getElem?_eq_some_iff.1 h3).1 (fun e => by have := (hrow _ e.symm).1; omega)]; exact h3
theorem inv_set {w : World} {pre : List (Piece w)} {W : World} (h : InvE w pre W) (u : Value) : InvE w pre (W.setCell ⟨w.heap.size + 1, 0, none⟩ u) := by
  obtain ⟨h1, ⟨v, h2⟩, h3, h4⟩ := h
  refine ⟨isB_grown h1 (grown_set _ _ _ _) fun r e => ?_, ⟨u, box_set h2 u⟩, by rw [box_other (by omega)]; exact h3, h4.setCell (p := ⟨w.heap.size + 1, 0, none⟩) (by simp) _⟩
  cases e
  exact ⟨by omega, _, h2, fun c fz e => by simp at e⟩
set_option maxRecDepth 100000 in
theorem and3 {a : Int} (h : 0 ≤ a ∧ a < 256) : bits BinOp.and .u8 a 3 = a % 4 := by
  have key : ∀ n : Fin 256, bits BinOp.and .u8 (n.val : Int) 3 = (n.val : Int) % 4 := by decide
  have := key ⟨a.toNat, by omega⟩
  simpa [Int.toNat_of_nonneg h.1] using this
set_option maxRecDepth 100000 in
theorem and15 {a : Int} (h : 0 ≤ a ∧ a < 256) : bits BinOp.and .u8 a 15 = a % 16 := by
  have key : ∀ n : Fin 256, bits BinOp.and .u8 (n.val : Int) 15 = (n.val : Int) % 16 := by decide
  have := key ⟨a.toNat, by omega⟩
  simpa [Int.toNat_of_nonneg h.1] using this
set_option maxRecDepth 100000 in
theorem and63 {a : Int} (h : 0 ≤ a ∧ a < 256) : bits BinOp.and .u8 a 63 = a % 64 := by
  have key : ∀ n : Fin 256, bits BinOp.and .u8 (n.val : Int) 63 = (n.val : Int) % 64 := by decide
  have := key ⟨a.toNat, by omega⟩
  simpa [Int.toNat_of_nonneg h.1] using this
set_option maxRecDepth 100000 in
theorem orA {x y : Int} (h : 0 ≤ x ∧ x < 4) (k : 0 ≤ y ∧ y < 16) : bits BinOp.or .u8 (x * 16 % 256) y = x * 16 + y := by
  have key : ∀ (n : Fin 4) (m : Fin 16), bits BinOp.or .u8 ((n.val : Int) * 16 % 256) (m.val : Int) = (n.val : Int) * 16 + (m.val : Int) := by decide
  have := key ⟨x.toNat, by omega⟩ ⟨y.toNat, by omega⟩
  simpa [Int.toNat_of_nonneg h.1, Int.toNat_of_nonneg k.1] using this
set_option maxRecDepth 100000 in
theorem orB {x y : Int} (h : 0 ≤ x ∧ x < 16) (k : 0 ≤ y ∧ y < 4) : bits BinOp.or .u8 (x * 4) y = x * 4 + y := by
  have key : ∀ (n : Fin 16) (m : Fin 4), bits BinOp.or .u8 ((n.val : Int) * 4) (m.val : Int) = (n.val : Int) * 4 + (m.val : Int) := by decide
  have := key ⟨x.toNat, by omega⟩ ⟨y.toNat, by omega⟩
  simpa [Int.toNat_of_nonneg h.1, Int.toNat_of_nonneg k.1] using this
theorem grown_of_below {W W' : World} (h : Below W.heap.size W W') : W.grownBy W' none := ⟨h.os, h.tape, h.output, h.size, fun k hk _ => h.block k hk⟩
theorem others_of_below {W W' : World} {b : Option Nat} (h : Below W.heap.size W W') : Lib.OthersKept 5 b W W' := fun k o hk _ _ => (h.block k (Array.getElem?_eq_some_iff.1 hk).1).trans hk
theorem quad_eq {bs : List Int} (h1 : 1 ≤ bs.length) (h3 : bs.length ≤ 3) {a b c : Int} (ha : a = bs.getD 0 0) (hb : b = bs.getD 1 0) (hc : c = bs.getD 2 0) (hna : 0 ≤ a ∧ a < 256) (hnb : 0 ≤ b ∧ b < 256) (hnc : 0 ≤ c ∧ c < 256) :
    enc3 bs = [sgn (a / 4).toNat, sgn (a % 4 * 16 + b / 16).toNat, if bs.length < 2 then 61 else sgn (b % 16 * 4 + c / 64).toNat, if bs.length < 3 then 61 else sgn (c % 64).toNat] := by
  have e0 : (a / 4).toNat = a.toNat / 4 := by omega
  have e1 : (a % 4 * 16 + b / 16).toNat = a.toNat % 4 * 16 + b.toNat / 16 := by omega
  have e2 : (b % 16 * 4 + c / 64).toNat = b.toNat % 16 * 4 + c.toNat / 64 := by omega
  have e3 : (c % 64).toNat = c.toNat % 64 := by omega
  rw [e0, e1, e2, e3]
  match bs, h1, h3 with
  | [_], _, _ => simp at ha hb hc; subst ha hb hc; simp [enc3]
  | [_, _], _, _ => simp at ha hb hc; subst ha hb hc; simp [enc3]
  | [_, _, _], _, _ => simp at ha hb hc; subst ha hb hc; simp [enc3]
theorem enc3_len {bs : List Int} (h1 : 1 ≤ bs.length) (h3 : bs.length ≤ 3) : (enc3 bs).length = 4 := by
  match bs, h1, h3 with
  | [_], _, _ => rfl
  | [_, _], _, _ => rfl
  | [_, _, _], _, _ => rfl
theorem outV_len (w : World) (pre : List (Piece w)) : (outV w pre).length = 4 * pre.length := by
  unfold outV
  rw [List.length_map]
  induction pre with
  | nil => rfl
  | cons x pre ih => simp only [List.map_cons, List.flatMap_cons, List.length_append, List.length_cons, ih, enc3_len x.2.2.1 x.2.2.2.1]; omega
set_option maxRecDepth 100000 in
theorem index_sign (W : World) {f : Int} (h : 0 ≤ f ∧ f < 64) : (Instr.index 9 (.string ⟨#[65, 66, 67, 68, 69, 70, 71, 72, 73, 74, 75, 76, 77, 78, 79, 80, 81, 82, 83, 84, 85, 86, 87, 88, 89, 90, 97, 98, 99, 100, 101, 102, 103, 104, 105, 106, 107, 108, 109, 110, 111, 112, 113, 114, 115, 116, 117, 118, 119, 120, 121, 122, 48, 49, 50, 51, 52, 53, 54, 55, 56, 57, 43, 47]⟩) (.int .u8 f)).run Try.prog W = .ok (.int .u8 (sgn f.toNat)) W := by
  rw [run_index_string W 9 _ .u8 f Try.underlying9, dif_pos ⟨h.1, by show f < 64; omega⟩]
  have key : ∀ n : Fin 64, (((⟨#[65, 66, 67, 68, 69, 70, 71, 72, 73, 74, 75, 76, 77, 78, 79, 80, 81, 82, 83, 84, 85, 86, 87, 88, 89, 90, 97, 98, 99, 100, 101, 102, 103, 104, 105, 106, 107, 108, 109, 110, 111, 112, 113, 114, 115, 116, 117, 118, 119, 120, 121, 122, 48, 49, 50, 51, 52, 53, 54, 55, 56, 57, 43, 47]⟩ : ByteArray)[n.val]'n.isLt).toNat : Int) = sgn n.val := by decide
  rw [key ⟨f.toNat, by omega⟩]
theorem index_four (W : World) (f0 f1 f2 f3 : Int) (k : Nat) (hk : k < 4) : (Instr.index 50 (.agg #[.int .u8 f0, .int .u8 f1, .int .u8 f2, .int .u8 f3]) (.int .i64 (k : Int))).run Try.prog W = .ok (.int .u8 ([f0, f1, f2, f3].getD k 0)) W := by
  match k, hk with
  | 0, _ => simp [Instr.index, asIntOf, run_underlying Try.underlying50, part, Try.isAgg5, Try.sizeOf5]
  | 1, _ => simp [Instr.index, asIntOf, run_underlying Try.underlying50, part, Try.isAgg5, Try.sizeOf5]
  | 2, _ => simp [Instr.index, asIntOf, run_underlying Try.underlying50, part, Try.isAgg5, Try.sizeOf5]
  | 3, _ => simp [Instr.index, asIntOf, run_underlying Try.underlying50, part, Try.isAgg5, Try.sizeOf5]
theorem sgn_range (n : Nat) : 0 ≤ sgn n ∧ sgn n < 256 := by
  unfold sgn
  rcases Nat.lt_or_ge n 64 with h | h
  · have key : ∀ n : Fin 64, 0 ≤ signB.getD n.val 0 ∧ signB.getD n.val 0 < 256 := by decide
    exact key ⟨n, h⟩
  · rw [List.getD_eq_getElem?_getD, List.getElem?_eq_none (by simpa [signB] using h)]; decide
theorem enc3_range {l : List Int} {x : Int} (h : x ∈ enc3 l) : 0 ≤ x ∧ x < 256 := by
  unfold enc3 at h
  split at h
  all_goals
    simp only [List.mem_cons, List.not_mem_nil, or_false] at h
    try (rcases h with rfl | rfl | rfl | rfl <;> first | exact sgn_range _ | decide)
theorem encL_range {l : List Int} {x : Int} (h : x ∈ encL l) : 0 ≤ x ∧ x < 256 := by
  obtain ⟨c, _, h2⟩ := List.mem_flatMap.1 h
  exact enc3_range h2
set_option maxRecDepth 100000 in
set_option maxHeartbeats 4000000 in
theorem Encode (A0 : Option Addr) (c0 : Nat) (l0 : List Int) (w : World) (hC : Kd.C (Kd.int .u8) w A0 l0.length l0) (hc : l0.length ≤ c0) (hlen : l0.length ≤ 1000000) (hby : ∀ y ∈ l0, 0 ≤ y ∧ y < 256) :
    Calls Try.prog 12 #[.slice A0 l0.length c0] w fun e w' => e = .returned (.string (strOfNums (encL l0))) ∧ Below w.heap.size w w' := by
  refine (callsIn_wide (n := 5)).1 ?_
  refine callsIn_of_wp_marks Try.func12 rfl trivial ?_ rfl
  simp only [Try.ntmps12, List.size_toArray, List.length_cons, List.length_nil, Nat.reduceAdd, Nat.reduceSub, Array.replicate_succ, Array.replicate_zero, List.push_toArray, List.append_toArray, List.nil_append, List.cons_append]
  gi_wp2_with (refine ⟨trivial, ?_⟩; gi_at_call 27; refine (pieces_in Fence.wide _ trivial rfl A0 _ c0 _).mono ?_; rintro e w' ⟨rfl, rfl⟩)
  obtain ⟨W0, hW0⟩ : ∃ W0, ((w.alloc (.cells #[.pointer none, .slice none 0 0] 44)).alloc (.cells #[.slice A0 l0.length c0] 22)).alloc (.cells #[.int .i64 3] 3) = W0 := ⟨_, rfl⟩
  have hsz : W0.heap.size = w.heap.size + 3 := by rw [← hW0]; simp
  have hB0 : Below w.heap.size w W0 := by rw [← hW0]; exact (((Below.refl _ w).alloc (Nat.le_refl _) _).alloc (by simp) _).alloc (by simp; omega) _
  have hh2 : W0.heap[w.heap.size + 2]? = some (.cells #[.int .i64 3] 3 (0, 0)) := by rw [← hW0]; simpa using World.alloc_heap_new ((w.alloc (.cells #[.pointer none, .slice none 0 0] 44)).alloc (.cells #[.slice A0 l0.length c0] 22)) (.cells #[.int .i64 3] 3)
  have hh1 : W0.heap[w.heap.size + 1]? = some (.cells #[.slice A0 l0.length c0] 22 (0, 0)) := by
    rw [← hW0, Below.heap_alloc _ _ _ (by simp)]; simpa using World.alloc_heap_new (w.alloc (.cells #[.pointer none, .slice none 0 0] 44)) (.cells #[.slice A0 l0.length c0] 22)
  have hh0 : W0.heap[w.heap.size]? = some (.cells #[.pointer none, .slice none 0 0] 44 (0, 0)) := by
    rw [← hW0, Below.heap_alloc _ _ _ (by simp; omega), Below.heap_alloc _ _ _ (by simp)]; exact World.alloc_heap_new w _
  have hI0 : InvE w [] W0 := ⟨.inl ⟨Nat.le_refl _, .slice none 0 0, hh0, World.ownsRowF_nil _ _ _ _, by simp [Value.ownBlock]⟩, ⟨_, hh1⟩, hh2, hB0⟩
  rw [hW0]
  refine wpIn_range_set (Bx := w.heap.size + 1) (w0 := W0) rfl (by decide) (gf := 37) (lb := #[.pointer (some ⟨w.heap.size + 1, 0, none⟩), .pointer (some ⟨w.heap.size + 2, 0, none⟩)]) rfl trivial (enters_of Try.func37 (by kernel_rfl) rfl)
    (step_in Fence.wide _ trivial rfl (by decide) (w.heap.size + 1) (w.heap.size + 2) w W0 A0 c0 l0 hC hc hby (by omega) (by omega) (by omega) hh1 hh2)
    (fun h k => ⟨h.1.trans k.1, k.2.1.trans h.2.1, k.2.2.trans h.2.2⟩) ?hKb (Below.refl _ _) (fun _ => rfl)
    (InvE w) (fun s A B row hs hg hr => inv_grown hs hg fun r e => by have := hr r e; rwa [hsz] at this) (fun pre W v h => inv_set h v) hI0
    (fun x => { tmps := #[.slice A0 l0.length c0, undef, .string ⟨#[]⟩, .pointer (some ⟨w.heap.size, 0, none⟩), .slice x.1.1 x.1.2.length x.1.2.length, undef, undef, undef, undef, undef, .slice A0 l0.length c0, .func (.func 37) #[] #[.pointer (some ⟨w.heap.size + 1, 0, none⟩), .pointer (some ⟨w.heap.size + 2, 0, none⟩)], .slice x.1.1 x.1.2.length x.1.2.length, undef, undef, undef, undef, undef, undef, undef, undef, undef, undef, undef, undef, undef, undef, undef, undef, undef, undef, undef, undef, undef, undef, undef, undef, undef, undef, undef, undef, undef, undef, undef, undef, undef, undef, undef, undef, undef, undef, undef, undef], defers := [] })
    ?assign ?body ?done
  case hKb =>
    intro W k o o' hk ho hcell
    rw [hsz] at hk
    exact ⟨(Below.refl _ W).grown (grownBy_putObj' W k o') (by have := (Array.getElem?_eq_some_iff.1 ho).1; omega) (fun r e => by cases e; omega), World.putObj_heap_other (by omega), World.putObj_heap_other (by omega)⟩
  case assign =>
    intro l x W K hK
    gi_wp2
    exact hK
  case body =>
    rintro l pre ⟨⟨A, bs⟩, hCx, hx1, hx3, hxy⟩ W hI hpl
    simp only at hCx hx1 hx3 hxy
    obtain ⟨ad, rfl, hcell⟩ := (Kd.C_below hCx hI.2.2.2).2.2 (by omega)
    obtain ⟨n, hn⟩ : ∃ n, n = bs.length := ⟨_, rfl⟩
    obtain ⟨a, ha⟩ : ∃ a, a = bs.getD 0 0 := ⟨_, rfl⟩
    obtain ⟨b, hb⟩ : ∃ b, b = bs.getD 1 0 := ⟨_, rfl⟩
    obtain ⟨c, hc'⟩ : ∃ c, c = bs.getD 2 0 := ⟨_, rfl⟩
    obtain ⟨W1, hW1⟩ : ∃ W1, W.alloc (.cells #[.int .u8 0, .int .u8 0, .int .u8 0] 48) = W1 := ⟨_, rfl⟩
    have hW1h : W1.heap[W.heap.size]? = some (.cells #[.int .u8 0, .int .u8 0, .int .u8 0] 48 (0, 0)) := by rw [← hW1]; exact World.alloc_heap_new W _
    have hBW1 : Below W.heap.size W W1 := by rw [← hW1]; exact (Below.refl _ W).alloc (Nat.le_refl _) _
    have hcp := run_copy_row (P := Try.prog) W1 22 22 3 5 W.heap.size 0 3 3 ad n n #[.int .u8 0, .int .u8 0, .int .u8 0] 48 (bs.map (Value.int .u8)) Try.underlying22 Try.Builder_Extra_169.sizeByte hW1h
      (by rw [List.length_map, hn]; show _ = min bs.length 3; omega)
      (fun j v hj => by
        rw [List.getElem?_map] at hj
        obtain ⟨y, hy, rfl⟩ := Option.map_eq_some_iff.1 hj
        obtain ⟨cs, h1, h2, h3⟩ := hcell j y hy
        have h2' : cs = [.int .u8 y] := h2
        have := h3 0 (.int .u8 y) (by rw [h2']; rfl)
        rw [show j * (Kd.int .u8).sz + 0 = j from Nat.mul_one j] at this
        exact pw_cell_below hBW1 this)
      (by simp; omega) (fun v hv => by obtain ⟨y, _, rfl⟩ := List.mem_map.1 hv; rfl)
    have hrow : ((#[Value.int .u8 0, .int .u8 0, .int .u8 0] : Array Value).toList.take 0 ++ bs.map (Value.int .u8) ++ (#[Value.int .u8 0, .int .u8 0, .int .u8 0] : Array Value).toList.drop (0 + (bs.map (Value.int .u8)).length)).toArray = #[.int .u8 a, .int .u8 b, .int .u8 c] := by
      match bs, hx1, hx3 with
      | [_], _, _ => simp [ha, hb, hc']
      | [_, _], _, _ => simp [ha, hb, hc']
      | [_, _, _], _, _ => simp [ha, hb, hc']
    rw [hrow, List.length_map, ← hn] at hcp
    obtain ⟨W2, hW2⟩ : ∃ W2, W1.setRow W.heap.size #[.int .u8 a, .int .u8 b, .int .u8 c] = W2 := ⟨_, rfl⟩
    have hb2 : W2.heap[W.heap.size]? = some (.cells #[.int .u8 a, .int .u8 b, .int .u8 c] 48 (0, 0)) := by rw [← hW2]; exact setRow_heap _ _ _ _ _ _ hW1h
    have hBW2 : Below W.heap.size W W2 := by rw [← hW2]; exact below_setRow hBW1 (Nat.le_refl _) _
    rw [hW2, hn] at hcp
    have d0 : W2.cell? ⟨W.heap.size, 0, none⟩ = some (.int .u8 a) := by rw [Lib.cell_of_heap hb2]; rfl
    have d1 : W2.cell? ⟨W.heap.size, 1, none⟩ = some (.int .u8 b) := by rw [Lib.cell_of_heap hb2]; rfl
    have d2 : W2.cell? ⟨W.heap.size, 2, none⟩ = some (.int .u8 c) := by rw [Lib.cell_of_heap hb2]; rfl
    have hna : 0 ≤ a ∧ a < 256 := by
      match bs, hx1, hx3 with
      | x :: _, _, _ => rw [ha]; exact hxy x (by simp)
    have hnb : 0 ≤ b ∧ b < 256 ∧ (n < 2 → b = 0) := by
      match bs, hx1, hx3 with
      | [_], _, _ => simp [hb]
      | _ :: x :: _, _, _ => rw [hb, hn]; exact ⟨(hxy x (by simp)).1, (hxy x (by simp)).2, fun h => by simp at h; omega⟩
    have hnc : 0 ≤ c ∧ c < 256 ∧ (n < 3 → c = 0) := by
      match bs, hx1, hx3 with
      | [_], _, _ => simp [hc']
      | [_, _], _, _ => simp [hc']
      | _ :: _ :: x :: _, _, _ => rw [hc', hn]; exact ⟨(hxy x (by simp)).1, (hxy x (by simp)).2, fun h => by simp at h; omega⟩
    subst hn
    have hq := Aside0.mk (quad_eq hx1 hx3 ha hb hc' hna ⟨hnb.1, hnb.2.1⟩ ⟨hnc.1, hnc.2.1⟩)
    clear ha hb hc' hrow
    obtain ⟨f0, hf0⟩ : ∃ f0, a / 4 = f0 := ⟨_, rfl⟩
    obtain ⟨f1, hf1⟩ : ∃ f1, bits BinOp.or .u8 (bits BinOp.and .u8 a 3 * 16 % 256) (b / 16) = f1 := ⟨_, rfl⟩
    obtain ⟨f2, hf2⟩ : ∃ f2, bits BinOp.or .u8 (b % 16 * 4) (c / 64) = f2 := ⟨_, rfl⟩
    obtain ⟨f3, hf3⟩ : ∃ f3, bits BinOp.and .u8 c 63 = f3 := ⟨_, rfl⟩
    have g1 : f1 = a % 4 * 16 + b / 16 := by rw [← hf1, and3 hna, orA (by omega) (by omega)]
    have g2 : f2 = b % 16 * 4 + c / 64 := by rw [← hf2, orB (by omega) (by omega)]
    have g3 : f3 = c % 64 := by rw [← hf3, and63 ⟨hnc.1, hnc.2.1⟩]
    have hr0 : 0 ≤ f0 ∧ f0 < 64 := by omega
    have hr1 : 0 ≤ f1 ∧ f1 < 64 := by omega
    have hr2 : 0 ≤ f2 ∧ f2 < 64 := by omega
    have hr3 : 0 ≤ f3 ∧ f3 < 64 := by omega
    have hq2 := hq.out
    rw [hf0, ← g1, ← g2, ← g3] at hq2
    have hquad := Aside0.mk hq2
    clear hq2 hq g1 g2 g3
    have hBW3 := Aside0.mk (fun o => hBW2.alloc hBW2.size o)
    gi_wp2
    clear hf0 hf1 hf2 hf3 hcp d0 d1 d2 hb2 hW1 hW2 hW1h hBW1 hBW2
    clear hnb hnc
    gi_loopw [40] (fun v40 wr => ∃ k : Nat, k ≤ 4 ∧ v40 = .int .i64 (k : Int) ∧ Aside0 (Lib.IsBuilderF 44 5 w.heap.size w.heap.size (outV w pre ++ ((enc3 bs).take k).map (Value.int .u8)) wr) ∧ Aside0 (Lib.OthersKept 5 (some w.heap.size) W wr) ∧ Aside0 (Below w.heap.size w wr ∧ Below w.heap.size W wr)) (fun v40 _ => 4 - (intOf v40).toNat)
    case atStart =>
      exact ⟨0, by omega, rfl, ⟨by simpa using isB_grown hI.1 (grown_of_below (hBW3.out _)) (fun r e => by cases e)⟩, ⟨others_of_below (hBW3.out _)⟩, ⟨hI.2.2.2.trans ((hBW3.out _).mono hI.2.2.2.size), (hBW3.out _).mono hI.2.2.2.size⟩⟩
    case round =>
      obtain ⟨k, hk, rfl, hbu, hot, hbe⟩ := hrel
      have hbl : (outV w pre ++ ((enc3 bs).take k).map (Value.int .u8)).length + 1 ≤ 140737488355328 := by
        rw [List.length_append, outV_len, List.length_map, List.length_take]; omega
      have hi0 : ∀ W, (Instr.index 50 (.agg #[.int .u8 f0, .int .u8 f1, .int .u8 f2, .int .u8 f3]) (.int .i64 0)).run Try.prog W = .ok (.int .u8 f0) W := fun W => index_four W f0 f1 f2 f3 0 (by decide)
      have hi1 : ∀ W, (Instr.index 50 (.agg #[.int .u8 f0, .int .u8 f1, .int .u8 f2, .int .u8 f3]) (.int .i64 1)).run Try.prog W = .ok (.int .u8 f1) W := fun W => index_four W f0 f1 f2 f3 1 (by decide)
      have hi2 : ∀ W, (Instr.index 50 (.agg #[.int .u8 f0, .int .u8 f1, .int .u8 f2, .int .u8 f3]) (.int .i64 2)).run Try.prog W = .ok (.int .u8 f2) W := fun W => index_four W f0 f1 f2 f3 2 (by decide)
      have hi3 : ∀ W, (Instr.index 50 (.agg #[.int .u8 f0, .int .u8 f1, .int .u8 f2, .int .u8 f3]) (.int .i64 3)).run Try.prog W = .ok (.int .u8 f3) W := fun W => index_four W f0 f1 f2 f3 3 (by decide)
      have hs0 := fun W => index_sign W hr0
      have hs1 := fun W => index_sign W hr1
      have hs2 := fun W => index_sign W hr2
      have hs3 := fun W => index_sign W hr3
      match k, hk with
      | 4, _ =>
        gi_wp2
        have hbw : ∃ cs, W.heap[w.heap.size]? = some (.cells cs 44 (0, 0)) := by
          rcases hI.1 with ⟨_, v, h, _⟩ | ⟨_, v, h, _⟩ <;> exact ⟨_, h⟩
        obtain ⟨cs, hbw⟩ := hbw
        obtain ⟨v1, h1⟩ := hI.2.1
        have hk1 : wr.heap[w.heap.size + 1]? = some (.cells #[v1] 22 (0, 0)) := hot.out _ _ h1 (by simp) (fun c fz e => by simp at e)
        have hk2 : wr.heap[w.heap.size + 2]? = some (.cells #[.int .i64 3] 3 (0, 0)) := hot.out _ _ hI.2.2.1 (by simp) (fun c fz e => by simp at e)
        refine ⟨⟨hbe.out.2.size, fun k o hko ho => hot.out k o hko (fun e => ?_) (fun c fz e => by rw [e] at ho; simp [Obj.isCells] at ho)⟩, ⟨hbe.out.2, by rw [hk1, h1], by rw [hk2, hI.2.2.1]⟩, ?_, ⟨v1, hk1⟩, hk2, hbe.out.1⟩
        · rw [Option.some.inj e, hbw] at hko
          rw [← Option.some.inj hko] at ho
          simp [Obj.isCells] at ho
        · have h4 : (enc3 bs).take 4 = enc3 bs := List.take_of_length_le (by rw [enc3_len hx1 hx3]; omega)
          have h5 := hbu.out
          rw [h4] at h5
          have h6 : outV w (pre ++ [(⟨(some ad, bs), hCx, hx1, hx3, hxy⟩ : Piece w)]) = outV w pre ++ (enc3 bs).map (Value.int .u8) := by simp [outV]
          rw [h6]
          exact h5
      | 0, _ =>
          have hnot : ¬ (0 : Int) > bs.length := by omega
          gi_wp2_with (refine ⟨trivial, ?_⟩; gi_at_call 28; refine (CallsIn.inRound l (callsIn_wide.2 (WriteByte w.heap.size w.heap.size _ _ _ hbu.out hbl hbe.out.1.size))).mono ?_; rintro e W5 ⟨rfl, hb5, hbe5, hot5⟩)
          gi_wp2
          go_roundw
          case rel =>
            refine ⟨1, by omega, by simp, ⟨?_⟩, ⟨hot.out.trans hot5⟩, ⟨hbe.out.1.trans hbe5, hbe.out.2.trans hbe5⟩⟩
            have hb6 := hb5
            rw [List.append_assoc] at hb6
            rw [hquad.out] at hb6 ⊢
            exact .inr (by simpa using hb6)
          case measure => simp [intOf]
      | 1, _ =>
          have hnot : ¬ (1 : Int) > bs.length := by omega
          gi_wp2_with (refine ⟨trivial, ?_⟩; gi_at_call 28; refine (CallsIn.inRound l (callsIn_wide.2 (WriteByte w.heap.size w.heap.size _ _ _ hbu.out hbl hbe.out.1.size))).mono ?_; rintro e W5 ⟨rfl, hb5, hbe5, hot5⟩)
          gi_wp2
          go_roundw
          case rel =>
            refine ⟨2, by omega, by simp, ⟨?_⟩, ⟨hot.out.trans hot5⟩, ⟨hbe.out.1.trans hbe5, hbe.out.2.trans hbe5⟩⟩
            have hb6 := hb5
            rw [List.append_assoc] at hb6
            rw [hquad.out] at hb6 ⊢
            exact .inr (by simpa using hb6)
          case measure => simp [intOf]
      | 2, _ =>
        by_cases hl2 : bs.length < 2
        · have hyes : (2 : Int) > bs.length := by omega
          gi_wp2_with (refine ⟨trivial, ?_⟩; gi_at_call 28; refine (CallsIn.inRound l (callsIn_wide.2 (WriteByte w.heap.size w.heap.size _ _ _ hbu.out hbl hbe.out.1.size))).mono ?_; rintro e W5 ⟨rfl, hb5, hbe5, hot5⟩)
          gi_wp2
          go_roundw
          case rel =>
            refine ⟨3, by omega, by simp, ⟨?_⟩, ⟨hot.out.trans hot5⟩, ⟨hbe.out.1.trans hbe5, hbe.out.2.trans hbe5⟩⟩
            have hb6 := hb5
            rw [List.append_assoc] at hb6
            rw [hquad.out] at hb6 ⊢
            exact .inr (by simpa [hl2] using hb6)
          case measure => simp [intOf]
        · have hnot : ¬ (2 : Int) > bs.length := by omega
          gi_wp2_with (refine ⟨trivial, ?_⟩; gi_at_call 28; refine (CallsIn.inRound l (callsIn_wide.2 (WriteByte w.heap.size w.heap.size _ _ _ hbu.out hbl hbe.out.1.size))).mono ?_; rintro e W5 ⟨rfl, hb5, hbe5, hot5⟩)
          gi_wp2
          go_roundw
          case rel =>
            refine ⟨3, by omega, by simp, ⟨?_⟩, ⟨hot.out.trans hot5⟩, ⟨hbe.out.1.trans hbe5, hbe.out.2.trans hbe5⟩⟩
            have hb6 := hb5
            rw [List.append_assoc] at hb6
            rw [hquad.out] at hb6 ⊢
            exact .inr (by simpa [hl2] using hb6)
          case measure => simp [intOf]
      | 3, _ =>
        by_cases hl3 : bs.length < 3
        · have hyes : (3 : Int) > bs.length := by omega
          gi_wp2_with (refine ⟨trivial, ?_⟩; gi_at_call 28; refine (CallsIn.inRound l (callsIn_wide.2 (WriteByte w.heap.size w.heap.size _ _ _ hbu.out hbl hbe.out.1.size))).mono ?_; rintro e W5 ⟨rfl, hb5, hbe5, hot5⟩)
          gi_wp2
          go_roundw
          case rel =>
            refine ⟨4, by omega, by simp, ⟨?_⟩, ⟨hot.out.trans hot5⟩, ⟨hbe.out.1.trans hbe5, hbe.out.2.trans hbe5⟩⟩
            have hb6 := hb5
            rw [List.append_assoc] at hb6
            rw [hquad.out] at hb6 ⊢
            exact .inr (by simpa [hl3] using hb6)
          case measure => simp [intOf]
        · have hnot : ¬ (3 : Int) > bs.length := by omega
          gi_wp2_with (refine ⟨trivial, ?_⟩; gi_at_call 28; refine (CallsIn.inRound l (callsIn_wide.2 (WriteByte w.heap.size w.heap.size _ _ _ hbu.out hbl hbe.out.1.size))).mono ?_; rintro e W5 ⟨rfl, hb5, hbe5, hot5⟩)
          gi_wp2
          go_roundw
          case rel =>
            refine ⟨4, by omega, by simp, ⟨?_⟩, ⟨hot.out.trans hot5⟩, ⟨hbe.out.1.trans hbe5, hbe.out.2.trans hbe5⟩⟩
            have hb6 := hb5
            rw [List.append_assoc] at hb6
            rw [hquad.out] at hb6 ⊢
            exact .inr (by simpa [hl3] using hb6)
          case measure => simp [intOf]
  case done =>
    rintro D ys W hD hS hI hK
    obtain ⟨h1, _, _, hB⟩ := hI
    have hlist : (ys.map (·.1.2)).flatMap enc3 = encL l0 := by rw [hS]; rfl
    have hout : outV w ys = Lib.byteCells ((encL l0).map fun n => UInt8.ofNat n.toNat) := by
      unfold outV
      rw [hlist]
      unfold Lib.byteCells
      rw [List.map_map]
      refine List.map_congr_left fun x hx => ?_
      have hr := encL_range hx
      show Value.int .u8 x = Value.int .u8 (((UInt8.ofNat x.toNat).toNat : Nat) : Int)
      rw [UInt8.toNat_ofNat']
      congr 1
      omega
    rw [hout] at h1
    gi_wp2_with (refine ⟨trivial, ?_⟩; gi_at_call 29; refine (callsIn_wide.2 (Try.Builder_String_any_k w.heap.size w.heap.size _ _ h1 hB.size)).mono ?_; rintro e W5 ⟨rfl, hb5, hbe5, hot5⟩)
    gi_wp2
    have hbw : ∃ cs, W.heap[w.heap.size]? = some (.cells cs 44 (0, 0)) := by
      rcases h1 with ⟨_, v, h, _⟩ | ⟨_, v, h, _⟩ <;> exact ⟨_, h⟩
    obtain ⟨cs, hbw⟩ := hbw
    have hK5 : W5.heap[D]? = some (.deferred (some [])) := hot5 _ _ hK (fun e => by rw [Option.some.inj e, hbw] at hK; simp at hK) (fun c fz e => by simp at e)
    refine ⟨by simp, .inl ⟨_, _, rfl, run_takeDeferred hK5, ?_⟩⟩
    exact ⟨_, results_tmp rfl _ _ _, rfl, (hB.trans hbe5).trans (belowK_b (w := w) (Nat.le_refl _) W5 D _ _ (by omega) hK5 rfl rfl)⟩
end Go.Proofs.YtgopfelmhlgglaaEnc

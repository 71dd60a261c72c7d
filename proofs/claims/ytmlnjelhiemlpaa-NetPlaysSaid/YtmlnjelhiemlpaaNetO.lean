/- The statement NetOrder: the call returns true and turns nothing that was there. Conditions: where the lists lie. -/
import Derived.Test.YtmlnjelhiemlpaaNetM
import Derived.Test.YtmlnjelhiemlpaaNetE
import Derived.Deep.RegionHeld3
import Derived.Deep.RegionWith
import Derived.Deep.RegionLaw
namespace Go.Proofs.Ytmlnjelhiemlpaa
open Go.RowKit Go.Proofs.YtmlnjelhiemlpaaW.PrintWords Go.Proofs.YtmlnjelhiemlpaaW.PrintLast Go.Proofs.YtmlnjelhiemlpaaW.PrintMore
attribute [local go_sem] max2_int min2_int max_two min_two
/-- What stands while NetOrder works: the list's row, the bag; they lie apart. -/
def NO (w : World) (H : Nat) (v0 : Value) (L : List Int) (v : Value) (M : List Int) (wr : World) : Prop := Below w.heap.size w wr ∧ RowI wr w.heap.size v0 L ∧ BagI wr H (H + 1) v M ∧ w.heap.size ≤ H ∧ ∀ k, v0.ownBlock = some k → v.ownBlock ≠ some k
theorem RowI.neH {wr : World} {base H base2 : Nat} {v0 v : Value} {L M : List Int} (h : RowI wr base v0 L) (hb : BagI wr H base2 v M) : v0.ownBlock ≠ some H := by
  rcases h.slice with ⟨rfl, _⟩ | ⟨g, c, cur, rfl, _, _, _, hh, _⟩
  · simp [Value.ownBlock]
  · intro e
    obtain rfl : g = H := by simpa [Value.ownBlock] using e
    rw [hb.1] at hh
    simp at hh
theorem RowI.lt {wr : World} {base : Nat} {v0 : Value} {L : List Int} (h : RowI wr base v0 L) : ∀ k, v0.ownBlock = some k → base ≤ k ∧ k < wr.heap.size := World.ownsRow.lt h
theorem NO.below {w wr w' : World} {H : Nat} {v0 v : Value} {L M : List Int} (h : NO w H v0 L v M wr) (hb : Below wr.heap.size wr w') : NO w H v0 L v M w' :=
  ⟨h.1.trans (hb.mono h.1.size), h.2.1.below hb, h.2.2.1.below hb, h.2.2.2.1, h.2.2.2.2⟩
theorem NO.bag {w wr w' : World} {H : Nat} {v0 v v' : Value} {L M M' : List Int} (h : NO w H v0 L v M wr) (f : Fr wr w' H v.ownBlock) (hb : BagI w' H (H + 1) v' M') (hv : v'.ownBlock = v.ownBlock ∨ ∃ b, v'.ownBlock = some b ∧ wr.heap.size ≤ b) : NO w H v0 L v' M' w' := by
  have hlt := RowI.lt h.2.2.1.2.1
  refine ⟨below_fr h.1 f (fun k hk => by have := (hlt k hk).1; have := h.2.2.2.1; omega) h.2.2.2.1 (Nat.le_refl _), ?_, hb, h.2.2.2.1, fun k hk e => ?_⟩
  · exact own_move h.2.1 (fun k hk => f.block k (RowI.lt h.2.1 k hk).2 (fun e => h.2.1.neH h.2.2.1 (by rw [hk, e])) (h.2.2.2.2 k hk))
  · rcases hv with hv | ⟨b, hv, hle⟩
    · rw [hv] at e; exact h.2.2.2.2 k hk e
    · rw [hv] at e
      have := (RowI.lt h.2.1 k hk).2
      have := Option.some.inj e
      omega
/-- The list has been written, or made anew. -/
theorem NO.list {w wr w' : World} {H : Nat} {v0 v0' v : Value} {L L' M : List Int} (h : NO w H v0 L v M wr) (f : wr.grownBy w' v0.ownBlock) (hr : RowI w' w.heap.size v0' L') (hv : v0'.ownBlock = v0.ownBlock ∨ ∃ b, v0'.ownBlock = some b ∧ wr.heap.size ≤ b) : NO w H v0' L' v M w' := by
  refine ⟨h.1.grown f h.1.size (fun k e => (RowI.lt h.2.1 k e).1), hr, ⟨(f.block H h.2.2.1.lt (fun e => h.2.1.neH h.2.2.1 e.symm)).trans h.2.2.1.1, own_move h.2.2.1.2.1 (fun k hk => f.block k (RowI.lt h.2.2.1.2.1 k hk).2 (fun e => h.2.2.2.2 k e.symm hk)), Nat.le_trans h.2.2.1.2.2 f.size⟩, h.2.2.2.1, fun k hk e => ?_⟩
  rcases hv with hv | ⟨b, hv, hle⟩
  · exact h.2.2.2.2 k (by rw [← hv]; exact hk) e
  · rw [hv] at hk
    have := (RowI.lt h.2.2.1.2.1 k e).2
    have := Option.some.inj hk
    omega
theorem RowI.empty (w : World) (base : Nat) (hb : base ≤ w.heap.size) : RowI (w.alloc (.cells #[] 3)) base (.slice (some ⟨w.heap.size, 0, none⟩) 0 0) [] :=
  ⟨by simp, .inr ⟨w.heap.size, 0, #[], rfl, hb, heap_alloc_new w _, Nat.le_refl _, by decide, rfl, rfl⟩⟩
/-- What came in is read through any address. -/
def SrcA (w : World) (A : Option Addr) (l : List Int) : Prop := ∀ i x, l[i]? = some x → ∃ a, A = some a ∧ w.cell? (a.add i) = some (.int .i64 x)
/-- 'append(v, xs...)' out of what came in. -/
theorem wpList_appendC {w : World} {ops : Array Oper} {rest : List Oper} {o : Oper} {a : Act} {Q : Exit → Act → World → Prop} (hgd : o.guard = none) (s x : Operand)
    (ho : o.op = .call { callee := .builtin .append, args := #[s, x], argTypes := #[25, 25] }) (base : Nat) (v : Value) (l xs : List Int) (A : Option Addr) (m c : Nat) (hs : a.eval s = v) (hx : a.eval x = .slice A m c) (hm : xs.length = m)
    (HO : RowI w base v l) (HR : SrcA w A xs) (hbase : base ≤ w.heap.size) (hl : l.length + m ≤ 1000000)
    (h : ∀ v1 w1, RowI w1 base v1 (l ++ xs) → w.grownBy w1 v.ownBlock → (v1.ownBlock = v.ownBlock ∨ ∃ b, v1.ownBlock = some b ∧ w.heap.size ≤ b) → wpList Try.prog ops Q rest (a.put o.dst v1) w1) : wpList Try.prog ops Q (o :: rest) a w := by
  subst hm
  refine Kd.R_append_rows (Kd.int .i64) (Rr := (Kd.int .i64).K w) (w0 := w) base hgd s x 25 3 (.int .i64 0) 8 ho Try.underlying25 infoI rfl (by decide) (by decide) v l xs A xs.length c (fun _ => True) (fun _ => False) hs hx (Kd.R_of_own HO (fun _ _ => trivial)) ⟨rfl, by omega, fun h0 => ?_⟩ (fun _ _ h => h) (fun _ h => h.elim) (fun _ _ => trivial) (Below.refl _ _) hbase (by omega) (fun v1 w1 h1 _ h3 h4 => h v1 w1 (Kd.own_of_R h1) h3 h4)
  obtain ⟨a0, hA, _⟩ := HR 0 _ (List.getElem?_eq_getElem h0)
  subst hA
  refine ⟨_, rfl, fun j p hp => ⟨[.int .i64 p], rfl, rfl, fun i u hu => ?_⟩⟩
  obtain ⟨a1, hA, hc⟩ := HR j p hp
  obtain rfl := Option.some.inj hA
  match i, hu with
  | 0, hu =>
    simp at hu; subst hu
    show w.cell? (a0.add (j * 1 + 0)) = _
    rw [Nat.mul_one, Nat.add_zero]; exact hc
theorem NO.put1 {w wr : World} {H : Nat} {v0 v : Value} {L M : List Int} (h : NO w H v0 L v M wr) (x : Int) (hM : M.length ≤ 900000) :
    Calls Try.prog 11 #[.pointer (some ⟨H, 0, none⟩), .slice (some ⟨wr.heap.size, 0, none⟩) 1 1] (wr.alloc (.cells #[.int .i64 x] 3)) fun e w' => e = .returned (.tuple #[]) ∧ ∃ v', NO w H v0 L v' (M ++ [x]) w' := by
  have h1 := h.below ((Below.refl wr.heap.size wr).alloc (Nat.le_refl _) (.cells #[.int .i64 x] 3))
  refine (T.PutI H (H + 1) v M [x] (some ⟨wr.heap.size, 0, none⟩) 1 1 _ h1.2.2.1 (fun j y hy => ?_) rfl (by omega)).mono ?_
  · match j, hy with
    | 0, hy =>
      simp at hy; subst hy
      exact ⟨wr.heap.size, 0, rfl, by rw [cell_of_row _ _ _ _ _ _ (heap_alloc_new wr _)]; rfl⟩
  · rintro e w' ⟨rfl, v', g1, g2, g3⟩
    exact ⟨rfl, v', h1.bag g2 g1 g3⟩
theorem NO.double {w wr : World} {H : Nat} {v0 v : Value} {L M : List Int} (h : NO w H v0 L v M wr) (k : Nat) (x : Int) (hx : M[k]? = some x) (hM : M.length ≤ 900000) :
    Calls Try.prog 15 #[.pointer (some ⟨H, 0, none⟩), .int .i64 (k : Int)] wr fun e w' => e = .returned (.bool true) ∧ ∃ v', NO w H v0 L v' (M ++ [x]) w' := by
  refine (T.DoubleInI H (H + 1) v M k x wr (by omega) h.2.2.1 hx).mono ?_
  rintro e w' ⟨rfl, v', g1, g2, g3⟩
  exact ⟨rfl, v', h.bag g2 g1 g3⟩
theorem NO.take {w wr : World} {H : Nat} {v0 v : Value} {L M : List Int} (h : NO w H v0 L v M wr) (k : Nat) (x : Int) (hx : M[k]? = some x) (hM : M.length ≤ 900000) :
    Calls Try.prog 14 #[.pointer (some ⟨H, 0, none⟩), .int .i64 (k : Int)] wr fun e w' => e = .returned (.tuple #[.int .i64 x, .bool true]) ∧ ∃ v', NO w H v0 L v' (M.eraseIdx k) w' := by
  refine (T.TakeInI H (H + 1) v M k x wr (by omega) h.2.2.1 hx).mono ?_
  rintro e w' ⟨rfl, v', g1, g2, g3⟩
  exact ⟨rfl, v', h.bag g2 g1 (.inl g3)⟩
theorem RowI.src {w : World} {base n c : Nat} {A : Option Addr} {L : List Int} (h : RowI w base (.slice A n c) L) : n = L.length ∧ L.length ≤ c ∧ SrcI w A L := by
  rcases h.slice with ⟨he, rfl⟩ | ⟨g, c', cur, he, _, hc, _, _, hS⟩
  · obtain ⟨rfl, rfl, rfl⟩ : A = none ∧ n = 0 ∧ c = 0 := by simpa using he
    exact ⟨rfl, Nat.le_refl _, fun i x hx => by simp at hx⟩
  · obtain ⟨rfl, rfl, rfl⟩ : A = some ⟨g, 0, none⟩ ∧ n = L.length ∧ c = c' := by simpa using he
    exact ⟨rfl, hc, hS⟩
theorem SrcA.below {w w' : World} {A : Option Addr} {l : List Int} (h : SrcA w A l) (hb : Below w.heap.size w w') : SrcA w' A l := fun i x hx => by
  obtain ⟨a, h1, h2⟩ := h i x hx
  exact ⟨a, h1, pw_cell_below hb h2⟩
/-- The same append, in a region that draws its order. -/
theorem step_appendC {ops : Array Oper} {o : Oper} {a : Act} {w : World} {Kc : Act → World → Prop} {Q : Exit → Act → World → Prop} (hgd : Region.wanted o (yielded ops a.tmps) = true) (s x : Operand)
    (ho : o.op = .call { callee := .builtin .append, args := #[s, x], argTypes := #[25, 25] }) (base : Nat) (v : Value) (l xs : List Int) (A : Option Addr) (m c : Nat) (hs : a.eval s = v) (hx : a.eval x = .slice A m c) (hm : xs.length = m)
    (HO : RowI w base v l) (HR : SrcA w A xs) (hbase : base ≤ w.heap.size) (hl : l.length + m ≤ 1000000)
    (h : ∀ v1 w1, RowI w1 base v1 (l ++ xs) → w.grownBy w1 v.ownBlock → (v1.ownBlock = v.ownBlock ∨ ∃ b, v1.ownBlock = some b ∧ w.heap.size ≤ b) → Kc (a.put o.dst v1) w1) :
    if Region.wanted o (yielded ops a.tmps) = true then Oper.wp Try.prog o a w Kc Q else Kc (a.put o.dst undef) w := by
  subst hm
  refine Kd.R_append_rows_step (Kd.int .i64) (Rr := (Kd.int .i64).K w) (w0 := w) base hgd s x 25 3 (.int .i64 0) 8 ho Try.underlying25 infoI rfl (by decide) (by decide) v l xs A xs.length c (fun _ => True) (fun _ => False) hs hx (Kd.R_of_own HO (fun _ _ => trivial)) ⟨rfl, by omega, fun h0 => ?_⟩ (fun _ _ h => h) (fun _ h => h.elim) (fun _ _ => trivial) (Below.refl _ _) hbase (by omega) (fun v1 w1 h1 _ h3 h4 => h v1 w1 (Kd.own_of_R h1) h3 h4)
  obtain ⟨a0, hA, _⟩ := HR 0 _ (List.getElem?_eq_getElem h0)
  subst hA
  refine ⟨_, rfl, fun j p hp => ⟨[.int .i64 p], rfl, rfl, fun i u hu => ?_⟩⟩
  obtain ⟨a1, hA, hc⟩ := HR j p hp
  obtain rfl := Option.some.inj hA
  match i, hu with
  | 0, hu =>
    simp at hu; subst hu
    show w.cell? (a0.add (j * 1 + 0)) = _
    rw [Nat.mul_one, Nat.add_zero]; exact hc
/-- The list has been made anew. -/
theorem NO.fresh {w wr w' : World} {H : Nat} {v0 v0' v : Value} {L L' M : List Int} (h : NO w H v0 L v M wr) (hb : Below wr.heap.size wr w') (hr : RowI w' w.heap.size v0' L') (hv : ∃ b, v0'.ownBlock = some b ∧ wr.heap.size ≤ b) : NO w H v0' L' v M w' := by
  refine ⟨h.1.trans (hb.mono h.1.size), hr, h.2.2.1.below hb, h.2.2.2.1, fun k hk e => ?_⟩
  obtain ⟨b, h1, h2⟩ := hv
  rw [h1] at hk
  have := (RowI.lt h.2.2.1.2.1 k e).2
  have := Option.some.inj hk
  omega
theorem SrcA.one (w : World) (y : Int) : SrcA (w.alloc (.cells #[.int .i64 y] 3)) (some ⟨w.heap.size, 0, none⟩) [y] := fun j z hz => by
  match j, hz with
  | 0, hz =>
    simp at hz; subst hz
    exact ⟨_, rfl, by show World.cell? _ ⟨w.heap.size, 0 + 0, none⟩ = _; rw [cell_of_row _ _ _ _ _ _ (heap_alloc_new w _)]; rfl⟩
def noA (w : World) (H : Nat) (v0 : Value) (L : List Int) (kq : Nat) (v21 : Value) (wr : World) : Prop := ∃ (k : Nat) (v : Value), k + kq = L.length ∧ v21 = .int .i64 (k : Int) ∧ Aside (NO w H v0 L v (L.take k) wr)
def noB (w : World) (H N : Nat) (kq : Nat) (v0 v8 : Value) (wr : World) : Prop := ∃ (i : Nat) (L : List Int) (v : Value), i + kq = N ∧ v8 = .int .i64 (i : Int) ∧ Aside (NO w H v0 L v L wr) ∧ Aside (L.length ≤ 60 + i)
set_option maxHeartbeats 16000000 in
set_option maxRecDepth 100000 in
theorem walk_order (w : World) (A0 : Option Addr) (c0 : Nat) (l0 : List Int) (hC0 : Kd.C (Kd.int .i64) w A0 l0.length l0) (hc0 : l0.length ≤ c0) (hm0 : l0.length ≤ maxLen)
    (A1 : Option Addr) (c1 : Nat) (l1 : List Int) (hC1 : Kd.C (Kd.int .i64) w A1 l1.length l1) (_hc1 : l1.length ≤ c1) (hm1 : l1.length ≤ maxLen) :
    Calls Try.prog 5 #[.slice A0 l0.length c0, .slice A1 l1.length c1] w fun e w' => e = .returned (.bool true) ∧ Below w.heap.size w w' := by
  obtain ⟨m, hm⟩ : ∃ m, m = min l0.length 60 := ⟨_, rfl⟩
  have hS0 := Aside.mk (show SrcA w A0 (l0.take m) from fun i x hx => src_of_C hC0 i x (by
    rw [List.getElem?_take] at hx
    split at hx
    · exact hx
    · cases hx))
  have HC1 := Aside.mk hC1
  have hlm0 : l0.length ≤ 9223372036854775807 := hm0
  have hlm1 : l1.length ≤ 9223372036854775807 := hm1
  have hmn : (if (60 : Int) < (l0.length : Int) then 60 else (l0.length : Int)) = (m : Int) := by split <;> omega
  have hm60 : m ≤ 60 := by omega
  have hml : m ≤ l0.length := by omega
  have hmc : m ≤ c0 := by omega
  have HML := Aside.mk (show (l0.take m).length = m from by rw [List.length_take]; omega)
  have hz27 : ∀ W, (zeroValue 27).run Try.prog W = .ok (.agg #[.slice none 0 0]) W := fun W => by
    have hi : (Try.prog.info? 27).map (·.zero) = some (some (.agg #[.slice none 0 0])) := by kernel_rfl
    obtain ⟨i, h1, h2⟩ := Option.map_eq_some_iff.1 hi
    simp [zeroValue, typeInfo, h1, h2]
  have hS0a := Aside.mk (show SrcA (w.alloc (.cells #[] 3)) A0 (l0.take m) from fun i x hx => by
    obtain ⟨a, h1, h2⟩ := hS0.out i x hx
    exact ⟨a, h1, cell_alloc_l _ h2⟩)
  have HM := Aside.mk hm
  clear hC0 hC1 hm hc0 hm0 hm1
  go_enter Try.func5, Try.ntmps5
  go_wp2_with ((with_reducible refine wpList_appendC rfl (.tmp 12) (.tmp 17) rfl w.heap.size (.slice (some ⟨w.heap.size, 0, none⟩) 0 0) [] (l0.take m) A0 m c0 rfl rfl HML.out ?ho ?hr ?hb ?hl ?_); (case ho => exact RowI.empty w _ (Nat.le_refl _)); (case hr => exact hS0a.out); (case hb => simp); (case hl => simp; omega); intro v1 w1 h1 hg hw; obtain ⟨Av, nv, cv, rfl, hnv⟩ := h1.shape; have HNV := Aside.mk hnv; have H1 := Aside.mk h1; have HG1 := Aside.mk hg; clear hnv h1 hg hw)
  have hNO := Aside.mk (show NO w w1.heap.size (.slice Av nv cv) (l0.take m) (.slice none 0 0) [] (w1.alloc (.cells #[.slice none 0 0] 27)) from by
    have hb1 : Below w.heap.size w w1 := ((Below.refl _ _).alloc (Nat.le_refl _) (.cells #[] 3)).grown HG1.out (by simp) (fun k e => by simp [Value.ownBlock] at e; omega)
    have hb2 : Below w1.heap.size w1 (w1.alloc (.cells #[.slice none 0 0] 27)) := (Below.refl _ _).alloc (Nat.le_refl _) _
    exact ⟨hb1.trans (hb2.mono hb1.size), H1.out.below hb2, ⟨heap_alloc_new w1 _, RowI.nil _ _, by simp⟩, hb1.size, fun k _ e => by simp [Value.ownBlock] at e⟩)
  have hnl : nv = m := by have := HNV.out; rw [List.nil_append] at this; rw [this]; exact HML.out
  obtain ⟨H, hH⟩ : ∃ H, H = w1.heap.size := ⟨_, rfl⟩
  obtain ⟨L, hL⟩ : ∃ L, L = l0.take m := ⟨_, rfl⟩
  rw [← hL] at hNO HML
  rw [← hH] at hNO ⊢
  obtain ⟨wa, hwa⟩ : ∃ wa, wa = w1.alloc (.cells #[.slice none 0 0] 27) := ⟨_, rfl⟩
  rw [← hwa] at hNO ⊢
  have hLn : L.length = nv := by rw [hnl]; exact HML.out
  have HLN := Aside.mk hLn
  have HN60 := Aside.mk (show nv ≤ 60 from by omega)
  clear HG1 H1 HNV hH hwa hS0 hS0a hL HML hmn hml hmc hnl hLn
  go_loopg [21, 7] nv (fun kq v21 _ wr => noA w H (.slice Av nv cv) L kq v21 wr)
  case atStart => exact ⟨0, _, by have := HLN.out; omega, rfl, by rw [List.take_zero]; exact hNO⟩
  case round =>
    clear hNO
    obtain ⟨k, v, hk, rfl, hN⟩ := hrel
    have HKQ := Aside.mk hk
    by_cases hlt : k < L.length
    · obtain ⟨x, hx⟩ : ∃ x, L[k]? = some x := ⟨_, List.getElem?_eq_getElem hlt⟩
      have hS := hN.out.2.1.src.2.2
      obtain ⟨b, o, rfl, hcl⟩ := hS k x hx
      have hkn : k < nv := by have := HLN.out; omega
      have hnm : nv ≤ 9223372036854775807 := by have := HN60.out; omega
      have hP := Aside.mk (hN.out.put1 x (by rw [List.length_take]; have := HLN.out; have := HN60.out; omega))
      have ht := Aside.mk (show L.take k ++ [x] = L.take (k + 1) from by
        rw [List.take_succ_eq_append_getElem hlt]
        congr 2
        rw [List.getElem?_eq_getElem hlt] at hx
        exact (Option.some.inj hx).symm)
      have hlt' := Aside.mk hlt
      clear hS hx hk hlt
      go_wp2_with (go_at_call 11; refine hP.out.mono ?_; rintro e w2 ⟨rfl, v2, h2⟩; rw [ht.out] at h2; have H2 := Aside.mk h2; clear h2)
      go_roundg (gk - 1)
      case measure => have := HKQ.out; have := hlt'.out; omega
      case rel => exact ⟨k + 1, v2, by have := HKQ.out; have := hlt'.out; omega, by go_num, H2⟩
    · have hke : k = L.length := by omega
      have hN2 := Aside.mk (show NO w H (.slice Av nv cv) L v L wr from by have := hN.out; rwa [hke, List.take_length] at this)
      have hkn : k = nv := by have := HLN.out; omega
      subst hkn
      have hnm : k ≤ 9223372036854775807 := by have := HN60.out; omega
      obtain ⟨N, hNN⟩ : ∃ N, N = min l1.length 60 := ⟨_, rfl⟩
      have HN := Aside.mk hNN
      clear hN hlt hk hke hNN
      go_wp2
      generalize gk = gkz at *
      go_loopg [0, 8, 9, 10, 11] N (fun kq v0 v8 _ _ _ wr => noB w H N kq v0 v8 wr)
      case atStart => exact ⟨0, L, v, by omega, rfl, hN2, ⟨by have := HLN.out; have := HN60.out; omega⟩⟩
      case round =>
        clear hN2
        obtain ⟨i, L, v, hi, rfl, hN, hLb⟩ := hrel
        have HI := Aside.mk hi
        clear hi
        obtain ⟨A, n, c, rfl, hn⟩ := hN.out.2.1.shape
        have hncap := hN.out.2.1.src.2.1
        by_cases hc : i < N ∧ 0 < n
        · obtain ⟨hiN, hn0⟩ := hc
          have HI1 := Aside.mk hiN
          have hi1 : i < l1.length := by have := HN.out; omega
          have hi2 : i < 60 := by have := HN.out; omega
          clear hiN
          have hS1 : SrcA w A1 l1 := fun j x hx => src_of_C HC1.out j x hx
          obtain ⟨x, hx⟩ : ∃ x, l1[i]? = some x := ⟨_, List.getElem?_eq_getElem hi1⟩
          obtain ⟨a, rfl, hcl⟩ := (hS1.below hN.out.1) i x hx
          have HLB := Aside.mk (show L.length ≤ 120 from by have := hLb.out; omega)
          have HLBi := Aside.mk (show L.length ≤ 60 + i from hLb.out)
          have hat := atF_in x n (by omega)
          obtain ⟨k, hk⟩ : ∃ k : Nat, atF x n = (k : Int) := ⟨(atF x n).toNat, by omega⟩
          have hkn : k < n := by omega
          have hAt := Aside.mk (T.At x n wr (by have := HLB.out; omega))
          rw [hk] at hAt
          have hkL : k < L.length := by omega
          obtain ⟨y, hy⟩ : ∃ y, L[k]? = some y := ⟨_, List.getElem?_eq_getElem hkL⟩
          obtain ⟨b, o, rfl, hcy⟩ := hN.out.2.1.src.2.2 k y hy
          have hnm : n ≤ 9223372036854775807 := by have := HLB.out; omega
          have hnc : n ≤ c := by omega
          have HNn := Aside.mk hn
          have HY := Aside.mk hy
          clear hn hS1 hx hLb hat hk hncap hkL hy
          by_cases hr : (i : Int).tmod 3 = 2
          · obtain ⟨L', hL'⟩ : ∃ L', L' = L ++ [y] := ⟨_, rfl⟩
            have HLe := Aside.mk hL'
            have hD := Aside.mk (hN.out.double k y HY.out (by have := HLB.out; omega))
            rw [← hL'] at hD
            clear hL' hN
            have HL' := Aside.mk (show L'.length ≤ 61 + i from by rw [HLe.out, List.length_append]; have := HLBi.out; simp; omega)
            go_wp2_with (first | (go_at_call 8; refine hAt.out.mono ?_; rintro e w2 ⟨rfl, hw⟩; subst w2) | (go_at_call 15; refine hD.out.mono ?_; rintro e w2 ⟨rfl, v2, h2⟩; have H2 := Aside.mk h2; have hcy2 : w2.cell? ⟨b, o + k, none⟩ = some (.int .i64 y) := (by obtain ⟨b2, o2, e2, hc2⟩ := h2.2.1.src.2.2 k y HY.out; cases e2; exact hc2); clear h2) | ((with_reducible refine wpList_appendC rfl (.tmp 56) (.tmp 61) rfl w.heap.size (.slice (some ⟨b, o, none⟩) n c) L [y] (some ⟨w2.heap.size, 0, none⟩) 1 1 rfl rfl ?hm ?ho ?hr ?hb ?hl ?_); (case ho => exact H2.out.2.1.below ((Below.refl _ _).alloc (Nat.le_refl _) _)); (case hr => exact SrcA.one w2 y); (case hm => rfl); (case hb => have := H2.out.1.size; simp; omega); (case hl => have := HLB.out; omega); intro v3 w3 h3 hg3 hw3; rw [← HLe.out] at h3; obtain ⟨A3, n3, c3, rfl, hn3⟩ := h3.shape; subst hn3; have HNO := Aside.mk ((H2.out.below ((Below.refl w2.heap.size w2).alloc (Nat.le_refl _) (.cells #[.int .i64 y] 3))).list hg3 h3 hw3); have hAll := Aside.mk (T.all H (H + 1) v2 L' w3 (by have := HL'.out; omega) HNO.out.2.2.1); clear h3 hg3 hw3 hcy2 H2 hD))
            go_wp2_with (first | (go_at_call 16; refine hAll.out.mono ?_; rintro e w4 ⟨r, rfl, hr4, hb4⟩; obtain ⟨Br, nr, cr, rfl, hnr⟩ := hr4.shape; subst hnr; have HR4 := Aside.mk hr4; have HB4 := Aside.mk hb4; clear hr4 hb4) | (go_at_call 17; refine (T.alike Br A3 cr c3 L' w4 HR4.out.src.2.2 (HNO.out.2.1.below HB4.out).src.2.2 (by have := HL'.out; omega)).mono ?_; rintro e w5 ⟨rfl, hb5⟩; have HB5 := Aside.mk hb5; clear hb5))
            have HNO5 := Aside.mk ((HNO.out.below HB4.out).below HB5.out)
            clear HNO HR4 HB4 HB5 hAll
            go_roundg (gk - 1)
            case measure => have := HI.out; have := HI1.out; omega
            case rel => exact ⟨i + 1, L', v2, by have := HI.out; have := HI1.out; omega, by go_num, HNO5, ⟨by have := HL'.out; omega⟩⟩
          · obtain ⟨L', hL'⟩ : ∃ L', L' = L.eraseIdx k := ⟨_, rfl⟩
            have HLe := Aside.mk hL'
            have hD := Aside.mk (hN.out.take k y HY.out (by have := HLB.out; omega))
            rw [← hL'] at hD
            obtain ⟨q, hq, hq2⟩ : ∃ q, (i : Int).tmod 3 = q ∧ ¬ q = 2 := ⟨_, rfl, hr⟩
            clear hL' hN hr
            have HL' := Aside.mk (show L'.length ≤ 61 + i from by rw [HLe.out, List.length_eraseIdx]; have := HLBi.out; split <;> omega)
            go_wp2_with (first | (go_at_call 8; refine hAt.out.mono ?_; rintro e w2 ⟨rfl, hw⟩; subst w2) | (go_at_call 14; refine hD.out.mono ?_; rintro e w2 ⟨rfl, v2, h2⟩; have H2 := Aside.mk h2; clear h2))
            have hwr : IntKind.i64.wrap ((k : Int) + 1) = (k : Int) + 1 := by simp [IntKind.wrap, IntKind.bits, IntKind.signed]; omega
            have HSL := Aside.mk (show SrcA w2 (some ⟨b, o, none⟩) L from fun j z hz => by obtain ⟨b2, o2, e2, hc2⟩ := H2.out.2.1.src.2.2 j z hz; exact ⟨⟨b, o, none⟩, rfl, by cases e2; rw [Addr.add_lit]; exact hc2⟩)
            have hbe := Aside.mk (Below.drew ((Below.refl w2.heap.size w2).alloc (Nat.le_refl _) (.cells #[] 3)))
            have hS2 := Aside.mk (show SrcA (w2.alloc (.cells #[] 3)).drew (some ⟨b, o, none⟩) (L.take k) from fun j z hz => (HSL.out.below hbe.out) j z (by rw [List.getElem?_take] at hz; split at hz; exact hz; cases hz))
            have HKN := Aside.mk (show (L.take k).length = k from by rw [List.length_take]; have := HNn.out; omega)
            have hRE := Aside.mk ((RowI.empty w2 w.heap.size H2.out.1.size).below (Below.drew (Below.refl _ _)))
            have hsz2 := Aside.mk (show w.heap.size ≤ (w2.alloc (.cells #[] 3)).drew.heap.size from by have := hbe.out.size; have := H2.out.1.size; omega)
            have hkc : k ≤ c := by omega
            have hkc1 : k + 1 ≤ c := by omega
            have hkn1 : 0 ≤ (k : Int) + 1 ∧ (k : Int) + 1 ≤ (n : Int) := by omega
            obtain ⟨ao, hao⟩ : ∃ ao, (if c = k + 1 then some (⟨b, o, none⟩ : Addr) else some ⟨b, o + (k + 1), none⟩) = ao := ⟨_, rfl⟩
            have hDR := Aside.mk (fun (W : World) (hW : SrcA W (some ⟨b, o, none⟩) L) => show SrcA W ao (L.drop (k + 1)) from by
              intro j z hz
              rw [List.getElem?_drop] at hz
              have hj := (List.getElem?_eq_some_iff.1 hz).1
              have := HNn.out
              rw [if_neg (by omega)] at hao
              obtain ⟨a2, e2, h2⟩ := hW _ z hz
              cases e2
              refine ⟨_, hao.symm, ?_⟩
              rw [Addr.add_lit] at h2 ⊢
              rw [Nat.add_assoc]
              exact h2)
            have HDL := Aside.mk (show (L.drop (k + 1)).length = n - (k + 1) from by rw [List.length_drop]; have := HNn.out; omega)
            have HEE := Aside.mk (show L.take k ++ L.drop (k + 1) = L' from by rw [HLe.out, List.eraseIdx_eq_take_drop_succ])
            go_region_law (first | (refine step_appendC rfl (.tmp 65) (.tmp 68) rfl w.heap.size (.slice (some ⟨w2.heap.size, 0, none⟩) 0 0) [] (L.take k) (some ⟨b, o, none⟩) k c rfl rfl HKN.out hRE.out hS2.out hsz2.out (by have := HLB.out; have := HNn.out; simp; omega) ?_; intro v1 w3 h3 hg3 hw3; rw [List.nil_append] at h3; obtain ⟨A1, n1, c1, rfl, hn1⟩ := h3.shape; have HN1 := Aside.mk hn1; have H3 := Aside.mk h3; have HG3 := Aside.mk hg3; have HW3 := Aside.mk hw3; have HS3 := Aside.mk (HSL.out.below (hbe.out.grown hg3 (Nat.le_of_lt (by simp)) (fun k' e => by simp [Value.ownBlock] at e; omega))); clear hn1 h3 hg3 hw3) | (refine step_appendC rfl (.tmp 69) (.tmp 73) rfl w.heap.size (.slice A1 n1 c1) (L.take k) (L.drop (k + 1)) ao (n - (k + 1)) (c - (k + 1)) rfl rfl HDL.out H3.out (hDR.out w3 HS3.out) (by have := HG3.out.size; have := hsz2.out; omega) (by have := HLB.out; have := HNn.out; have := HKN.out; omega) ?_; intro v4 w4 h4 hg4 hw4; rw [HEE.out] at h4; obtain ⟨A3, n3, c3, rfl, hn3⟩ := h4.shape; subst hn3; have H4 := Aside.mk h4; have HG4 := Aside.mk hg4; have HW4 := Aside.mk hw4; clear h4 hg4 hw4))
            have HNO := Aside.mk (show NO w H (.slice A3 L'.length c3) L' v2 L' w4 from by
              have hb1 : ∃ b, (Value.slice A1 n1 c1).ownBlock = some b ∧ w2.heap.size ≤ b := by
                rcases HW3.out with h | ⟨b, h, h1⟩
                · exact ⟨_, h.trans rfl, Nat.le_refl _⟩
                · exact ⟨b, h, Nat.le_trans hbe.out.size h1⟩
              have hB1 : Below w2.heap.size w2 _ := hbe.out.grown HG3.out hbe.out.size (fun k' e => by simp [Value.ownBlock] at e; omega)
              have hB2 := hB1.grown HG4.out hB1.size (fun k' e => by
                obtain ⟨b, h, h1⟩ := hb1
                rw [h] at e
                have := Option.some.inj e
                omega)
              refine H2.out.fresh hB2 H4.out ?_
              rcases HW4.out with h | ⟨b, h, h1⟩
              · obtain ⟨b, h2, h3⟩ := hb1
                exact ⟨b, h.trans h2, h3⟩
              · exact ⟨b, h, Nat.le_trans hB1.size h1⟩)
            have hAll := Aside.mk (T.all H (H + 1) v2 L' w4 (by have := HL'.out; omega) HNO.out.2.2.1)
            clear H2 H3 H4 HG3 HG4 HW3 HW4 HS3 hDR HEE HDL hS2 hRE hsz2 HKN hbe HSL hD
            generalize w4 = w3 at HNO hAll ⊢
            go_wp2_with (first | (go_at_call 16; refine hAll.out.mono ?_; rintro e w4 ⟨r, rfl, hr4, hb4⟩; obtain ⟨Br, nr, cr, rfl, hnr⟩ := hr4.shape; subst hnr; have HR4 := Aside.mk hr4; have HB4 := Aside.mk hb4; clear hr4 hb4) | (go_at_call 17; refine (T.alike Br A3 cr c3 L' w4 HR4.out.src.2.2 (HNO.out.2.1.below HB4.out).src.2.2 (by have := HL'.out; omega)).mono ?_; rintro e w5 ⟨rfl, hb5⟩; have HB5 := Aside.mk hb5; clear hb5))
            have HNO5 := Aside.mk ((HNO.out.below HB4.out).below HB5.out)
            clear HNO HR4 HB4 HB5 hAll
            go_roundg (gk - 1)
            case measure => have := HI.out; have := HI1.out; omega
            case rel => exact ⟨i + 1, L', v2, by have := HI.out; have := HI1.out; omega, by go_num, HNO5, ⟨by have := HL'.out; omega⟩⟩
        · have HNX := Aside.mk (fun w2 (h2 : Below wr.heap.size wr w2) => hN.out.1.trans (h2.mono hN.out.1.size))
          have hnm : n ≤ 9223372036854775807 := by have := hLb.out; have := HI.out; have := HN.out; omega
          have hlast : l1.length ≤ i ∨ (i < l1.length ∧ 60 ≤ i) ∨ (i < l1.length ∧ i < 60 ∧ n = 0) := by have := HN.out; omega
          have him : i ≤ 9223372036854775807 := by have := HN.out; have := HI.out; omega
          clear hc hn hncap hN hLb
          rcases hlast with h1 | ⟨h1, h2⟩ | ⟨h1, h2, rfl⟩
          · go_wp2_with (go_at_call 10; refine (T.works wr).mono ?_; rintro e w2 ⟨rfl, h2⟩; have H2 := Aside.mk h2; clear h2)
            go_ret
            exact ⟨rfl, HNX.out _ H2.out⟩
          · go_wp2_with (go_at_call 10; refine (T.works wr).mono ?_; rintro e w2 ⟨rfl, h2⟩; have H2 := Aside.mk h2; clear h2)
            go_ret
            exact ⟨rfl, HNX.out _ H2.out⟩
          · go_wp2_with (go_at_call 10; refine (T.works wr).mono ?_; rintro e w2 ⟨rfl, h2⟩; have H2 := Aside.mk h2; clear h2)
            go_ret
            exact ⟨rfl, HNX.out _ H2.out⟩
end Go.Proofs.Ytmlnjelhiemlpaa

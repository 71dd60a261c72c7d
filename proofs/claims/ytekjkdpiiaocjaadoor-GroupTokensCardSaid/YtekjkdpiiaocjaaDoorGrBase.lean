/- Words: what stands while blocks turn; regions that draw; structs; where the walk stands still. Conditions: none. -/
import Derived.Test.YtekjkdpiiaocjaaDoorProg
import Derived.Test.YtekjkdpiiaocjaaDoorWMore
import Derived.Below
import Derived.BigQuiet
import Derived.BigRegion
import Derived.Deep.CutBlock
import Derived.Deep.DeepCutAuto
import Derived.Deep.LoopGhost
import Derived.Deep.MidRow
import Derived.Deep.QuietTactic
import Derived.Deep.RegionHeld3
import Derived.Deep.RegionLaw
import Derived.Deep.RegionWith
import Derived.Deep.WholeRow
import Derived.Laws.Tables
import Derived.Lib.SliceRun
import Derived.Maps.OwnOps
import Derived.Maps.OwnSet
import Derived.Maps.Views
import Derived.Shelf.Abstract
import Derived.StillTailTactics
import Derived.WalkKit
namespace Go.Proofs.YtekjkdpiiaocjaaDoor
open Go.RowKit Go.Maps Go.Proofs.YtekjkdpiiaocjaaDoorW.PrintWords Go.Proofs.YtekjkdpiiaocjaaDoorW.PrintLast Go.Proofs.YtekjkdpiiaocjaaDoorW.PrintMore
/-- Kept away from the walk. -/
structure Aside (p : Prop) : Prop where
  out : p
/-- Nothing turns but these blocks. -/
structure FC (S : List Nat) (w w' : World) : Prop where
  os : w'.os = w.os
  tape : w'.tape = w.tape
  output : w'.output = w.output
  size : w.heap.size ≤ w'.heap.size
  block : ∀ k, k < w.heap.size → k ∉ S → w'.heap[k]? = w.heap[k]?
theorem FC.refl (S : List Nat) (w : World) : FC S w w := ⟨rfl, rfl, rfl, Nat.le_refl _, fun _ _ _ => rfl⟩
theorem FC.trans {S : List Nat} {a b c : World} (h : FC S a b) (k : FC S b c) : FC S a c := ⟨k.os.trans h.os, k.tape.trans h.tape, k.output.trans h.output, Nat.le_trans h.size k.size, fun i hi hn => (k.block i (Nat.lt_of_lt_of_le hi h.size) hn).trans (h.block i hi hn)⟩
theorem FC.sub {S S' : List Nat} {a b : World} (h : FC S a b) (hs : ∀ k ∈ S, k ∈ S') : FC S' a b := ⟨h.os, h.tape, h.output, h.size, fun k hk hn => h.block k hk (fun e => hn (hs k e))⟩
theorem FC.of {S : List Nat} {a b : World} (h : Below a.heap.size a b) : FC S a b := ⟨h.os, h.tape, h.output, h.size, fun k hk _ => h.block k hk⟩
theorem FC.below {S : List Nat} {w a b : World} {B : Nat} (h : Below B w a) (k : FC S a b) (hs : ∀ x ∈ S, B ≤ x) (hB : B ≤ w.heap.size) : Below B w b :=
  ⟨k.os.trans h.os, k.tape.trans h.tape, k.output.trans h.output, Nat.le_trans h.size k.size, fun i hi => (k.block i (Nat.lt_of_lt_of_le hi (Nat.le_trans hB h.size)) (fun e => by have := hs i e; omega)).trans (h.block i hi)⟩
theorem still_lit {P : Program} {id : Nat} {Q : Exit → Act → World → Prop} {a : Act} {w : World} {l : List Oper} (hm : P.follows .mixedOrders = true) (hB : Region.lexB .any l.toArray = true)
    (h : wpStill P l.toArray w.drew (fun a' => Q .normal a' w.drew) l a) : (Code.region id l.toArray true).wp P Q a w := wp_region_still_lit hm hB h
theorem still_tail {P : Program} {id : Nat} {Q : Exit → Act → World → Prop} {a : Act} {w : World} {l : List Oper} (n : Nat) (hm : P.follows .mixedOrders = true) (hB : Region.lexTailB .any l.toArray n = true)
    (h : wpStill P l.toArray w.drew (fun a' => wpList P l.toArray Q (l.drop n) a' w.drew) (l.take n) a) : (Code.region id l.toArray true).wp P Q a w := wp_region_still_tail n hm hB h
theorem FC.setCell {S : List Nat} {a b : World} (h : FC S a b) {p : Addr} (hp : p.block ∈ S ∨ a.heap.size ≤ p.block) (v : Value) : FC S a (b.setCell p v) :=
  ⟨h.os, h.tape, h.output, by simpa [World.setCell] using h.size, fun k hk hn => by
    rw [Below.heap_setCell _ _ _ _ (fun e => by rcases hp with hp | hp; exact hn (e ▸ hp); omega)]
    exact h.block k hk hn⟩
theorem FC.setCells {S : List Nat} {a : World} {g : Nat} (hp : g ∈ S ∨ a.heap.size ≤ g) : ∀ (vs : List Value) (o : Nat) (b : World), FC S a b → FC S a (b.setCells g o vs)
  | [], _, _, h => h
  | v :: r, o, b, h => FC.setCells hp r (o + 1) _ (h.setCell (p := ⟨g, o, none⟩) hp v)
theorem FC.alloc {S : List Nat} {a b : World} (h : FC S a b) (o : Obj) : FC S a (b.alloc o) :=
  ⟨h.os, h.tape, h.output, by have := h.size; simp; omega, fun k hk hn => by rw [Below.heap_alloc _ _ _ (Nat.lt_of_lt_of_le hk h.size)]; exact h.block k hk hn⟩
theorem FC.drew {S : List Nat} {a b : World} (h : FC S a b) : FC S a b.drew := ⟨h.os, h.tape, h.output, h.size, h.block⟩
theorem FC.thenB {S : List Nat} {a b c : World} (h : FC S a b) (k : Below b.heap.size b c) : FC S a c := h.trans (FC.of k)
theorem size_setCell (w : World) (p : Addr) (v : Value) : (w.setCell p v).heap.size = w.heap.size := by simp [World.setCell]
theorem wp_val {P : Program} {o : Oper} {a : Act} {w w2 : World} {K : Act → World → Prop} {Q : Exit → Act → World → Prop} (v : Value) (h : (execOp a.eval o).run P w = .ok (.value v) w2) (hk : K (a.put o.dst v) w2) : o.wp P a w K Q := by
  unfold Oper.wp
  rw [h]
  exact hk
theorem wp_skip {P : Program} {o : Oper} {a : Act} {w w2 : World} {K : Act → World → Prop} {Q : Exit → Act → World → Prop} (h : (execOp a.eval o).run P w = .ok .skip w2) (hk : K (a.put o.dst undef) w2) : o.wp P a w K Q := by
  unfold Oper.wp
  rw [h]
  exact hk
section
variable {P : Program} {ops : Array Oper} {Q : Exit → Act → World → Prop} {md : Region.Mode}
/-- What the frame holds when the listed operations are done. -/
structure Done (a0 : Act) (ops : Array Oper) (val : Nat → Value) (listed : Array Bool) (a : Act) : Prop where
  defers : a.defers = a0.defers
  size : a.tmps.size = a0.tmps.size
  got : ∀ j o d, ops[j]? = some o → o.dst = some d → listed.getD j false = true → a.tmps[d]? = some (val j)
  rest : ∀ k, (∀ j o, ops[j]? = some o → o.dst = some k → listed.getD j false = false) → a.tmps[k]? = a0.tmps[k]?
/-- No two operations write one slot; each slot is there; each waits for earlier ones alone. -/
structure Fits (md : Region.Mode) (n : Nat) (ops : Array Oper) : Prop where
  one : ∀ (i j : Nat) (oi oj : Oper) (d : Tmp), ops[i]? = some oi → ops[j]? = some oj → oi.dst = some d → oj.dst = some d → i = j
  lt : ∀ (i : Nat) (o : Oper) (d : Tmp), ops[i]? = some o → o.dst = some d → d < n
  low : ∀ (i : Nat) (o : Oper), ops[i]? = some o → ∀ e ∈ o.after, Region.binds md e = true → e.on < i
def fitsB (md : Region.Mode) (n : Nat) (ops : Array Oper) : Bool :=
  (List.range ops.size).all fun i => match ops[i]? with
    | none => true
    | some o => (match o.dst with
      | none => true
      | some d => decide (d < n) && (List.range ops.size).all fun j => match ops[j]? with
        | none => true
        | some p => if p.dst = some d then decide (i = j) else true) && o.after.all fun e => !Region.binds md e || decide (e.on < i)
theorem fits_of {n : Nat} (h : fitsB md n ops = true) : Fits md n ops := by
  have key : ∀ i o, ops[i]? = some o → (match o.dst with
      | none => true
      | some d => decide (d < n) && (List.range ops.size).all fun j => match ops[j]? with
        | none => true
        | some p => if p.dst = some d then decide (i = j) else true) = true ∧ ∀ e ∈ o.after, (!Region.binds md e || decide (e.on < i)) = true := by
    intro i o ho
    have hi : i < ops.size := (Array.getElem?_eq_some_iff.1 ho).1
    have := List.all_eq_true.1 h i (List.mem_range.2 hi)
    rw [ho] at this
    simp only [Bool.and_eq_true] at this
    exact ⟨this.1, fun e he => Array.all_eq_true_iff_forall_mem.1 this.2 e he⟩
  refine ⟨fun i j oi oj d hi hj h1 h2 => ?_, fun i o d hi h1 => ?_, fun i o hi e he hb => ?_⟩
  · have hk := (key i oi hi).1
    rw [h1] at hk
    simp only [Bool.and_eq_true] at hk
    have := List.all_eq_true.1 hk.2 j (List.mem_range.2 (Array.getElem?_eq_some_iff.1 hj).1)
    rw [hj] at this
    simpa [h2] using this
  · have hk := (key i o hi).1
    rw [h1] at hk
    simp only [Bool.and_eq_true] at hk
    simpa using hk.1
  · have := (key i o hi).2 e he
    simpa [hb] using this
theorem getD_set (l : Array Bool) (i j : Nat) (b d : Bool) (hi : i < l.size) : (l.setIfInBounds i b).getD j d = if j = i then b else l.getD j d := by
  by_cases h : j = i
  · subst h
    simp [Array.getD_eq_getD_getElem?, hi]
  · rw [if_neg h]
    simp only [Array.getD_eq_getD_getElem?]
    rw [Array.getElem?_setIfInBounds_ne (fun e => h e.symm)]
theorem Done.put {a0 a : Act} {val : Nat → Value} {listed : Array Bool} {i : Nat} {o : Oper} (h : Done a0 ops val listed a) (hf : Fits md a0.tmps.size ops) (hs : listed.size = ops.size) (ho : ops[i]? = some o) (hn : listed.getD i false = false) :
    Done a0 ops val (listed.setIfInBounds i true) (a.put o.dst (val i)) := by
  have hi : i < listed.size := by rw [hs]; exact (Array.getElem?_eq_some_iff.1 ho).1
  cases hd : o.dst with
  | none =>
    have e : a.put none (val i) = a := rfl
    rw [e]
    refine ⟨h.defers, h.size, fun j p d hp hpd hl => ?_, fun k hk => ?_⟩
    · rw [getD_set _ _ _ _ _ hi] at hl
      by_cases hji : j = i
      · subst hji
        rw [ho] at hp; cases hp
        rw [hd] at hpd; cases hpd
      · rw [if_neg hji] at hl
        exact h.got j p d hp hpd hl
    · refine h.rest k (fun j p hp hpd => ?_)
      have := hk j p hp hpd
      rw [getD_set _ _ _ _ _ hi] at this
      by_cases hji : j = i
      · subst hji
        rw [ho] at hp; cases hp
        rw [hd] at hpd; cases hpd
      · rwa [if_neg hji] at this
  | some d0 =>
    have e : (a.put (some d0) (val i)) = { a with tmps := a.tmps.setIfInBounds d0 (val i) } := rfl
    have hlt : d0 < a.tmps.size := by rw [h.size]; exact hf.lt i o d0 ho hd
    rw [e]
    refine ⟨h.defers, by simpa using h.size, fun j p d hp hpd hl => ?_, fun k hk => ?_⟩
    · rw [getD_set _ _ _ _ _ hi] at hl
      show (a.tmps.setIfInBounds d0 (val i))[d]? = _
      by_cases hji : j = i
      · subst hji
        rw [ho] at hp; cases hp
        rw [hd] at hpd; cases hpd
        rw [Array.getElem?_setIfInBounds_self_of_lt hlt]
      · rw [if_neg hji] at hl
        have hne : d0 ≠ d := fun e => hji (hf.one j i p o d hp ho hpd (by rw [hd, e]))
        rw [Array.getElem?_setIfInBounds_ne hne]
        exact h.got j p d hp hpd hl
    · show (a.tmps.setIfInBounds d0 (val i))[k]? = _
      have hne : d0 ≠ k := fun e => by
        have := hk i o ho (by rw [hd, e])
        rw [getD_set _ _ _ _ _ hi, if_pos rfl] at this
        cases this
      rw [Array.getElem?_setIfInBounds_ne hne]
      refine h.rest k (fun j p hp hpd => ?_)
      have := hk j p hp hpd
      rw [getD_set _ _ _ _ _ hi] at this
      by_cases hji : j = i
      · subst hji; exact hn
      · rwa [if_neg hji] at this
theorem Done.start (a0 : Act) (val : Nat → Value) (n : Nat) : Done a0 ops val (Array.replicate n false) a0 := by
  have hr : ∀ j, (Array.replicate n false).getD j false = false := fun j => by
    simp only [Array.getD_eq_getD_getElem?, Array.getElem?_replicate]; split <;> rfl
  exact ⟨rfl, rfl, fun j o d _ _ hl => (by rw [hr] at hl; cases hl), fun _ _ => rfl⟩
def left (ops : Array Oper) (listed : Array Bool) : Nat := (List.range ops.size).countP fun i => !listed.getD i false
theorem ready_iff {listed : Array Bool} (hs : listed.size = ops.size) {i : Nat} (h : i ∈ Region.ready md ops listed) : ∃ o, ops[i]? = some o ∧ listed.getD i false = false ∧ ∀ e ∈ o.after, Region.binds md e = true → listed.getD e.on false = true := by
  unfold Region.ready at h
  rw [List.mem_filter] at h
  obtain ⟨h1, h2⟩ := h
  have hi : i < ops.size := List.mem_range.1 h1
  obtain ⟨o, ho⟩ : ∃ o, ops[i]? = some o := ⟨_, Array.getElem?_eq_getElem hi⟩
  simp only [ho, Option.map_some, Option.getD_some, Bool.and_eq_true] at h2
  refine ⟨o, ho, ?_, fun e he hb => ?_⟩
  · have h3 := h2.1
    have hil : i < listed.size := by omega
    simp only [Array.getD_eq_getD_getElem?, Array.getElem?_eq_getElem hil, Option.getD_some] at h3 ⊢
    simpa using h3
  · have := Array.all_eq_true_iff_forall_mem.1 h2.2 e he
    simpa [hb] using this
theorem all_of_ready {n : Nat} (hf : Fits md n ops) {listed : Array Bool} (hs : listed.size = ops.size) (h : Region.ready md ops listed = []) : ∀ i, i < ops.size → listed.getD i false = true := by
  intro i
  induction i using Nat.strongRecOn with
  | _ i ih =>
    intro hi
    cases hl : listed.getD i false with
    | true => rfl
    | false =>
      exfalso
      obtain ⟨o, ho⟩ : ∃ o, ops[i]? = some o := ⟨_, Array.getElem?_eq_getElem hi⟩
      have hm : i ∈ Region.ready md ops listed := by
        unfold Region.ready
        rw [List.mem_filter]
        refine ⟨List.mem_range.2 hi, ?_⟩
        simp only [ho, Option.map_some, Option.getD_some, Bool.and_eq_true]
        refine ⟨?_, Array.all_eq_true_iff_forall_mem.2 fun e he => ?_⟩
        · have hil : i < listed.size := by omega
          simp only [Array.getD_eq_getD_getElem?, Array.getElem?_eq_getElem hil, Option.getD_some] at hl ⊢
          rw [hl]; rfl
        · cases hb : Region.binds md e with
          | false => rfl
          | true =>
            have hlo := hf.low i o ho e he hb
            rw [ih e.on hlo (by omega)]; rfl
      rw [h] at hm
      cases hm
theorem left_set {listed : Array Bool} (hs : listed.size = ops.size) {i : Nat} (hi : i < ops.size) (hn : listed.getD i false = false) : left ops (listed.setIfInBounds i true) + 1 ≤ left ops listed := by
  unfold left
  have key : ∀ l : List Nat, l.Nodup → ((i ∈ l → l.countP (fun j => !(listed.setIfInBounds i true).getD j false) + 1 = l.countP fun j => !listed.getD j false) ∧ (i ∉ l → l.countP (fun j => !(listed.setIfInBounds i true).getD j false) = l.countP fun j => !listed.getD j false)) := by
    intro l
    induction l with
    | nil => simp
    | cons x t ih =>
      intro hnd
      rw [List.nodup_cons] at hnd
      obtain ⟨ih1, ih2⟩ := ih hnd.2
      have hx := getD_set listed i x true false (by omega)
      refine ⟨fun hm => ?_, fun hm => ?_⟩
      · rw [List.countP_cons, List.countP_cons, hx]
        rcases List.mem_cons.1 hm with rfl | hm'
        · rw [ih2 hnd.1, hn]; simp
        · have hne : x ≠ i := fun e => hnd.1 (e ▸ hm')
          rw [if_neg hne, ← ih1 hm']; omega
      · have hne : x ≠ i := fun e => hm (by simp [e])
        rw [List.countP_cons, List.countP_cons, hx, if_neg hne, ih2 (fun e => hm (by simp [e]))]
  exact Nat.le_of_eq ((key _ List.nodup_range).1 (List.mem_range.2 hi))
/-- THE LAW: each operation, once what it waits for is done, does its part: so does the region, whatever the order. -/
theorem wpAny_conf {a0 : Act} (val : Nat → Value) (W : Array Bool → World → Prop) (hf : Fits md a0.tmps.size ops)
    (hex : ∀ i o listed a w, ops[i]? = some o → listed.size = ops.size → listed.getD i false = false → (∀ e ∈ o.after, Region.binds md e = true → listed.getD e.on false = true) → Done a0 ops val listed a → W listed w →
      Region.wanted o (yielded ops a.tmps) = true ∧ o.wp P a w (fun a' w' => a' = a.put o.dst (val i) ∧ W (listed.setIfInBounds i true) w') Q)
    (hfin : ∀ listed a w, listed.size = ops.size → (∀ i, i < ops.size → listed.getD i false = true) → Done a0 ops val listed a → W listed w → Q .normal a w) :
    ∀ fuel listed a w, listed.size = ops.size → left ops listed ≤ fuel → Done a0 ops val listed a → W listed w → wpAny P md ops Q fuel listed a w
  | 0, listed, a, w, hs, hl, hd, hw => by
    have hall : ∀ i, i < ops.size → listed.getD i false = true := fun i hi => by
      cases h : listed.getD i false with
      | true => rfl
      | false =>
        have h0 : left ops listed = 0 := by omega
        unfold left at h0
        rw [List.countP_eq_zero] at h0
        have := h0 i (List.mem_range.2 hi)
        simp [h] at this
    refine ⟨?_, hfin listed a w hs hall hd hw⟩
    cases hr : Region.ready md ops listed with
    | nil => rfl
    | cons i t =>
      obtain ⟨o, ho, hn, _⟩ := ready_iff (md := md) hs (i := i) (by rw [hr]; simp)
      rw [hall i (Array.getElem?_eq_some_iff.1 ho).1] at hn
      cases hn
  | fuel + 1, listed, a, w, hs, hl, hd, hw => by
    refine ⟨fun hr => hfin listed a w hs (all_of_ready hf hs hr) hd hw, fun i hi => ?_⟩
    obtain ⟨o, ho, hn, hp⟩ := ready_iff hs hi
    obtain ⟨hwant, hwp⟩ := hex i o listed a w ho hs hn hp hd hw
    unfold wpOp
    rw [ho]
    dsimp only
    rw [if_pos hwant]
    refine .inl (Oper.wp_mono (fun a' w' hk => ?_) hwp)
    obtain ⟨rfl, hw'⟩ := hk
    have hlt := left_set hs (Array.getElem?_eq_some_iff.1 ho).1 hn
    exact wpAny_conf val W hf hex hfin fuel _ _ _ (by simpa using hs) (by omega) (hd.put hf hs ho hn) hw'
theorem left_start : left ops (Array.replicate ops.size false) ≤ ops.size := by
  unfold left
  have := List.countP_le_length (p := fun i => !(Array.replicate ops.size false).getD i false) (l := List.range ops.size)
  simpa using this
/-- At a region. -/
theorem wp_region_conf {id : Nat} {a0 : Act} {w : World} (hm : P.follows .mixedOrders = true) (val : Nat → Value) (W : Array Bool → World → Prop) (hf : fitsB .any a0.tmps.size ops = true)
    (h0 : W (Array.replicate ops.size false) w.drew)
    (hex : ∀ i o listed a w, ops[i]? = some o → listed.size = ops.size → listed.getD i false = false → (∀ e ∈ o.after, Region.binds .any e = true → listed.getD e.on false = true) → Done a0 ops val listed a → W listed w →
      Region.wanted o (yielded ops a.tmps) = true ∧ o.wp P a w (fun a' w' => a' = a.put o.dst (val i) ∧ W (listed.setIfInBounds i true) w') Q)
    (hfin : ∀ listed a w, listed.size = ops.size → (∀ i, i < ops.size → listed.getD i false = true) → Done a0 ops val listed a → W listed w → Q .normal a w) : (Code.region id ops true).wp P Q a0 w :=
  wp_region_any hm (wpAny_conf val W (fits_of hf) hex hfin ops.size _ _ _ (by simp) left_start (Done.start a0 val _) h0)
theorem eval_tmp (a : Act) (k : Nat) (v : Value) (h : a.tmps[k]? = some v) : a.eval (.tmp k) = v := by
  simp [Act.eval, Array.getD_eq_getD_getElem?, h]
theorem Done.ev {a0 a : Act} {val : Nat → Value} {listed : Array Bool} (h : Done a0 ops val listed a) (j d : Nat) (hj : (ops[j]?).bind (·.dst) = some d) (hl : listed.getD j false = true) : a.eval (.tmp d) = val j := by
  cases ho : ops[j]? with
  | none => rw [ho] at hj; cases hj
  | some o =>
    rw [ho] at hj
    exact eval_tmp _ _ _ (h.got j o d ho hj hl)
theorem Done.base {a0 a : Act} {val : Nat → Value} {listed : Array Bool} (h : Done a0 ops val listed a) (k : Nat) (v : Value) (hk : (ops.all fun o => o.dst != some k) = true) (hv : a0.tmps[k]? = some v) : a.eval (.tmp k) = v := by
  refine eval_tmp _ _ _ ((h.rest k (fun j o ho hd => ?_)).trans hv)
  have := Array.all_eq_true_iff_forall_mem.1 hk o (Array.mem_of_getElem? ho)
  rw [hd] at this
  simp at this
def fill (ops : Array Oper) (val : Nat → Value) : Nat → Array Value → Array Value
  | 0, t => t
  | n + 1, t => match (ops[n]?).bind (·.dst) with
    | some d => (fill ops val n t).setIfInBounds d (val n)
    | none => fill ops val n t
theorem fill_size (val : Nat → Value) (t : Array Value) : ∀ n, (fill ops val n t).size = t.size
  | 0 => rfl
  | n + 1 => by
    unfold fill
    split
    · simpa using fill_size val t n
    · exact fill_size val t n
theorem fill_get (val : Nat → Value) (t : Array Value) (hf : Fits md t.size ops) : ∀ n k, (∀ (j : Nat) (o : Oper), j < n → ops[j]? = some o → o.dst = some k → (fill ops val n t)[k]? = some (val j)) ∧ ((∀ (j : Nat) (o : Oper), j < n → ops[j]? = some o → o.dst ≠ some k) → (fill ops val n t)[k]? = t[k]?)
  | 0, k => ⟨fun j o hj => by omega, fun _ => rfl⟩
  | n + 1, k => by
    obtain ⟨h1, h2⟩ := fill_get val t hf n k
    unfold fill
    cases ho : ops[n]? with
    | none =>
      refine ⟨fun j o hj hjo hd => ?_, fun h => h2 (fun j o hj hjo => h j o (by omega) hjo)⟩
      by_cases e : j = n
      · subst e; rw [ho] at hjo; cases hjo
      · exact h1 j o (by omega) hjo hd
    | some p =>
      cases hp : p.dst with
      | none =>
        simp only [Option.bind_some, hp]
        refine ⟨fun j o hj hjo hd => ?_, fun h => h2 (fun j o hj hjo => h j o (by omega) hjo)⟩
        by_cases e : j = n
        · subst e; rw [ho] at hjo; cases hjo; rw [hp] at hd; cases hd
        · exact h1 j o (by omega) hjo hd
      | some d =>
        simp only [Option.bind_some, hp]
        have hlt : d < (fill ops val n t).size := by rw [fill_size]; exact hf.lt n p d ho hp
        refine ⟨fun j o hj hjo hd => ?_, fun h => ?_⟩
        · by_cases e : j = n
          · subst e; rw [ho] at hjo; cases hjo; rw [hp] at hd; cases hd
            rw [Array.getElem?_setIfInBounds_self_of_lt hlt]
          · have hne : d ≠ k := fun e2 => e (hf.one j n o p k hjo ho hd (by rw [hp, e2]))
            rw [Array.getElem?_setIfInBounds_ne hne]
            exact h1 j o (by omega) hjo hd
        · have hne : d ≠ k := fun e2 => h n p (by omega) ho (by rw [hp, e2])
          rw [Array.getElem?_setIfInBounds_ne hne]
          exact h2 (fun j o hj hjo => h j o (by omega) hjo)
theorem Done.full {a0 a : Act} {val : Nat → Value} {listed : Array Bool} (h : Done a0 ops val listed a) (hf : Fits md a0.tmps.size ops) (hl : ∀ i, i < ops.size → listed.getD i false = true) : a = { tmps := fill ops val ops.size a0.tmps, defers := a0.defers } := by
  have ht : a.tmps = fill ops val ops.size a0.tmps := by
    refine Array.ext_getElem? fun k => ?_
    obtain ⟨h1, h2⟩ := fill_get (md := md) val a0.tmps hf ops.size k
    by_cases hk : ∃ (j : Nat) (o : Oper), ops[j]? = some o ∧ o.dst = some k
    · obtain ⟨j, o, hjo, hd⟩ := hk
      have hj : j < ops.size := (Array.getElem?_eq_some_iff.1 hjo).1
      rw [h1 j o hj hjo hd, h.got j o k hjo hd (hl j hj)]
    · rw [h2 (fun j o _ hjo hd => hk ⟨j, o, hjo, hd⟩), h.rest k (fun j o hjo hd => absurd ⟨j, o, hjo, hd⟩ hk)]
  cases a
  simp only at ht
  subst ht
  have := h.defers
  simp only at this
  rw [this]
/-- The cells of a block, one by one. -/
def CellsF (w : World) (P t : Nat) (f : Nat → Option Value) : Prop := ∃ cs : Array Value, w.heap[P]? = some (.cells cs t (0, 0)) ∧ ∀ k, cs[k]? = f k
theorem CellsF.cell {w : World} {P t : Nat} {f : Nat → Option Value} (h : CellsF w P t f) (k : Nat) : w.cell? ⟨P, k, none⟩ = f k := by
  obtain ⟨cs, h1, h2⟩ := h
  rw [cell_of_row _ _ _ _ _ _ h1, h2]
theorem CellsF.froz {w : World} {P t : Nat} {f : Nat → Option Value} (h : CellsF w P t f) (k : Nat) : w.frozen? ⟨P, k, none⟩ = false := by
  obtain ⟨cs, h1, _⟩ := h
  exact frozen_of_row _ _ _ _ _ h1
theorem CellsF.set {w : World} {P t : Nat} {f : Nat → Option Value} (h : CellsF w P t f) (k : Nat) (v : Value) (hk : (f k).isSome = true) : CellsF (w.setCell ⟨P, k, none⟩ v) P t (fun j => if j = k then some v else f j) := by
  obtain ⟨cs, h1, h2⟩ := h
  refine ⟨_, heap_setCell_same w P k _ _ v h1, fun j => ?_⟩
  have hlt : k < cs.size := by
    have := h2 k
    cases hc : cs[k]? with
    | none => rw [hc] at this; rw [← this] at hk; cases hk
    | some _ => exact (Array.getElem?_eq_some_iff.1 hc).1
  by_cases e : j = k
  · subst e; dsimp only; rw [Array.getElem?_setIfInBounds_self_of_lt hlt, if_pos rfl]
  · dsimp only; rw [Array.getElem?_setIfInBounds_ne (fun e2 => e e2.symm), if_neg e, h2]
theorem CellsF.sets {P t : Nat} : ∀ (vs : List Value) (o : Nat) (w : World) (f : Nat → Option Value), CellsF w P t f → (∀ j, j < vs.length → (f (o + j)).isSome = true) → CellsF (w.setCells P o vs) P t (fun j => if o ≤ j ∧ j < o + vs.length then vs[j - o]? else f j)
  | [], o, w, f, h, _ => by
    obtain ⟨cs, h1, h2⟩ := h
    exact ⟨cs, h1, fun k => by dsimp only; rw [if_neg (by simp only [List.length_nil]; omega), h2]⟩
  | v :: r, o, w, f, h, hs => by
    have h1 := h.set o v (by simpa using hs 0 (by simp))
    obtain ⟨cs, h2, h3⟩ := CellsF.sets r (o + 1) _ _ h1 (fun j hj => by
      have := hs (j + 1) (by simp; omega)
      rw [if_neg (by omega), show o + 1 + j = o + (j + 1) from by omega]; exact this)
    refine ⟨cs, h2, fun k => ?_⟩
    rw [h3]
    dsimp only
    simp only [List.length_cons]
    by_cases hk : o + 1 ≤ k ∧ k < o + 1 + r.length
    · rw [if_pos hk, if_pos (by omega), show k - o = (k - (o + 1)) + 1 from by omega, List.getElem?_cons_succ]
    · rw [if_neg hk]
      by_cases e : k = o
      · subst e; rw [if_pos rfl, if_pos (by omega), Nat.sub_self]; rfl
      · rw [if_neg e, if_neg (by omega)]
theorem CellsF.congr {w : World} {P t : Nat} {f g : Nat → Option Value} (h : CellsF w P t f) (e : ∀ k, f k = g k) : CellsF w P t g := by
  obtain ⟨cs, h1, h2⟩ := h
  exact ⟨cs, h1, fun k => (h2 k).trans (e k)⟩
theorem CellsF.of_heap {w w' : World} {P t : Nat} {f : Nat → Option Value} (h : CellsF w P t f) (e : w'.heap[P]? = w.heap[P]?) : CellsF w' P t f := by
  obtain ⟨cs, h1, h2⟩ := h
  exact ⟨cs, e.trans h1, h2⟩
theorem CellsF.row {w : World} {P t : Nat} {f : Nat → Option Value} (h : CellsF w P t f) (cs : Array Value) (e : ∀ k, f k = cs[k]?) : w.heap[P]? = some (.cells cs t (0, 0)) := by
  obtain ⟨cs', h1, h2⟩ := h
  have : cs' = cs := Array.ext_getElem? fun k => (h2 k).trans (e k)
  rw [← this]; exact h1
theorem CellsF.of_row {w : World} {P t : Nat} {cs : Array Value} (h : w.heap[P]? = some (.cells cs t (0, 0))) : CellsF w P t (fun k => cs[k]?) := ⟨cs, h, fun _ => rfl⟩
end
section
variable {P : Program} {ops : Array Oper} {Q : Exit → Act → World → Prop} {md : Region.Mode} {σ : Type}
theorem Done.agree {a0 a : Act} {val val' : Nat → Value} {listed : Array Bool} (h : Done a0 ops val listed a) (e : ∀ j, listed.getD j false = true → val' j = val j) : Done a0 ops val' listed a :=
  ⟨h.defers, h.size, fun j o d hj hd hl => by rw [h.got j o d hj hd hl, e j hl], h.rest⟩
theorem wpAny_confG {a0 : Act} (val : σ → Nat → Value) (W : σ → Array Bool → World → Prop) (hf : Fits md a0.tmps.size ops)
    (hex : ∀ g i o listed a w, ops[i]? = some o → listed.size = ops.size → listed.getD i false = false → (∀ e ∈ o.after, Region.binds md e = true → listed.getD e.on false = true) → Done a0 ops (val g) listed a → W g listed w →
      Region.wanted o (yielded ops a.tmps) = true ∧ o.wp P a w (fun a' w' => ∃ g', (∀ j, listed.getD j false = true → val g' j = val g j) ∧ a' = a.put o.dst (val g' i) ∧ W g' (listed.setIfInBounds i true) w') Q)
    (hfin : ∀ g listed a w, listed.size = ops.size → (∀ i, i < ops.size → listed.getD i false = true) → Done a0 ops (val g) listed a → W g listed w → Q .normal a w) :
    ∀ fuel g listed a w, listed.size = ops.size → left ops listed ≤ fuel → Done a0 ops (val g) listed a → W g listed w → wpAny P md ops Q fuel listed a w
  | 0, g, listed, a, w, hs, hl, hd, hw => by
    have hall : ∀ i, i < ops.size → listed.getD i false = true := fun i hi => by
      cases h : listed.getD i false with
      | true => rfl
      | false =>
        have h0 : left ops listed = 0 := by omega
        unfold left at h0
        rw [List.countP_eq_zero] at h0
        have := h0 i (List.mem_range.2 hi)
        simp [h] at this
    refine ⟨?_, hfin g listed a w hs hall hd hw⟩
    cases hr : Region.ready md ops listed with
    | nil => rfl
    | cons i t =>
      obtain ⟨o, ho, hn, _⟩ := ready_iff (md := md) hs (i := i) (by rw [hr]; simp)
      rw [hall i (Array.getElem?_eq_some_iff.1 ho).1] at hn
      cases hn
  | fuel + 1, g, listed, a, w, hs, hl, hd, hw => by
    refine ⟨fun hr => hfin g listed a w hs (all_of_ready hf hs hr) hd hw, fun i hi => ?_⟩
    obtain ⟨o, ho, hn, hp⟩ := ready_iff hs hi
    obtain ⟨hwant, hwp⟩ := hex g i o listed a w ho hs hn hp hd hw
    unfold wpOp
    rw [ho]
    dsimp only
    rw [if_pos hwant]
    refine .inl (Oper.wp_mono (fun a' w' hk => ?_) hwp)
    obtain ⟨g', hag, rfl, hw'⟩ := hk
    have hlt := left_set hs (Array.getElem?_eq_some_iff.1 ho).1 hn
    exact wpAny_confG val W hf hex hfin fuel g' _ _ _ (by simpa using hs) (by omega) ((hd.agree hag).put hf hs ho hn) hw'
theorem wp_region_confG {id : Nat} {a0 : Act} {w : World} (hm : P.follows .mixedOrders = true) (val : σ → Nat → Value) (W : σ → Array Bool → World → Prop) (g0 : σ) (hf : fitsB .any a0.tmps.size ops = true)
    (h0 : W g0 (Array.replicate ops.size false) w.drew)
    (hex : ∀ g i o listed a w, ops[i]? = some o → listed.size = ops.size → listed.getD i false = false → (∀ e ∈ o.after, Region.binds .any e = true → listed.getD e.on false = true) → Done a0 ops (val g) listed a → W g listed w →
      Region.wanted o (yielded ops a.tmps) = true ∧ o.wp P a w (fun a' w' => ∃ g', (∀ j, listed.getD j false = true → val g' j = val g j) ∧ a' = a.put o.dst (val g' i) ∧ W g' (listed.setIfInBounds i true) w') Q)
    (hfin : ∀ g listed a w, listed.size = ops.size → (∀ i, i < ops.size → listed.getD i false = true) → Done a0 ops (val g) listed a → W g listed w → Q .normal a w) : (Code.region id ops true).wp P Q a0 w :=
  wp_region_any hm (wpAny_confG val W (fits_of hf) hex hfin ops.size g0 _ _ _ (by simp) left_start (Done.start a0 _ _) h0)
/-- A call of a Go function, as an operation. -/
theorem wp_calls {o : Oper} {a : Act} {w : World} {K : Act → World → Prop} (f : FuncId) (xs : Array Operand) (ts : Array TypeId) (ho : o.op = .call { callee := .value (.func f), args := xs, argTypes := ts }) (eg : ∀ args w, (callFunc f args).run P w = .ok (.enter f args) w) (args : Array Value) (hx : xs.map a.eval = args)
    (h : Calls P f args w fun e w' => ∃ v, e = .returned v ∧ K (a.put o.dst v) w') : o.wp P a w K Q := by
  unfold Oper.wp
  simp [execOp, ho, resolve, invoke, hx, Deferred.ofValue, Act.eval, eg, go_sem]
  refine h.mono ?_
  rintro e w' ⟨v, rfl, hk⟩
  exact hk
theorem wp_call1 {o : Oper} {a : Act} {w : World} {K : Act → World → Prop} (f : FuncId) (x : Operand) (t : TypeId) (ho : o.op = .call { callee := .value (.func f), args := #[x], argTypes := #[t] }) (eg : ∀ args w, (callFunc f args).run P w = .ok (.enter f args) w) (v : Value) (hx : a.eval x = v)
    (h : Calls P f #[v] w fun e w' => ∃ v, e = .returned v ∧ K (a.put o.dst v) w') : o.wp P a w K Q := wp_calls f #[x] #[t] ho eg #[v] (by simp [hx]) h
end
/-- A new block, filled from its head. -/
theorem box_of (W : World) (t : Nat) (Z : Array Value) (L : List Value) (hZ : Z.size = L.length) :
    ((W.alloc (.cells Z t)).setCells W.heap.size 0 L).heap[W.heap.size]? = some (.cells L.toArray t (0, 0)) ∧ FC [] W ((W.alloc (.cells Z t)).setCells W.heap.size 0 L) ∧ (W.alloc (.cells Z t)).there W.heap.size 0 L.length ∧ W.heap.size < ((W.alloc (.cells Z t)).setCells W.heap.size 0 L).heap.size := by
  have h0 : CellsF (W.alloc (.cells Z t)) W.heap.size t (fun k => Z[k]?) := CellsF.of_row (heap_alloc_new W _)
  have h1 : (W.alloc (.cells Z t)).there W.heap.size 0 L.length := fun j hj => ⟨by
    rw [h0.cell, Array.getElem?_eq_getElem (by omega)]; rfl, h0.froz _⟩
  have h2 := (h0.sets L 0 _ _ (fun j hj => by rw [Array.getElem?_eq_getElem (by omega)]; rfl)).row L.toArray (fun k => by
    by_cases hk : k < L.length
    · rw [if_pos (by omega), Nat.sub_zero, List.getElem?_toArray]
    · have h1 : Z[k]? = none := Array.getElem?_eq_none (by omega)
      have h2 : L.toArray[k]? = none := Array.getElem?_eq_none (by simp; omega)
      rw [if_neg (by omega), h1, h2])
  refine ⟨h2, FC.setCells (.inr (Nat.le_refl _)) _ _ _ ((FC.refl _ _).alloc _), h1, (Array.getElem?_eq_some_iff.1 h2).1⟩
section
variable {P : Program} {K : Act → Prop}
theorem still_load_mid {o : Oper} {a : Act} {w : World} (ty : TypeId) (x : Operand) (ho : o.op = .load ty x)
    (b k : Nat) (hx : a.eval x = .pointer (some ⟨b, k, none⟩)) (cs : List Value) (d : TypeDesc) (hc : w.rangeAt b k cs)
    (hu : P.underlying ty = some d) (hd : d.isRow = true) (hi : (P.info? ty).map (·.size) = some cs.length) (h : K (a.put o.dst (.agg cs.toArray))) : o.still P a w K := by
  unfold Oper.still execOp
  simp only [ho, hx, Instr.loadAt, Instr.sureAddr, Sem.run_bind, Sem.run_pure, Result.andThen_ok, run_loadVar_mid w b k ty cs d hc hu hd hi]
  first
    | exact h
    | exact ⟨rfl, h⟩
    | (simp; exact h)
end
/-- The walk stands here. -/
structure Halt (p : Prop) : Prop where
  out : p
theorem halt_at {P : Program} {ops : Array Oper} {rest : List Oper} {o : Oper} {a : Act} {w : World} {Q : Exit → Act → World → Prop} (op : Op) (_ : o.op = op) (h : Halt (wpList P ops Q (o :: rest) a w)) : wpList P ops Q (o :: rest) a w := h.out
theorem wpList_buildL {P : Program} {ops : Array Oper} {rest : List Oper} {o : Oper} {a : Act} {w : World} {Q : Exit → Act → World → Prop} (hg : o.guard = none) (t : TypeId) (parts : Array (Nat × Operand)) (ho : o.op = .build t parts) (C : Array Value) (ps : List (Nat × Value)) (hp : (parts.map fun (i, x) => (i, a.eval x)).toList = ps) (hf : P.built t ps = some C)
    (h : wpList P ops Q rest (a.put o.dst (.agg C)) w) : wpList P ops Q (o :: rest) a w :=
  wpList_build hg t parts ho (by rw [hp, hf]; rfl) (by rw [hp, hf]; exact h)
theorem results_cell {P : Program} (fn : Func) (tmps : Array Value) (slot : Tmp) (t : TypeId) (a : Addr) (v : Value) (w : World) (hr : fn.results = #[.cell slot t]) (ha : tmps.getD slot undef = .pointer (some a)) (hl : (loadVar t a).run P w = .ok v w) : (results fn tmps).run P w = .ok v w := by
  unfold results
  rw [hr]
  rw [Array.getD_eq_getD_getElem?] at ha
  simp [ha, asAddr, Sem.run_bind, Sem.run_pure, hl]
theorem there_row {w : World} {b t : Nat} {cs : Array Value} (h : w.heap[b]? = some (.cells cs t (0, 0))) (n : Nat) (hn : n = cs.size) : w.there b 0 n := fun j hj => ⟨by rw [cell_of_row _ _ _ _ _ _ h, Array.getElem?_eq_getElem (by omega)]; rfl, frozen_of_row _ _ _ _ _ h⟩
theorem range_row {w : World} {b t : Nat} {L : List Value} (h : w.heap[b]? = some (.cells L.toArray t (0, 0))) : w.rangeAt b 0 L := fun j v hj => by
  rw [cell_of_row _ _ _ _ _ _ h]; simpa using hj
/-- A block filled from its head. -/
theorem fill_row {w : World} {b t : Nat} {Z : Array Value} (h : w.heap[b]? = some (.cells Z t (0, 0))) (L : List Value) (hZ : Z.size = L.length) : (w.setCells b 0 L).heap[b]? = some (.cells L.toArray t (0, 0)) := by
  have h0 : CellsF w b t (fun k => Z[k]?) := CellsF.of_row h
  exact (h0.sets L 0 _ _ (fun j hj => by rw [Array.getElem?_eq_getElem (by omega)]; rfl)).row L.toArray (fun k => by
    by_cases hk : k < L.length
    · rw [if_pos (by omega), Nat.sub_zero, List.getElem?_toArray]
    · have h1 : Z[k]? = none := Array.getElem?_eq_none (by omega)
      have h2 : L.toArray[k]? = none := Array.getElem?_eq_none (by simp; omega)
      rw [if_neg (by omega), h1, h2])
theorem R_fcG {α : Type} {d : Kd α} {e : Nat} {S : List Nat} {w w' : World} {base : Nat} {v : Value} {l : List α} (h : d.R e w base (fun _ => True) v l) (f : FC S w w') (hS : ∀ k ∈ S, k < base) : d.R e w' base (fun _ => True) v l :=
  Kd.R_mono (Kd.R_step (Kd.R_bound h) (fun k hk hlt => f.block k hlt (fun e => by have := hS k e; have := hk.2.1; omega))) (fun _ _ => trivial)
/-- A row stands where a block of another type turns. -/
theorem R_fcT {α : Type} {d : Kd α} {e g t : Nat} {cells : Array Value} {w w' : World} {base : Nat} {v : Value} {l : List α} (h : d.R e w base (fun _ => True) v l) (f : FC [g] w w') (hg : w.heap[g]? = some (.cells cells t (0, 0))) (ht : ∀ q ∈ e :: d.E, q ≠ t) : d.R e w' base (fun _ => True) v l :=
  Kd.R_mono (Kd.R_step (Kd.R_bound h) (fun k hk hlt => f.block k hlt (fun e1 => by
    obtain ⟨_, _, _, q, hq, c2, hc⟩ := hk
    have : k = g := by simpa using e1
    subst this
    rw [hg] at hc
    have := Option.some.inj hc
    injection this with h1 h2
    exact ht q hq h2.symm))) (fun _ _ => trivial)
theorem FC.grown {w w' : World} {g : Nat} (h : w.grownBy w' (some g)) : FC [g] w w' := ⟨h.os, h.tape, h.output, h.size, fun k hk hn => h.block k hk (fun e => hn (by simp [Option.some.inj e]))⟩
theorem FC.grown0 {w w' : World} (h : w.grownBy w' none) : FC [] w w' := ⟨h.os, h.tape, h.output, h.size, fun k hk _ => h.block k hk (fun e => by cases e)⟩
/-- The block of a row of the law's own, with its type. -/
theorem R_typed {α : Type} {d : Kd α} {e : Nat} {w : World} {base : Nat} {v : Value} {l : List α} (h : d.R e w base (fun _ => True) v l) (hE : d.E = []) (g : Nat) (hg : v.ownBlock = some g) : base ≤ g ∧ ∃ cells, w.heap[g]? = some (.cells cells e (0, 0)) := by
  have := (Kd.R_bound h).1 g hg
  obtain ⟨_, h1, _, q, hq, hc⟩ := this
  rw [hE] at hq
  have : q = e := by simpa using hq
  subst this
  exact ⟨h1, hc⟩
/-- Where a row of one's own lies, as a slice. -/
theorem R_away {α : Type} {dk : Kd α} {e base n cc P : Nat} {w : World} {A : Option Addr} {l : List α} (h : dk.R e w base (fun _ => True) (.slice A n cc) l) (hE : dk.E = []) (hP : P < base) : ∀ ad, A = some ad → ad.block ≠ P ∧ ad.block < w.heap.size := fun ad ha => by
  subst ha
  obtain ⟨g, rfl⟩ := Kd.R_head h
  obtain ⟨h1, cells, h2⟩ := R_typed h hE g rfl
  exact ⟨by show g ≠ P; omega, (Array.getElem?_eq_some_iff.1 h2).1⟩
theorem below_fc {w a b : World} {S : List Nat} (h : Below w.heap.size w a) (f : FC S a b) (hS : ∀ k ∈ S, w.heap.size ≤ k) : Below w.heap.size w b := FC.below h f hS (Nat.le_refl _)
/-- The cells, by what is listed: operation, place, value. -/
def stF (L0 : Nat → Option Value) (listed : Array Bool) : List (Nat × Nat × Value) → Nat → Option Value
  | [], k => L0 k
  | (i, o, v) :: r, k => if k = o ∧ listed.getD i false = true then some v else stF L0 listed r k
theorem stF_keep {L0 : Nat → Option Value} {listed : Array Bool} {i : Nat} (hi : i < listed.size) : ∀ (tab : List (Nat × Nat × Value)), (∀ e ∈ tab, e.1 ≠ i) → ∀ k, stF L0 (listed.setIfInBounds i true) tab k = stF L0 listed tab k
  | [], _, _ => rfl
  | (j, o, v) :: r, h, k => by
    unfold stF
    rw [getD_set _ _ _ _ _ hi, if_neg (show ¬ j = i from h (j, o, v) (by simp)), stF_keep hi r (fun e he => h e (by simp [he])) k]
theorem stF_at {L0 : Nat → Option Value} {listed : Array Bool} {i o : Nat} {v : Value} (hi : i < listed.size) : ∀ (tab : List (Nat × Nat × Value)), (i, o, v) ∈ tab → (∀ e ∈ tab, (e.1 = i ↔ e.2.1 = o) ∧ (e.1 = i → e.2.2 = v)) → ∀ k, stF L0 (listed.setIfInBounds i true) tab k = if k = o then some v else stF L0 listed tab k
  | (j, p, u) :: r, hm, hu, k => by
    unfold stF
    rw [getD_set _ _ _ _ _ hi]
    have h1 := hu _ (List.mem_cons_self)
    by_cases hj : j = i
    · have hp : p = o := h1.1.1 hj
      have hv : u = v := h1.2 hj
      subst hj hp hv
      rw [if_pos rfl]
      by_cases hk : k = p
      · rw [if_pos ⟨hk, rfl⟩, if_pos hk]
      · rw [if_neg (fun e => hk e.1), if_neg hk, if_neg (fun e => hk e.1)]
        by_cases hin : ∃ e ∈ r, e.1 = j
        · obtain ⟨e, he, hej⟩ := hin
          have h2 := hu e (by simp [he])
          have : (j, p, u) ∈ r := by
            have e1 : e.2.1 = p := h2.1.1 hej
            have e2 : e.2.2 = u := h2.2 hej
            obtain ⟨a, b, c⟩ := e
            dsimp only at hej e1 e2
            subst hej e1 e2
            exact he
          rw [stF_at hi r this (fun e he => hu e (by simp [he])) k, if_neg hk]
        · exact stF_keep hi r (fun e he hej => hin ⟨e, he, hej⟩) k
    · rw [if_neg hj]
      have hm' : (i, o, v) ∈ r := by
        rcases List.mem_cons.1 hm with e | e
        · injection e with e1 e2
          exact absurd e1.symm hj
        · exact e
      have hpo : p ≠ o := fun e => hj (h1.1.2 e)
      rw [stF_at hi r hm' (fun e he => hu e (by simp [he])) k]
      by_cases hk : k = o
      · subst hk
        rw [if_pos rfl, if_neg (fun e => hpo e.1.symm), if_pos rfl]
      · rw [if_neg hk, if_neg hk]
theorem stF_some {L0 : Nat → Option Value} {listed : Array Bool} {o : Nat} (h : (L0 o).isSome = true) : ∀ tab : List (Nat × Nat × Value), (stF L0 listed tab o).isSome = true
  | [] => h
  | (i, p, v) :: r => by
    unfold stF
    split
    · rfl
    · exact stF_some h r
theorem stF_start {L0 : Nat → Option Value} (n : Nat) : ∀ (tab : List (Nat × Nat × Value)) (k : Nat), stF L0 (Array.replicate n false) tab k = L0 k
  | [], _ => rfl
  | (i, o, v) :: r, k => by
    unfold stF
    rw [if_neg (fun e => by have h := e.2; simp only [Array.getD_eq_getD_getElem?, Array.getElem?_replicate] at h; split at h <;> cases h), stF_start n r k]
theorem stF_all {L0 : Nat → Option Value} {listed : Array Bool} : ∀ (tab : List (Nat × Nat × Value)), (∀ e ∈ tab, listed.getD e.1 false = true) → ∀ k, stF L0 listed tab k = tab.foldr (fun e r => if k = e.2.1 then some e.2.2 else r) (L0 k)
  | [], _, _ => rfl
  | (i, o, v) :: r, h, k => by
    have h0 := h (i, o, v) (by simp)
    unfold stF
    rw [stF_all r (fun e he => h e (by simp [he])) k]
    simp [h0]
end Go.Proofs.YtekjkdpiiaocjaaDoor

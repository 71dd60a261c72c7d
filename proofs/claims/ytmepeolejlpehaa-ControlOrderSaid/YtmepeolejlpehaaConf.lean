/- A region that draws its order, by what is done and not by the order: the frame and the world as functions of which operations are listed. Conditions: each operation writes a slot of its own; it waits for earlier ones alone. -/
import Derived.Test.YtmepeolejlpehaaCtA
namespace Go.Proofs.Ytmepeolejlpehaa
open Go.RowKit
section
variable {P : Program} {ops : Array Oper} {Q : Exit → Act → World → Prop} {md : Region.Mode}
/-- What the frame holds when the listed operations are done. -/
structure Done (a0 : Act) (ops : Array Oper) (val : Nat → Value) (listed : Array Bool) (a : Act) : Prop where
  defers : a.defers = a0.defers
  size : a.tmps.size = a0.tmps.size
  got : ∀ j o d, ops[j]? = some o → o.dst = some d → listed.getD j false = true → a.tmps[d]? = some (val j)
  rest : ∀ k, (∀ j o, ops[j]? = some o → o.dst = some k → listed.getD j false = false) → a.tmps[k]? = a0.tmps[k]?
/-- No two operations write one slot; each slot is there; each waits for earlier ones alone. -/
structure Fits (md : Region.Mode) (n : Nat) (ops : Array Oper) : Prop where
  one : ∀ (i j : Nat) (oi oj : Oper) (d : Tmp), ops[i]? = some oi → ops[j]? = some oj → oi.dst = some d → oj.dst = some d → i = j
  lt : ∀ (i : Nat) (o : Oper) (d : Tmp), ops[i]? = some o → o.dst = some d → d < n
  low : ∀ (i : Nat) (o : Oper), ops[i]? = some o → ∀ e ∈ o.after, Region.binds md e = true → e.on < i
def fitsB (md : Region.Mode) (n : Nat) (ops : Array Oper) : Bool :=
  (List.range ops.size).all fun i => match ops[i]? with
    | none => true
    | some o => (match o.dst with
      | none => true
      | some d => decide (d < n) && (List.range ops.size).all fun j => match ops[j]? with
        | none => true
        | some p => if p.dst = some d then decide (i = j) else true) && o.after.all fun e => !Region.binds md e || decide (e.on < i)
theorem fits_of {n : Nat} (h : fitsB md n ops = true) : Fits md n ops := by
  have key : ∀ i o, ops[i]? = some o → (match o.dst with
      | none => true
      | some d => decide (d < n) && (List.range ops.size).all fun j => match ops[j]? with
        | none => true
        | some p => if p.dst = some d then decide (i = j) else true) = true ∧ ∀ e ∈ o.after, (!Region.binds md e || decide (e.on < i)) = true := by
    intro i o ho
    have hi : i < ops.size := (Array.getElem?_eq_some_iff.1 ho).1
    have := List.all_eq_true.1 h i (List.mem_range.2 hi)
    rw [ho] at this
    simp only [Bool.and_eq_true] at this
    exact ⟨this.1, fun e he => Array.all_eq_true_iff_forall_mem.1 this.2 e he⟩
  refine ⟨fun i j oi oj d hi hj h1 h2 => ?_, fun i o d hi h1 => ?_, fun i o hi e he hb => ?_⟩
  · have hk := (key i oi hi).1
    rw [h1] at hk
    simp only [Bool.and_eq_true] at hk
    have := List.all_eq_true.1 hk.2 j (List.mem_range.2 (Array.getElem?_eq_some_iff.1 hj).1)
    rw [hj] at this
    simpa [h2] using this
  · have hk := (key i o hi).1
    rw [h1] at hk
    simp only [Bool.and_eq_true] at hk
    simpa using hk.1
  · have := (key i o hi).2 e he
    simpa [hb] using this
theorem getD_set (l : Array Bool) (i j : Nat) (b d : Bool) (hi : i < l.size) : (l.setIfInBounds i b).getD j d = if j = i then b else l.getD j d := by
  by_cases h : j = i
  · subst h
    simp [Array.getD_eq_getD_getElem?, hi]
  · rw [if_neg h]
    simp only [Array.getD_eq_getD_getElem?]
    rw [Array.getElem?_setIfInBounds_ne (fun e => h e.symm)]
theorem Done.put {a0 a : Act} {val : Nat → Value} {listed : Array Bool} {i : Nat} {o : Oper} (h : Done a0 ops val listed a) (hf : Fits md a0.tmps.size ops) (hs : listed.size = ops.size) (ho : ops[i]? = some o) (hn : listed.getD i false = false) :
    Done a0 ops val (listed.setIfInBounds i true) (a.put o.dst (val i)) := by
  have hi : i < listed.size := by rw [hs]; exact (Array.getElem?_eq_some_iff.1 ho).1
  cases hd : o.dst with
  | none =>
    have e : a.put none (val i) = a := rfl
    rw [e]
    refine ⟨h.defers, h.size, fun j p d hp hpd hl => ?_, fun k hk => ?_⟩
    · rw [getD_set _ _ _ _ _ hi] at hl
      by_cases hji : j = i
      · subst hji
        rw [ho] at hp; cases hp
        rw [hd] at hpd; cases hpd
      · rw [if_neg hji] at hl
        exact h.got j p d hp hpd hl
    · refine h.rest k (fun j p hp hpd => ?_)
      have := hk j p hp hpd
      rw [getD_set _ _ _ _ _ hi] at this
      by_cases hji : j = i
      · subst hji
        rw [ho] at hp; cases hp
        rw [hd] at hpd; cases hpd
      · rwa [if_neg hji] at this
  | some d0 =>
    have e : (a.put (some d0) (val i)) = { a with tmps := a.tmps.setIfInBounds d0 (val i) } := rfl
    have hlt : d0 < a.tmps.size := by rw [h.size]; exact hf.lt i o d0 ho hd
    rw [e]
    refine ⟨h.defers, by simpa using h.size, fun j p d hp hpd hl => ?_, fun k hk => ?_⟩
    · rw [getD_set _ _ _ _ _ hi] at hl
      show (a.tmps.setIfInBounds d0 (val i))[d]? = _
      by_cases hji : j = i
      · subst hji
        rw [ho] at hp; cases hp
        rw [hd] at hpd; cases hpd
        rw [Array.getElem?_setIfInBounds_self_of_lt hlt]
      · rw [if_neg hji] at hl
        have hne : d0 ≠ d := fun e => hji (hf.one j i p o d hp ho hpd (by rw [hd, e]))
        rw [Array.getElem?_setIfInBounds_ne hne]
        exact h.got j p d hp hpd hl
    · show (a.tmps.setIfInBounds d0 (val i))[k]? = _
      have hne : d0 ≠ k := fun e => by
        have := hk i o ho (by rw [hd, e])
        rw [getD_set _ _ _ _ _ hi, if_pos rfl] at this
        cases this
      rw [Array.getElem?_setIfInBounds_ne hne]
      refine h.rest k (fun j p hp hpd => ?_)
      have := hk j p hp hpd
      rw [getD_set _ _ _ _ _ hi] at this
      by_cases hji : j = i
      · subst hji; exact hn
      · rwa [if_neg hji] at this
theorem Done.start (a0 : Act) (val : Nat → Value) (n : Nat) : Done a0 ops val (Array.replicate n false) a0 := by
  have hr : ∀ j, (Array.replicate n false).getD j false = false := fun j => by
    simp only [Array.getD_eq_getD_getElem?, Array.getElem?_replicate]; split <;> rfl
  exact ⟨rfl, rfl, fun j o d _ _ hl => (by rw [hr] at hl; cases hl), fun _ _ => rfl⟩
def left (ops : Array Oper) (listed : Array Bool) : Nat := (List.range ops.size).countP fun i => !listed.getD i false
theorem ready_iff {listed : Array Bool} (hs : listed.size = ops.size) {i : Nat} (h : i ∈ Region.ready md ops listed) : ∃ o, ops[i]? = some o ∧ listed.getD i false = false ∧ ∀ e ∈ o.after, Region.binds md e = true → listed.getD e.on false = true := by
  unfold Region.ready at h
  rw [List.mem_filter] at h
  obtain ⟨h1, h2⟩ := h
  have hi : i < ops.size := List.mem_range.1 h1
  obtain ⟨o, ho⟩ : ∃ o, ops[i]? = some o := ⟨_, Array.getElem?_eq_getElem hi⟩
  simp only [ho, Option.map_some, Option.getD_some, Bool.and_eq_true] at h2
  refine ⟨o, ho, ?_, fun e he hb => ?_⟩
  · have h3 := h2.1
    have hil : i < listed.size := by omega
    simp only [Array.getD_eq_getD_getElem?, Array.getElem?_eq_getElem hil, Option.getD_some] at h3 ⊢
    simpa using h3
  · have := Array.all_eq_true_iff_forall_mem.1 h2.2 e he
    simpa [hb] using this
theorem all_of_ready {n : Nat} (hf : Fits md n ops) {listed : Array Bool} (hs : listed.size = ops.size) (h : Region.ready md ops listed = []) : ∀ i, i < ops.size → listed.getD i false = true := by
  intro i
  induction i using Nat.strongRecOn with
  | _ i ih =>
    intro hi
    cases hl : listed.getD i false with
    | true => rfl
    | false =>
      exfalso
      obtain ⟨o, ho⟩ : ∃ o, ops[i]? = some o := ⟨_, Array.getElem?_eq_getElem hi⟩
      have hm : i ∈ Region.ready md ops listed := by
        unfold Region.ready
        rw [List.mem_filter]
        refine ⟨List.mem_range.2 hi, ?_⟩
        simp only [ho, Option.map_some, Option.getD_some, Bool.and_eq_true]
        refine ⟨?_, Array.all_eq_true_iff_forall_mem.2 fun e he => ?_⟩
        · have hil : i < listed.size := by omega
          simp only [Array.getD_eq_getD_getElem?, Array.getElem?_eq_getElem hil, Option.getD_some] at hl ⊢
          rw [hl]; rfl
        · cases hb : Region.binds md e with
          | false => rfl
          | true =>
            have hlo := hf.low i o ho e he hb
            rw [ih e.on hlo (by omega)]; rfl
      rw [h] at hm
      cases hm
theorem left_set {listed : Array Bool} (hs : listed.size = ops.size) {i : Nat} (hi : i < ops.size) (hn : listed.getD i false = false) : left ops (listed.setIfInBounds i true) + 1 ≤ left ops listed := by
  unfold left
  have key : ∀ l : List Nat, l.Nodup → ((i ∈ l → l.countP (fun j => !(listed.setIfInBounds i true).getD j false) + 1 = l.countP fun j => !listed.getD j false) ∧ (i ∉ l → l.countP (fun j => !(listed.setIfInBounds i true).getD j false) = l.countP fun j => !listed.getD j false)) := by
    intro l
    induction l with
    | nil => simp
    | cons x t ih =>
      intro hnd
      rw [List.nodup_cons] at hnd
      obtain ⟨ih1, ih2⟩ := ih hnd.2
      have hx := getD_set listed i x true false (by omega)
      refine ⟨fun hm => ?_, fun hm => ?_⟩
      · rw [List.countP_cons, List.countP_cons, hx]
        rcases List.mem_cons.1 hm with rfl | hm'
        · rw [ih2 hnd.1, hn]; simp
        · have hne : x ≠ i := fun e => hnd.1 (e ▸ hm')
          rw [if_neg hne, ← ih1 hm']; omega
      · have hne : x ≠ i := fun e => hm (by simp [e])
        rw [List.countP_cons, List.countP_cons, hx, if_neg hne, ih2 (fun e => hm (by simp [e]))]
  exact Nat.le_of_eq ((key _ List.nodup_range).1 (List.mem_range.2 hi))
/-- THE LAW: each operation, once what it waits for is done, does its part: so does the region, whatever the order. -/
theorem wpAny_conf {a0 : Act} (val : Nat → Value) (W : Array Bool → World → Prop) (hf : Fits md a0.tmps.size ops)
    (hex : ∀ i o listed a w, ops[i]? = some o → listed.size = ops.size → listed.getD i false = false → (∀ e ∈ o.after, Region.binds md e = true → listed.getD e.on false = true) → Done a0 ops val listed a → W listed w →
      Region.wanted o (yielded ops a.tmps) = true ∧ o.wp P a w (fun a' w' => a' = a.put o.dst (val i) ∧ W (listed.setIfInBounds i true) w') Q)
    (hfin : ∀ listed a w, listed.size = ops.size → (∀ i, i < ops.size → listed.getD i false = true) → Done a0 ops val listed a → W listed w → Q .normal a w) :
    ∀ fuel listed a w, listed.size = ops.size → left ops listed ≤ fuel → Done a0 ops val listed a → W listed w → wpAny P md ops Q fuel listed a w
  | 0, listed, a, w, hs, hl, hd, hw => by
    have hall : ∀ i, i < ops.size → listed.getD i false = true := fun i hi => by
      cases h : listed.getD i false with
      | true => rfl
      | false =>
        have h0 : left ops listed = 0 := by omega
        unfold left at h0
        rw [List.countP_eq_zero] at h0
        have := h0 i (List.mem_range.2 hi)
        simp [h] at this
    refine ⟨?_, hfin listed a w hs hall hd hw⟩
    cases hr : Region.ready md ops listed with
    | nil => rfl
    | cons i t =>
      obtain ⟨o, ho, hn, _⟩ := ready_iff (md := md) hs (i := i) (by rw [hr]; simp)
      rw [hall i (Array.getElem?_eq_some_iff.1 ho).1] at hn
      cases hn
  | fuel + 1, listed, a, w, hs, hl, hd, hw => by
    refine ⟨fun hr => hfin listed a w hs (all_of_ready hf hs hr) hd hw, fun i hi => ?_⟩
    obtain ⟨o, ho, hn, hp⟩ := ready_iff hs hi
    obtain ⟨hwant, hwp⟩ := hex i o listed a w ho hs hn hp hd hw
    unfold wpOp
    rw [ho]
    dsimp only
    rw [if_pos hwant]
    refine .inl (Oper.wp_mono (fun a' w' hk => ?_) hwp)
    obtain ⟨rfl, hw'⟩ := hk
    have hlt := left_set hs (Array.getElem?_eq_some_iff.1 ho).1 hn
    exact wpAny_conf val W hf hex hfin fuel _ _ _ (by simpa using hs) (by omega) (hd.put hf hs ho hn) hw'
theorem left_start : left ops (Array.replicate ops.size false) ≤ ops.size := by
  unfold left
  have := List.countP_le_length (p := fun i => !(Array.replicate ops.size false).getD i false) (l := List.range ops.size)
  simpa using this
/-- At a region. -/
theorem wp_region_conf {id : Nat} {a0 : Act} {w : World} (hm : P.follows .mixedOrders = true) (val : Nat → Value) (W : Array Bool → World → Prop) (hf : fitsB .any a0.tmps.size ops = true)
    (h0 : W (Array.replicate ops.size false) w.drew)
    (hex : ∀ i o listed a w, ops[i]? = some o → listed.size = ops.size → listed.getD i false = false → (∀ e ∈ o.after, Region.binds .any e = true → listed.getD e.on false = true) → Done a0 ops val listed a → W listed w →
      Region.wanted o (yielded ops a.tmps) = true ∧ o.wp P a w (fun a' w' => a' = a.put o.dst (val i) ∧ W (listed.setIfInBounds i true) w') Q)
    (hfin : ∀ listed a w, listed.size = ops.size → (∀ i, i < ops.size → listed.getD i false = true) → Done a0 ops val listed a → W listed w → Q .normal a w) : (Code.region id ops true).wp P Q a0 w :=
  wp_region_any hm (wpAny_conf val W (fits_of hf) hex hfin ops.size _ _ _ (by simp) left_start (Done.start a0 val _) h0)
theorem eval_tmp (a : Act) (k : Nat) (v : Value) (h : a.tmps[k]? = some v) : a.eval (.tmp k) = v := by
  simp [Act.eval, Array.getD_eq_getD_getElem?, h]
theorem Done.ev {a0 a : Act} {val : Nat → Value} {listed : Array Bool} (h : Done a0 ops val listed a) (j d : Nat) (hj : (ops[j]?).bind (·.dst) = some d) (hl : listed.getD j false = true) : a.eval (.tmp d) = val j := by
  cases ho : ops[j]? with
  | none => rw [ho] at hj; cases hj
  | some o =>
    rw [ho] at hj
    exact eval_tmp _ _ _ (h.got j o d ho hj hl)
theorem Done.base {a0 a : Act} {val : Nat → Value} {listed : Array Bool} (h : Done a0 ops val listed a) (k : Nat) (v : Value) (hk : (ops.all fun o => o.dst != some k) = true) (hv : a0.tmps[k]? = some v) : a.eval (.tmp k) = v := by
  refine eval_tmp _ _ _ ((h.rest k (fun j o ho hd => ?_)).trans hv)
  have := Array.all_eq_true_iff_forall_mem.1 hk o (Array.mem_of_getElem? ho)
  rw [hd] at this
  simp at this
def fill (ops : Array Oper) (val : Nat → Value) : Nat → Array Value → Array Value
  | 0, t => t
  | n + 1, t => match (ops[n]?).bind (·.dst) with
    | some d => (fill ops val n t).setIfInBounds d (val n)
    | none => fill ops val n t
theorem fill_size (val : Nat → Value) (t : Array Value) : ∀ n, (fill ops val n t).size = t.size
  | 0 => rfl
  | n + 1 => by
    unfold fill
    split
    · simpa using fill_size val t n
    · exact fill_size val t n
theorem fill_get (val : Nat → Value) (t : Array Value) (hf : Fits md t.size ops) : ∀ n k, (∀ (j : Nat) (o : Oper), j < n → ops[j]? = some o → o.dst = some k → (fill ops val n t)[k]? = some (val j)) ∧ ((∀ (j : Nat) (o : Oper), j < n → ops[j]? = some o → o.dst ≠ some k) → (fill ops val n t)[k]? = t[k]?)
  | 0, k => ⟨fun j o hj => by omega, fun _ => rfl⟩
  | n + 1, k => by
    obtain ⟨h1, h2⟩ := fill_get val t hf n k
    unfold fill
    cases ho : ops[n]? with
    | none =>
      refine ⟨fun j o hj hjo hd => ?_, fun h => h2 (fun j o hj hjo => h j o (by omega) hjo)⟩
      by_cases e : j = n
      · subst e; rw [ho] at hjo; cases hjo
      · exact h1 j o (by omega) hjo hd
    | some p =>
      cases hp : p.dst with
      | none =>
        simp only [Option.bind_some, hp]
        refine ⟨fun j o hj hjo hd => ?_, fun h => h2 (fun j o hj hjo => h j o (by omega) hjo)⟩
        by_cases e : j = n
        · subst e; rw [ho] at hjo; cases hjo; rw [hp] at hd; cases hd
        · exact h1 j o (by omega) hjo hd
      | some d =>
        simp only [Option.bind_some, hp]
        have hlt : d < (fill ops val n t).size := by rw [fill_size]; exact hf.lt n p d ho hp
        refine ⟨fun j o hj hjo hd => ?_, fun h => ?_⟩
        · by_cases e : j = n
          · subst e; rw [ho] at hjo; cases hjo; rw [hp] at hd; cases hd
            rw [Array.getElem?_setIfInBounds_self_of_lt hlt]
          · have hne : d ≠ k := fun e2 => e (hf.one j n o p k hjo ho hd (by rw [hp, e2]))
            rw [Array.getElem?_setIfInBounds_ne hne]
            exact h1 j o (by omega) hjo hd
        · have hne : d ≠ k := fun e2 => h n p (by omega) ho (by rw [hp, e2])
          rw [Array.getElem?_setIfInBounds_ne hne]
          exact h2 (fun j o hj hjo => h j o (by omega) hjo)
theorem Done.full {a0 a : Act} {val : Nat → Value} {listed : Array Bool} (h : Done a0 ops val listed a) (hf : Fits md a0.tmps.size ops) (hl : ∀ i, i < ops.size → listed.getD i false = true) : a = { tmps := fill ops val ops.size a0.tmps, defers := a0.defers } := by
  have ht : a.tmps = fill ops val ops.size a0.tmps := by
    refine Array.ext_getElem? fun k => ?_
    obtain ⟨h1, h2⟩ := fill_get (md := md) val a0.tmps hf ops.size k
    by_cases hk : ∃ (j : Nat) (o : Oper), ops[j]? = some o ∧ o.dst = some k
    · obtain ⟨j, o, hjo, hd⟩ := hk
      have hj : j < ops.size := (Array.getElem?_eq_some_iff.1 hjo).1
      rw [h1 j o hj hjo hd, h.got j o k hjo hd (hl j hj)]
    · rw [h2 (fun j o _ hjo hd => hk ⟨j, o, hjo, hd⟩), h.rest k (fun j o hjo hd => absurd ⟨j, o, hjo, hd⟩ hk)]
  cases a
  simp only at ht
  subst ht
  have := h.defers
  simp only at this
  rw [this]
/-- The cells of a block, one by one. -/
def CellsF (w : World) (P t : Nat) (f : Nat → Option Value) : Prop := ∃ cs : Array Value, w.heap[P]? = some (.cells cs t (0, 0)) ∧ ∀ k, cs[k]? = f k
theorem CellsF.cell {w : World} {P t : Nat} {f : Nat → Option Value} (h : CellsF w P t f) (k : Nat) : w.cell? ⟨P, k, none⟩ = f k := by
  obtain ⟨cs, h1, h2⟩ := h
  rw [cell_of_row _ _ _ _ _ _ h1, h2]
theorem CellsF.froz {w : World} {P t : Nat} {f : Nat → Option Value} (h : CellsF w P t f) (k : Nat) : w.frozen? ⟨P, k, none⟩ = false := by
  obtain ⟨cs, h1, _⟩ := h
  exact frozen_of_row _ _ _ _ _ h1
theorem CellsF.set {w : World} {P t : Nat} {f : Nat → Option Value} (h : CellsF w P t f) (k : Nat) (v : Value) (hk : (f k).isSome = true) : CellsF (w.setCell ⟨P, k, none⟩ v) P t (fun j => if j = k then some v else f j) := by
  obtain ⟨cs, h1, h2⟩ := h
  refine ⟨_, heap_setCell_same w P k _ _ v h1, fun j => ?_⟩
  have hlt : k < cs.size := by
    have := h2 k
    cases hc : cs[k]? with
    | none => rw [hc] at this; rw [← this] at hk; cases hk
    | some _ => exact (Array.getElem?_eq_some_iff.1 hc).1
  by_cases e : j = k
  · subst e; dsimp only; rw [Array.getElem?_setIfInBounds_self_of_lt hlt, if_pos rfl]
  · dsimp only; rw [Array.getElem?_setIfInBounds_ne (fun e2 => e e2.symm), if_neg e, h2]
theorem CellsF.sets {P t : Nat} : ∀ (vs : List Value) (o : Nat) (w : World) (f : Nat → Option Value), CellsF w P t f → (∀ j, j < vs.length → (f (o + j)).isSome = true) → CellsF (w.setCells P o vs) P t (fun j => if o ≤ j ∧ j < o + vs.length then vs[j - o]? else f j)
  | [], o, w, f, h, _ => by
    obtain ⟨cs, h1, h2⟩ := h
    exact ⟨cs, h1, fun k => by dsimp only; rw [if_neg (by simp only [List.length_nil]; omega), h2]⟩
  | v :: r, o, w, f, h, hs => by
    have h1 := h.set o v (by simpa using hs 0 (by simp))
    obtain ⟨cs, h2, h3⟩ := CellsF.sets r (o + 1) _ _ h1 (fun j hj => by
      have := hs (j + 1) (by simp; omega)
      rw [if_neg (by omega), show o + 1 + j = o + (j + 1) from by omega]; exact this)
    refine ⟨cs, h2, fun k => ?_⟩
    rw [h3]
    dsimp only
    simp only [List.length_cons]
    by_cases hk : o + 1 ≤ k ∧ k < o + 1 + r.length
    · rw [if_pos hk, if_pos (by omega), show k - o = (k - (o + 1)) + 1 from by omega, List.getElem?_cons_succ]
    · rw [if_neg hk]
      by_cases e : k = o
      · subst e; rw [if_pos rfl, if_pos (by omega), Nat.sub_self]; rfl
      · rw [if_neg e, if_neg (by omega)]
theorem CellsF.congr {w : World} {P t : Nat} {f g : Nat → Option Value} (h : CellsF w P t f) (e : ∀ k, f k = g k) : CellsF w P t g := by
  obtain ⟨cs, h1, h2⟩ := h
  exact ⟨cs, h1, fun k => (h2 k).trans (e k)⟩
theorem CellsF.of_heap {w w' : World} {P t : Nat} {f : Nat → Option Value} (h : CellsF w P t f) (e : w'.heap[P]? = w.heap[P]?) : CellsF w' P t f := by
  obtain ⟨cs, h1, h2⟩ := h
  exact ⟨cs, e.trans h1, h2⟩
theorem CellsF.row {w : World} {P t : Nat} {f : Nat → Option Value} (h : CellsF w P t f) (cs : Array Value) (e : ∀ k, f k = cs[k]?) : w.heap[P]? = some (.cells cs t (0, 0)) := by
  obtain ⟨cs', h1, h2⟩ := h
  have : cs' = cs := Array.ext_getElem? fun k => (h2 k).trans (e k)
  rw [← this]; exact h1
theorem CellsF.of_row {w : World} {P t : Nat} {cs : Array Value} (h : w.heap[P]? = some (.cells cs t (0, 0))) : CellsF w P t (fun k => cs[k]?) := ⟨cs, h, fun _ => rfl⟩
end
end Go.Proofs.Ytmepeolejlpehaa

/- The law on regions that draw, with a ghost: what a call hands back need not be known ahead. Conditions: as in Conf. -/
import Derived.Test.YtmepeolejlpehaaConf
namespace Go.Proofs.Ytmepeolejlpehaa
open Go.RowKit
section
variable {P : Program} {ops : Array Oper} {Q : Exit → Act → World → Prop} {md : Region.Mode} {σ : Type}
theorem Done.agree {a0 a : Act} {val val' : Nat → Value} {listed : Array Bool} (h : Done a0 ops val listed a) (e : ∀ j, listed.getD j false = true → val' j = val j) : Done a0 ops val' listed a :=
  ⟨h.defers, h.size, fun j o d hj hd hl => by rw [h.got j o d hj hd hl, e j hl], h.rest⟩
theorem wpAny_confG {a0 : Act} (val : σ → Nat → Value) (W : σ → Array Bool → World → Prop) (hf : Fits md a0.tmps.size ops)
    (hex : ∀ g i o listed a w, ops[i]? = some o → listed.size = ops.size → listed.getD i false = false → (∀ e ∈ o.after, Region.binds md e = true → listed.getD e.on false = true) → Done a0 ops (val g) listed a → W g listed w →
      Region.wanted o (yielded ops a.tmps) = true ∧ o.wp P a w (fun a' w' => ∃ g', (∀ j, listed.getD j false = true → val g' j = val g j) ∧ a' = a.put o.dst (val g' i) ∧ W g' (listed.setIfInBounds i true) w') Q)
    (hfin : ∀ g listed a w, listed.size = ops.size → (∀ i, i < ops.size → listed.getD i false = true) → Done a0 ops (val g) listed a → W g listed w → Q .normal a w) :
    ∀ fuel g listed a w, listed.size = ops.size → left ops listed ≤ fuel → Done a0 ops (val g) listed a → W g listed w → wpAny P md ops Q fuel listed a w
  | 0, g, listed, a, w, hs, hl, hd, hw => by
    have hall : ∀ i, i < ops.size → listed.getD i false = true := fun i hi => by
      cases h : listed.getD i false with
      | true => rfl
      | false =>
        have h0 : left ops listed = 0 := by omega
        unfold left at h0
        rw [List.countP_eq_zero] at h0
        have := h0 i (List.mem_range.2 hi)
        simp [h] at this
    refine ⟨?_, hfin g listed a w hs hall hd hw⟩
    cases hr : Region.ready md ops listed with
    | nil => rfl
    | cons i t =>
      obtain ⟨o, ho, hn, _⟩ := ready_iff (md := md) hs (i := i) (by rw [hr]; simp)
      rw [hall i (Array.getElem?_eq_some_iff.1 ho).1] at hn
      cases hn
  | fuel + 1, g, listed, a, w, hs, hl, hd, hw => by
    refine ⟨fun hr => hfin g listed a w hs (all_of_ready hf hs hr) hd hw, fun i hi => ?_⟩
    obtain ⟨o, ho, hn, hp⟩ := ready_iff hs hi
    obtain ⟨hwant, hwp⟩ := hex g i o listed a w ho hs hn hp hd hw
    unfold wpOp
    rw [ho]
    dsimp only
    rw [if_pos hwant]
    refine .inl (Oper.wp_mono (fun a' w' hk => ?_) hwp)
    obtain ⟨g', hag, rfl, hw'⟩ := hk
    have hlt := left_set hs (Array.getElem?_eq_some_iff.1 ho).1 hn
    exact wpAny_confG val W hf hex hfin fuel g' _ _ _ (by simpa using hs) (by omega) ((hd.agree hag).put hf hs ho hn) hw'
theorem wp_region_confG {id : Nat} {a0 : Act} {w : World} (hm : P.follows .mixedOrders = true) (val : σ → Nat → Value) (W : σ → Array Bool → World → Prop) (g0 : σ) (hf : fitsB .any a0.tmps.size ops = true)
    (h0 : W g0 (Array.replicate ops.size false) w.drew)
    (hex : ∀ g i o listed a w, ops[i]? = some o → listed.size = ops.size → listed.getD i false = false → (∀ e ∈ o.after, Region.binds .any e = true → listed.getD e.on false = true) → Done a0 ops (val g) listed a → W g listed w →
      Region.wanted o (yielded ops a.tmps) = true ∧ o.wp P a w (fun a' w' => ∃ g', (∀ j, listed.getD j false = true → val g' j = val g j) ∧ a' = a.put o.dst (val g' i) ∧ W g' (listed.setIfInBounds i true) w') Q)
    (hfin : ∀ g listed a w, listed.size = ops.size → (∀ i, i < ops.size → listed.getD i false = true) → Done a0 ops (val g) listed a → W g listed w → Q .normal a w) : (Code.region id ops true).wp P Q a0 w :=
  wp_region_any hm (wpAny_confG val W (fits_of hf) hex hfin ops.size g0 _ _ _ (by simp) left_start (Done.start a0 _ _) h0)
/-- A call of a Go function, as an operation. -/
theorem wp_calls {o : Oper} {a : Act} {w : World} {K : Act → World → Prop} (f : FuncId) (xs : Array Operand) (ts : Array TypeId) (ho : o.op = .call { callee := .value (.func f), args := xs, argTypes := ts }) (eg : ∀ args w, (callFunc f args).run P w = .ok (.enter f args) w) (args : Array Value) (hx : xs.map a.eval = args)
    (h : Calls P f args w fun e w' => ∃ v, e = .returned v ∧ K (a.put o.dst v) w') : o.wp P a w K Q := by
  unfold Oper.wp
  simp [execOp, ho, resolve, invoke, hx, Deferred.ofValue, Act.eval, eg, go_sem]
  refine h.mono ?_
  rintro e w' ⟨v, rfl, hk⟩
  exact hk
theorem wp_call1 {o : Oper} {a : Act} {w : World} {K : Act → World → Prop} (f : FuncId) (x : Operand) (t : TypeId) (ho : o.op = .call { callee := .value (.func f), args := #[x], argTypes := #[t] }) (eg : ∀ args w, (callFunc f args).run P w = .ok (.enter f args) w) (v : Value) (hx : a.eval x = v)
    (h : Calls P f #[v] w fun e w' => ∃ v, e = .returned v ∧ K (a.put o.dst v) w') : o.wp P a w K Q := wp_calls f #[x] #[t] ho eg #[v] (by simp [hx]) h
end
end Go.Proofs.Ytmepeolejlpehaa

/- Regions that draw: what is listed has what it waits for listed, too. Rows that came in stand. Conditions: as in ConfG. -/
import Derived.Test.YtekjkdpiiaocjaaDoorGrA
namespace Go.Proofs.YtekjkdpiiaocjaaDoor
open Go.RowKit Go.Maps Go.Proofs.YtekjkdpiiaocjaaDoorW.PrintWords Go.Proofs.YtekjkdpiiaocjaaDoorW.PrintLast Go.Proofs.YtekjkdpiiaocjaaDoorW.PrintMore
section
variable {P : Program} {ops : Array Oper} {Q : Exit → Act → World → Prop} {σ : Type}
/-- What is listed has what it waits for listed. -/
def Closed (ops : Array Oper) (listed : Array Bool) : Prop := ∀ (j : Nat) (o : Oper), ops[j]? = some o → listed.getD j false = true → ∀ e ∈ o.after, Region.binds .any e = true → listed.getD e.on false = true
theorem Closed.set {listed : Array Bool} {i : Nat} {o : Oper} (h : Closed ops listed) (hi : i < listed.size) (ho : ops[i]? = some o) (hp : ∀ e ∈ o.after, Region.binds .any e = true → listed.getD e.on false = true) : Closed ops (listed.setIfInBounds i true) := fun j p hj hl e he hb => by
  rw [getD_set _ _ _ _ _ hi] at hl ⊢
  split
  · rfl
  · by_cases hji : j = i
    · subst hji
      rw [ho] at hj; cases hj
      exact hp e he hb
    · rw [if_neg hji] at hl
      exact h j p hj hl e he hb
/-- From a listed operation to one that it waits for. -/
theorem Closed.of {listed : Array Bool} (h : Closed ops listed) (j i : Nat) (hl : listed.getD j false = true) (hw : ((ops[j]?).map fun o => o.after.any fun e => Region.binds .any e && e.on == i) = some true) : listed.getD i false = true := by
  cases ho : ops[j]? with
  | none => rw [ho] at hw; cases hw
  | some o =>
    rw [ho] at hw
    simp only [Option.map_some, Option.some.injEq] at hw
    rw [Array.any_eq_true] at hw
    obtain ⟨k, hk, h2⟩ := hw
    rw [Bool.and_eq_true] at h2
    have := h j o ho hl _ (Array.getElem_mem hk) h2.1
    rwa [show o.after[k].on = i from by simpa using h2.2] at this
theorem wp_region_confD {id : Nat} {a0 : Act} {w : World} (hm : P.follows .mixedOrders = true) (val : σ → Nat → Value) (W : σ → Array Bool → World → Prop) (g0 : σ) (hf : fitsB .any a0.tmps.size ops = true)
    (h0 : W g0 (Array.replicate ops.size false) w.drew)
    (hex : ∀ g i o listed a w, ops[i]? = some o → listed.size = ops.size → listed.getD i false = false → (∀ e ∈ o.after, Region.binds .any e = true → listed.getD e.on false = true) → Closed ops listed → Done a0 ops (val g) listed a → W g listed w →
      Region.wanted o (yielded ops a.tmps) = true ∧ o.wp P a w (fun a' w' => ∃ g', (∀ j, listed.getD j false = true → val g' j = val g j) ∧ a' = a.put o.dst (val g' i) ∧ W g' (listed.setIfInBounds i true) w') Q)
    (hfin : ∀ g listed a w, listed.size = ops.size → (∀ i, i < ops.size → listed.getD i false = true) → Done a0 ops (val g) listed a → W g listed w → Q .normal a w) : (Code.region id ops true).wp P Q a0 w :=
  wp_region_confG hm val (fun g listed w => W g listed w ∧ Closed ops listed) g0 hf ⟨h0, fun j o _ hl => by simp only [Array.getD_eq_getD_getElem?, Array.getElem?_replicate] at hl; split at hl <;> cases hl⟩
    (fun g i o listed a w ho hs hn hp hd hW => by
      obtain ⟨h1, h2⟩ := hex g i o listed a w ho hs hn hp hW.2 hd hW.1
      refine ⟨h1, Oper.wp_mono (fun a' w' hk => ?_) h2⟩
      obtain ⟨g', e1, e2, e3⟩ := hk
      exact ⟨g', e1, e2, e3, hW.2.set (by rw [hs]; exact (Array.getElem?_eq_some_iff.1 ho).1) ho hp⟩)
    (fun g listed a w hs hall hd hW => hfin g listed a w hs hall hd hW.1)
end
/-- A row that came in stands where only newer blocks turn. -/
theorem C_fresh {α : Type} {d : Kd α} (hK : ∀ {w w' : World} {x : α} {cs : List Value}, d.K w x cs → d.K w' x cs) {S : List Nat} {w w' : World} {A : Option Addr} {n : Nat} {l : List α} (h : d.C w A n l) (f : FC S w w') (hS : ∀ k ∈ S, w.heap.size ≤ k) : d.C w' A n l := by
  refine ⟨h.1, h.2.1, fun hp => ?_⟩
  obtain ⟨ad, e, hc⟩ := h.2.2 hp
  refine ⟨ad, e, fun j q hj => ?_⟩
  obtain ⟨cs, h1, h2, h3⟩ := hc j q hj
  refine ⟨cs, h1, hK h2, fun i u hu => ?_⟩
  have h4 := h3 i u hu
  rw [← h4]
  have hlt := block_lt_of_cell h4
  exact World.cell?_of_block (f.block _ hlt (fun e => by have := hS _ e; omega))
end Go.Proofs.YtekjkdpiiaocjaaDoor

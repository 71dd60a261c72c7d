/- Stores to one block within a region that draws its order: what the block holds, by what is listed. Conditions: each cell is stored once. -/
import Derived.Test.YtmepeolejlpehaaCtO
import Derived.Test.YtmepeolejlpehaaConfG
namespace Go.Proofs.Ytmepeolejlpehaa
open Go.RowKit
/-- The cells, by what is listed: operation, place, value. -/
def stF (L0 : Nat → Option Value) (listed : Array Bool) : List (Nat × Nat × Value) → Nat → Option Value
  | [], k => L0 k
  | (i, o, v) :: r, k => if k = o ∧ listed.getD i false = true then some v else stF L0 listed r k
theorem stF_keep {L0 : Nat → Option Value} {listed : Array Bool} {i : Nat} (hi : i < listed.size) : ∀ (tab : List (Nat × Nat × Value)), (∀ e ∈ tab, e.1 ≠ i) → ∀ k, stF L0 (listed.setIfInBounds i true) tab k = stF L0 listed tab k
  | [], _, _ => rfl
  | (j, o, v) :: r, h, k => by
    unfold stF
    rw [getD_set _ _ _ _ _ hi, if_neg (show ¬ j = i from h (j, o, v) (by simp)), stF_keep hi r (fun e he => h e (by simp [he])) k]
theorem stF_at {L0 : Nat → Option Value} {listed : Array Bool} {i o : Nat} {v : Value} (hi : i < listed.size) : ∀ (tab : List (Nat × Nat × Value)), (i, o, v) ∈ tab → (∀ e ∈ tab, (e.1 = i ↔ e.2.1 = o) ∧ (e.1 = i → e.2.2 = v)) → ∀ k, stF L0 (listed.setIfInBounds i true) tab k = if k = o then some v else stF L0 listed tab k
  | (j, p, u) :: r, hm, hu, k => by
    unfold stF
    rw [getD_set _ _ _ _ _ hi]
    have h1 := hu _ (List.mem_cons_self)
    by_cases hj : j = i
    · have hp : p = o := h1.1.1 hj
      have hv : u = v := h1.2 hj
      subst hj hp hv
      rw [if_pos rfl]
      by_cases hk : k = p
      · rw [if_pos ⟨hk, rfl⟩, if_pos hk]
      · rw [if_neg (fun e => hk e.1), if_neg hk, if_neg (fun e => hk e.1)]
        by_cases hin : ∃ e ∈ r, e.1 = j
        · obtain ⟨e, he, hej⟩ := hin
          have h2 := hu e (by simp [he])
          have : (j, p, u) ∈ r := by
            have e1 : e.2.1 = p := h2.1.1 hej
            have e2 : e.2.2 = u := h2.2 hej
            obtain ⟨a, b, c⟩ := e
            dsimp only at hej e1 e2
            subst hej e1 e2
            exact he
          rw [stF_at hi r this (fun e he => hu e (by simp [he])) k, if_neg hk]
        · exact stF_keep hi r (fun e he hej => hin ⟨e, he, hej⟩) k
    · rw [if_neg hj]
      have hm' : (i, o, v) ∈ r := by
        rcases List.mem_cons.1 hm with e | e
        · injection e with e1 e2
          exact absurd e1.symm hj
        · exact e
      have hpo : p ≠ o := fun e => hj (h1.1.2 e)
      rw [stF_at hi r hm' (fun e he => hu e (by simp [he])) k]
      by_cases hk : k = o
      · subst hk
        rw [if_pos rfl, if_neg (fun e => hpo e.1.symm), if_pos rfl]
      · rw [if_neg hk, if_neg hk]
theorem stF_some {L0 : Nat → Option Value} {listed : Array Bool} {o : Nat} (h : (L0 o).isSome = true) : ∀ tab : List (Nat × Nat × Value), (stF L0 listed tab o).isSome = true
  | [] => h
  | (i, p, v) :: r => by
    unfold stF
    split
    · rfl
    · exact stF_some h r
theorem stF_start {L0 : Nat → Option Value} (n : Nat) : ∀ (tab : List (Nat × Nat × Value)) (k : Nat), stF L0 (Array.replicate n false) tab k = L0 k
  | [], _ => rfl
  | (i, o, v) :: r, k => by
    unfold stF
    rw [if_neg (fun e => by have h := e.2; simp only [Array.getD_eq_getD_getElem?, Array.getElem?_replicate] at h; split at h <;> cases h), stF_start n r k]
theorem stF_all {L0 : Nat → Option Value} {listed : Array Bool} : ∀ (tab : List (Nat × Nat × Value)), (∀ e ∈ tab, listed.getD e.1 false = true) → ∀ k, stF L0 listed tab k = tab.foldr (fun e r => if k = e.2.1 then some e.2.2 else r) (L0 k)
  | [], _, _ => rfl
  | (i, o, v) :: r, h, k => by
    have h0 := h (i, o, v) (by simp)
    unfold stF
    rw [stF_all r (fun e he => h e (by simp [he])) k]
    simp [h0]
end Go.Proofs.Ytmepeolejlpehaa

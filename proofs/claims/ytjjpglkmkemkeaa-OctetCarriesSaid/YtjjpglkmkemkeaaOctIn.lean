/- Bytes and texts that came in, as the walks ask them. Conditions: they read. -/
import Derived.Test.YtjjpglkmkemkeaaProg
import Derived.Test.YtjjpglkmkemkeaaWWords
import Derived.ProofKit
import Derived.OpenShut
import Derived.ChangeOld
import Derived.SizedLaws
namespace Go.Proofs.Ytjjpglkmkemkeaa
open Go.ChangeShapes Go.WideShapes Go.ChangeAt Go.RowKit Go.Proofs.YtjjpglkmkemkeaaW.PrintWords
/-- Bytes that came in, each well formed. -/
theorem bytes_in {H : Type} {enc : TypeId × Value → H} {W : World} {a : Option Addr} {len cap : Nat} {d : DataW H} {p : List MemPlace} (h : ∃ fuel, DataW.trod enc Try.prog W 0 (fun _ => true) true fuel 22 (Value.slice a len cap).cells.toList = some (d, p)) :
    ∃ l : List Int, len = l.length ∧ Kd.C (Kd.int .u8) W a l.length l ∧ l.length ≤ cap ∧ (l.length ≤ maxLen ∧ ∀ x ∈ l, (Lit.int .u8 x).wf = true) := by
  obtain ⟨fuel, hf⟩ := h
  rcases open_ints Try.underlying22 Try.underlying5 (by kernel_rfl) hf with ⟨hcs, _⟩ | ⟨x, l, c, zs, hcs, _, hl, hm, hz, _, hcell, hwz⟩
  · simp [Value.cells] at hcs
    obtain ⟨rfl, rfl, rfl⟩ := hcs
    exact ⟨[], rfl, ⟨rfl, by simp, fun h => by simp at h⟩, Nat.le_refl _, by simp, by simp⟩
  · simp [Value.cells] at hcs
    obtain ⟨rfl, rfl, rfl⟩ := hcs
    have hz' : zs.length = cap := by simpa using hz
    have hlen : (zs.take len).length = len := by rw [List.length_take]; omega
    have hm' : len ≤ maxLen := by omega
    refine ⟨zs.take len, hlen.symm, ⟨rfl, by rw [hlen]; unfold maxLen at hm; omega, fun h0 => ⟨x, rfl, fun j q hq => ⟨[.int .u8 q], rfl, rfl, fun i u hu => ?_⟩⟩⟩, by rw [hlen]; exact hl, by rw [hlen]; exact hm', fun y hy => hwz y (List.mem_of_mem_take hy)⟩
    match i, hu with
    | 0, hu =>
        simp at hu; subst hu
        have hj : j < len := by have := (List.getElem?_eq_some_iff.1 hq).1; omega
        rw [List.getElem?_take, if_pos hj] at hq
        have hjz : j < zs.length := (List.getElem?_eq_some_iff.1 hq).1
        show W.cell? (x.add (j * 1 + 0)) = _
        rw [Nat.mul_one, Nat.add_zero, hcell j hjz, List.getD_eq_getElem?_getD, hq]
        rfl
end Go.Proofs.Ytjjpglkmkemkeaa

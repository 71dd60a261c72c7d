/- A slice of whole numbers that came in, as the walks ask it. -/
import Derived.Test.YtmlnjelhiemlpaaNetG
import Derived.ProofKit
import Derived.OpenShut
import Derived.ChangeOld
import Derived.SizedLaws
namespace Go.Proofs.Ytmlnjelhiemlpaa
open Go.ChangeShapes Go.WideShapes Go.ChangeAt Go.RowKit Go.Proofs.YtmlnjelhiemlpaaW.PrintWords
theorem ints_in {H : Type} {enc : TypeId × Value → H} {W : World} {a : Option Addr} {len cap : Nat} {d : DataW H} {p : List MemPlace} (h : ∃ fuel, DataW.trod enc Try.prog W 0 (fun _ => true) true fuel 25 (Value.slice a len cap).cells.toList = some (d, p)) :
    ∃ l : List Int, len = l.length ∧ Kd.C (Kd.int .i64) W a l.length l ∧ l.length ≤ cap ∧ l.length ≤ maxLen := by
  obtain ⟨fuel, hf⟩ := h
  rcases open_ints Try.underlying25 Try.underlying3 (by kernel_rfl) hf with ⟨hcs, _⟩ | ⟨x, l, c, zs, hcs, _, hl, hm, hz, _, hcell, hwz⟩
  · simp [Value.cells] at hcs
    obtain ⟨rfl, rfl, rfl⟩ := hcs
    exact ⟨[], rfl, ⟨rfl, by simp, fun h => by simp at h⟩, Nat.le_refl _, by simp⟩
  · simp [Value.cells] at hcs
    obtain ⟨rfl, rfl, rfl⟩ := hcs
    have hz' : zs.length = cap := by simpa using hz
    have hlen : (zs.take len).length = len := by rw [List.length_take]; omega
    have hm' : len ≤ maxLen := by omega
    refine ⟨zs.take len, hlen.symm, ⟨rfl, by rw [hlen]; unfold maxLen at hm; omega, fun h0 => ⟨x, rfl, fun j q hq => ⟨[.int .i64 q], rfl, rfl, fun i u hu => ?_⟩⟩⟩, by rw [hlen]; exact hl, by rw [hlen]; exact hm'⟩
    match i, hu with
    | 0, hu =>
        simp at hu; subst hu
        have hj : j < len := by have := (List.getElem?_eq_some_iff.1 hq).1; omega
        rw [List.getElem?_take, if_pos hj] at hq
        have hjz : j < zs.length := (List.getElem?_eq_some_iff.1 hq).1
        show W.cell? (x.add (j * 1 + 0)) = _
        rw [Nat.mul_one, Nat.add_zero, hcell j hjz, List.getD_eq_getElem?_getD, hq]
        rfl
theorem src_of_C {W : World} {A : Option Addr} {l : List Int} (h : Kd.C (Kd.int .i64) W A l.length l) (i : Nat) (x : Int) (hx : l[i]? = some x) : ∃ a, A = some a ∧ W.cell? (a.add i) = some (.int .i64 x) := by
  obtain ⟨_, _, h3⟩ := h
  obtain ⟨a, rfl, h4⟩ := h3 (by have := (List.getElem?_eq_some_iff.1 hx).1; omega)
  obtain ⟨c, hcl, hK, hcell⟩ := h4 i x hx
  refine ⟨a, rfl, ?_⟩
  have e : c = [.int .i64 x] := hK
  subst e
  have := hcell 0 _ rfl
  rwa [show (Kd.int .i64).sz = 1 from rfl, Nat.mul_one, Nat.add_zero] at this
end Go.Proofs.Ytmlnjelhiemlpaa

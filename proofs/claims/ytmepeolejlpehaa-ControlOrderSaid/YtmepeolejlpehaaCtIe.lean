/- Four numbers that came in by value. Conditions: they read. -/
import Derived.Test.YtmepeolejlpehaaCtIn
import Derived.Test.YtmepeolejlpehaaCtY
namespace Go.Proofs.Ytmepeolejlpehaa
open Go.ChangeShapes Go.WideShapes Go.ChangeAt Go.RowKit Go.Proofs.YtmepeolejlpehaaW.PrintWords
structure Four where
  e0 : Int
  e1 : Int
  e2 : Int
  e3 : Int
theorem errs_in {H : Type} {enc : TypeId × Value → H} {W : World} {v : Value} {d : DataW H} {p : List MemPlace} {base : Nat} (hv : Value.okWide Try.prog W .any base 64 v) (h : ∃ fuel, DataW.trod enc Try.prog W 0 (fun _ => true) true fuel 64 v.cells.toList = some (d, p)) :
    ∃ (x : Four) (_ : Nat) (_ : Nat), v = .agg #[.int .i64 x.e0, .int .i64 x.e1, .int .i64 x.e2, .int .i64 x.e3] ∧ True ∧ True := by
  have ht : Try.prog.underlying 64 = some (.array 4 3) := Try.underlying64
  simp only [Value.okWide, ht] at hv
  obtain ⟨cs, rfl, _⟩ := hv
  obtain ⟨fuel, hf⟩ := h
  obtain ⟨xs, m, _, _, hl, hn, he⟩ := DataW.trod_array ht hf
  have hl4 : cs.toList.length = 4 := hl
  have hc1 : Try.prog.cellsOf 3 = 1 := by kernel_rfl
  have key : ∀ i, i < 4 → ∃ y, (cs.toList.drop i).take 1 = [.int .i64 y] := fun i hi => by
    have e := he i hi
    rw [hc1, Nat.mul_one, List.getElem?_eq_getElem (show i < xs.length by omega)] at e
    obtain ⟨y, hK, _⟩ := opens_int Try.underlying3 W m _ _ e
    exact ⟨y, hK⟩
  obtain ⟨y0, h0⟩ := key 0 (by decide)
  obtain ⟨y1, h1⟩ := key 1 (by decide)
  obtain ⟨y2, h2⟩ := key 2 (by decide)
  obtain ⟨y3, h3⟩ := key 3 (by decide)
  refine ⟨⟨y0, y1, y2, y3⟩, 0, 0, ?_, trivial, trivial⟩
  obtain ⟨l⟩ := cs
  dsimp only at h0 h1 h2 h3 hl4
  match l, hl4 with
  | [a, b, c, d], _ =>
    simp at h0 h1 h2 h3
    rw [h0, h1, h2, h3]
theorem T.endsW (w : World) (x : Four) (_ _ : Nat) (_ _ : True) (retry : Int) (_ : (Lit.int .i64 retry).wf = true) : Calls Try.prog 5 #[.agg #[.int .i64 x.e0, .int .i64 x.e1, .int .i64 x.e2, .int .i64 x.e3], .int .i64 retry] w fun e w' => e = .returned (.bool true) ∧ Below w.heap.size w w' := T.walk_ends _ _ _ _ _ w
end Go.Proofs.Ytmepeolejlpehaa

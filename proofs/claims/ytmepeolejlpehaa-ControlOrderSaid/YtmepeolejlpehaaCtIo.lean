/- A number and acts that came in. Conditions: they read. -/
import Derived.Test.YtmepeolejlpehaaCtZ
namespace Go.Proofs.Ytmepeolejlpehaa
open Go.ChangeShapes Go.WideShapes Go.ChangeAt Go.RowKit Go.Proofs.YtmepeolejlpehaaW.PrintWords
theorem acts_in {H : Type} {enc : TypeId × Value → H} {W : World} {a : Option Addr} {len cap : Nat} {d : DataW H} {p : List MemPlace} (h : ∃ fuel, DataW.trod enc Try.prog W 0 (fun _ => true) true fuel 62 (Value.slice a len cap).cells.toList = some (d, p)) :
    ∃ l : List ActT, len = l.length ∧ Kd.C actK W a l.length l ∧ l.length ≤ cap ∧ True := by
  obtain ⟨fuel, hf⟩ := h
  obtain ⟨l, ⟨A', c', hcs, hc, hr⟩, ok⟩ := (opens_slice (e := 26) Try.underlying62 (by kernel_rfl) opens_act) W fuel _ _ hf
  simp [Value.cells] at hcs
  obtain ⟨rfl, rfl, rfl⟩ := hcs
  exact ⟨l, rfl, hr, hc, trivial⟩
theorem T.orderW (w : World) (nodes : Int) (_ : (Lit.int .i64 nodes).wf = true) (A : Option Addr) (c : Nat) (l : List ActT) (hC : Kd.C actK w A l.length l) (hc : l.length ≤ c) (_ : True) :
    Calls Try.prog 4 #[.int .i64 nodes, .slice A l.length c] w fun e w' => e = .returned (.bool true) ∧ Below w.heap.size w w' := T.walk_order nodes A c l w hC hc
end Go.Proofs.Ytmepeolejlpehaa

/- Maps from texts to numbers, as functions. Conditions: where the map lies. -/
import Derived.Test.YtekjkdpiiaocjaaDoorGrI
import Derived.WideKeyEntry
namespace Go.Proofs.YtekjkdpiiaocjaaDoor
open Go.RowKit Go.Maps Go.Proofs.YtekjkdpiiaocjaaDoorW.PrintWords Go.Proofs.YtekjkdpiiaocjaaDoorW.PrintLast Go.Proofs.YtekjkdpiiaocjaaDoorW.PrintMore
theorem lawS : WideMaps.KeyLaw Tryd.prog 9 := WideMaps.string_law Tryd.underlying9
theorem keyS : Keyed Tryd.prog 9 := Keyed.of_law lawS
theorem zeroI (w : World) : (zeroValue 3).run Tryd.prog w = .ok (.int .i64 0) w := by kernel_rfl
def litS (s : ByteArray) : Lit := .string s.data.toList
theorem litS_ne {s t : ByteArray} (h : t ≠ s) : litS t ≠ litS s := fun e => h (by
  injection e with e
  exact ByteArray.ext (Array.ext' e))
theorem keyOfS {s : ByteArray} (hs : s.size ≤ 1000) : keyOf Tryd.prog 9 (.string s) = some (litS s) := by
  have : s.size ≤ maxLen := by unfold maxLen; omega
  simp [keyOf, mapKey, Tryd.underlying9, this, litS]
/-- Block b is a map of at most n entries that reads as f. -/
def MapS (w : World) (b n : Nat) (f : ByteArray → Option Int) : Prop := ∃ D : DataW Unit, w.ownsMap Tryd.prog 9 (plainElem Tryd.prog 3) b n D ∧ ∀ s : ByteArray, s.size ≤ 1000 → Maps.has D (litS s) = (f s).isSome ∧ D.atKey (litS s) (.lit (.int .i64 0)) = .lit (.int .i64 ((f s).getD 0))
theorem MapS.lt {w : World} {b n : Nat} {f : ByteArray → Option Int} (h : MapS w b n f) : b < w.heap.size := by
  obtain ⟨D, hD, _⟩ := h
  exact hD.lt
theorem MapS.move {w w' : World} {b n : Nat} {f : ByteArray → Option Int} (h : MapS w b n f) (hb : w'.heap[b]? = w.heap[b]?) : MapS w' b n f := by
  obtain ⟨D, ⟨es, cl, h1, h2⟩, hf⟩ := h
  exact ⟨D, ⟨es, cl, hb.trans h1, h2⟩, hf⟩
theorem MapS.fc {S : List Nat} {w w' : World} {b n : Nat} {f : ByteArray → Option Int} (h : MapS w b n f) (k : FC S w w') (hb : b ∉ S) : MapS w' b n f := h.move (k.block b h.lt hb)
theorem MapS.made (w : World) : MapS (w.alloc (.map #[] 0)) w.heap.size 0 (fun _ => none) := ⟨_, World.ownsMap_made _ _ _ _, fun _ _ => ⟨rfl, rfl⟩⟩
theorem MapS.look {w : World} {b n : Nat} {f : ByteArray → Option Int} (h : MapS w b n f) (s : ByteArray) (hs : s.size ≤ 1000) : (Instr.lookup 40 (.map (some b)) (.string s) true).run Tryd.prog w = .ok (.tuple #[.int .i64 ((f s).getD 0), .bool (f s).isSome]) w ∧ (Instr.lookup 40 (.map (some b)) (.string s) false).run Tryd.prog w = .ok (.int .i64 ((f s).getD 0)) w := by
  obtain ⟨D, hD, hf⟩ := h
  obtain ⟨h1, h2⟩ := hf s hs
  have hz : plainElem (H := Unit) Tryd.prog 3 (.int .i64 0) = some (.lit (.int .i64 0), []) := plainElem_int Tryd.underlying3 (by decide)
  constructor
  · obtain ⟨v, ps, hrun, hv⟩ := hD.look_ok keyS Tryd.underlying40 (zeroI w) hz (keyOfS hs)
    obtain ⟨c, rfl, hc, _⟩ := plainElem_int_inv Tryd.underlying3 hv
    simp only [Prod.mk.injEq] at hc
    rw [h2] at hc
    have hc1 : (f s).getD 0 = c := by simpa using hc.1
    rw [hrun, h1, hc1]
  · obtain ⟨c, hrun, hc, _⟩ := hD.lookup_int keyS Tryd.underlying40 Tryd.underlying3 (zeroI w) (keyOfS hs)
    rw [h2] at hc
    have hc1 : (f s).getD 0 = c := by simpa using hc
    rw [hrun, hc1]
/-- f, told v at s. -/
def setS (f : ByteArray → Option Int) (s : ByteArray) (v : Int) : ByteArray → Option Int := fun t => if t = s then some v else f t
theorem MapS.entry {w : World} {b n : Nat} {f : ByteArray → Option Int} (h : MapS w b n f) (s : ByteArray) (hs : s.size ≤ 1000) (hn : n < 1000000) : ∃ (v0 : Value) (st : Nat) (X1 : Obj), (Instr.mapEntry 40 (.map (some b)) (.string s)).run Tryd.prog w = .ok (.tuple #[v0, goInt st]) (ChangeMaps.setBlock w b X1) ∧
    ∀ (w2 : World) (v : Int), (Lit.int .i64 v).wf = true → w2.heap[b]? = some X1 → ∃ X2, (Instr.entryStore 40 (.map (some b)) (goInt st) (.int .i64 v)).run Tryd.prog w2 = .ok () (ChangeMaps.setBlock w2 b X2) ∧ MapS (ChangeMaps.setBlock w2 b X2) b (n + 1) (setS f s v) := by
  obtain ⟨D, hD, hf⟩ := h
  have hD' := hD
  obtain ⟨es, clock, hb, F, hle, hDe⟩ := hD'
  obtain ⟨v0, st, es1, clock1, hrun, _, hst⟩ := WideElems.entry_then_store lawS Tryd.underlying40 zeroI hb F (keyOfS hs)
  refine ⟨v0, st, .map es1 clock1, hrun, fun w2 v hv hw2 => ?_⟩
  obtain ⟨es', clock', h1, h2⟩ := hst w2 (.int .i64 v) hw2
  refine ⟨.map es' clock', h1, ?_⟩
  obtain ⟨w', h3, h4, _⟩ := hD.update keyS Tryd.underlying40 (show n < maxLen by unfold maxLen; omega) (keyOfS hs) (plainElem_int Tryd.underlying3 hv)
  have hw : w' = ChangeMaps.setBlock w b (.map es' clock') := by
    have := h3.symm.trans h2
    injection this
  have hlt2 : b < w2.heap.size := (Array.getElem?_eq_some_iff.1 hw2).1
  have hlt : b < w.heap.size := (Array.getElem?_eq_some_iff.1 hb).1
  have hm : MapS w' b (n + 1) (setS f s v) := by
    refine ⟨_, h4, fun t ht => ?_⟩
    unfold setS
    by_cases hts : t = s
    · subst hts
      rw [if_pos rfl]
      exact ⟨Maps.has_put_same hD.isMap (by trivial) _, atKey_put_same hD.isMap (by trivial) _ _⟩
    · rw [if_neg hts, Maps.has_put_other (litS_ne hts), atKey_put_other (litS_ne hts)]
      exact hf t ht
  refine hm.move ?_
  rw [hw]
  simp [ChangeMaps.setBlock, hlt, hlt2]
end Go.Proofs.YtekjkdpiiaocjaaDoor

/- An act that came in, by value and in a slice, as the walks ask it. Conditions: it reads. -/
import Derived.Test.YtmepeolejlpehaaCtX
import Derived.ProofKit
import Derived.OpenShut
import Derived.ChangeOld
import Derived.SizedLaws
namespace Go.Proofs.Ytmepeolejlpehaa
open Go.ChangeShapes Go.WideShapes Go.ChangeAt Go.RowKit Go.Proofs.YtmepeolejlpehaaW.PrintWords
section
/-- What came in reads as a value of this kind, and is one that may be. -/
def Opens {H : Type} (enc : TypeId × Value → H) (P : Program) {α : Type} (d : Kd α) (ok : α → Prop) (t : TypeId) : Prop :=
  ∀ (W : World) (fuel : Nat) (cs : List Value) (x : DataW H × List MemPlace), DataW.trod enc P W 0 (fun _ => true) true fuel t cs = some x → ∃ y, d.K W y cs ∧ ok y
variable {H : Type} {enc : TypeId × Value → H} {P : Program} {t e : TypeId}
theorem opens_int {k : IntKind} (ht : P.underlying t = some (.int k)) : Opens enc P (Kd.int k) (fun n => (Lit.int k n).wf = true) t := by
  intro W fuel cs x h
  obtain ⟨n, rfl, _, hw⟩ := DataW.trod_int ht h
  exact ⟨n, rfl, hw⟩
theorem opens_bool (ht : P.underlying t = some .bool) : Opens enc P Kd.bool (fun _ => True) t := by
  intro W fuel cs x h
  obtain ⟨b, rfl, _⟩ := DataW.trod_bool ht h
  exact ⟨b, rfl, trivial⟩
theorem opens_string (ht : P.underlying t = some .string) : Opens enc P Kd.string (fun s => s.size ≤ maxLen) t := by
  intro W fuel cs x h
  obtain ⟨s, rfl, _, hw⟩ := DataW.trod_string ht h
  exact ⟨s, rfl, hw⟩
theorem list_of {α : Type} (p : Nat → α → Prop) : ∀ n : Nat, (∀ i, i < n → ∃ y, p i y) → ∃ ys : List α, ys.length = n ∧ ∀ i y, ys[i]? = some y → p i y
  | 0, _ => ⟨[], rfl, fun i y h => by simp at h⟩
  | n + 1, h => by
    obtain ⟨ys, hl, hy⟩ := list_of p n (fun i hi => h i (by omega))
    obtain ⟨y, hp⟩ := h n (by omega)
    refine ⟨ys ++ [y], by simp [hl], fun i z hz => ?_⟩
    rcases Nat.lt_or_ge i n with hi | hi
    · rw [List.getElem?_append_left (by omega)] at hz; exact hy i z hz
    · have hlt := (List.getElem?_eq_some_iff.1 hz).1
      simp only [List.length_append, List.length_singleton] at hlt
      obtain rfl : i = n := by omega
      rw [List.getElem?_append_right (by omega)] at hz
      simp [hl] at hz
      exact hz ▸ hp
theorem opens_slice {α : Type} {d : Kd α} {ok : α → Prop} (ht : P.underlying t = some (.slice e)) (hc : P.cellsOf e = d.sz) (he : Opens enc P d ok e) : Opens enc P (Kd.slice e d) (fun l => l.length ≤ maxLen ∧ ∀ x ∈ l, ok x) t := by
  intro W fuel cs x h
  rcases DataW.trod_slice ht h with ⟨rfl, _⟩ | ⟨a, len, cap, elems, rest, n, _, rfl, _, hb, hl, hm, hlen, hel, _⟩
  · exact ⟨[], ⟨none, 0, rfl, Nat.le_refl _, Kd.C_nil d W⟩, by simp, fun _ h => by simp at h⟩
  · have each : ∀ i, i < len → ∃ y, (∃ c, c.length = d.sz ∧ d.K W y c ∧ ∀ q u, c[q]? = some u → W.cell? (a.add (i * d.sz + q)) = some u) ∧ ok y := by
      intro i hi
      have h1 := hel i hi
      rw [hc, List.getElem?_eq_getElem (by omega), Option.bind_eq_some_iff] at h1
      obtain ⟨c, h2, h3⟩ := h1
      obtain ⟨y, hK, ho⟩ := he W n c _ h3
      refine ⟨y, ⟨c, d.K_len hK, hK, fun q u hq => ?_⟩, ho⟩
      unfold World.cells? at h2
      split at h2
      · have hq' : q < d.sz := by rw [← d.K_len hK]; exact (List.getElem?_eq_some_iff.1 hq).1
        have h4 := mapM_some_get h2 q q (by simp [hq'])
        rw [hq] at h4
        have ha : (a.add (i * d.sz)).add q = a.add (i * d.sz + q) := by unfold Addr.add; (repeat' split) <;> simp_all [Nat.add_assoc]
        rw [← ha]; exact h4
      · simp at h2
    obtain ⟨ys, hyl, hy⟩ := list_of _ len each
    refine ⟨ys, ⟨some a, cap, by rw [hyl], by omega, hyl.trans hyl.symm |>.symm ▸ rfl, ?_, fun _ => ⟨a, rfl, fun j p hp => (hy j p hp).1⟩⟩, by omega, fun y hyy => ?_⟩
    · have : ys.length ≤ cap := by omega
      simp only [maxLen] at hm; omega
    · obtain ⟨i, hi⟩ := List.getElem?_of_mem hyy
      exact (hy i y hi).2
end
def rangeK : Kd (Int × Int) := Kd.pair (Kd.int .i64) ((Kd.int .i64))
def rangeOk (x : Int × Int) : Prop := (fun n => (Lit.int .i64 n).wf = true) x.1 ∧ (fun n => (Lit.int .i64 n).wf = true) x.2
theorem opens_range {H : Type} {enc : TypeId × Value → H} : Opens enc Try.prog rangeK rangeOk 23 := by
  intro W fuel cs x h
  obtain ⟨xs, n, rfl, rfl, hl, hn, hf⟩ := DataW.trod_struct Try.underlying23 h
  have hl' : cs.length = 2 := hl
  have hn' : xs.length = 2 := hn
  obtain ⟨y0, K0, o0⟩ : ∃ y, ((Kd.int .i64)).K W y ((cs.drop 0).take 1) ∧ (fun n => (Lit.int .i64 n).wf = true) y := by
    have e := hf 0 _ rfl
    rw [List.getElem?_eq_getElem (show 0 < xs.length by omega)] at e
    exact (opens_int Try.underlying3) W n _ _ e
  obtain ⟨y1, K1, o1⟩ : ∃ y, ((Kd.int .i64)).K W y ((cs.drop 1).take 1) ∧ (fun n => (Lit.int .i64 n).wf = true) y := by
    have e := hf 1 _ rfl
    rw [List.getElem?_eq_getElem (show 1 < xs.length by omega)] at e
    exact (opens_int Try.underlying3) W n _ _ e
  exact ⟨(y0, y1), (show rangeK.K W _ (cs.drop 0) from ⟨(cs.drop 0).take 1, cs.drop 1, (by rw [show 1 = 0 + 1 from rfl, ← List.drop_drop, List.take_append_drop]), K0, (by have K := K1; rw [List.take_of_length_le (by simp; omega)] at K; exact K)⟩), o0, o1⟩
def actK : Kd (Int × Int × Int × Int × Bool × (Int × Int) × List ByteArray) := Kd.pair (Kd.int .i64) (Kd.pair (Kd.int .i64) (Kd.pair (Kd.int .i64) (Kd.pair (Kd.int .i64) (Kd.pair Kd.bool (Kd.pair rangeK ((Kd.slice 9 Kd.string)))))))
def actOk (x : Int × Int × Int × Int × Bool × (Int × Int) × List ByteArray) : Prop := (fun n => (Lit.int .i64 n).wf = true) x.1 ∧ (fun n => (Lit.int .i64 n).wf = true) x.2.1 ∧ (fun n => (Lit.int .i64 n).wf = true) x.2.2.1 ∧ (fun n => (Lit.int .i64 n).wf = true) x.2.2.2.1 ∧ (fun _ => True) x.2.2.2.2.1 ∧ rangeOk x.2.2.2.2.2.1 ∧ (fun l : List ByteArray => l.length ≤ maxLen ∧ ∀ x ∈ l, x.size ≤ maxLen) x.2.2.2.2.2.2
theorem opens_act {H : Type} {enc : TypeId × Value → H} : Opens enc Try.prog actK actOk 26 := by
  intro W fuel cs x h
  obtain ⟨xs, n, rfl, rfl, hl, hn, hf⟩ := DataW.trod_struct Try.underlying26 h
  have hl' : cs.length = 8 := hl
  have hn' : xs.length = 7 := hn
  obtain ⟨y0, K0, o0⟩ : ∃ y, ((Kd.int .i64)).K W y ((cs.drop 0).take 1) ∧ (fun n => (Lit.int .i64 n).wf = true) y := by
    have e := hf 0 _ rfl
    rw [List.getElem?_eq_getElem (show 0 < xs.length by omega)] at e
    exact (opens_int Try.underlying3) W n _ _ e
  obtain ⟨y1, K1, o1⟩ : ∃ y, ((Kd.int .i64)).K W y ((cs.drop 1).take 1) ∧ (fun n => (Lit.int .i64 n).wf = true) y := by
    have e := hf 1 _ rfl
    rw [List.getElem?_eq_getElem (show 1 < xs.length by omega)] at e
    exact (opens_int Try.underlying3) W n _ _ e
  obtain ⟨y2, K2, o2⟩ : ∃ y, ((Kd.int .i64)).K W y ((cs.drop 2).take 1) ∧ (fun n => (Lit.int .i64 n).wf = true) y := by
    have e := hf 2 _ rfl
    rw [List.getElem?_eq_getElem (show 2 < xs.length by omega)] at e
    exact (opens_int Try.underlying3) W n _ _ e
  obtain ⟨y3, K3, o3⟩ : ∃ y, ((Kd.int .i64)).K W y ((cs.drop 3).take 1) ∧ (fun n => (Lit.int .i64 n).wf = true) y := by
    have e := hf 3 _ rfl
    rw [List.getElem?_eq_getElem (show 3 < xs.length by omega)] at e
    exact (opens_int Try.underlying3) W n _ _ e
  obtain ⟨y4, K4, o4⟩ : ∃ y, (Kd.bool).K W y ((cs.drop 4).take 1) ∧ (fun _ => True) y := by
    have e := hf 4 _ rfl
    rw [List.getElem?_eq_getElem (show 4 < xs.length by omega)] at e
    exact (opens_bool Try.underlying4) W n _ _ e
  obtain ⟨y5, K5, o5⟩ : ∃ y, (rangeK).K W y ((cs.drop 5).take 2) ∧ rangeOk y := by
    have e := hf 5 _ rfl
    rw [List.getElem?_eq_getElem (show 5 < xs.length by omega)] at e
    exact (opens_range) W n _ _ e
  obtain ⟨y6, K6, o6⟩ : ∃ y, ((Kd.slice 9 Kd.string)).K W y ((cs.drop 7).take 1) ∧ (fun l : List ByteArray => l.length ≤ maxLen ∧ ∀ x ∈ l, x.size ≤ maxLen) y := by
    have e := hf 6 _ rfl
    rw [List.getElem?_eq_getElem (show 6 < xs.length by omega)] at e
    exact (opens_slice (e := 9) Try.underlying24 (by kernel_rfl) (opens_string Try.underlying9)) W n _ _ e
  exact ⟨(y0, y1, y2, y3, y4, y5, y6), (show actK.K W _ (cs.drop 0) from ⟨(cs.drop 0).take 1, cs.drop 1, (by rw [show 1 = 0 + 1 from rfl, ← List.drop_drop, List.take_append_drop]), K0, ⟨(cs.drop 1).take 1, cs.drop 2, (by rw [show 2 = 1 + 1 from rfl, ← List.drop_drop, List.take_append_drop]), K1, ⟨(cs.drop 2).take 1, cs.drop 3, (by rw [show 3 = 2 + 1 from rfl, ← List.drop_drop, List.take_append_drop]), K2, ⟨(cs.drop 3).take 1, cs.drop 4, (by rw [show 4 = 3 + 1 from rfl, ← List.drop_drop, List.take_append_drop]), K3, ⟨(cs.drop 4).take 1, cs.drop 5, (by rw [show 5 = 4 + 1 from rfl, ← List.drop_drop, List.take_append_drop]), K4, ⟨(cs.drop 5).take 2, cs.drop 7, (by rw [show 7 = 5 + 2 from rfl, ← List.drop_drop, List.take_append_drop]), K5, (by have K := K6; rw [List.take_of_length_le (by simp; omega)] at K; exact K)⟩⟩⟩⟩⟩⟩), o0, o1, o2, o3, o4, o5, o6⟩
abbrev ActT := Int × Int × Int × Int × Bool × (Int × Int) × List ByteArray
/-- An act's cells. -/
theorem act_cells {W : World} {x : ActT} {cs : List Value} (h : actK.K W x cs) : ∃ A c, cs = (actV x.1 x.2.1 x.2.2.1 x.2.2.2.1 x.2.2.2.2.1 x.2.2.2.2.2.1.1 x.2.2.2.2.2.1.2 (.slice A x.2.2.2.2.2.2.length c)).toList ∧ x.2.2.2.2.2.2.length ≤ c ∧ Kd.C Kd.string W A x.2.2.2.2.2.2.length x.2.2.2.2.2.2 := by
  obtain ⟨c0, d0, rfl, k0, c1, d1, rfl, k1, c2, d2, rfl, k2, c3, d3, rfl, k3, c4, d4, rfl, k4, c5, d5, rfl, ⟨r0, r1, rfl, q0, q1⟩, A, c, rfl, hl, hc⟩ := h
  have e0 : c0 = [.int .i64 x.1] := k0
  have e1 : c1 = [.int .i64 x.2.1] := k1
  have e2 : c2 = [.int .i64 x.2.2.1] := k2
  have e3 : c3 = [.int .i64 x.2.2.2.1] := k3
  have e4 : c4 = [.bool x.2.2.2.2.1] := k4
  have e5 : r0 = [.int .i64 x.2.2.2.2.2.1.1] := q0
  have e6 : r1 = [.int .i64 x.2.2.2.2.2.1.2] := q1
  subst e0 e1 e2 e3 e4 e5 e6
  exact ⟨A, c, rfl, hl, hc⟩
/-- An act by value. -/
theorem act_in {H : Type} {enc : TypeId × Value → H} {W : World} {v : Value} {d : DataW H} {p : List MemPlace} {base : Nat} (hv : Value.okWide Try.prog W .any base 26 v) (h : ∃ fuel, DataW.trod enc Try.prog W 0 (fun _ => true) true fuel 26 v.cells.toList = some (d, p)) :
    ∃ (x : ActT) (A : Option Addr) (c : Nat), v = .agg (actV x.1 x.2.1 x.2.2.1 x.2.2.2.1 x.2.2.2.2.1 x.2.2.2.2.2.1.1 x.2.2.2.2.2.1.2 (.slice A x.2.2.2.2.2.2.length c)) ∧ x.2.2.2.2.2.2.length ≤ c ∧ Kd.C Kd.string W A x.2.2.2.2.2.2.length x.2.2.2.2.2.2 := by
  obtain ⟨cs, rfl, _⟩ := okWide_struct Try.underlying26 hv
  obtain ⟨fuel, hf⟩ := h
  obtain ⟨x, hK, _⟩ := opens_act W fuel _ _ hf
  obtain ⟨A, c, e, hl, hc⟩ := act_cells hK
  exact ⟨x, A, c, by rw [show cs = cs.toList.toArray from rfl, show cs.toList = _ from e], hl, hc⟩
theorem T.nobodyW (w : World) (x : ActT) (A : Option Addr) (c : Nat) (hc : x.2.2.2.2.2.2.length ≤ c) (hC : Kd.C Kd.string w A x.2.2.2.2.2.2.length x.2.2.2.2.2.2) :
    Calls Try.prog 3 #[.agg (actV x.1 x.2.1 x.2.2.1 x.2.2.2.1 x.2.2.2.2.1 x.2.2.2.2.2.1.1 x.2.2.2.2.2.1.2 (.slice A x.2.2.2.2.2.2.length c))] w fun e w' => e = .returned (.bool true) ∧ Below w.heap.size w w' := T.walk_nobody _ _ _ _ _ _ _ _ _ _ w hC hc
end Go.Proofs.Ytmepeolejlpehaa

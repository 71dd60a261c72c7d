/- Acts that came in, as the walks ask them; the listed table is laid. Conditions: they read. -/
import Derived.Test.YtekjkdpiiaocjaaDoorGrK
import Derived.Test.YtekjkdpiiaocjaaDoorRows
import Derived.ProofKit
import Derived.LaidMore
import Derived.OpenShut
import Derived.ShutString
import Derived.ChangeOld
import Derived.SizedLaws
import Derived.Stop.Joined
namespace Go.Proofs.YtekjkdpiiaocjaaDoor
open Go.ChangeShapes Go.WideShapes Go.ChangeAt Go.WideMaps Go.WideElems Go.RowKit Go.Proofs.YtekjkdpiiaocjaaDoorW.PrintWords
theorem own : ownKnob Tryd.prog.godebug = none := by kernel_rfl
theorem laidOut : laidOutB Tryd.prog = true := by kernel_rfl
abbrev laid1 {H : Type} : List (String × DataW H) := [("raceway/digest.rounds", Rows.laid_raceway_digest_rounds)]
theorem door_met (os : Os) (args : Array Value) : laidMetH Tryd.prog laid1 ((World.doorLaid Tryd.prog 400 os).forCall (fun _ _ => 0) ⟨#[], args, []⟩).memory :=
  laidMetH_of_parts3 (fuel := 8) (laidMet_of_run' 8 (by kernel_rfl) (by kernel_rfl)) (by kernel_rfl) (by kernel_rfl)
theorem K64_of_laid {W : World} (_ : laidMetH Tryd.prog laid1 W) : True := trivial
section
/-- What came in reads as a value of this kind, and is one that may be. -/
def Opens {H : Type} (enc : TypeId × Value → H) (P : Program) {α : Type} (d : Kd α) (ok : α → Prop) (t : TypeId) : Prop :=
  ∀ (W : World) (fuel : Nat) (cs : List Value) (x : DataW H × List MemPlace), DataW.trod enc P W 0 (fun _ => true) true fuel t cs = some x → ∃ y, d.K W y cs ∧ ok y
variable {H : Type} {enc : TypeId × Value → H} {P : Program} {t e : TypeId}
theorem opens_int {k : IntKind} (ht : P.underlying t = some (.int k)) : Opens enc P (Kd.int k) (fun n => (Lit.int k n).wf = true) t := by
  intro W fuel cs x h
  obtain ⟨n, rfl, _, hw⟩ := DataW.trod_int ht h
  exact ⟨n, rfl, hw⟩
theorem opens_bool (ht : P.underlying t = some .bool) : Opens enc P Kd.bool (fun _ => True) t := by
  intro W fuel cs x h
  obtain ⟨b, rfl, _⟩ := DataW.trod_bool ht h
  exact ⟨b, rfl, trivial⟩
theorem opens_string (ht : P.underlying t = some .string) : Opens enc P Kd.string (fun s => s.size ≤ maxLen) t := by
  intro W fuel cs x h
  obtain ⟨s, rfl, _, hw⟩ := DataW.trod_string ht h
  exact ⟨s, rfl, hw⟩
theorem list_of {α : Type} (p : Nat → α → Prop) : ∀ n : Nat, (∀ i, i < n → ∃ y, p i y) → ∃ ys : List α, ys.length = n ∧ ∀ i y, ys[i]? = some y → p i y
  | 0, _ => ⟨[], rfl, fun i y h => by simp at h⟩
  | n + 1, h => by
    obtain ⟨ys, hl, hy⟩ := list_of p n (fun i hi => h i (by omega))
    obtain ⟨y, hp⟩ := h n (by omega)
    refine ⟨ys ++ [y], by simp [hl], fun i z hz => ?_⟩
    rcases Nat.lt_or_ge i n with hi | hi
    · rw [List.getElem?_append_left (by omega)] at hz; exact hy i z hz
    · have hlt := (List.getElem?_eq_some_iff.1 hz).1
      simp only [List.length_append, List.length_singleton] at hlt
      obtain rfl : i = n := by omega
      rw [List.getElem?_append_right (by omega)] at hz
      simp [hl] at hz
      exact hz ▸ hp
theorem opens_slice {α : Type} {d : Kd α} {ok : α → Prop} (ht : P.underlying t = some (.slice e)) (hc : P.cellsOf e = d.sz) (he : Opens enc P d ok e) : Opens enc P (Kd.slice e d) (fun l => l.length ≤ maxLen ∧ ∀ x ∈ l, ok x) t := by
  intro W fuel cs x h
  rcases DataW.trod_slice ht h with ⟨rfl, _⟩ | ⟨a, len, cap, elems, rest, n, _, rfl, _, hb, hl, hm, hlen, hel, _⟩
  · exact ⟨[], ⟨none, 0, rfl, Nat.le_refl _, Kd.C_nil d W⟩, by simp, fun _ h => by simp at h⟩
  · have each : ∀ i, i < len → ∃ y, (∃ c, c.length = d.sz ∧ d.K W y c ∧ ∀ q u, c[q]? = some u → W.cell? (a.add (i * d.sz + q)) = some u) ∧ ok y := by
      intro i hi
      have h1 := hel i hi
      rw [hc, List.getElem?_eq_getElem (by omega), Option.bind_eq_some_iff] at h1
      obtain ⟨c, h2, h3⟩ := h1
      obtain ⟨y, hK, ho⟩ := he W n c _ h3
      refine ⟨y, ⟨c, d.K_len hK, hK, fun q u hq => ?_⟩, ho⟩
      unfold World.cells? at h2
      split at h2
      · have hq' : q < d.sz := by rw [← d.K_len hK]; exact (List.getElem?_eq_some_iff.1 hq).1
        have h4 := mapM_some_get h2 q q (by simp [hq'])
        rw [hq] at h4
        have ha : (a.add (i * d.sz)).add q = a.add (i * d.sz + q) := by unfold Addr.add; (repeat' split) <;> simp_all [Nat.add_assoc]
        rw [← ha]; exact h4
      · simp at h2
    obtain ⟨ys, hyl, hy⟩ := list_of _ len each
    refine ⟨ys, ⟨some a, cap, by rw [hyl], by omega, hyl.trans hyl.symm |>.symm ▸ rfl, ?_, fun _ => ⟨a, rfl, fun j p hp => (hy j p hp).1⟩⟩, by omega, fun y hyy => ?_⟩
    · have : ys.length ≤ cap := by omega
      simp only [maxLen] at hm; omega
    · obtain ⟨i, hi⟩ := List.getElem?_of_mem hyy
      exact (hy i y hi).2
end
def actTK : Kd (Int × Int × Int × Int × ByteArray × ByteArray) := Kd.pair (Kd.int .i64) (Kd.pair (Kd.int .i64) (Kd.pair (Kd.int .i64) (Kd.pair (Kd.int .i64) (Kd.pair Kd.string (Kd.string)))))
def actTOk (x : Int × Int × Int × Int × ByteArray × ByteArray) : Prop := (fun n => (Lit.int .i64 n).wf = true) x.1 ∧ (fun n => (Lit.int .i64 n).wf = true) x.2.1 ∧ (fun n => (Lit.int .i64 n).wf = true) x.2.2.1 ∧ (fun n => (Lit.int .i64 n).wf = true) x.2.2.2.1 ∧ (fun s => s.size ≤ maxLen) x.2.2.2.2.1 ∧ (fun s => s.size ≤ maxLen) x.2.2.2.2.2
set_option maxRecDepth 100000 in
theorem opens_actT {H : Type} {enc : TypeId × Value → H} : Opens enc Tryd.prog actTK actTOk 39 := by
  intro W fuel cs x h
  obtain ⟨xs, n, rfl, rfl, hl, hn, hf⟩ := DataW.trod_struct Tryd.underlying39 h
  have hl' : cs.length = 6 := hl
  have hn' : xs.length = 6 := hn
  obtain ⟨y0, K0, o0⟩ : ∃ y, ((Kd.int .i64)).K W y ((cs.drop 0).take 1) ∧ (fun n => (Lit.int .i64 n).wf = true) y := by
    have e := hf 0 _ rfl
    rw [List.getElem?_eq_getElem (show 0 < xs.length by omega)] at e
    exact (opens_int Tryd.underlying3) W n _ _ e
  obtain ⟨y1, K1, o1⟩ : ∃ y, ((Kd.int .i64)).K W y ((cs.drop 1).take 1) ∧ (fun n => (Lit.int .i64 n).wf = true) y := by
    have e := hf 1 _ rfl
    rw [List.getElem?_eq_getElem (show 1 < xs.length by omega)] at e
    exact (opens_int Tryd.underlying3) W n _ _ e
  obtain ⟨y2, K2, o2⟩ : ∃ y, ((Kd.int .i64)).K W y ((cs.drop 2).take 1) ∧ (fun n => (Lit.int .i64 n).wf = true) y := by
    have e := hf 2 _ rfl
    rw [List.getElem?_eq_getElem (show 2 < xs.length by omega)] at e
    exact (opens_int Tryd.underlying3) W n _ _ e
  obtain ⟨y3, K3, o3⟩ : ∃ y, ((Kd.int .i64)).K W y ((cs.drop 3).take 1) ∧ (fun n => (Lit.int .i64 n).wf = true) y := by
    have e := hf 3 _ rfl
    rw [List.getElem?_eq_getElem (show 3 < xs.length by omega)] at e
    exact (opens_int Tryd.underlying3) W n _ _ e
  obtain ⟨y4, K4, o4⟩ : ∃ y, (Kd.string).K W y ((cs.drop 4).take 1) ∧ (fun s => s.size ≤ maxLen) y := by
    have e := hf 4 _ rfl
    rw [List.getElem?_eq_getElem (show 4 < xs.length by omega)] at e
    exact (opens_string Tryd.underlying9) W n _ _ e
  obtain ⟨y5, K5, o5⟩ : ∃ y, (Kd.string).K W y ((cs.drop 5).take 1) ∧ (fun s => s.size ≤ maxLen) y := by
    have e := hf 5 _ rfl
    rw [List.getElem?_eq_getElem (show 5 < xs.length by omega)] at e
    exact (opens_string Tryd.underlying9) W n _ _ e
  exact ⟨(y0, y1, y2, y3, y4, y5), (show actTK.K W _ (cs.drop 0) from ⟨(cs.drop 0).take 1, cs.drop 1, (by rw [show 1 = 0 + 1 from rfl, ← List.drop_drop, List.take_append_drop]), K0, ⟨(cs.drop 1).take 1, cs.drop 2, (by rw [show 2 = 1 + 1 from rfl, ← List.drop_drop, List.take_append_drop]), K1, ⟨(cs.drop 2).take 1, cs.drop 3, (by rw [show 3 = 2 + 1 from rfl, ← List.drop_drop, List.take_append_drop]), K2, ⟨(cs.drop 3).take 1, cs.drop 4, (by rw [show 4 = 3 + 1 from rfl, ← List.drop_drop, List.take_append_drop]), K3, ⟨(cs.drop 4).take 1, cs.drop 5, (by rw [show 5 = 4 + 1 from rfl, ← List.drop_drop, List.take_append_drop]), K4, (by have K := K5; rw [List.take_of_length_le (by simp; omega)] at K; exact K)⟩⟩⟩⟩⟩), o0, o1, o2, o3, o4, o5⟩
abbrev ActQ := Int × Int × Int × Int × ByteArray × ByteArray
def toAct (x : ActQ) : ActT := ⟨x.1, x.2.1, x.2.2.1, x.2.2.2.1, x.2.2.2.2.1, x.2.2.2.2.2⟩
set_option maxRecDepth 100000 in
theorem act_cells {W : World} {x : ActQ} {cs : List Value} (h : actTK.K W x cs) : cs = (toAct x).cells := by
  obtain ⟨c0, d0, rfl, k0, c1, d1, rfl, k1, c2, d2, rfl, k2, c3, d3, rfl, k3, c4, d4, rfl, k4, k5⟩ := h
  have e0 : c0 = [.int .i64 x.1] := k0
  have e1 : c1 = [.int .i64 x.2.1] := k1
  have e2 : c2 = [.int .i64 x.2.2.1] := k2
  have e3 : c3 = [.int .i64 x.2.2.2.1] := k3
  have e4 : c4 = [.string x.2.2.2.2.1] := k4
  have e5 : d4 = [.string x.2.2.2.2.2] := k5
  subst e0 e1 e2 e3 e4 e5
  rfl
set_option maxRecDepth 100000 in
theorem acts_row {W : World} {A : Option Addr} {n : Nat} {l : List ActQ} (h : actTK.C W A n l) : actK.C W A n (l.map toAct) := by
  refine ⟨by rw [List.length_map]; exact h.1, h.2.1, fun hn => ?_⟩
  obtain ⟨ad, e, hc⟩ := h.2.2 hn
  refine ⟨ad, e, fun j p hj => ?_⟩
  rw [List.getElem?_map] at hj
  obtain ⟨x, hx, rfl⟩ := Option.map_eq_some_iff.1 hj
  obtain ⟨c, h1, h2, h3⟩ := hc j x hx
  exact ⟨c, h1, act_cells h2, h3⟩
theorem acts_in {H : Type} {enc : TypeId × Value → H} {W : World} {a : Option Addr} {len cap : Nat} {d : DataW H} {p : List MemPlace} (h : ∃ fuel, DataW.trod enc Tryd.prog W 0 (fun _ => true) true fuel 35 (Value.slice a len cap).cells.toList = some (d, p)) :
    ∃ l : List ActT, len = l.length ∧ actK.C W a l.length l ∧ l.length ≤ cap ∧ True := by
  obtain ⟨fuel, hf⟩ := h
  obtain ⟨l, ⟨A', c', hcs, hc, hr⟩, ok⟩ := (opens_slice (e := 39) Tryd.underlying35 (by kernel_rfl) opens_actT) W fuel _ _ hf
  simp [Value.cells] at hcs
  obtain ⟨rfl, rfl, rfl⟩ := hcs
  exact ⟨l.map toAct, by simp, by rw [List.length_map]; exact acts_row hr, by rw [List.length_map]; exact hc, trivial⟩
theorem T.tokensW (w : World) (A : Option Addr) (c : Nat) (l : List ActT) (hC : actK.C w A l.length l) (hc : l.length ≤ c) (_ : True) (_ : True) :
    Calls Tryd.prog 4 #[.slice A l.length c] w fun e w' => e = .returned (.bool true) ∧ Below w.heap.size w w' := T.walk_tokens A c l w hC hc
end Go.Proofs.YtekjkdpiiaocjaaDoor

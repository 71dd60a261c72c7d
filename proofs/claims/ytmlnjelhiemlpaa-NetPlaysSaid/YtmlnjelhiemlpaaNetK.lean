/- The law's count: a map of how often each number comes. Conditions: where the list lies; numbers of 64 bits. -/
import Derived.Test.YtmlnjelhiemlpaaNetT
import Derived.Maps.OwnOps
import Derived.Maps.Views
namespace Go.Proofs.Ytmlnjelhiemlpaa
open Go.Maps Go.RowKit Go.Proofs.YtmlnjelhiemlpaaW.PrintWords Go.Proofs.YtmlnjelhiemlpaaW.PrintLast Go.Proofs.YtmlnjelhiemlpaaW.PrintMore
theorem lawI : Keyed Try.prog 3 := int_keyed Try.underlying3
theorem zeroI (w : World) : (zeroValue 3).run Try.prog w = .ok (.int .i64 0) w := by kernel_rfl
/-- Block b is a map of at most n entries that reads as f. -/
def MapF (w : World) (b n : Nat) (f : Int → Int) : Prop := ∃ D : DataW Unit, w.ownsMap Try.prog 3 (plainElem Try.prog 3) b n D ∧ ∀ x, (Lit.int .i64 x).wf = true → D.atKey (.int .i64 x) (.lit (.int .i64 0)) = .lit (.int .i64 (f x))
theorem MapF.made (w : World) : MapF (w.alloc (.map #[] 0)) w.heap.size 0 (fun _ => 0) := ⟨_, World.ownsMap_made _ _ _ _, fun _ _ => rfl⟩
theorem MapF.look {w : World} {ops : Array Oper} {rest : List Oper} {o : Oper} {a : Act} {Q : Exit → Act → World → Prop} {b n : Nat} {f : Int → Int} (h : MapF w b n f) (hg : o.guard = none) (m x : Operand) (hop : o.op = Op.lookup 29 m x false)
    (k : Int) (hm : a.eval m = .map (some b)) (hx : a.eval x = .int .i64 k) (hk : (Lit.int .i64 k).wf = true) (v : Int) (hv : f k = v) (hK : wpList Try.prog ops Q rest (a.put o.dst (.int .i64 v)) w) : wpList Try.prog ops Q (o :: rest) a w := by
  subst hv
  obtain ⟨D, hD, hf⟩ := h
  refine wpList_lookup_own_int w hg m x 29 hop 3 3 .i64 lawI Try.underlying29 Try.underlying3 (zeroI w) b n D hm hD (.int .i64 k) (.int .i64 k) hx (keyOf_int_mk Try.underlying3 hk) (fun c hc _ => ?_)
  rw [hf k hk] at hc
  have : f k = c := by simpa using hc
  rw [← this]; exact hK
/-- f, turned at x. -/
def setF (f : Int → Int) (x v : Int) : Int → Int := fun y => if y = x then v else f y
theorem MapF.put {w : World} {ops : Array Oper} {rest : List Oper} {o : Oper} {a : Act} {Q : Exit → Act → World → Prop} {b n : Nat} {f : Int → Int} (h : MapF w b n f) (hg : o.guard = none) (m x y : Operand) (hop : o.op = Op.mapUpdate 29 m x y)
    (k v : Int) (hm : a.eval m = .map (some b)) (hx : a.eval x = .int .i64 k) (hy : a.eval y = .int .i64 v) (hk : (Lit.int .i64 k).wf = true) (hv : (Lit.int .i64 v).wf = true) (hn : n < 1000000)
    (hK : ∀ w', MapF w' b (n + 1) (setF f k v) → w.grownBy w' (some b) → wpList Try.prog ops Q rest (a.put o.dst undef) w') : wpList Try.prog ops Q (o :: rest) a w := by
  obtain ⟨D, hD, hf⟩ := h
  refine wpList_mapUpdate_own w hg m x y 29 hop 3 3 lawI Try.underlying29 _ b n D hm hD (by unfold maxLen; omega) (.int .i64 k) (.int .i64 v) (.int .i64 k) hx hy (keyOf_int_mk Try.underlying3 hk) _ [] (plainElem_int Try.underlying3 hv) (fun w' h1 h2 => hK w' ⟨_, h1, fun z hz => ?_⟩ h2)
  unfold setF
  split
  · rename_i e; subst e
    exact atKey_put_same hD.isMap (by trivial) _ _
  · rename_i hne
    rw [atKey_put_other (fun e => hne (by simpa using e))]
    exact hf z hz
theorem MapF.kept {w w' : World} {b n : Nat} {f : Int → Int} {row : Option Nat} (h : MapF w b n f) (hg : w.grownBy w' row) (hne : some b ≠ row) : MapF w' b n f := by
  obtain ⟨D, hD, hf⟩ := h
  exact ⟨D, hD.kept hg hne, hf⟩
/-- How often a number comes. -/
def cntF (l : List Int) : Int → Int := fun y => (l.count y : Int)
theorem cntF_snoc (l : List Int) (x : Int) : setF (cntF l) x (cntF l x + 1) = cntF (l ++ [x]) := by
  funext y
  unfold setF cntF
  rw [List.count_append]
  split
  · rename_i e; subst e; simp
  · rename_i hne
    rw [List.count_singleton]
    have : ¬ x = y := fun e => hne e.symm
    simp [this]
theorem wf_of_small {n : Int} (h0 : 0 ≤ n) (h1 : n ≤ 1000000) : (Lit.int .i64 n).wf = true := by
  simp [Lit.wf, IntKind.min, IntKind.max, IntKind.signed, IntKind.bits]; omega
set_option maxHeartbeats 4000000 in
set_option maxRecDepth 100000 in
theorem T.count (A : Option Addr) (c : Nat) (l : List Int) (w : World) (hS : SrcA w A l) (hw : ∀ x ∈ l, (Lit.int .i64 x).wf = true) (hl : l.length ≤ 1000) :
    Calls Try.prog 12 #[.slice A l.length c] w fun e w' => e = .returned (.map (some w.heap.size)) ∧ MapF w' w.heap.size l.length (cntF l) ∧ Below w.heap.size w w' := by
  obtain ⟨n, hn⟩ : ∃ n, n = l.length := ⟨_, rfl⟩
  rw [← hn] at hl ⊢
  have HN := Aside.mk hn
  have HS := Aside.mk hS
  have HW := Aside.mk hw
  have hmm := @run_makeMap Try.prog
  have hnm : n ≤ 9223372036854775807 := by omega
  clear hn hS hw
  go_enter Try.func12, Try.ntmps12
  go_wp2
  go_loopg [5, 9] n (fun kq v5 v9 wr => ∃ k : Nat, k + kq = n ∧ v9 = .int .i64 (k : Int) ∧ Aside (MapF wr w.heap.size k (cntF (l.take k))) ∧ Aside (Below w.heap.size w wr))
  case atStart => exact ⟨0, by omega, rfl, ⟨by rw [List.take_zero]; exact MapF.made w⟩, ⟨(Below.refl _ _).alloc (Nat.le_refl _) _⟩⟩
  case round =>
    obtain ⟨k, hk, rfl, hM, hB⟩ := hrel
    have HK := Aside.mk hk
    by_cases hlt : k < n
    · obtain ⟨x, hx⟩ : ∃ x, l[k]? = some x := ⟨_, List.getElem?_eq_getElem (by rw [← HN.out]; exact hlt)⟩
      obtain ⟨a, rfl, h1⟩ := (HS.out.below hB.out) k x hx
      have hxw := Aside.mk (HW.out x (List.mem_of_getElem? hx))
      have hc0 : 0 ≤ cntF (l.take k) x := by unfold cntF; omega
      have hc1 : cntF (l.take k) x ≤ 1000 := by
        unfold cntF
        have h1 := List.count_le_length (a := x) (l := l.take k)
        rw [List.length_take] at h1
        omega
      have hst := Aside.mk (show setF (cntF (l.take k)) x (cntF (l.take k) x + 1) = cntF (l.take (k + 1)) from by
        rw [cntF_snoc, List.take_add_one, hx]; rfl)
      have hlt' := Aside.mk hlt
      obtain ⟨cv, hcv⟩ : ∃ cv, cntF (l.take k) x = cv := ⟨_, rfl⟩
      rw [hcv] at hc0 hc1 hst
      have HCV := Aside.mk hcv
      have hwf := Aside.mk (wf_of_small (n := cv + 1) (by omega) (by omega))
      have hkb : k ≤ 1000 := by omega
      clear hx hk hcv
      go_wp2_with (first | (at_lookup; refine hM.out.look rfl _ _ rfl x rfl rfl hxw.out cv HCV.out ?_) | (at_mapUpdate; refine hM.out.put rfl _ _ _ rfl x (cv + 1) rfl rfl rfl hxw.out hwf.out (by omega) ?_; intro w1 h1 hg1; rw [hst.out] at h1; have H1 := Aside.mk h1; have HG1 := Aside.mk hg1; clear h1 hg1))
      go_roundg (gk - 1)
      case measure => have := HK.out; have := hlt'.out; omega
      case rel => exact ⟨k + 1, by have := HK.out; have := hlt'.out; omega, by go_num, H1, ⟨hB.out.grown HG1.out hB.out.size (fun j e => by have := Option.some.inj e; omega)⟩⟩
    · have hke : k = n := by omega
      clear hlt hk
      subst hke
      go_wp2
      go_ret
      exact ⟨rfl, by have := hM.out; rwa [HN.out, List.take_length, ← HN.out] at this, hB.out⟩
end Go.Proofs.Ytmlnjelhiemlpaa

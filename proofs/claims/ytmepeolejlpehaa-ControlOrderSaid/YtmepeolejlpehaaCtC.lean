/- The asker's map and next. Conditions: where the asker and the map lie. -/
import Derived.Test.YtmepeolejlpehaaConf
import Derived.Maps.OwnSet
namespace Go.Proofs.Ytmepeolejlpehaa
open Go.RowKit Go.Maps Go.Proofs.YtmepeolejlpehaaW.PrintWords Go.Proofs.YtmepeolejlpehaaW.PrintLast Go.Proofs.YtmepeolejlpehaaW.PrintMore
theorem lawI : Keyed Try.prog 3 := int_keyed Try.underlying3
theorem zeroI (w : World) : (zeroValue 3).run Try.prog w = .ok (.int .i64 0) w := by kernel_rfl
/-- Block b is a map of at most n entries that reads as f. -/
def MapF (w : World) (b n : Nat) (f : Int → Int) : Prop := ∃ D : DataW Unit, w.ownsMap Try.prog 3 (plainElem Try.prog 3) b n D ∧ ∀ x, (Lit.int .i64 x).wf = true → D.atKey (.int .i64 x) (.lit (.int .i64 0)) = .lit (.int .i64 (f x))
theorem MapF.made (w : World) : MapF (w.alloc (.map #[] 0)) w.heap.size 0 (fun _ => 0) := ⟨_, World.ownsMap_made _ _ _ _, fun _ _ => rfl⟩
/-- f, turned at x. -/
def setF (f : Int → Int) (x v : Int) : Int → Int := fun y => if y = x then v else f y
theorem MapF.put {w : World} {ops : Array Oper} {rest : List Oper} {o : Oper} {a : Act} {Q : Exit → Act → World → Prop} {b n : Nat} {f : Int → Int} (h : MapF w b n f) (hg : o.guard = none) (m x y : Operand) (hop : o.op = Op.mapUpdate 75 m x y)
    (k v : Int) (hm : a.eval m = .map (some b)) (hx : a.eval x = .int .i64 k) (hy : a.eval y = .int .i64 v) (hk : (Lit.int .i64 k).wf = true) (hv : (Lit.int .i64 v).wf = true) (hn : n < 1000000)
    (hK : ∀ w', MapF w' b (n + 1) (setF f k v) → w.grownBy w' (some b) → wpList Try.prog ops Q rest (a.put o.dst undef) w') : wpList Try.prog ops Q (o :: rest) a w := by
  obtain ⟨D, hD, hf⟩ := h
  refine wpList_mapUpdate_own w hg m x y 75 hop 3 3 lawI Try.underlying75 _ b n D hm hD (by unfold maxLen; omega) (.int .i64 k) (.int .i64 v) (.int .i64 k) hx hy (keyOf_int_mk Try.underlying3 hk) _ [] (plainElem_int Try.underlying3 hv) (fun w' h1 h2 => hK w' ⟨_, h1, fun z hz => ?_⟩ h2)
  unfold setF
  split
  · rename_i e; subst e
    exact atKey_put_same hD.isMap (by trivial) _ _
  · rename_i hne
    rw [atKey_put_other (fun e => hne (by simpa using e))]
    exact hf z hz
theorem MapF.run {w : World} {b n : Nat} {f : Int → Int} (h : MapF w b n f) (k : Int) (hk : (Lit.int .i64 k).wf = true) (v : Int) (hv : f k = v) : (Instr.lookup 75 (.map (some b)) (.int .i64 k) false).run Try.prog w = .ok (.int .i64 v) w := by
  subst hv
  obtain ⟨D, hD, hf⟩ := h
  obtain ⟨c, hrun, hc, _⟩ := hD.lookup_int lawI Try.underlying75 Try.underlying3 (zeroI w) (keyOf_int_mk Try.underlying3 hk)
  rw [hf k hk] at hc
  have : f k = c := by simpa using hc
  rw [this]; exact hrun
theorem MapF.move {w w' : World} {b n : Nat} {f : Int → Int} (h : MapF w b n f) (hb : w'.heap[b]? = w.heap[b]?) : MapF w' b n f := by
  obtain ⟨D, ⟨es, cl, h1, h2⟩, hf⟩ := h
  exact ⟨D, ⟨es, cl, hb.trans h1, h2⟩, hf⟩
theorem MapF.lt {w : World} {b n : Nat} {f : Int → Int} (h : MapF w b n f) : b < w.heap.size := by
  obtain ⟨D, hD, _⟩ := h
  exact hD.lt
theorem wf_small {n : Int} (h0 : -1000000 ≤ n) (h1 : n ≤ 1000000) : (Lit.int .i64 n).wf = true := by
  simp [Lit.wf, IntKind.min, IntKind.max, IntKind.signed, IntKind.bits]; omega
/-- The asker and its map; its numbers in their bounds. -/
structure AK (w : World) (P M : Nat) (n : Nat) (s : AS) : Prop where
  at' : AP w P M s
  map : ∃ f, MapF w M n f
  hid : 1 ≤ s.id ∧ s.id ≤ 1099511627776
  hnodes : 1 ≤ s.nodes ∧ s.nodes ≤ 5
  hretry : 1 ≤ s.retry ∧ s.retry ≤ 1000
  hnum : 0 ≤ s.num ∧ s.num ≤ 90000
  hgroup : 0 ≤ s.group ∧ s.group ≤ 6
  hwaited : 0 ≤ s.waited ∧ s.waited ≤ 1000
theorem AK.ne {w : World} {P M n : Nat} {s : AS} (h : AK w P M n s) : P ≠ M := fun e => by
  obtain ⟨f, D, ⟨es, cl, h1, _⟩, _⟩ := h.map
  have := h.at'
  unfold AP at this
  rw [e, h1] at this
  cases this
theorem AK.of_fc {w w' : World} {P M n : Nat} {s : AS} {S : List Nat} (h : AK w P M n s) (f : FC S w w') (hP : P ∉ S) (hM : M ∉ S) : AK w' P M n s := by
  obtain ⟨g, hg⟩ := h.map
  exact ⟨(f.block P (Array.getElem?_eq_some_iff.1 h.at').1 hP).trans h.at', ⟨g, hg.move (f.block M hg.lt hM)⟩, h.hid, h.hnodes, h.hretry, h.hnum, h.hgroup, h.hwaited⟩
set_option maxHeartbeats 4000000 in
set_option maxRecDepth 100000 in
theorem T.next (P M n : Nat) (s : AS) (w : World) (h : AK w P M n s) (hn : n ≤ 100000) : Calls Try.prog 24 #[.pointer (some ⟨P, 0, none⟩)] w fun e w' => e = .returned (.tuple #[]) ∧ AK w' P M (n + 1) s ∧ FC [M] w w' := by
  obtain ⟨f, hf⟩ := h.map
  have hne := h.ne
  have e9 : w.cell? ⟨P, 27, none⟩ = some (.map (some M)) := h.at'.cell 27
  have e4 : w.cell? ⟨P, 4, none⟩ = some (.int .i64 s.group) := h.at'.cell 4
  have e1 : w.cell? ⟨P, 1, none⟩ = some (.int .i64 s.nodes) := h.at'.cell 1
  have hgw := Aside.mk (wf_small (n := s.group) (by have := h.hgroup; omega) (by have := h.hgroup; omega))
  obtain ⟨v, hv⟩ : ∃ v, f s.group = v := ⟨_, rfl⟩
  have hlk := MapF.run (w := w.drew) (hf.move rfl) s.group hgw.out v hv
  obtain ⟨q, hq⟩ : ∃ q, IntKind.i64.wrap (v + 1) = q := ⟨_, rfl⟩
  obtain ⟨r, hr⟩ : ∃ r, q.tmod s.nodes = r := ⟨_, rfl⟩
  have hr1 : -s.nodes < r ∧ r < s.nodes := by rw [← hr]; have := h.hnodes; exact ⟨Int.lt_tmod_of_pos q (by omega), Int.tmod_lt_of_pos q (by omega)⟩
  have hrw := Aside.mk (wf_small (n := r) (by have := h.hnodes; omega) (by have := h.hnodes; omega))
  have hn0 : ¬ s.nodes = 0 := by have := h.hnodes; omega
  have hnb : s.nodes ≤ 5 ∧ 1 ≤ s.nodes := by have := h.hnodes; omega
  have H := Aside.mk h
  have HF := Aside.mk hf
  clear h hf hv hr1
  go_enter Try.func24, Try.ntmps24
  refine still_tail 23 (by kernel_rfl) (by decide +kernel) ?_
  simp only [List.take_succ_cons, List.take_zero, List.drop_succ_cons, List.drop_zero]
  repeat still_step
  refine wpStill_nil ?_
  refine MapF.put (w := w.drew) (HF.out.move rfl) rfl (.tmp 5) (.tmp 9) (.tmp 24) rfl s.group r rfl rfl rfl hgw.out hrw.out (by omega) ?_
  intro w2 h2 hg2
  have hA2 : AP w2 P M s := (hg2.block P (Array.getElem?_eq_some_iff.1 H.out.at').1 (fun e => hne (Option.some.inj e))).trans H.out.at'
  have HA2 := Aside.mk hA2
  have HM2 := Aside.mk h2
  have HG2 := Aside.mk hg2
  clear hA2 h2 hg2
  go_wp2
  go_end0
  exact ⟨rfl, ⟨HA2.out, ⟨_, HM2.out⟩, H.out.hid, H.out.hnodes, H.out.hretry, H.out.hnum, H.out.hgroup, H.out.hwaited⟩, ⟨HG2.out.os, HG2.out.tape, HG2.out.output, HG2.out.size, fun k hk hn => HG2.out.block k hk (fun e => hn (by simp [Option.some.inj e]))⟩⟩
end Go.Proofs.Ytmepeolejlpehaa

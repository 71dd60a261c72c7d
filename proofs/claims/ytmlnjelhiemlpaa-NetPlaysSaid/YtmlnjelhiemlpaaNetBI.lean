/- Contracts of All, of what it hands back, and of Get. Conditions: where the bag lies, sizes. -/
import Derived.Test.YtmlnjelhiemlpaaNetAI
import Derived.Test.YtmlnjelhiemlpaaShelf
import Derived.RangeFuncNested
import Derived.RangeFuncBound
import Derived.RangeFuncCalls
import Derived.RangeFuncLeaves
import Derived.RangeFuncFrom
import Derived.Shelf.Abstract
import Derived.Shelf.RegionOpen
import Derived.OwnWalkIn
import Derived.TacticsInMore
import Derived.LoopNIn
import Derived.LoopIn
namespace Go.Proofs.Ytmlnjelhiemlpaa
open Go.RowKit Go.Shelf Go.Proofs.YtmlnjelhiemlpaaW.PrintWords Go.Proofs.YtmlnjelhiemlpaaW.PrintLast Go.Proofs.YtmlnjelhiemlpaaW.PrintMore
attribute [local go_sem] Oper.semAt_some
/-- slices.Clone: the same things in a row of the call's own. -/
theorem T.CloneI (A : Option Addr) (c base : Nat) (l : List Int) (w : World) (h : RowI w base (.slice A l.length c) l) (hl : l.length ≤ 1000000) :
    Calls Try.prog 37 #[.slice A l.length c] w fun e w' => ∃ v, e = .returned v ∧ RowI w' w.heap.size v l ∧ Below w.heap.size w w' := by
  rcases h.slice with ⟨he, rfl⟩ | ⟨g, c', cur, he, _, hc, _, _, hS⟩
  · obtain ⟨rfl, rfl⟩ : A = none ∧ c = 0 := by simpa using he
    refine (Try.slices_Clone_nil_f37 _ _ w).mono ?_
    rintro e w' ⟨rfl, rfl⟩
    exact ⟨_, rfl, RowI.nil _ _, Below.refl _ _⟩
  · obtain ⟨rfl, rfl⟩ : A = some ⟨g, 0, none⟩ ∧ c = c' := by simpa using he
    obtain ⟨i0, hi0, hp0⟩ := Option.map_eq_some_iff.1 infoI
    simp only [Prod.mk.injEq] at hp0
    obtain ⟨hz0, hz1, hz2⟩ := hp0
    refine (Try.slices_Clone_f37 i0 (.int .i64 0) 1 8 hi0 hz0 hz1 hz2 rfl (by decide) Try.sizeOf3 g 0 l.length c (l.map (Value.int .i64)) w (by simp) (by unfold maxLen; omega) (by omega) (fun j u hu => ?_) (fun u hu => by obtain ⟨x, _, rfl⟩ := List.mem_map.1 hu; rfl)).mono ?_
    · rw [List.getElem?_map] at hu
      obtain ⟨x, hx, rfl⟩ := Option.map_eq_some_iff.1 hu
      obtain ⟨b, o, he2, hcl⟩ := hS j x hx
      obtain ⟨rfl, rfl⟩ : g = b ∧ 0 = o := by simpa using he2
      exact hcl
    · rintro e w' ⟨v, rfl, h1, _, h2⟩
      exact ⟨v, rfl, h1, h2⟩
theorem T.AllI (p : Option Addr) (w : World) : Calls Try.prog 18 #[.pointer p] w fun e w' => e = .returned (.func (.func 36) #[] #[.pointer (some ⟨w.heap.size, 0, none⟩)]) ∧ w' = w.alloc (.cells #[.pointer p] 38) := by
  go_enter Try.func18, Try.ntmps18
  go_wp2
  go_ret
  exact ⟨rfl, rfl⟩
/-- The first k things with their places. -/
def enumI (l : List Int) (k : Nat) : List (Nat × Int) := (List.range k).map fun j => (j, l[j]?.getD 0)
theorem enumI_succ (l : List Int) (k : Nat) : enumI l (k + 1) = enumI l k ++ [(k, l[k]?.getD 0)] := by simp [enumI, List.range_succ]
theorem enumI_length (l : List Int) (k : Nat) : (enumI l k).length = k := by simp [enumI]
theorem AllBagI (n : Nat) (hn : 1 ≤ n) (l Bn H base : Nat) (v : Value) (L : List Int) (hL : L.length ≤ 1000000) (J Jx : List (Nat × Int) → World → Prop)
    (hY : ∀ pre x W, J pre W → pre.length < L.length → YieldAt Fence.wide (n - 1) Try.prog l #[.int .i64 (x.1 : Nat), (Value.int .i64) x.2] W fun e W' =>
      (e = .returned (.bool true) ∧ J (pre ++ [x]) W' ∧ KC W W') ∨ (e = .returned (.bool false) ∧ Jx (pre ++ [x]) W'))
    (W : World) (hJa : AbidesFrom W.heap.size J) (hBn : W.cell? ⟨Bn, 0, none⟩ = some (.pointer (some ⟨H, 0, none⟩))) (hB : BagI W H base v L) (h0 : J [] W) :
    CallsIn Fence.wide n Try.prog 36 #[.func (.yield l) #[] #[], .pointer (some ⟨Bn, 0, none⟩)] W fun e W' => (∃ v, e = .returned v) ∧
      ((∃ ys, ys = enumI L L.length ∧ J ys W') ∨ (∃ pre, (∃ k, k ≤ L.length ∧ pre = enumI L k) ∧ Jx pre W')) := by
  have hc := hB.cell
  obtain ⟨A, nn, c, rfl, hnn⟩ := hB.2.1.shape
  subst hnn
  have HB := Aside.mk hB
  have HL := Aside.mk hL
  have hlm : L.length ≤ 9223372036854775807 := by omega
  clear hB hL
  refine callsIn_of_wp Try.func36 rfl trivial ?_ rfl
  simp only [Try.ntmps36, List.size_toArray, List.length_cons, List.length_nil, Nat.reduceAdd, Nat.reduceSub, Array.replicate_succ, Array.replicate_zero, List.push_toArray, List.append_toArray, List.nil_append, List.cons_append]
  gi_wp2_with (refine ⟨trivial, ?_⟩; gi_at_call 37; refine (callsIn_wide.2 (T.CloneI A c base L W HB.out.2.1 HL.out)).mono ?_; rintro e W2 ⟨v2, rfl, hr2, hb2⟩; obtain ⟨A2, nn2, c2, rfl, hnn2⟩ := hr2.shape; subst hnn2; have HR2 := Aside.mk hr2; have HJ2 := Aside.mk (hJa [] W W2 none h0 ⟨hb2.os, hb2.tape, hb2.output, hb2.size, fun k hk _ => hb2.block k hk⟩ (fun r e => by cases e)); clear hr2 hb2)
  clear h0 hc hBn HB
  gi_loopw [13] (fun i wr => ∃ k : Nat, k ≤ L.length ∧ i = .int .i64 k ∧ J (enumI L k) wr ∧ Aside (KC W2 wr))
    (fun i _ => L.length - (intOf i).toNat)
  case atStart => exact ⟨0, Nat.zero_le _, rfl, HJ2.out, ⟨KC.refl _⟩⟩
  case round =>
    obtain ⟨k, hk, rfl, hJs, hK⟩ := hrel
    by_cases hlt : k < L.length
    · rcases HR2.out.slice with ⟨_, h2⟩ | ⟨g, c3, cur, he, _, hc3, _, hh, hS⟩
      · rw [h2] at hlt; exact absurd hlt (by simp)
      · obtain ⟨rfl, rfl⟩ : A2 = some ⟨g, 0, none⟩ ∧ c2 = c3 := by simpa using he
        obtain ⟨x, hx⟩ : ∃ x, L[k]? = some x := ⟨_, List.getElem?_eq_getElem hlt⟩
        have hcx : wr.cell? ⟨g, k, none⟩ = some ((Value.int .i64) x) := by
          obtain ⟨b, o, he2, hcl⟩ := hS k x hx
          obtain ⟨rfl, rfl⟩ : g = b ∧ 0 = o := by simpa using he2
          rw [Nat.zero_add] at hcl
          rw [← hcl]
          exact World.cell?_of_block (a := ⟨g, k, none⟩) ((hK.out.2 g _ _ _ hh).trans hh.symm)
        have hsu := Aside.mk (show enumI L (k + 1) = enumI L k ++ [(k, x)] from by rw [enumI_succ, hx]; rfl)
        obtain ⟨fn, tmps, assign, body, hy, hR⟩ := hY _ (k, x) wr hJs (by rw [enumI_length]; exact hlt)
        dsimp only at hy
        clear he hc3 hh hS hx HJ2
        gi_wp2
        refine hR.mono ?_
        rintro e W3 (⟨rfl, hJ3, hk3⟩ | ⟨rfl, hJx3⟩)
        · have HK3 := Aside.mk (hK.out.trans hk3)
          clear hk3
          gi_wp2
          go_roundw
          case rel => exact ⟨k + 1, by omega, by simp, by rw [hsu.out]; exact hJ3, HK3⟩
          case measure => simp [intOf]; omega
        · gi_wp2
          refine bodyPost_ret (results_none rfl _ _ _) rfl ?_
          exact ⟨⟨_, rfl⟩, .inr ⟨_, ⟨k + 1, by omega, hsu.out.symm⟩, hJx3⟩⟩
    · obtain rfl : k = L.length := by omega
      gi_wp2
      go_end0
      exact ⟨⟨_, rfl⟩, .inl ⟨_, rfl, hJs⟩⟩
theorem AllNilI (n : Nat) (l Bn : Nat) (J : List (Nat × Int) → World → Prop) (W : World) (hBn : W.cell? ⟨Bn, 0, none⟩ = some (.pointer none)) (h0 : J [] W) :
    CallsIn Fence.wide n Try.prog 36 #[.func (.yield l) #[] #[], .pointer (some ⟨Bn, 0, none⟩)] W fun e W' => (∃ v, e = .returned v) ∧ J [] W' := by
  refine callsIn_of_wp Try.func36 rfl trivial ?_ rfl
  simp only [Try.ntmps36, List.size_toArray, List.length_cons, List.length_nil, Nat.reduceAdd, Nat.reduceSub, Array.replicate_succ, Array.replicate_zero, List.push_toArray, List.append_toArray, List.nil_append, List.cons_append]
  gi_wp2
  refine bodyPost_ret (results_none rfl _ _ _) rfl ?_
  exact ⟨⟨_, rfl⟩, h0⟩
/-- What a pointer to a bag holds: a bag, or nil and nothing. -/
def PBagI (w : World) (p : Option Addr) (base : Nat) (v : Value) (l : List Int) : Prop := (p = none ∧ l = []) ∨ ∃ H, p = some ⟨H, 0, none⟩ ∧ BagI w H base v l
theorem PBagI.below {w w' : World} {p : Option Addr} {base : Nat} {v : Value} {l : List Int} (h : PBagI w p base v l) (hb : Below w.heap.size w w') : PBagI w' p base v l := by
  rcases h with h | ⟨H, e, h⟩
  · exact .inl h
  · exact .inr ⟨H, e, h.below hb⟩
theorem AllStopsI (n : Nat) (hn : 1 ≤ n) (Bn base : Nat) (p : Option Addr) (v : Value) (L : List Int) (hL : L.length ≤ 1000000) (w : World) (hBs : Bn < w.heap.size) (hc : w.cell? ⟨Bn, 0, none⟩ = some (.pointer p)) (hB : PBagI w p base v L) :
    SeqStopsK Fence.wide n Try.prog 36 #[.pointer (some ⟨Bn, 0, none⟩)] (fun x : Nat × Int => #[.int .i64 (x.1 : Nat), (Value.int .i64) x.2]) KC (fun ys => ys = enumI L L.length) (fun pre => ∃ k, k ≤ L.length ∧ pre = enumI L k) L.length w := fun l J Jx W hW hJa _ hY h0 => by
  have hc' := (hW.cell (p := ⟨Bn, 0, none⟩) hBs).trans hc
  rcases hB with ⟨rfl, rfl⟩ | ⟨H, rfl, hB⟩
  · exact (AllNilI n l Bn J W hc' h0).mono fun e W' ⟨he, hj⟩ => ⟨he, .inl ⟨_, rfl, hj⟩⟩
  · refine (AllBagI n hn l Bn H base v L hL J Jx hY W hJa hc' (hB.below hW) h0).mono ?_
    rintro e W' ⟨he, ⟨ys, h1, hj⟩ | ⟨pre, h1, hj⟩⟩
    · exact ⟨he, .inl ⟨ys, h1, hj⟩⟩
    · exact ⟨he, .inr ⟨pre, h1, hj⟩⟩
/-- What Get answers. -/
def getVI (L : List Int) (i : Int) : Int × Bool := if 0 ≤ i then (match L[i.toNat]? with | some x => (x, true) | none => (0, false)) else (0, false)
theorem get_of_enumI {L : List Int} {k : Nat} {x : Nat × Int} {i : Int} (hk : k ≤ L.length) (hx : x ∈ enumI L k) (hi : ((x.1 : Nat) : Int) = i) : getVI L i = (x.2, true) := by
  unfold enumI at hx
  obtain ⟨j, hj, rfl⟩ := List.mem_map.1 hx
  rw [List.mem_range] at hj
  dsimp only at hi
  subst hi
  unfold getVI
  rw [if_pos (by omega), Int.toNat_natCast, List.getElem?_eq_getElem (by omega)]
  rfl
theorem get_noneI {L : List Int} {i : Int} (h : ∀ y ∈ enumI L L.length, ((y.1 : Nat) : Int) ≠ i) : getVI L i = (0, false) := by
  unfold getVI
  split
  · rename_i h0
    cases hg : L[i.toNat]? with
    | none => rfl
    | some x =>
      have hlt := (List.getElem?_eq_some_iff.1 hg).1
      exact absurd (show (((i.toNat : Nat)) : Int) = i by omega) (h (i.toNat, L[i.toNat]?.getD 0) (List.mem_map.2 ⟨i.toNat, List.mem_range.2 hlt, rfl⟩))
  · rfl
set_option maxRecDepth 100000 in
set_option maxHeartbeats 2000000 in
theorem T.GetI (p : Option Addr) (base : Nat) (v : Value) (L : List Int) (i : Int) (w : World) (hL : L.length ≤ 1000000) (hB : PBagI w p base v L) :
    Calls Try.prog 26 #[.pointer p, .int .i64 i] w fun e W' => e = .returned (.tuple #[(Value.int .i64) (getVI L i).1, .bool (getVI L i).2]) ∧ Below w.heap.size w W' := by
  refine (callsIn_wide (n := 5)).1 ?_
  refine callsIn_of_wp_marks Try.func26 rfl trivial ?_ rfl
  simp only [Try.ntmps26, List.size_toArray, List.length_cons, List.length_nil, Nat.reduceAdd, Nat.reduceSub, Array.replicate_succ, Array.replicate_zero, List.push_toArray, List.append_toArray, List.nil_append, List.cons_append]
  gi_wp2_with (refine ⟨trivial, ?_⟩; gi_at_call 18; refine (callsIn_wide.2 (T.AllI p _)).mono ?_; rintro e w' ⟨rfl, rfl⟩)
  have c0 := cell_new_l w (.int .i64 i) 3
  have c1 := cell_new_l (w.alloc (.cells #[.int .i64 i] 3)) (.int .i64 0) 3
  have c2 := cell_new_l ((w.alloc (.cells #[.int .i64 i] 3)).alloc (.cells #[.int .i64 0] 3)) (.bool false) 4
  have c3 := cell_new_l (((w.alloc (.cells #[.int .i64 i] 3)).alloc (.cells #[.int .i64 0] 3)).alloc (.cells #[.bool false] 4)) (.pointer p) 38
  simp only [World.size_alloc] at c1 c2 c3
  have hB0 : Below w.heap.size w ((((w.alloc (.cells #[.int .i64 i] 3)).alloc (.cells #[.int .i64 0] 3)).alloc (.cells #[.bool false] 4)).alloc (.cells #[.pointer p] 38)) := ((((Below.refl _ w).alloc (Nat.le_refl _) _).alloc (by simp) _).alloc (by simp; omega) _).alloc (by simp; omega) _
  refine wpIn_rangeFunc_ownF rfl (by decide) (gf := 36) (lb := #[.pointer (some ⟨w.heap.size + 1 + 1 + 1, 0, none⟩)]) rfl trivial (enters_of Try.func36 (by kernel_rfl) rfl)
    (AllStopsI _ (by decide) (w.heap.size + 1 + 1 + 1) base p v L hL _ (by simp) c3.1 (hB.below hB0)) KC.trans (KC.put _) (Below.refl _ _) (fun _ => rfl)
    (fun pre W => ((∀ y ∈ pre, ((y.1 : Nat) : Int) ≠ i) ∧ W.cell? ⟨w.heap.size, 0, none⟩ = some (.int .i64 i) ∧ (W.cell? ⟨w.heap.size + 1, 0, none⟩ = some (.int .i64 0) ∧ W.frozen? ⟨w.heap.size + 1, 0, none⟩ = false) ∧ W.cell? ⟨w.heap.size + 1 + 1, 0, none⟩ = some (.bool false) ∧ W.frozen? ⟨w.heap.size + 1 + 1, 0, none⟩ = false) ∧ Below w.heap.size w W)
    (fun c pre W => (c = .ret ∧ ∃ x : Nat × Int, x ∈ pre ∧ ((x.1 : Nat) : Int) = i ∧ W.cell? ⟨w.heap.size + 1, 0, none⟩ = some ((Value.int .i64) x.2) ∧ W.cell? ⟨w.heap.size + 1 + 1, 0, none⟩ = some (.bool true)) ∧ Below w.heap.size w W)
    (OwnFrom.and (Own.from (fun s A B row hs hg hr => ⟨hs.1, cell_kept hs.2.1 hg hr, ⟨cell_kept hs.2.2.1.1 hg hr, (frozen_kept hs.2.2.1.1 hg hr).trans hs.2.2.1.2⟩, cell_kept hs.2.2.2.1 hg hr, (frozen_kept hs.2.2.2.1 hg hr).trans hs.2.2.2.2⟩) _) (ownFrom_below (Nat.le_refl _) (by simp; omega)))
    (fun c => OwnFrom.and (Own.from (fun s A B row hs hg hr => by obtain ⟨hc, x, hx, hxi, h1', h2'⟩ := hs; exact ⟨hc, x, hx, hxi, cell_kept h1' hg hr, cell_kept h2' hg hr⟩) _) (ownFrom_below (Nat.le_refl _) (by simp; omega)))
    ⟨⟨by simp, cell_alloc_l _ (cell_alloc_l _ (cell_alloc_l _ c0.1)), ⟨cell_alloc_l _ (cell_alloc_l _ c1.1), frozen_alloc_l _ (cell_alloc_l _ c1.1) (frozen_alloc_l _ c1.1 c1.2)⟩, cell_alloc_l _ c2.1, frozen_alloc_l _ c2.1 c2.2⟩, hB0⟩
    (fun x => { tmps := #[.pointer p, .int .i64 i, undef, .pointer (some ⟨w.heap.size, 0, none⟩), .pointer (some ⟨w.heap.size + 1, 0, none⟩), .pointer (some ⟨w.heap.size + 1 + 1, 0, none⟩), .int .i64 (x.1 : Nat), (Value.int .i64) x.2, undef, .pointer p, .func (.func 36) #[] #[.pointer (some ⟨w.heap.size + 1 + 1 + 1, 0, none⟩)], .int .i64 (x.1 : Nat), (Value.int .i64) x.2, undef, undef, undef, undef, undef], defers := [] }) ?assign ?body ?done ?stop
  case assign =>
    intro l x W K hK
    gi_wp2
    exact hK
  case body =>
    rintro l pre ⟨k, x⟩ W ⟨⟨hp, hcw, ⟨hck, hfk⟩, hcb, hfb⟩, hB⟩ _
    gi_wp2
    · rename_i hx
      have hki : ((k : Nat) : Int) = i := eq_of_beq hx
      have hb1 : (W.setCell ⟨w.heap.size + 1, 0, none⟩ ((Value.int .i64) x)).cell? ⟨w.heap.size + 1 + 1, 0, none⟩ = some (.bool false) := (World.cell?_of_block (Below.heap_setCell W ⟨w.heap.size + 1, 0, none⟩ _ (w.heap.size + 1 + 1) (by show w.heap.size + 1 + 1 ≠ w.heap.size + 1; omega))).trans hcb
      exact ⟨(KeepsOthers.setCell _ _ _).trans (KeepsOthers.setCell _ _ _), ⟨rfl, (k, x), List.mem_append.2 (.inr (by simp)), hki,
        (World.cell?_of_block (Below.heap_setCell _ ⟨w.heap.size + 1 + 1, 0, none⟩ _ (w.heap.size + 1) (by show w.heap.size + 1 ≠ w.heap.size + 1 + 1; omega))).trans (World.cell?_setCell_same' _ _ _ (by rw [hck]; rfl)),
        World.cell?_setCell_same' _ _ _ (by rw [hb1]; rfl)⟩, (hB.setCell (p := ⟨w.heap.size + 1, 0, none⟩) (by simp) _).setCell (p := ⟨w.heap.size + 1 + 1, 0, none⟩) (by simp; omega) _⟩
    · rename_i hx
      exact ⟨KeepsOthers.refl _, KC.refl _, ⟨fun y hy => (List.mem_append.1 hy).elim (hp y) (fun e e' => by simp at e; subst e; simp at e'; subst e'; simp at hx), hcw, ⟨hck, hfk⟩, hcb, hfb⟩, hB⟩
  case done =>
    rintro D xs W hD rfl ⟨⟨hne, _, ⟨hck, hfk⟩, hcb, hfb⟩, hB⟩ hK
    gi_wp2
    have hb1 : (W.setCell ⟨w.heap.size + 1, 0, none⟩ (.int .i64 0)).cell? ⟨w.heap.size + 1 + 1, 0, none⟩ = some (.bool false) := (World.cell?_of_block (Below.heap_setCell W ⟨w.heap.size + 1, 0, none⟩ _ (w.heap.size + 1 + 1) (by show w.heap.size + 1 + 1 ≠ w.heap.size + 1; omega))).trans hcb
    have hK' := ((KeepsOthers.setCell W ⟨w.heap.size + 1, 0, none⟩ (.int .i64 0)).trans (KeepsOthers.setCell _ ⟨w.heap.size + 1 + 1, 0, none⟩ (.bool false))).same D _ hK rfl
    refine ⟨by simp, .inl ⟨_, _, rfl, run_takeDeferred hK', ?_⟩⟩
    have hk5 := Go.cell_kept ((World.cell?_of_block (Below.heap_setCell (W.setCell ⟨w.heap.size + 1, 0, none⟩ (.int .i64 0)) ⟨w.heap.size + 1 + 1, 0, none⟩ (.bool false) (w.heap.size + 1) (by show w.heap.size + 1 ≠ w.heap.size + 1 + 1; omega))).trans (World.cell?_setCell_same' W ⟨w.heap.size + 1, 0, none⟩ (.int .i64 0) (by rw [hck]; rfl))) (grownBy_putObj' _ D (.deferred none)) (fun r e => by cases e; exact ⟨_, hK', rfl⟩)
    have hb5 := Go.cell_kept (World.cell?_setCell_same' (W.setCell ⟨w.heap.size + 1, 0, none⟩ (.int .i64 0)) ⟨w.heap.size + 1 + 1, 0, none⟩ (.bool false) (by rw [hb1]; rfl)) (grownBy_putObj' _ D (.deferred none)) (fun r e => by cases e; exact ⟨_, hK', rfl⟩)
    refine ⟨.tuple #[.int .i64 0, .bool false], ?_, ?_, ((hB.setCell (p := ⟨w.heap.size + 1, 0, none⟩) (by simp) _).setCell (p := ⟨w.heap.size + 1 + 1, 0, none⟩) (by simp; omega) _).trans (belowK_b (w := w) (Nat.le_refl _) _ D _ _ (by simp at hD; omega) hK' rfl rfl)⟩
    · simp [results, Try.f26, go_sem, hk5, hb5]
    · rw [get_noneI hne]
  case stop =>
    rintro D c pre W hD ⟨k, hk, rfl⟩ ⟨⟨rfl, x, hx, hxi, hck, hcb⟩, hB⟩ hK
    gi_wp2
    refine ⟨by simp, .inl ⟨_, _, rfl, run_takeDeferred hK, ?_⟩⟩
    have hk5 := cell_kept hck (grownBy_putObj' _ D (.deferred none)) (fun r e => by cases e; exact ⟨_, hK, rfl⟩)
    have hb5 := cell_kept hcb (grownBy_putObj' _ D (.deferred none)) (fun r e => by cases e; exact ⟨_, hK, rfl⟩)
    refine ⟨.tuple #[(Value.int .i64) x.2, .bool true], ?_, ?_, hB.trans (belowK_b (w := w) (Nat.le_refl _) W D _ _ (by simp at hD; omega) hK rfl rfl)⟩
    · simp [results, Try.f26, go_sem, hk5, hb5]
    · rw [get_of_enumI hk hx hxi]
end Go.Proofs.Ytmlnjelhiemlpaa

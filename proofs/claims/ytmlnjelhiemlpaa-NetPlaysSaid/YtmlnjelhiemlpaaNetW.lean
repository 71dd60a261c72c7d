/- Contracts of At in both readings, and of works (the chapter's example). Conditions: numbers of 64 bits. -/
import Derived.Test.YtmlnjelhiemlpaaNetCI
import Derived.Test.YtmlnjelhiemlpaaNetCS
namespace Go.Proofs.Ytmlnjelhiemlpaa
open Go.RowKit Go.Proofs.YtmlnjelhiemlpaaW.PrintWords Go.Proofs.YtmlnjelhiemlpaaW.PrintLast Go.Proofs.YtmlnjelhiemlpaaW.PrintMore
/-- The place that a number stands for. -/
def atF (n size : Int) : Int := if size < 1 then 0 else n % size
theorem tmod_neg (n size : Int) (hs : 1 ≤ size) (h : n.tmod size < 0) : n.tmod size + size = n % size := by
  have h0 : ¬ 0 ≤ n := fun h0 => by have := Int.tmod_nonneg size h0; omega
  have hd : ¬ size ∣ n := fun hd => by rw [Int.tmod_eq_zero_of_dvd hd] at h; omega
  rw [Int.tmod_eq_emod, if_neg (by rintro (h1 | h1) <;> contradiction)]
  have : (size.natAbs : Int) = size := by omega
  omega
theorem tmod_pos (n size : Int) (hs : 1 ≤ size) (h : ¬ n.tmod size < 0) : n.tmod size = n % size := by
  rw [Int.tmod_eq_emod] at h ⊢
  split
  · simp
  · rename_i hc
    rw [if_neg hc] at h
    have h1 := Int.emod_lt_of_pos n (b := size) (by omega)
    have : (size.natAbs : Int) = size := by omega
    omega
theorem tmod_bd (n size : Int) (hs : 1 ≤ size) : -size < n.tmod size ∧ n.tmod size < size :=
  ⟨Int.lt_tmod_of_pos n (by omega), Int.tmod_lt_of_pos n (by omega)⟩
set_option maxHeartbeats 2000000 in
set_option maxRecDepth 100000 in
theorem T.At (n size : Int) (w : World) (hs1 : size ≤ 9223372036854775807) : Calls Try.prog 8 #[.int .i64 n, .int .i64 size] w fun e w' => e = .returned (.int .i64 (atF n size)) ∧ w' = w := by
  by_cases h : size < 1
  · have e : atF n size = 0 := by unfold atF; rw [if_pos h]
    rw [e]
    clear e
    go_enter Try.func8, Try.ntmps8
    go_wp2
    go_ret
    exact ⟨rfl, rfl⟩
  · have h1 : 1 ≤ size := by omega
    obtain ⟨b1, b2⟩ := tmod_bd n size h1
    have e := Aside.mk (show atF n size = n % size from by unfold atF; rw [if_neg h])
    have hne : ¬ size = 0 := by omega
    have e2 := Aside.mk (fun hr => tmod_neg n size h1 hr)
    have e3 := Aside.mk (fun hr => tmod_pos n size h1 hr)
    obtain ⟨r, ht⟩ : ∃ r, n.tmod size = r := ⟨_, rfl⟩
    rw [ht] at b1 b2 e2 e3
    clear h
    by_cases hr : r < 0
    · have hw : IntKind.i64.wrap (r + size) = r + size := by simp [IntKind.wrap, IntKind.bits, IntKind.signed]; omega
      have e4 := Aside.mk (e2.out hr)
      go_enter Try.func8, Try.ntmps8
      go_wp2
      go_ret
      exact ⟨by rw [e.out, ← e4.out]; rfl, rfl⟩
    · have hr' : 0 ≤ r := by omega
      have e4 := Aside.mk (e3.out hr)
      clear hr
      go_enter Try.func8, Try.ntmps8
      go_wp2
      go_ret
      exact ⟨by rw [e.out, ← e4.out]; rfl, rfl⟩
set_option maxHeartbeats 2000000 in
set_option maxRecDepth 100000 in
theorem T.refAt (n size : Int) (w : World) (hs1 : size ≤ 9223372036854775807) : Calls Try.prog 9 #[.int .i64 n, .int .i64 size] w fun e w' => e = .returned (.int .i64 (atF n size)) ∧ w' = w := by
  by_cases h : size < 1
  · have e : atF n size = 0 := by unfold atF; rw [if_pos h]
    rw [e]
    clear e
    go_enter Try.func9, Try.ntmps9
    go_wp2
    go_ret
    exact ⟨rfl, rfl⟩
  · have h1 : 1 ≤ size := by omega
    obtain ⟨b1, b2⟩ := tmod_bd n size h1
    have e := Aside.mk (show atF n size = n % size from by unfold atF; rw [if_neg h])
    have hne : ¬ size = 0 := by omega
    have e2 := Aside.mk (fun hr => tmod_neg n size h1 hr)
    have e3 := Aside.mk (fun hr => tmod_pos n size h1 hr)
    obtain ⟨r, ht⟩ : ∃ r, n.tmod size = r := ⟨_, rfl⟩
    rw [ht] at b1 b2 e2 e3
    clear h
    by_cases hr : r < 0
    · have hw : IntKind.i64.wrap (r + size) = r + size := by simp [IntKind.wrap, IntKind.bits, IntKind.signed]; omega
      have e4 := Aside.mk (e2.out hr)
      go_enter Try.func9, Try.ntmps9
      go_wp2
      go_ret
      exact ⟨by rw [e.out, ← e4.out]; rfl, rfl⟩
    · have hr' : 0 ≤ r := by omega
      have e4 := Aside.mk (e3.out hr)
      clear hr
      go_enter Try.func9, Try.ntmps9
      go_wp2
      go_ret
      exact ⟨by rw [e.out, ← e4.out]; rfl, rfl⟩
theorem below_fr {n : Nat} {w w1 w2 : World} {H : Nat} {r : Option Nat} (h : Below n w w1) (f : Fr w1 w2 H r) (hr : ∀ k, r = some k → n ≤ k) (hH : n ≤ H := by omega) (hn : n ≤ w.heap.size := by omega) : Below n w w2 :=
  ⟨f.os.trans h.os, f.tape.trans h.tape, f.output.trans h.output, Nat.le_trans h.size f.size, fun k hk => (f.block k (Nat.lt_of_lt_of_le hk (Nat.le_trans hn h.size)) (by omega) (fun e => by have := hr k e; omega)).trans (h.block k hk)⟩
set_option maxHeartbeats 4000000 in
set_option maxRecDepth 100000 in
theorem T.works (w : World) : Calls Try.prog 10 #[] w fun e w' => e = .returned (.bool true) ∧ Below w.heap.size w w' := by
  have hA := T.At (-1) 5
  have hz : ∀ W, (zeroValue 55).run Try.prog W = .ok (.agg #[.slice none 0 0]) W := fun W => by
    have hi : (Try.prog.info? 55).map (·.zero) = some (some (.agg #[.slice none 0 0])) := by kernel_rfl
    obtain ⟨i, h1, h2⟩ := Option.map_eq_some_iff.1 hi
    simp [zeroValue, typeInfo, h1, h2]
  have eA : atF (-1) 5 = 4 := by decide
  rw [eA] at hA
  have HA := Aside.mk hA
  clear hA eA
  go_enter Try.func10, Try.ntmps10
  go_wp2_with fail
  have hb1 : Below w.heap.size w ((w.alloc (.cells #[.slice none 0 0] 55)).alloc (.cells #[.string ⟨#[97]⟩, .string ⟨#[98]⟩, .string ⟨#[99]⟩] 9)) := ((Below.refl _ _).alloc (Nat.le_refl _) _).alloc (by simp) _
  have hbag : BagS ((w.alloc (.cells #[.slice none 0 0] 55)).alloc (.cells #[.string ⟨#[97]⟩, .string ⟨#[98]⟩, .string ⟨#[99]⟩] 9)) w.heap.size (w.heap.size + 1) (.slice none 0 0) [] := ⟨heap_alloc2_old w _ _, RowS.nil _ _, by simp⟩
  have hsrc : SrcS ((w.alloc (.cells #[.slice none 0 0] 55)).alloc (.cells #[.string ⟨#[97]⟩, .string ⟨#[98]⟩, .string ⟨#[99]⟩] 9)) (some ⟨w.heap.size + 1, 0, none⟩) [⟨#[97]⟩, ⟨#[98]⟩, ⟨#[99]⟩] := fun i x hx => ⟨w.heap.size + 1, 0, rfl, by
    rw [Nat.zero_add, cell_of_row _ _ _ _ _ _ (heap_alloc2_new w _ _)]
    match i, hx with
    | 0, hx => simp at hx; subst hx; rfl
    | 1, hx => simp at hx; subst hx; rfl
    | 2, hx => simp at hx; subst hx; rfl⟩
  refine (T.PutS w.heap.size (w.heap.size + 1) _ [] [⟨#[97]⟩, ⟨#[98]⟩, ⟨#[99]⟩] _ 3 3 _ hbag hsrc rfl (by decide)).mono ?_
  rintro e w2 ⟨rfl, v2, h2, f2, _⟩
  have HB2 := Aside.mk (below_fr hb1 f2 (by simp [Value.ownBlock]))
  have H2 := Aside.mk h2
  clear h2 f2 hb1 hbag hsrc
  go_wp2_with fail
  refine (T.TakeInS w.heap.size (w.heap.size + 1) v2 _ 1 ⟨#[98]⟩ w2 (by decide) H2.out rfl).mono ?_
  rintro e w3 ⟨rfl, v3, h3, f3, _⟩
  have HB3 := Aside.mk (below_fr HB2.out f3 (fun k hk => by have := (World.ownsRow.lt H2.out.2.1 k hk).1; omega))
  have H3 := Aside.mk (show BagS w3 w.heap.size (w.heap.size + 1) v3 [⟨#[97]⟩, ⟨#[99]⟩] from h3)
  clear h3 f3 H2 HB2
  go_wp2_with fail
  refine (T.GetS (some ⟨w.heap.size, 0, none⟩) (w.heap.size + 1) v3 [⟨#[97]⟩, ⟨#[99]⟩] 1 w3 (by decide) (.inr ⟨_, rfl, H3.out⟩)).mono ?_
  rw [show getVS [⟨#[97]⟩, ⟨#[99]⟩] 1 = (⟨#[99]⟩, true) from rfl]
  rintro e w4 ⟨rfl, hb4⟩
  have H4 := Aside.mk (H3.out.below hb4)
  have HB4 := Aside.mk (HB3.out.trans (hb4.mono HB3.out.size))
  clear hb4 H3 HB3
  go_wp2_with fail
  refine (T.DoubleInS w.heap.size (w.heap.size + 1) v3 [⟨#[97]⟩, ⟨#[99]⟩] 0 ⟨#[97]⟩ w4 (by decide) H4.out rfl).mono ?_
  rintro e w5 ⟨rfl, v5, h5, f5, _⟩
  have HB5 := Aside.mk (below_fr HB4.out f5 (fun k hk => by have := (World.ownsRow.lt H4.out.2.1 k hk).1; omega))
  have H5 := Aside.mk h5
  clear h5 f5 H4 HB4
  go_wp2_with (first | (go_at_call 33; refine (T.LenS w.heap.size (w.heap.size + 1) v5 _ w5 H5.out).mono ?_; rintro e w' ⟨rfl, hw⟩; subst w') | (go_at_call 8; refine (HA.out _ (by decide)).mono ?_; rintro e w' ⟨rfl, hw⟩; subst w'))
  go_ret
  exact ⟨rfl, HB5.out⟩
end Go.Proofs.Ytmlnjelhiemlpaa

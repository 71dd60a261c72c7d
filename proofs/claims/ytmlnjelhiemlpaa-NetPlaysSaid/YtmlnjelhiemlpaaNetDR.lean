/- The plain reading's bag (package ref): Drop. Conditions: where the bag and its row lie. -/
import Derived.Test.YtmlnjelhiemlpaaNetQ
namespace Go.Proofs.Ytmlnjelhiemlpaa
open Go.RowKit Go.Proofs.YtmlnjelhiemlpaaW.PrintWords Go.Proofs.YtmlnjelhiemlpaaW.PrintLast Go.Proofs.YtmlnjelhiemlpaaW.PrintMore
/-- What a drop leaves. -/
def keptF (k : Int) (l : List Int) : List Int := l.filter (fun x => !decide (atF x 3 = k))
theorem keptF_le (k : Int) (l : List Int) : (keptF k l).length ≤ l.length := List.length_filter_le _ _
theorem keptF_snoc (k : Int) (l : List Int) (x : Int) : keptF k (l ++ [x]) = if atF x 3 = k then keptF k l else keptF k l ++ [x] := by
  unfold keptF
  rw [List.filter_append]
  by_cases h : atF x 3 = k <;> simp [h]
theorem rem3 (x : Int) : (x.tmod 3 + 3).tmod 3 = atF x 3 ∧ -3 < x.tmod 3 ∧ x.tmod 3 < 3 := by
  obtain ⟨h1, h2⟩ := tmod_bd x 3 (by omega)
  refine ⟨?_, h1, h2⟩
  rw [Int.tmod_eq_emod_of_nonneg (by omega)]
  show (x.tmod 3 + 3) % 3 = if (3 : Int) < 1 then 0 else x % 3
  rw [if_neg (by omega)]
  by_cases h : x.tmod 3 < 0
  · have := tmod_neg x 3 (by omega) h; omega
  · have := tmod_pos x 3 (by omega) h; omega
set_option maxHeartbeats 4000000 in
set_option maxRecDepth 100000 in
theorem T.refDrop (H base : Nat) (v : Value) (l : List Int) (k : Int) (w : World) (h : BagR w H base v l) (hl : l.length ≤ 900000) :
    Calls Try.prog 25 #[.pointer (some ⟨H, 0, none⟩), .int .i64 k] w fun e w' => e = .returned (.int .i64 ((l.length : Int) - ((keptF k l).length : Int))) ∧ ∃ v', BagR w' H base v' (keptF k l) ∧ Fr w w' H none ∧ (v'.ownBlock = none ∨ ∃ b, v'.ownBlock = some b ∧ w.heap.size ≤ b) := by
  obtain ⟨A, n, c, rfl, hn⟩ := h.2.1.shape
  have hc := one_cell h.1
  have HN := Aside.mk hn
  have HB := Aside.mk h
  have hnm : n ≤ 900000 := by omega
  rw [← hn]
  clear h hn hl
  go_enter Try.func25, Try.ntmps25
  go_wp2
  go_loopg [5, 6] n (fun kq v5 v6 wr => ∃ (i : Nat), i + kq = n ∧ v6 = .int .i64 (i : Int) ∧ Aside (RowI wr w.heap.size v5 (keptF k (l.take i))) ∧ Aside (Below w.heap.size w wr))
  case atStart => exact ⟨0, by omega, rfl, ⟨by rw [List.take_zero]; exact RowI.nil _ _⟩, ⟨Below.refl _ _⟩⟩
  case round =>
    clear hc
    obtain ⟨i, hi, rfl, hR, hB⟩ := hrel
    have HI := Aside.mk hi
    have hc := one_cell ((hB.out.block H HB.out.lt).trans HB.out.1)
    by_cases hlt : i < n
    · obtain ⟨x, hx⟩ : ∃ x, l[i]? = some x := ⟨_, List.getElem?_eq_getElem (by rw [← HN.out]; exact hlt)⟩
      obtain ⟨b, o, rfl, hcx0⟩ := HB.out.2.1.src.2.2 i x hx
      have hcx := pw_cell_below hB.out hcx0
      obtain ⟨hr1, hr2, hr3⟩ := rem3 x
      obtain ⟨t, ht⟩ : ∃ t, x.tmod 3 = t := ⟨_, rfl⟩
      rw [ht] at hr1 hr2 hr3
      obtain ⟨q, hq⟩ : ∃ q, (t + 3).tmod 3 = q := ⟨_, rfl⟩
      rw [hq] at hr1
      have hst : keptF k (l.take (i + 1)) = if q = k then keptF k (l.take i) else keptF k (l.take i) ++ [x] := by
        rw [List.take_add_one, hx, hr1]; exact keptF_snoc _ _ _
      have hwr : IntKind.i64.wrap (t + 3) = t + 3 := by simp [IntKind.wrap, IntKind.bits, IntKind.signed]; omega
      have hlt' := Aside.mk hlt
      have hkl := Aside.mk (show (keptF k (l.take i)).length ≤ i from Nat.le_trans (keptF_le _ _) (by rw [List.length_take]; omega))
      obtain ⟨A5, n5, c5, rfl, hn5⟩ := hR.out.shape
      clear hx hi hcx0 hr1 hn5
      by_cases hqk : q = k
      · rw [if_pos hqk] at hst
        have HST := Aside.mk hst
        clear hst
        subst hqk
        go_wp2
        go_roundg (gk - 1)
        case measure => have := HI.out; have := hlt'.out; omega
        case rel => exact ⟨i + 1, by have := HI.out; have := hlt'.out; omega, by go_num, ⟨by rw [HST.out]; exact hR.out⟩, hB⟩
      · rw [if_neg hqk] at hst
        have HST := Aside.mk hst
        clear hst
        go_wp2_with ((with_reducible refine wpList_appendC rfl (.tmp 29) (.tmp 37) rfl w.heap.size (.slice A5 n5 c5) (keptF k (l.take i)) [x] (some ⟨wr.heap.size, 0, none⟩) 1 1 rfl rfl ?hm ?ho ?hr ?hb ?hl ?_); (case hm => rfl); (case ho => exact hR.out.below ((Below.refl _ _).alloc (Nat.le_refl _) _)); (case hr => exact SrcA.one wr x); (case hb => have := hB.out.size; simp; omega); (case hl => have := hkl.out; omega); intro v2 w2 h2 hg2 _; rw [← HST.out] at h2; obtain ⟨A6, n6, c6, rfl, hn6⟩ := h2.shape; have H2 := Aside.mk h2; have HB2 := Aside.mk ((hB.out.alloc hB.out.size (.cells #[.int .i64 x] 3)).grown hg2 (by have := hB.out.size; simp; omega) (fun k' e => (RowI.lt hR.out k' e).1)); clear hn6 h2 hg2)
        go_roundg (gk - 1)
        case measure => have := HI.out; have := hlt'.out; omega
        case rel => exact ⟨i + 1, by have := HI.out; have := hlt'.out; omega, by go_num, H2, HB2⟩
    · have hin : i = n := by omega
      clear hlt hi
      subst hin
      have hR2 := Aside.mk (show RowI wr w.heap.size u5 (keptF k l) from by have := hR.out; rwa [HN.out, List.take_length] at this)
      obtain ⟨A5, n5, c5, rfl, hn5⟩ := hR2.out.shape
      have hle : n5 ≤ i := by rw [hn5, HN.out]; exact keptF_le _ _
      have hf := frozen_of_row wr H 0 _ _ ((hB.out.block H HB.out.lt).trans HB.out.1)
      have hwr : IntKind.i64.wrap ((i : Int) - (n5 : Int)) = (i : Int) - (n5 : Int) := by simp [IntKind.wrap, IntKind.bits, IntKind.signed]; omega
      have HN5 := Aside.mk hn5
      clear hn5 hR
      go_wp2
      go_ret
      have hlt := HB.out.lt
      have hbase := HB.out.2.2
      refine ⟨by rw [← HN5.out]; rfl, .slice A5 n5 c5, ⟨setCell_one ((hB.out.block H hlt).trans HB.out.1) _, ?_, ?_⟩, ⟨hB.out.os, hB.out.tape, hB.out.output, ?_, fun k' hk hne _ => ?_⟩, ?_⟩
      · refine own_weaken (RowI.kept hR2.out (row := some H) ⟨rfl, rfl, rfl, by simp [World.setCell], fun k _ hne => Below.heap_setCell _ _ _ _ (fun e => hne (congrArg some e))⟩ ?_) hbase
        rcases h : (Value.slice A5 n5 c5).ownBlock with _ | b
        · exact .inl rfl
        · exact .inr (fun e => by have := (RowI.lt hR2.out b h).1; have := Option.some.inj e; omega)
      · have := hB.out.size; simp [World.setCell]; omega
      · have := hB.out.size; simp [World.setCell]; omega
      · rw [Below.heap_setCell _ _ _ _ (fun e => hne e)]
        exact hB.out.block k' hk
      · rcases h : (Value.slice A5 n5 c5).ownBlock with _ | b
        · exact .inl rfl
        · exact .inr ⟨b, rfl, (RowI.lt hR2.out b h).1⟩
end Go.Proofs.Ytmlnjelhiemlpaa

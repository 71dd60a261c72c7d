/- slices.DeleteFunc at whole numbers, called with a closure that reads; Drop. Conditions: what the closure keeps, where the row lies. -/
import Derived.Test.YtmlnjelhiemlpaaNetX
namespace Go.Proofs.Ytmlnjelhiemlpaa
open Go.RowKit Go.Proofs.YtmlnjelhiemlpaaW.PrintWords Go.Proofs.YtmlnjelhiemlpaaW.PrintLast Go.Proofs.YtmlnjelhiemlpaaW.PrintMore
theorem row_cut_at {w : World} {base e g n m c o : Nat} {xs vs : List Value} (h : w.ownsRow base e 1 (.slice (some ⟨g, 0, none⟩) n c) n xs) (hv : o + vs.length ≤ n) (hm : m ≤ o) :
    (w.setCells g o vs).ownsRow base e 1 (.slice (some ⟨g, 0, none⟩) m c) m (xs.take m) ∧ w.grownBy (w.setCells g o vs) (some g) := by
  refine ⟨?_, grownBy_setCells g vs o _ w ⟨rfl, rfl, rfl, Nat.le_refl _, fun k _ _ => rfl⟩⟩
  have hx := h.1
  rcases h.2 with ⟨he, _⟩ | ⟨g', cap, cur, he, hg, hh, hn, hmx, hs, ht⟩
  · cases he
  · obtain ⟨rfl, rfl⟩ : g = g' ∧ c = cap := by simpa using he
    obtain ⟨cur', h2, h3, h4⟩ := setCells_row g vs o w cur e hh (by omega)
    refine ⟨by rw [List.length_take]; omega, .inr ⟨g, c, cur', rfl, hg, h2, by omega, hmx, by omega, ?_⟩⟩
    rw [← ht, Nat.mul_one, Nat.mul_one, List.take_take, Nat.min_eq_left (by omega)]
    refine List.ext_getElem? fun j => ?_
    rw [List.getElem?_take, List.getElem?_take]
    split
    · rename_i hj
      rw [Array.getElem?_toList, h4, if_neg (by omega), Array.getElem?_toList]
    · rfl
theorem firstP_cut {p : Int → Bool} {l : List Int} {i : Nat} (h2 : ∀ x ∈ l.take i, p x = false) {x : Int} (h3 : l[i]? = some x) (h4 : p x = true) : l.take i = (l.take (i + 1)).filter (fun x => !p x) := by
  rw [List.take_add_one, h3, List.filter_append]
  have e : (l.take i).filter (fun x => !p x) = l.take i := List.filter_eq_self.2 fun y hy => by rw [h2 y hy]; rfl
  rw [e]
  simp [h4]
/-- The row in the midst of the strike. -/
structure DJ (p : Int → Bool) (l : List Int) (w : World) (base g n c i j : Nat) (cur : List Int) (wr : World) : Prop where
  len : cur.length = n
  head : cur.take i = (l.take j).filter (fun x => !p x)
  tail : cur.drop j = l.drop j
  row : wr.ownsRow base 3 1 (.slice (some ⟨g, 0, none⟩) n c) n (cur.map (Value.int .i64))
  grown : w.grownBy wr (some g)
theorem DJ.at {p : Int → Bool} {l : List Int} {w wr : World} {base g n c i j : Nat} {cur : List Int} (h : DJ p l w base g n c i j cur wr) (k : Nat) {x : Int} (hx : cur[k]? = some x) : wr.cell? ⟨g, k, none⟩ = some (.int .i64 x) := by
  rw [h.row.cellAt k (by rw [Nat.mul_one, ← h.len]; exact (List.getElem?_eq_some_iff.1 hx).1), List.getElem?_map, hx]; rfl
theorem DJ.next {p : Int → Bool} {l : List Int} {w wr : World} {base g n c i j : Nat} {cur : List Int} (h : DJ p l w base g n c i j cur wr) {x : Int} (hx : l[j]? = some x) (hij : i < j) :
    (p x = true → DJ p l w base g n c i (j + 1) cur wr) ∧ (p x = false → DJ p l w base g n c (i + 1) (j + 1) (cur.set i x) (wr.setCell ⟨g, i, none⟩ (.int .i64 x))) := by
  have hd : cur.drop (j + 1) = l.drop (j + 1) := by rw [← List.drop_drop, h.tail, List.drop_drop]
  refine ⟨fun hp => ⟨h.len, ?_, hd, h.row, h.grown⟩, fun hp => ⟨by simp [h.len], ?_, ?_, ?_, ?_⟩⟩
  · rw [List.take_add_one, hx, List.filter_append, h.head]
    simp [hp]
  · have hj : j < cur.length := by
      have h1 := congrArg List.length h.tail
      have h2 := (List.getElem?_eq_some_iff.1 hx).1
      simp only [List.length_drop] at h1
      omega
    rw [List.take_add_one (l := l), hx, List.filter_append, ← h.head, List.take_add_one, List.getElem?_set_self (by omega), List.take_set, List.set_eq_of_length_le (by rw [List.length_take]; omega)]
    simp [hp]
  · rw [List.drop_set_of_lt (by omega), hd]
  · rw [List.map_set]; exact (h.row.stored i _).1
  · exact h.grown.trans (h.row.stored i _).2
theorem DJ.move {p : Int → Bool} {l : List Int} {w wr w' : World} {base g n c i j : Nat} {cur : List Int} (h : DJ p l w base g n c i j cur wr) (hb : Below wr.heap.size wr w') : DJ p l w base g n c i j cur w' :=
  have hg : wr.grownBy w' none := ⟨hb.os, hb.tape, hb.output, hb.size, fun k hk _ => hb.block k hk⟩
  ⟨h.len, h.head, h.tail, h.row.kept hg (.inr (by simp [Value.ownBlock])), h.grown.trans ⟨hb.os, hb.tape, hb.output, hb.size, fun k hk _ => hb.block k hk⟩⟩
set_option maxHeartbeats 4000000 in
set_option maxRecDepth 100000 in
theorem T.DelFn (fn : Nat) (caps : Array Value) (p : Int → Bool) (eg : ∀ args w, (callFunc fn args).run Try.prog w = .ok (.enter fn args) w) (J : World → Prop)
    (hY : ∀ x W, J W → Calls Try.prog fn (#[.int .i64 x] ++ caps) W fun e W' => e = .returned (.bool (p x)) ∧ J W' ∧ Below W.heap.size W W')
    (base : Nat) (v : Value) (l : List Int) (w : World) (hR : RowI w base v l) (hl : l.length ≤ 900000) (hJ : J w) (hJr : ∀ W W', J W → W.grownBy W' v.ownBlock → J W') :
    Calls Try.prog 38 #[v, .func (.func fn) #[] caps] w fun e w' => ∃ v', e = .returned v' ∧ RowI w' base v' (l.filter (fun x => !p x)) ∧ w.grownBy w' v.ownBlock ∧ v'.ownBlock = v.ownBlock ∧ J w' := by
  obtain ⟨A, n, c, rfl, hn⟩ := hR.shape
  have HN := Aside.mk hn
  have hnm : n ≤ 900000 := by omega
  have HR := Aside.mk hR
  have HY := Aside.mk hY
  have HJr := Aside.mk hJr
  have HX := Aside.mk (T.IndexFn fn caps p eg J hY A n c l w hn.symm (by omega) hR.srcA hJ)
  clear hn hl hR hY hJr hJ
  go_enter Try.func38, Try.ntmps38
  go_wp2_with fail
  refine HX.out.mono ?_
  rintro e w1 ⟨r, rfl, hf, hJ1, hb1⟩
  have HJ1 := Aside.mk hJ1
  have HB1 := Aside.mk hb1
  have HF := Aside.mk hf
  clear hJ1 hb1
  rcases hf with ⟨rfl, _⟩ | ⟨i0, rfl, hi0, _⟩
  · go_wp2
    go_ret
    refine ⟨.slice A n c, rfl, ?_, ⟨HB1.out.os, HB1.out.tape, HB1.out.output, HB1.out.size, fun k hk _ => HB1.out.block k hk⟩, rfl, HJ1.out⟩
    have e : l.filter (fun x => !p x) = l := List.filter_eq_self.2 fun y hy => by
      rcases HF.out with ⟨_, h⟩ | ⟨i, h, _⟩
      · rw [h y hy]; rfl
      · omega
    rw [e]
    exact HR.out.below HB1.out
  · have hne : ¬ ((i0 : Int) = -1) := by omega
    have hi0n : i0 < n := by rw [HN.out]; exact hi0
    rcases HR.out.slice with ⟨_, he⟩ | ⟨g, c', cur, he, _, hnc, hcm, _, _⟩
    · rw [he] at hi0; simp at hi0
    · obtain ⟨rfl, rfl⟩ : A = some ⟨g, 0, none⟩ ∧ c = c' := by simp at he; exact ⟨he.1, he.2.2⟩
      have hD0 := Aside.mk (show DJ p l w base g n c i0 (i0 + 1) l w1 from by
        rcases HF.out with ⟨h, _⟩ | ⟨i, h, h1, h2, x, h3, h4⟩
        · omega
        · obtain rfl : i0 = i := by omega
          have hrow := HR.out.below HB1.out
          unfold RowI at hrow
          rw [← HN.out] at hrow
          exact ⟨HN.out.symm, firstP_cut h2 h3 h4, rfl, hrow, ⟨HB1.out.os, HB1.out.tape, HB1.out.output, HB1.out.size, fun k hk _ => HB1.out.block k hk⟩⟩)
      have hncc : n ≤ c := by rw [HN.out]; exact hnc
      clear he hi0 HF
      go_wp2_with fail
      go_loopg [5, 6, 7] n (fun kq v5 v6 _ wr => ∃ (i j : Nat) (cur : List Int), (j ≤ n ∧ n ≤ j + kq) ∧ i < j ∧ v5 = .int .i64 (i : Int) ∧ v6 = .int .i64 (j : Int) ∧ Aside (DJ p l w base g n c i j cur wr) ∧ Aside (J wr))
      case atStart => exact ⟨i0, i0 + 1, l, by omega, by omega, rfl, by go_num, hD0, HJ1⟩
      case round =>
        obtain ⟨i, j, cu, hj, hij, rfl, rfl, hD, hJr⟩ := hrel
        have HJK := Aside.mk hj
        have HIJ := Aside.mk hij
        by_cases hlt : j < n
        · obtain ⟨x, hx⟩ : ∃ x, l[j]? = some x := ⟨_, List.getElem?_eq_getElem (by rw [← HN.out]; exact hlt)⟩
          have hcx := hD.out.at j (x := x) (by
            have := congrArg (fun t => t[0]?) hD.out.tail
            simp only [List.getElem?_drop, Nat.add_zero] at this
            rw [this, hx])
          obtain ⟨y, hy⟩ : ∃ y, cu[i]? = some y := ⟨_, List.getElem?_eq_getElem (by rw [hD.out.len]; omega)⟩
          have hYk := Aside.mk (HY.out x wr hJr.out)
          have hlt' := Aside.mk hlt
          have HX := Aside.mk hx
          clear hx hj
          go_wp2_with fail
          refine hYk.out.mono ?_
          rintro e W3 ⟨rfl, hJ3, hb3⟩
          have hD3 := hD.out.move hb3
          have hnx := Aside.mk (hD3.next HX.out HIJ.out)
          have hcy := hD3.at i hy
          have hfy := hD3.row.frozenAt i
          have hrs := Aside.mk (hD3.row.stored i (.int .i64 x)).2
          have hin : i < n := by have := HIJ.out; have := hlt'.out; omega
          have HJ3 := Aside.mk hJ3
          clear hJ3 hb3 hD3 hcx hy hij
          cases hpx : p x
          · have HP := Aside.mk hpx
            clear hpx
            go_wp2
            go_roundg (gk - 1)
            case measure => have := HJK.out; have := hlt'.out; omega
            case rel => exact ⟨i + 1, j + 1, cu.set i x, by have := HJK.out; have := hlt'.out; omega, by have := HIJ.out; omega, by go_num, by go_num, ⟨hnx.out.2 HP.out⟩, ⟨HJr.out _ _ HJ3.out hrs.out⟩⟩
          · have HP := Aside.mk hpx
            clear hpx hcy hfy
            go_wp2
            go_roundg (gk - 1)
            case measure => have := HJK.out; have := hlt'.out; omega
            case rel => exact ⟨i, j + 1, cu, by have := HJK.out; have := hlt'.out; omega, by have := HIJ.out; omega, by go_num, by go_num, ⟨hnx.out.1 HP.out⟩, HJ3⟩
        · have hje : j = n := by omega
          have hin : i < n := by omega
          have hci : ¬ c = i := by omega
          have hic : i ≤ c := by omega
          have hclr := Lib.run_clear_slice (P := Try.prog) wr 25 3 0 (.int .i64 0) Try.underlying25 (fun W => by kernel_rfl) rfl rfl g i (n - i) (c - i) (by omega) (fun q hq => by
            obtain ⟨y, hy⟩ : ∃ y, cu[i + q]? = some y := ⟨_, List.getElem?_eq_getElem (by rw [hD.out.len]; omega)⟩
            have := hD.out.at (i + q) hy
            rw [this]; rfl) (fun q _ => hD.out.row.frozenAt _)
          have hrc := Aside.mk (row_cut_at (o := i) (m := i) (vs := List.replicate (n - i) (Value.int .i64 0)) hD.out.row (by rw [List.length_replicate]; omega) (Nat.le_refl _))
          have hfin := Aside.mk (show cu.take i = l.filter (fun x => !p x) from by rw [hD.out.head, hje, HN.out, List.take_length])
          have hil := Aside.mk (show (cu.take i).length = i from by rw [List.length_take, hD.out.len]; omega)
          clear hlt hj hij
          subst hje
          go_wp2
          go_ret
          refine ⟨_, rfl, ?_, hD.out.grown.trans hrc.out.2, rfl, HJr.out _ _ hJr.out hrc.out.2⟩
          rw [← hfin.out]
          unfold RowI
          rw [hil.out, List.map_take]
          exact hrc.out.1
end Go.Proofs.Ytmlnjelhiemlpaa

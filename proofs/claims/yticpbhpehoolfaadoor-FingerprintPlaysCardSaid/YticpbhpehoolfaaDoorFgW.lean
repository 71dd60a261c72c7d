/- The statement FingerprintPlays: the call returns true and turns nothing that was there. Conditions: where the acts lie, the tables. -/
import Derived.Test.YticpbhpehoolfaaDoorFgT
import Derived.Test.YticpbhpehoolfaaDoorFgN
namespace Go.Proofs.YticpbhpehoolfaaDoor
open Go.RowKit Go.Proofs.YticpbhpehoolfaaDoor.PA Go.Proofs.YticpbhpehoolfaaDoorW.PrintWords Go.Proofs.YticpbhpehoolfaaDoorW.PrintLast Go.Proofs.YticpbhpehoolfaaDoorW.PrintMore
theorem num4_some (n : Int) (h0 : 0 ≤ n) (h1 : n ≤ 4294967295) : racewayref23_Number.f n = some (num4 n) := by
  unfold racewayref23_Number.f num4
  rw [Int.tdiv_eq_ediv_of_nonneg h0, Int.tdiv_eq_ediv_of_nonneg h0, Int.tdiv_eq_ediv_of_nonneg h0]
  rw [wrap64_id (x := n / 16777216) (by omega) (by omega), wrap64_id (x := n / 65536) (by omega) (by omega), wrap64_id (x := n / 256) (by omega) (by omega)]
  rw [Int.tmod_eq_emod_of_nonneg (by omega), Int.tmod_eq_emod_of_nonneg (by omega), Int.tmod_eq_emod_of_nonneg (by omega), Int.tmod_eq_emod_of_nonneg h0]
  congr 1
  simp only [List.cons.injEq, and_true]
  omega
theorem num4_byts (n : Int) : ∀ x ∈ num4 n, 0 ≤ x ∧ x < 256 := by
  intro x hx
  unfold num4 at hx
  simp only [List.mem_cons, List.not_mem_nil, or_false] at hx
  rcases hx with rfl | rfl | rfl | rfl <;> omega
theorem refNumber (n : Int) (w : World) (h0 : 0 ≤ n) (h1 : n ≤ 4294967295) : Calls Tryd.prog 17 #[.int .i64 n] w fun e w' => ∃ v, e = .returned v ∧ Bytes w' w.heap.size v (num4 n) ∧ Below w.heap.size w w' := by
  refine (racewayref23_Number.calls n _ w (num4_some n h0 h1)).mono ?_
  rintro e w' ⟨v, rfl, hR, hB⟩
  exact ⟨v, rfl, Kd.own_of_R hR, hB⟩
theorem strB_sn {b : List Int} (hb : ∀ x ∈ b, 0 ≤ x ∧ x < 256) : strB (strOfNums b) = b := by
  unfold strB strOfNums
  rw [List.map_map]
  conv => rhs; rw [← List.map_id b]
  refine List.map_congr_left fun x hx => ?_
  have := hb x hx
  simp
  omega
theorem refText (b : List Int) (w : World) (hb : ∀ x ∈ b, 0 ≤ x ∧ x < 256) (hl : b.length ≤ 100000) : Calls Tryd.prog 19 #[.string (strOfNums b)] w fun e w' => ∃ v, e = .returned v ∧ Bytes w' w.heap.size v (num4 b.length ++ b) ∧ Below w.heap.size w w' := by
  have h : racewayref23_Text.f (strOfNums b) = some (num4 b.length ++ b) := by
    unfold racewayref23_Text.f
    rw [strOfNums_size, num4_some _ (by omega) (by omega), Option.bind_some, if_pos (by simp [num4]; omega)]
    have e : bytesOf (strOfNums b) = b := strB_sn hb
    rw [e]
  refine (racewayref23_Text.calls _ _ w h).mono ?_
  rintro e w' ⟨v, rfl, hR, hB⟩
  exact ⟨v, rfl, Kd.own_of_R hR, hB⟩
/-- What stands in the loop over the acts. -/
def PL (w : World) (n : Nat) (v4 : Value) (all : List Int) (wr : World) : Prop := all.length ≤ n ∧ Hashes wr w.heap.size all ∧ Bytes wr (w.heap.size + 1) v4 all ∧ (∀ x ∈ all, 0 ≤ x ∧ x < 256) ∧ Below w.heap.size w wr
theorem PL.below {w wr w' : World} {n : Nat} {v4 : Value} {all : List Int} (h : PL w n v4 all wr) (hb : Below wr.heap.size wr w') : PL w n v4 all w' :=
  ⟨h.1, h.2.1.below hb, h.2.2.1.below hb, h.2.2.2.1, h.2.2.2.2.trans (hb.mono h.2.2.2.2.size)⟩
theorem PL.tabs {w wr : World} {n : Nat} {v4 : Value} {all : List Int} (h : PL w n v4 all wr) (hk : Tabs w) : Tabs wr := hk.from h.2.2.2.2 hk.lt
/-- The same between the Print's write and the append. -/
def PM (w : World) (n : Nat) (v4 : Value) (all al2 : List Int) (wr : World) : Prop := all.length ≤ n ∧ Hashes wr w.heap.size al2 ∧ Bytes wr (w.heap.size + 1) v4 all ∧ (∀ x ∈ all, 0 ≤ x ∧ x < 256) ∧ Below w.heap.size w wr
theorem PL.write {w wr w' : World} {n : Nat} {v4 : Value} {all al2 : List Int} (h : PL w n v4 all wr) (hs : Hashes w' w.heap.size al2) (hg : wr.grownBy w' (some w.heap.size)) : PM w n v4 all al2 w' := by
  obtain ⟨cs, hcs⟩ := h.2.1.block
  exact ⟨h.1, hs, h.2.2.1.hash hcs hg, h.2.2.2.1, h.2.2.2.2.trans ⟨hg.os, hg.tape, hg.output, hg.size, fun k hk => hg.block k (Nat.lt_of_lt_of_le hk h.2.2.2.2.size) (by simp; omega)⟩⟩
theorem PM.below {w wr w' : World} {n : Nat} {v4 : Value} {all al2 : List Int} (h : PM w n v4 all al2 wr) (hb : Below wr.heap.size wr w') : PM w n v4 all al2 w' :=
  ⟨h.1, h.2.1.below hb, h.2.2.1.below hb, h.2.2.2.1, h.2.2.2.2.trans (hb.mono h.2.2.2.2.size)⟩
theorem PM.append {w w3 w4 : World} {n : Nat} {v4 v5 : Value} {all b : List Int} (h : PM w n v4 all (all ++ b) w3) (hv : Bytes w4 (w.heap.size + 1) v5 (all ++ b)) (hg : w3.grownBy w4 v4.ownBlock) (hl : b.length ≤ 2004) (hr : ∀ x ∈ b, 0 ≤ x ∧ x < 256) : PL w (n + 2004) v5 (all ++ b) w4 := by
  have hlt := World.ownsRow.lt h.2.2.1
  refine ⟨by rw [List.length_append]; have := h.1; omega, h.2.1.of_block (hg.block _ h.2.1.lt (fun e => ?_)), hv, fun x hx => ?_, h.2.2.2.2.grown hg h.2.2.2.2.size (fun k e => ?_)⟩
  · have := (hlt _ e.symm).1; omega
  · rcases List.mem_append.1 hx with h1 | h1
    · exact h.2.2.2.1 x h1
    · exact hr x h1
  · have := (hlt _ e).1; omega
theorem PL.mono {w wr : World} {n n' : Nat} {v4 : Value} {all : List Int} (h : PL w n v4 all wr) (hn : n ≤ n') : PL w n' v4 all wr := ⟨Nat.le_trans h.1 hn, h.2⟩
def plRel (w : World) (N : Nat) (kq : Nat) (v4 v5 : Value) (wr : World) : Prop :=
  ∃ (i : Nat) (all : List Int), i + kq = N ∧ v5 = .int .i64 (i : Int) ∧ Aside (PL w (2004 * i) v4 all wr)
set_option maxHeartbeats 16000000 in
set_option maxRecDepth 100000 in
theorem walk_plays (w : World) (A : Option Addr) (c : Nat) (l : List (Int × Int × List Int)) (hC : Kd.C actK w A l.length l) (hc : l.length ≤ c) (ok : l.length ≤ maxLen ∧ ∀ x ∈ l, actOk x) (hk : Tabs w) :
    Calls Tryd.prog 4 #[.slice A l.length c] w fun e w' => e = .returned (.bool true) ∧ Below w.heap.size w w' := by
  have HK := Aside.mk hk
  have hz : ∀ W, (zeroValue 24).run Tryd.prog W = .ok (.agg T.z16) W := fun W => by
    have hi : (Tryd.prog.info? 24).map (·.zero) = some (some (.agg T.z16)) := by kernel_rfl
    obtain ⟨i, h1, h2⟩ := Option.map_eq_some_iff.1 hi
    simp [zeroValue, typeInfo, h1, h2]
  have hi24 : Aside ((Tryd.prog.info? 24).map (·.size) = some 16) := ⟨by kernel_rfl⟩
  have HC := Aside.mk hC
  have HOK := Aside.mk ok
  obtain ⟨N, hN⟩ : ∃ N, N = min l.length 20 := ⟨_, rfl⟩
  have HN := Aside.mk hN
  have hlm : l.length ≤ 9223372036854775807 := ok.1
  clear hk hC ok hN
  go_enter Tryd.func4, Tryd.ntmps4
  go_wp2_with fail
  refine (T.New_has w).mono ?_
  rintro e w1 ⟨rfl, h1, hb1, hs1⟩
  have HP := Aside.mk (show PL w (2004 * 0) (.slice none 0 0) [] w1 from ⟨by simp, h1, by simpa [Bytes] using World.ownsRow_nil _ _ _ _, fun x hx => (by cases hx), hb1⟩)
  clear h1 hb1 hs1
  go_wp2_with fail
  go_loopg [4, 5] N (fun kq v4 v5 wr => plRel w N kq v4 v5 wr)
  case atStart => exact ⟨0, [], by omega, rfl, HP⟩
  case round =>
    clear HP
    obtain ⟨i, al, hi, rfl, hP⟩ := hrel
    have HI := Aside.mk hi
    by_cases hlt : i < N
    · have hil : i < l.length := by have := HN.out; omega
      have hi20 : i < 20 := by have := HN.out; omega
      obtain ⟨x, hx⟩ : ∃ x, l[i]? = some x := ⟨_, List.getElem?_eq_getElem hil⟩
      obtain ⟨a, Ai, ci, rfl, hc0, hc1, hc2, hci, hCi⟩ := act_at HC.out i x hx
      have hxo := Aside.mk (HOK.out.2 x (List.mem_of_getElem? hx))
      have g0 := (hP.out.2.2.2.2.cell (block_lt_of_cell hc0)).trans hc0
      have g1 := (hP.out.2.2.2.2.cell (block_lt_of_cell hc1)).trans hc1
      have g2 := (hP.out.2.2.2.2.cell (block_lt_of_cell hc2)).trans hc2
      have hCr := Aside.mk (Kd.C_below hCi hP.out.2.2.2.2)
      obtain ⟨kd, nn, bb⟩ := x
      dsimp only at g0 g1 g2 hCr hci hxo
      have g1' : wr.cell? ⟨(a.add (i * 3)).block, (a.add (i * 3)).off + 1, none⟩ = some (.int .i64 nn) := by have h := g1; rw [← Addr.add_add] at h; exact h
      have g2' : wr.cell? ⟨(a.add (i * 3)).block, (a.add (i * 3)).off + 2, none⟩ = some (.slice Ai bb.length ci) := by have h := g2; rw [← Addr.add_add] at h; exact h
      have hlt' := Aside.mk hlt
      clear hc0 hc1 hc2 hCi hx hi hlt g1 g2
      generalize gk = gko at *
      have HI20 := Aside.mk hi20
      have HFILL : True := trivial
      go_wp2_with fail
      have hbA : Below wr.heap.size wr (wr.alloc (.cells #[.int .i64 kd, .int .i64 nn, .slice Ai bb.length ci] 33)) := (Below.refl _ _).alloc (Nat.le_refl _) _
      refine (T.few Ai ci bb _ (Kd.C_below hCr.out hbA) hci).mono ?_
      obtain ⟨b, hb⟩ : ∃ b, b = bb.take 2000 := ⟨_, rfl⟩
      rw [← hb]
      have hbl := Aside.mk (show b.length ≤ 2000 from by rw [hb, List.length_take]; omega)
      have hbr := Aside.mk (show ∀ y ∈ b, 0 ≤ y ∧ y < 256 from fun y hy => by
        have h1 := hxo.out.2.2.2 y (by rw [hb] at hy; exact List.mem_of_mem_take hy)
        simp [Lit.wf, IntKind.min, IntKind.max, IntKind.signed, IntKind.bits] at h1
        omega)
      have hnr := Aside.mk hxo.out.2.1
      have hA := hP.out.below hbA
      have c0 : (wr.alloc (.cells #[.int .i64 kd, .int .i64 nn, .slice Ai bb.length ci] 33)).cell? ⟨wr.heap.size, 0, none⟩ = some (.int .i64 kd) := by rw [cell_of_row _ _ _ _ _ _ (heap_alloc_new wr _)]; rfl
      have c1 : (wr.alloc (.cells #[.int .i64 kd, .int .i64 nn, .slice Ai bb.length ci] 33)).cell? ⟨wr.heap.size, 1, none⟩ = some (.int .i64 nn) := by rw [cell_of_row _ _ _ _ _ _ (heap_alloc_new wr _)]; rfl
      rintro e w2 ⟨vb, rfl, hb2, hB2⟩
      obtain ⟨Ab, cb, rfl, hcb, _, _⟩ := hb2.slice
      have HP2 := Aside.mk (hA.below hB2)
      have HV2 := Aside.mk hb2
      have hsz : wr.heap.size < (wr.alloc (.cells #[.int .i64 kd, .int .i64 nn, .slice Ai bb.length ci] 33)).heap.size := by simp
      have k0 := (hB2.cell (p := ⟨wr.heap.size, 0, none⟩) hsz).trans c0
      have k1 := (hB2.cell (p := ⟨wr.heap.size, 1, none⟩) hsz).trans c1
      have K1 := Aside.mk k1
      obtain ⟨B6, hB6⟩ : ∃ B6, B6 = wr.heap.size := ⟨_, rfl⟩
      have hHB : B6 ≠ w.heap.size := by
        rw [hB6]
        exact Nat.ne_of_gt hP.out.2.1.lt
      have HHB := Aside.mk hHB
      clear c0 c1 hA hb2 hB2 hsz hbA hP hCr g0 g1' g2' hci hb hxo hi20 hHB
      rw [← hB6] at k0 k1 K1 ⊢
      clear hB6
      by_cases h0 : kd = 0
      · subst h0
        go_wp2_with fail
        refine (WriteB HP2.out.2.1 HV2.out (by have := HP2.out.1; have := hbl.out; omega) (HP2.out.tabs HK.out)).mono ?_
        rintro e w3 ⟨rfl, hH3, hg3⟩
        obtain ⟨csH, hcsH⟩ := HP2.out.2.1.block
        have HM3 := Aside.mk (HP2.out.write hH3 hg3)
        have HS3 := Aside.mk (HV2.out.hash hcsH hg3).src.2.2.1
        clear hH3 hg3 hcsH k0 k1
        go_wp2_with ((with_reducible refine wpList_append_bytes rfl (.tmp 48) (.tmp 49) rfl (w.heap.size + 1) u4 al b Ab b.length cb rfl rfl rfl ?ho ?hr ?hb ?hl ?_); (case ho => exact HM3.out.2.2.1); (case hr => exact HS3.out); (case hb => have := HM3.out.2.1.lt; omega); (case hl => have := HM3.out.1; have := hbl.out; omega); intro v5 wz h4 hg4; have HPz := Aside.mk (HM3.out.append h4 hg4 (by have := hbl.out; omega) hbr.out); clear h4 hg4)
        have HPz_ := HPz
        generalize al ++ b = alz at *
        clear HPz_ HFILL
        go_wp2_with fail
        refine (T.Sum w.heap.size alz wz HPz.out.2.1 (HPz.out.tabs HK.out) (by have := HPz.out.1; omega)).mono ?_
        rintro e w6 ⟨rfl, hb6⟩
        have hdl := Aside.mk (show (T.bs (digestL alz)).size = 16 from by simp only [T.bs, List.size_toArray, List.length_map]; exact digestL_length alz)
        have HP6 := Aside.mk (HPz.out.below hb6)
        clear hb6 HPz
        go_wp2_with ((with_reducible refine wpList_store_row rfl 24 (.tmp 9) (.tmp 84) rfl w6.heap.size (T.bs (digestL alz)) rfl rfl 24 T.z16 ?hg ?hi ?hold (T.bs_one _) ?_); (case hg => exact heap_alloc_new w6 _); (case hi => rw [hdl.out]; exact hi24.out); (case hold => rw [hdl.out]; rfl))
        generalize hw7 : (w6.alloc (.cells T.z16 24)).setRow w6.heap.size (T.bs (digestL alz)) = w7
        have hD7 := Aside.mk (show w7.heap[w6.heap.size]? = some (.cells (T.bs (digestL alz)) 24 (0, 0)) from by rw [← hw7]; exact setRow_heap _ _ _ _ _ _ (heap_alloc_new w6 _))
        have hB7 : Below w6.heap.size w6 w7 := by rw [← hw7]; exact Below_setRow ((Below.refl _ _).alloc (Nat.le_refl _) _) (Nat.le_refl _) _
        have HP7 := Aside.mk (HP6.out.below hB7)
        clear hw7 hB7 HP6
        obtain ⟨Al, cl, rfl, hcl, _, _⟩ := HP7.out.2.2.1.slice
        have hRO := Aside.mk (show ∀ W, Kp w7 W → Calls Tryd.prog 10 #[.slice Al alz.length cl] W fun e w' => ∃ v, e = .returned v ∧ Bytes w' W.heap.size v (digestL alz) ∧ Below W.heap.size W w' from fun W hW =>
          refOfB (HP7.out.below hW).2.2.1 (by have := HP7.out.1; have := HI20.out; omega) HP7.out.2.2.2.1)
        have hLen := Aside.mk (show ∀ W, Kp w7 W → Calls Tryd.prog 21 #[.pointer (some ⟨w.heap.size, 0, none⟩)] W fun e w' => e = .returned (.int .i64 alz.length) ∧ Below W.heap.size W w' from fun W hW => by
          refine (T.Len w.heap.size alz W (HP7.out.below hW).2.1).mono ?_
          rintro e w' ⟨rfl, rfl⟩
          exact ⟨rfl, Below.refl _ _⟩)
        have hd16 := Aside.mk (digestL_length alz)
        generalize digestL alz = d at *
        have hst := Aside.mk (show (convert 22 9 (.slice (some ⟨w6.heap.size, 0, none⟩) 16 16)).run Tryd.prog w7.drew = .ok (.string (strOfNums d)) w7.drew ∧ w7.drew.heap[w6.heap.size]? = some (.cells (T.bs d) 24 (0, 0)) ∧ Kp w7 w7.drew from ⟨conv_row (W := w7.drew) hD7.out hd16.out, hD7.out, Kp.refl w7⟩)
        have hF0 := hst.out
        have hcv0 := hF0.1
        go_region_with (first | (go_at_call 21; (with_reducible refine (hLen.out _ (And.right (And.right (by assumption)))).mono ?_); rintro e W' ⟨rfl, hb⟩; have hF := keepC hd16.out (by assumption) hb; have hcv := hF.1; clear hb) | (go_at_call 10; (with_reducible refine (hRO.out _ (And.right (And.right (by assumption)))).mono ?_); rintro e W' ⟨v, rfl, hv, hb⟩; obtain ⟨g2, cp2, rfl, hcr⟩ := conv_own hv (by rw [hd16.out]; decide); have hF := keepC hd16.out (by assumption) hb; have hcv := hF.1; clear hv hb))
        all_goals
         have hfin : Kp w7 W' := And.right (And.right (by assumption))
         have HF := Aside.mk hfin
         clear hfin
         go_wp2
         go_roundg (gko - 1)
         case measure => have := HI.out; have := hlt'.out; omega
         case rel => exact ⟨i + 1, alz, by have := HI.out; have := hlt'.out; omega, by go_num, ⟨(HP7.out.below HF.out).mono (by omega)⟩⟩
      · by_cases h1 : kd = 1
        · subst h1
          by_cases hr : 0 ≤ nn ∧ nn < 4294967296
          · obtain ⟨hr0, hr1⟩ := hr
            have HR0 := Aside.mk hr0
            have HR1 := Aside.mk hr1
            go_wp2_with fail
            refine (T.Number w.heap.size al nn w2 HP2.out.2.1 (by have := HP2.out.1; have := HI20.out; omega) (HP2.out.tabs HK.out) hr0 (by omega)).mono ?_
            rintro e w3 ⟨rfl, hH3, hg3⟩
            have k1b := (World.cell?_of_block (a := ⟨B6, 1, none⟩) (hg3.block B6 (block_lt_of_cell k1) (by have := HHB.out; simpa using this))).trans k1
            have HM3 := Aside.mk (HP2.out.write hH3 hg3)
            clear hH3 hg3 k0 k1
            go_wp2_with fail
            refine (refNumber nn w3 HR0.out (by have := HR1.out; omega)).mono ?_
            rintro e w4 ⟨vq, rfl, hq, hb4⟩
            obtain ⟨Aq, cq, rfl, hcq, hsq, _⟩ := hq.slice
            have HM4 := Aside.mk (HM3.out.below hb4)
            have HS4 := Aside.mk hsq
            clear hq hb4 hsq k1b
            go_wp2_with ((with_reducible refine wpList_append_bytes rfl (.tmp 78) (.tmp 81) rfl (w.heap.size + 1) u4 al (num4 nn) Aq (num4 nn).length cq rfl rfl rfl ?ho ?hr ?hb ?hl ?_); (case ho => exact HM4.out.2.2.1); (case hr => exact HS4.out); (case hb => have := HM4.out.2.1.lt; omega); (case hl => have := HM4.out.1; have := HI20.out; simp [num4]; omega); intro v5 wz h4 hg4; have HPz := Aside.mk (HM4.out.append h4 hg4 (by simp [num4]) (num4_byts nn)); clear h4 hg4)
            have HPz_ := HPz
            generalize al ++ num4 nn = alz at *
            clear HPz_ HFILL
            go_wp2_with fail
            refine (T.Sum w.heap.size alz wz HPz.out.2.1 (HPz.out.tabs HK.out) (by have := HPz.out.1; omega)).mono ?_
            rintro e w6 ⟨rfl, hb6⟩
            have hdl := Aside.mk (show (T.bs (digestL alz)).size = 16 from by simp only [T.bs, List.size_toArray, List.length_map]; exact digestL_length alz)
            have HP6 := Aside.mk (HPz.out.below hb6)
            clear hb6 HPz
            go_wp2_with ((with_reducible refine wpList_store_row rfl 24 (.tmp 9) (.tmp 84) rfl w6.heap.size (T.bs (digestL alz)) rfl rfl 24 T.z16 ?hg ?hi ?hold (T.bs_one _) ?_); (case hg => exact heap_alloc_new w6 _); (case hi => rw [hdl.out]; exact hi24.out); (case hold => rw [hdl.out]; rfl))
            generalize hw7 : (w6.alloc (.cells T.z16 24)).setRow w6.heap.size (T.bs (digestL alz)) = w7
            have hD7 := Aside.mk (show w7.heap[w6.heap.size]? = some (.cells (T.bs (digestL alz)) 24 (0, 0)) from by rw [← hw7]; exact setRow_heap _ _ _ _ _ _ (heap_alloc_new w6 _))
            have hB7 : Below w6.heap.size w6 w7 := by rw [← hw7]; exact Below_setRow ((Below.refl _ _).alloc (Nat.le_refl _) _) (Nat.le_refl _) _
            have HP7 := Aside.mk (HP6.out.below hB7)
            clear hw7 hB7 HP6
            obtain ⟨Al, cl, rfl, hcl, _, _⟩ := HP7.out.2.2.1.slice
            have hRO := Aside.mk (show ∀ W, Kp w7 W → Calls Tryd.prog 10 #[.slice Al alz.length cl] W fun e w' => ∃ v, e = .returned v ∧ Bytes w' W.heap.size v (digestL alz) ∧ Below W.heap.size W w' from fun W hW =>
              refOfB (HP7.out.below hW).2.2.1 (by have := HP7.out.1; have := HI20.out; omega) HP7.out.2.2.2.1)
            have hLen := Aside.mk (show ∀ W, Kp w7 W → Calls Tryd.prog 21 #[.pointer (some ⟨w.heap.size, 0, none⟩)] W fun e w' => e = .returned (.int .i64 alz.length) ∧ Below W.heap.size W w' from fun W hW => by
              refine (T.Len w.heap.size alz W (HP7.out.below hW).2.1).mono ?_
              rintro e w' ⟨rfl, rfl⟩
              exact ⟨rfl, Below.refl _ _⟩)
            have hd16 := Aside.mk (digestL_length alz)
            generalize digestL alz = d at *
            have hst := Aside.mk (show (convert 22 9 (.slice (some ⟨w6.heap.size, 0, none⟩) 16 16)).run Tryd.prog w7.drew = .ok (.string (strOfNums d)) w7.drew ∧ w7.drew.heap[w6.heap.size]? = some (.cells (T.bs d) 24 (0, 0)) ∧ Kp w7 w7.drew from ⟨conv_row (W := w7.drew) hD7.out hd16.out, hD7.out, Kp.refl w7⟩)
            have hF0 := hst.out
            have hcv0 := hF0.1
            go_region_with (first | (go_at_call 21; (with_reducible refine (hLen.out _ (And.right (And.right (by assumption)))).mono ?_); rintro e W' ⟨rfl, hb⟩; have hF := keepC hd16.out (by assumption) hb; have hcv := hF.1; clear hb) | (go_at_call 10; (with_reducible refine (hRO.out _ (And.right (And.right (by assumption)))).mono ?_); rintro e W' ⟨v, rfl, hv, hb⟩; obtain ⟨g2, cp2, rfl, hcr⟩ := conv_own hv (by rw [hd16.out]; decide); have hF := keepC hd16.out (by assumption) hb; have hcv := hF.1; clear hv hb))
            all_goals
             have hfin : Kp w7 W' := And.right (And.right (by assumption))
             have HF := Aside.mk hfin
             clear hfin
             go_wp2
             go_roundg (gko - 1)
             case measure => have := HI.out; have := hlt'.out; omega
             case rel => exact ⟨i + 1, alz, by have := HI.out; have := hlt'.out; omega, by go_num, ⟨(HP7.out.below HF.out).mono (by omega)⟩⟩
          · have hout := Aside.mk (show nn < 0 ∨ 4294967295 < nn from by omega)
            have HPz := Aside.mk (HP2.out.mono (show 2004 * i ≤ 2004 * i + 2004 from by omega))
            have HPz_ := HPz
            have hmd := HP2.out.2.1.made
            by_cases hn0 : nn < 0
            · go_wp2_with (go_at_call 16; refine (T.Number_out w.heap.size nn _ hmd hout.out).mono ?_; rintro e w' ⟨rfl, hw⟩; subst w')
              clear k0 k1 hmd
              generalize w2 = wz at *
              generalize al = alz at *
              clear HPz_ HFILL
              go_wp2_with fail
              refine (T.Sum w.heap.size alz wz HPz.out.2.1 (HPz.out.tabs HK.out) (by have := HPz.out.1; omega)).mono ?_
              rintro e w6 ⟨rfl, hb6⟩
              have hdl := Aside.mk (show (T.bs (digestL alz)).size = 16 from by simp only [T.bs, List.size_toArray, List.length_map]; exact digestL_length alz)
              have HP6 := Aside.mk (HPz.out.below hb6)
              clear hb6 HPz
              go_wp2_with ((with_reducible refine wpList_store_row rfl 24 (.tmp 9) (.tmp 84) rfl w6.heap.size (T.bs (digestL alz)) rfl rfl 24 T.z16 ?hg ?hi ?hold (T.bs_one _) ?_); (case hg => exact heap_alloc_new w6 _); (case hi => rw [hdl.out]; exact hi24.out); (case hold => rw [hdl.out]; rfl))
              generalize hw7 : (w6.alloc (.cells T.z16 24)).setRow w6.heap.size (T.bs (digestL alz)) = w7
              have hD7 := Aside.mk (show w7.heap[w6.heap.size]? = some (.cells (T.bs (digestL alz)) 24 (0, 0)) from by rw [← hw7]; exact setRow_heap _ _ _ _ _ _ (heap_alloc_new w6 _))
              have hB7 : Below w6.heap.size w6 w7 := by rw [← hw7]; exact Below_setRow ((Below.refl _ _).alloc (Nat.le_refl _) _) (Nat.le_refl _) _
              have HP7 := Aside.mk (HP6.out.below hB7)
              clear hw7 hB7 HP6
              obtain ⟨Al, cl, rfl, hcl, _, _⟩ := HP7.out.2.2.1.slice
              have hRO := Aside.mk (show ∀ W, Kp w7 W → Calls Tryd.prog 10 #[.slice Al alz.length cl] W fun e w' => ∃ v, e = .returned v ∧ Bytes w' W.heap.size v (digestL alz) ∧ Below W.heap.size W w' from fun W hW =>
                refOfB (HP7.out.below hW).2.2.1 (by have := HP7.out.1; have := HI20.out; omega) HP7.out.2.2.2.1)
              have hLen := Aside.mk (show ∀ W, Kp w7 W → Calls Tryd.prog 21 #[.pointer (some ⟨w.heap.size, 0, none⟩)] W fun e w' => e = .returned (.int .i64 alz.length) ∧ Below W.heap.size W w' from fun W hW => by
                refine (T.Len w.heap.size alz W (HP7.out.below hW).2.1).mono ?_
                rintro e w' ⟨rfl, rfl⟩
                exact ⟨rfl, Below.refl _ _⟩)
              have hd16 := Aside.mk (digestL_length alz)
              generalize digestL alz = d at *
              have hst := Aside.mk (show (convert 22 9 (.slice (some ⟨w6.heap.size, 0, none⟩) 16 16)).run Tryd.prog w7.drew = .ok (.string (strOfNums d)) w7.drew ∧ w7.drew.heap[w6.heap.size]? = some (.cells (T.bs d) 24 (0, 0)) ∧ Kp w7 w7.drew from ⟨conv_row (W := w7.drew) hD7.out hd16.out, hD7.out, Kp.refl w7⟩)
              have hF0 := hst.out
              have hcv0 := hF0.1
              go_region_with (first | (go_at_call 21; (with_reducible refine (hLen.out _ (And.right (And.right (by assumption)))).mono ?_); rintro e W' ⟨rfl, hb⟩; have hF := keepC hd16.out (by assumption) hb; have hcv := hF.1; clear hb) | (go_at_call 10; (with_reducible refine (hRO.out _ (And.right (And.right (by assumption)))).mono ?_); rintro e W' ⟨v, rfl, hv, hb⟩; obtain ⟨g2, cp2, rfl, hcr⟩ := conv_own hv (by rw [hd16.out]; decide); have hF := keepC hd16.out (by assumption) hb; have hcv := hF.1; clear hv hb))
              all_goals
               have hfin : Kp w7 W' := And.right (And.right (by assumption))
               have HF := Aside.mk hfin
               clear hfin
               go_wp2
               go_roundg (gko - 1)
               case measure => have := HI.out; have := hlt'.out; omega
               case rel => exact ⟨i + 1, alz, by have := HI.out; have := hlt'.out; omega, by go_num, ⟨(HP7.out.below HF.out).mono (by omega)⟩⟩
            · have hn1 : 4294967296 ≤ nn := by omega
              go_wp2_with (go_at_call 16; refine (T.Number_out w.heap.size nn _ hmd hout.out).mono ?_; rintro e w' ⟨rfl, hw⟩; subst w')
              clear k0 k1 hmd
              generalize w2 = wz at *
              generalize al = alz at *
              clear HPz_ HFILL
              go_wp2_with fail
              refine (T.Sum w.heap.size alz wz HPz.out.2.1 (HPz.out.tabs HK.out) (by have := HPz.out.1; omega)).mono ?_
              rintro e w6 ⟨rfl, hb6⟩
              have hdl := Aside.mk (show (T.bs (digestL alz)).size = 16 from by simp only [T.bs, List.size_toArray, List.length_map]; exact digestL_length alz)
              have HP6 := Aside.mk (HPz.out.below hb6)
              clear hb6 HPz
              go_wp2_with ((with_reducible refine wpList_store_row rfl 24 (.tmp 9) (.tmp 84) rfl w6.heap.size (T.bs (digestL alz)) rfl rfl 24 T.z16 ?hg ?hi ?hold (T.bs_one _) ?_); (case hg => exact heap_alloc_new w6 _); (case hi => rw [hdl.out]; exact hi24.out); (case hold => rw [hdl.out]; rfl))
              generalize hw7 : (w6.alloc (.cells T.z16 24)).setRow w6.heap.size (T.bs (digestL alz)) = w7
              have hD7 := Aside.mk (show w7.heap[w6.heap.size]? = some (.cells (T.bs (digestL alz)) 24 (0, 0)) from by rw [← hw7]; exact setRow_heap _ _ _ _ _ _ (heap_alloc_new w6 _))
              have hB7 : Below w6.heap.size w6 w7 := by rw [← hw7]; exact Below_setRow ((Below.refl _ _).alloc (Nat.le_refl _) _) (Nat.le_refl _) _
              have HP7 := Aside.mk (HP6.out.below hB7)
              clear hw7 hB7 HP6
              obtain ⟨Al, cl, rfl, hcl, _, _⟩ := HP7.out.2.2.1.slice
              have hRO := Aside.mk (show ∀ W, Kp w7 W → Calls Tryd.prog 10 #[.slice Al alz.length cl] W fun e w' => ∃ v, e = .returned v ∧ Bytes w' W.heap.size v (digestL alz) ∧ Below W.heap.size W w' from fun W hW =>
                refOfB (HP7.out.below hW).2.2.1 (by have := HP7.out.1; have := HI20.out; omega) HP7.out.2.2.2.1)
              have hLen := Aside.mk (show ∀ W, Kp w7 W → Calls Tryd.prog 21 #[.pointer (some ⟨w.heap.size, 0, none⟩)] W fun e w' => e = .returned (.int .i64 alz.length) ∧ Below W.heap.size W w' from fun W hW => by
                refine (T.Len w.heap.size alz W (HP7.out.below hW).2.1).mono ?_
                rintro e w' ⟨rfl, rfl⟩
                exact ⟨rfl, Below.refl _ _⟩)
              have hd16 := Aside.mk (digestL_length alz)
              generalize digestL alz = d at *
              have hst := Aside.mk (show (convert 22 9 (.slice (some ⟨w6.heap.size, 0, none⟩) 16 16)).run Tryd.prog w7.drew = .ok (.string (strOfNums d)) w7.drew ∧ w7.drew.heap[w6.heap.size]? = some (.cells (T.bs d) 24 (0, 0)) ∧ Kp w7 w7.drew from ⟨conv_row (W := w7.drew) hD7.out hd16.out, hD7.out, Kp.refl w7⟩)
              have hF0 := hst.out
              have hcv0 := hF0.1
              go_region_with (first | (go_at_call 21; (with_reducible refine (hLen.out _ (And.right (And.right (by assumption)))).mono ?_); rintro e W' ⟨rfl, hb⟩; have hF := keepC hd16.out (by assumption) hb; have hcv := hF.1; clear hb) | (go_at_call 10; (with_reducible refine (hRO.out _ (And.right (And.right (by assumption)))).mono ?_); rintro e W' ⟨v, rfl, hv, hb⟩; obtain ⟨g2, cp2, rfl, hcr⟩ := conv_own hv (by rw [hd16.out]; decide); have hF := keepC hd16.out (by assumption) hb; have hcv := hF.1; clear hv hb))
              all_goals
               have hfin : Kp w7 W' := And.right (And.right (by assumption))
               have HF := Aside.mk hfin
               clear hfin
               go_wp2
               go_roundg (gko - 1)
               case measure => have := HI.out; have := hlt'.out; omega
               case rel => exact ⟨i + 1, alz, by have := HI.out; have := hlt'.out; omega, by go_num, ⟨(HP7.out.below HF.out).mono (by omega)⟩⟩
        · have hk0 : (kd == 0) = false := by simpa using h0
          have hk1 : (kd == 1) = false := by simpa using h1
          have hcs := Kd.C_string (P := Tryd.prog) (c := cb) Tryd.underlying22 Tryd.underlying5 Tryd.underlying9 (HV2.out.src.2.2.1.C (by have := hbl.out; omega))
          clear h0 h1
          go_wp2_with fail
          refine (T.Text w.heap.size al (strOfNums b) w2 HP2.out.2.1 (by have := HP2.out.1; have := HI20.out; omega) (HP2.out.tabs HK.out) (by rw [strOfNums_size]; have := hbl.out; omega)).mono ?_
          rintro e w3 ⟨rfl, hH3, hg3⟩
          rw [strB_sn hbr.out, strOfNums_size] at hH3
          obtain ⟨csH, hcsH⟩ := HP2.out.2.1.block
          have HM3 := Aside.mk (HP2.out.write hH3 hg3)
          have hcs3 := Kd.C_string (P := Tryd.prog) (c := cb) Tryd.underlying22 Tryd.underlying5 Tryd.underlying9 ((HV2.out.hash hcsH hg3).src.2.2.1.C (by have := hbl.out; omega))
          clear hH3 hg3 hcsH k0 k1 hcs
          go_wp2_with fail
          refine (refText b w3 hbr.out (by have := hbl.out; omega)).mono ?_
          rintro e w4 ⟨vq, rfl, hq, hb4⟩
          obtain ⟨Aq, cq, rfl, hcq, hsq, _⟩ := hq.slice
          have HM4 := Aside.mk (HM3.out.below hb4)
          have HS4 := Aside.mk hsq
          have hql := Aside.mk (show (num4 (b.length : Int) ++ b).length ≤ 2004 from by simp [num4]; have := hbl.out; omega)
          have hqr := Aside.mk (show ∀ x ∈ num4 (b.length : Int) ++ b, 0 ≤ x ∧ x < 256 from fun x hx => (List.mem_append.1 hx).elim (num4_byts _ x) (hbr.out x))
          clear hq hb4 hsq hcs3
          generalize num4 (b.length : Int) ++ b = qq at *
          go_wp2_with ((with_reducible refine wpList_append_bytes rfl (.tmp 37) (.tmp 40) rfl (w.heap.size + 1) u4 al qq Aq qq.length cq rfl rfl rfl ?ho ?hr ?hb ?hl ?_); (case ho => exact HM4.out.2.2.1); (case hr => exact HS4.out); (case hb => have := HM4.out.2.1.lt; omega); (case hl => have := HM4.out.1; have := HI20.out; have := hql.out; omega); intro v5 wz h4 hg4; have HPz := Aside.mk (HM4.out.append h4 hg4 hql.out hqr.out); clear h4 hg4)
          have HPz_ := HPz
          generalize al ++ qq = alz at *
          clear HPz_ HFILL
          go_wp2_with fail
          refine (T.Sum w.heap.size alz wz HPz.out.2.1 (HPz.out.tabs HK.out) (by have := HPz.out.1; omega)).mono ?_
          rintro e w6 ⟨rfl, hb6⟩
          have hdl := Aside.mk (show (T.bs (digestL alz)).size = 16 from by simp only [T.bs, List.size_toArray, List.length_map]; exact digestL_length alz)
          have HP6 := Aside.mk (HPz.out.below hb6)
          clear hb6 HPz
          go_wp2_with ((with_reducible refine wpList_store_row rfl 24 (.tmp 9) (.tmp 84) rfl w6.heap.size (T.bs (digestL alz)) rfl rfl 24 T.z16 ?hg ?hi ?hold (T.bs_one _) ?_); (case hg => exact heap_alloc_new w6 _); (case hi => rw [hdl.out]; exact hi24.out); (case hold => rw [hdl.out]; rfl))
          generalize hw7 : (w6.alloc (.cells T.z16 24)).setRow w6.heap.size (T.bs (digestL alz)) = w7
          have hD7 := Aside.mk (show w7.heap[w6.heap.size]? = some (.cells (T.bs (digestL alz)) 24 (0, 0)) from by rw [← hw7]; exact setRow_heap _ _ _ _ _ _ (heap_alloc_new w6 _))
          have hB7 : Below w6.heap.size w6 w7 := by rw [← hw7]; exact Below_setRow ((Below.refl _ _).alloc (Nat.le_refl _) _) (Nat.le_refl _) _
          have HP7 := Aside.mk (HP6.out.below hB7)
          clear hw7 hB7 HP6
          obtain ⟨Al, cl, rfl, hcl, _, _⟩ := HP7.out.2.2.1.slice
          have hRO := Aside.mk (show ∀ W, Kp w7 W → Calls Tryd.prog 10 #[.slice Al alz.length cl] W fun e w' => ∃ v, e = .returned v ∧ Bytes w' W.heap.size v (digestL alz) ∧ Below W.heap.size W w' from fun W hW =>
            refOfB (HP7.out.below hW).2.2.1 (by have := HP7.out.1; have := HI20.out; omega) HP7.out.2.2.2.1)
          have hLen := Aside.mk (show ∀ W, Kp w7 W → Calls Tryd.prog 21 #[.pointer (some ⟨w.heap.size, 0, none⟩)] W fun e w' => e = .returned (.int .i64 alz.length) ∧ Below W.heap.size W w' from fun W hW => by
            refine (T.Len w.heap.size alz W (HP7.out.below hW).2.1).mono ?_
            rintro e w' ⟨rfl, rfl⟩
            exact ⟨rfl, Below.refl _ _⟩)
          have hd16 := Aside.mk (digestL_length alz)
          generalize digestL alz = d at *
          have hst := Aside.mk (show (convert 22 9 (.slice (some ⟨w6.heap.size, 0, none⟩) 16 16)).run Tryd.prog w7.drew = .ok (.string (strOfNums d)) w7.drew ∧ w7.drew.heap[w6.heap.size]? = some (.cells (T.bs d) 24 (0, 0)) ∧ Kp w7 w7.drew from ⟨conv_row (W := w7.drew) hD7.out hd16.out, hD7.out, Kp.refl w7⟩)
          have hF0 := hst.out
          have hcv0 := hF0.1
          go_region_with (first | (go_at_call 21; (with_reducible refine (hLen.out _ (And.right (And.right (by assumption)))).mono ?_); rintro e W' ⟨rfl, hb⟩; have hF := keepC hd16.out (by assumption) hb; have hcv := hF.1; clear hb) | (go_at_call 10; (with_reducible refine (hRO.out _ (And.right (And.right (by assumption)))).mono ?_); rintro e W' ⟨v, rfl, hv, hb⟩; obtain ⟨g2, cp2, rfl, hcr⟩ := conv_own hv (by rw [hd16.out]; decide); have hF := keepC hd16.out (by assumption) hb; have hcv := hF.1; clear hv hb))
          all_goals
           have hfin : Kp w7 W' := And.right (And.right (by assumption))
           have HF := Aside.mk hfin
           clear hfin
           go_wp2
           go_roundg (gko - 1)
           case measure => have := HI.out; have := hlt'.out; omega
           case rel => exact ⟨i + 1, alz, by have := HI.out; have := hlt'.out; omega, by go_num, ⟨(HP7.out.below HF.out).mono (by omega)⟩⟩
    · have hNe : i = N := by omega
      have hcase : (i < l.length ∧ 20 ≤ i) ∨ l.length ≤ i := by have := HN.out; omega
      have hW := Aside.mk (T.works wr (hP.out.tabs HK.out))
      clear hi hlt hNe
      obtain ⟨hc1, hc2⟩ | hc1 := hcase
      all_goals
        go_wp2_with (go_at_call 13; refine hW.out.mono ?_; rintro e w9 ⟨rfl, hb9⟩; have HB9 := Aside.mk hb9; clear hb9)
        go_ret
        exact ⟨rfl, hP.out.2.2.2.2.trans (HB9.out.mono hP.out.2.2.2.2.size)⟩
end Go.Proofs.YticpbhpehoolfaaDoor

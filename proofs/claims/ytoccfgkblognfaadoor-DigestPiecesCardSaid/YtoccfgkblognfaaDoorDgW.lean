/- The statement DigestPieces: the call returns true and turns nothing that was there. Conditions: where the pieces lie, the table of rounds. -/
import Derived.Test.YtoccfgkblognfaaDoorDgT
import Derived.Deep.RegionWith
namespace Go.Proofs.YtoccfgkblognfaaDoor
open Go.RowKit Go.Proofs.YtoccfgkblognfaaDoorW.PrintWords Go.Proofs.YtoccfgkblognfaaDoorW.PrintLast Go.Proofs.YtoccfgkblognfaaDoorW.PrintMore
/-- 'append(v, xs...)', and where the row lies behind it. -/
theorem wpList_append_bytes_n {w : World} {ops : Array Oper} {rest : List Oper} {o : Oper} {a : Act} {Q : Exit → Act → World → Prop} (hgd : o.guard = none) (s x : Operand)
    (ho : o.op = .call { callee := .builtin .append, args := #[s, x], argTypes := #[22, 22] }) (base : Nat) (v : Value) (l xs : List Int) (A : Option Addr) (m c : Nat) (hs : a.eval s = v) (hx : a.eval x = .slice A m c) (hm : xs.length = m)
    (HO : Bytes w base v l) (HR : Src w A xs) (hbase : base ≤ w.heap.size) (hl : l.length + m ≤ 140737488355328)
    (h : ∀ v1 w1, Bytes w1 base v1 (l ++ xs) → w.grownBy w1 v.ownBlock → (v1.ownBlock = v.ownBlock ∨ ∃ b, v1.ownBlock = some b ∧ w.heap.size ≤ b) → wpList Tryd.prog ops Q rest (a.put o.dst v1) w1) : wpList Tryd.prog ops Q (o :: rest) a w := by
  subst hm
  refine Kd.R_append_rows (Kd.int .u8) (Rr := (Kd.int .u8).K w) (w0 := w) base hgd s x 22 5 (.int .u8 0) 1 ho Tryd.underlying22 PA.info5 rfl (by decide) (by decide) v l xs A xs.length c (fun _ => True) (fun _ => False) hs hx (Kd.R_of_own HO (fun _ _ => trivial)) ⟨rfl, by omega, fun h0 => ?_⟩ (fun _ _ h => h) (fun _ h => h.elim) (fun _ _ => trivial) (Below.refl _ _) hbase (by omega) (fun v1 w1 h1 _ h3 h4 => h v1 w1 (Kd.own_of_R h1) h3 h4)
  obtain ⟨b, o, hA, _⟩ := HR 0 _ (List.getElem?_eq_getElem h0)
  subst hA
  refine ⟨_, rfl, fun j p hp => ⟨[.int .u8 p], rfl, rfl, fun i u hu => ?_⟩⟩
  obtain ⟨b', o', hA, hc⟩ := HR j p hp
  simp only [Option.some.injEq, Addr.mk.injEq] at hA
  obtain ⟨rfl, rfl, _⟩ := hA
  match i, hu with
  | 0, hu =>
    simp at hu; subst hu
    rw [Addr.add_mid, ← hc]
    show w.cell? ⟨b, o + (j * 1 + 0), none⟩ = _
    rw [Nat.mul_one]; rfl
/-- A piece, where it lies. -/
theorem piece_in {W : World} {A : Option Addr} {l : List (List Int)} (h : Kd.C (Kd.slice 5 (Kd.int .u8)) W A l.length l) (i : Nat) (x : List Int) (hx : l[i]? = some x) : ∃ a Ai ci, A = some a ∧ W.cell? (a.add i) = some (.slice Ai x.length ci) ∧ x.length ≤ ci ∧ Kd.C (Kd.int .u8) W Ai x.length x := by
  obtain ⟨_, _, h3⟩ := h
  obtain ⟨a, rfl, h4⟩ := h3 (by have := (List.getElem?_eq_some_iff.1 hx).1; omega)
  obtain ⟨c, hcl, hK, hcell⟩ := h4 i x hx
  obtain ⟨Ai, ci, rfl, hci, hC⟩ := hK
  refine ⟨a, Ai, ci, rfl, ?_, hci, hC⟩
  have := hcell 0 _ rfl
  rwa [show (Kd.slice 5 (Kd.int .u8)).sz = 1 from rfl, Nat.mul_one, Nat.add_zero] at this
/-- Where a row of its own lies. -/
theorem Bytes.place {w : World} {base n c : Nat} {A : Option Addr} {l : List Int} (h : Bytes w base (.slice A n c) l) (_hb : base ≤ w.heap.size) : ∃ g : Nat, base ≤ g ∧ (0 < n → A = some ⟨g, 0, none⟩ ∧ ∃ cur, w.heap[g]? = some (.cells cur 5 (0, 0)) ∧ n ≤ cur.size) := by
  rcases h.2 with ⟨h1, _⟩ | ⟨g, cap, cur, hv, hg, hh, hn, _, hsz, _⟩
  · obtain ⟨rfl, rfl, rfl⟩ : A = none ∧ n = 0 ∧ c = 0 := by simpa using h1
    exact ⟨base, Nat.le_refl _, fun h => by omega⟩
  · obtain ⟨rfl, rfl, rfl⟩ : A = some ⟨g, 0, none⟩ ∧ n = l.length ∧ c = cap := by simpa using hv
    exact ⟨g, hg, fun _ => ⟨rfl, cur, hh, by omega⟩⟩
/-- What stands in the loop that spoils a piece. -/
def spRel (w4 : World) (g n : Nat) (r : Option Nat) (kq : Nat) (v37 : Value) (wr : World) : Prop :=
  ∃ j : Nat, j + kq = n ∧ v37 = .int .i64 (j : Int) ∧ Aside (0 < n → ∃ cur, wr.heap[g]? = some (.cells cur 5 (0, 0)) ∧ n ≤ cur.size) ∧ Aside (w4.grownBy wr r)
/-- What stands in the loop over the pieces. -/
def pcRel (w : World) (N : Nat) (kq : Nat) (v3 v4 : Value) (wr : World) : Prop :=
  ∃ (i : Nat) (all : List Int), i + kq = N ∧ v4 = .int .i64 (i : Int) ∧ all.length ≤ 2000 * i ∧ Aside (Hashes wr w.heap.size all) ∧ Aside (Bytes wr (w.heap.size + 1) v3 all) ∧ Aside (∀ x ∈ all, 0 ≤ x ∧ x < 256) ∧ Aside (Below w.heap.size w wr)
set_option maxHeartbeats 16000000 in
set_option maxRecDepth 100000 in
theorem walk_pieces (w : World) (A : Option Addr) (c : Nat) (l : List (List Int)) (hC : Kd.C (Kd.slice 5 (Kd.int .u8)) w A l.length l) (hc : l.length ≤ c) (ok : l.length ≤ maxLen ∧ ∀ x ∈ l, x.length ≤ maxLen ∧ ∀ y ∈ x, (Lit.int .u8 y).wf = true) (hk : K64 w) :
    Calls Tryd.prog 7 #[.slice A l.length c] w fun e w' => e = .returned (.bool true) ∧ Below w.heap.size w w' := by
  have h00 := Aside.mk (show 0 < w.heap.size from block_lt_of_cell (hk 0 (by decide)))
  have HK := Aside.mk hk
  have hz : ∀ W, (zeroValue 24).run Tryd.prog W = .ok (.agg T.z32) W := fun W => by
    have hi : (Tryd.prog.info? 24).map (·.zero) = some (some (.agg T.z32)) := by kernel_rfl
    obtain ⟨i, h1, h2⟩ := Option.map_eq_some_iff.1 hi
    simp [zeroValue, typeInfo, h1, h2]
  have hi24 : Aside ((Tryd.prog.info? 24).map (·.size) = some 32) := ⟨by kernel_rfl⟩
  have HC := Aside.mk hC
  have HOK := Aside.mk ok
  obtain ⟨N, hN⟩ : ∃ N, N = min l.length 12 := ⟨_, rfl⟩
  have HN := Aside.mk hN
  have hlm : l.length ≤ 9223372036854775807 := ok.1
  clear hk hC ok hN
  go_enter Tryd.func7, Tryd.ntmps7
  go_wp2_with fail
  refine (T.New_has w).mono ?_
  rintro e w1 ⟨rfl, h1, hb1, hs1⟩
  have H1 := Aside.mk h1
  have HB1 := Aside.mk hb1
  have HS1 := Aside.mk hs1
  clear h1 hb1 hs1
  go_wp2_with fail
  go_loopg [4, 5] N (fun kq v4 v5 wr => pcRel w N kq v4 v5 wr)
  case atStart => exact ⟨0, [], by omega, rfl, by simp, H1, ⟨by simpa [Bytes] using World.ownsRow_nil _ _ _ _⟩, ⟨fun x hx => by cases hx⟩, HB1⟩
  case round =>
    obtain ⟨i, al, hi, rfl, hal, hH, hA, hR, hB⟩ := hrel
    have HI := Aside.mk hi
    have HAL := Aside.mk hal
    have hN12 : N ≤ 12 := by have := HN.out; omega
    have hNl : N ≤ l.length := by have := HN.out; omega
    by_cases hlt : i < N
    · have hil : i < l.length := by omega
      have hi12 : i < 12 := by omega
      obtain ⟨x, hx⟩ : ∃ x, l[i]? = some x := ⟨_, List.getElem?_eq_getElem hil⟩
      obtain ⟨a, Ai, ci, rfl, hcell, hci, hCi⟩ := piece_in HC.out i x hx
      have hxr := Aside.mk (show ∀ y ∈ x, 0 ≤ y ∧ y < 256 from fun y hy => by
        have h1 := (HOK.out.2 x (List.mem_of_getElem? hx)).2 y hy
        simp [Lit.wf, IntKind.min, IntKind.max, IntKind.signed, IntKind.bits] at h1
        omega)
      have hcr := (hB.out.cell (block_lt_of_cell hcell)).trans hcell
      have hCr := Aside.mk (Kd.C_below hCi hB.out)
      have hlt' := Aside.mk hlt
      clear hcell hCi hx hi hal hlt
      generalize gk = gko at *
      go_wp2_with fail
      refine (T.few Ai ci x wr hCr.out hci).mono ?_
      obtain ⟨p, hp⟩ : ∃ p, p = x.take 2000 := ⟨_, rfl⟩
      rw [← hp]
      have hpl := Aside.mk (show p.length ≤ 2000 from by rw [hp, List.length_take]; omega)
      have hpr := Aside.mk (show ∀ y ∈ p, 0 ≤ y ∧ y < 256 from fun y hy => hxr.out y (by rw [hp] at hy; exact List.mem_of_mem_take hy))
      rintro e w2 ⟨vp, rfl, hP2, hb2⟩
      obtain ⟨Ap, cp, rfl, hcp, _, _⟩ := hP2.slice
      have HP2 := Aside.mk hP2
      have HH2 := Aside.mk (hH.out.below hb2)
      have HA2 := Aside.mk (show Bytes w2 (w.heap.size + 1) u4 al from hA.out.below hb2)
      have HB2 := Aside.mk (hB.out.trans (hb2.mono hB.out.size))
      have HK2 := Aside.mk (HK.out.of_block (HB2.out.block 0 h00.out))
      have hz2 := Aside.mk hb2.size
      have hHlt := Aside.mk hH.out.lt
      have hAlt := Aside.mk (World.ownsRow.lt hA.out)
      obtain ⟨gp, hgp, hform⟩ := hP2.place hb2.size
      have HGP := Aside.mk hgp
      have HFORM := Aside.mk hform
      have hple := Aside.mk hP2.src.2.2.1
      have hpla := Aside.mk hP2.src.2.2.2
      clear hP2 hb2 hgp hform hH hA hB hp hCr hxr hcr
      go_wp2_with fail
      refine (WriteB HH2.out HP2.out (by have := HAL.out; have := hpl.out; omega) HK2.out).mono ?_
      rintro e w3 ⟨rfl, hH3, hg3⟩
      have HH3 := Aside.mk hH3
      have HG3 := Aside.mk hg3
      have HA3 := Aside.mk (show Bytes w3 (w.heap.size + 1) u4 al from World.ownsRow.kept HA2.out hg3 (by
        rcases h : u4.ownBlock with _ | k
        · exact .inl rfl
        · exact .inr (fun e => by have := (hAlt.out k h).1; injection e with e; omega)))
      have HS3 := Aside.mk (show Src w3 Ap p from hple.out.of_kept fun a ha => hg3.block _ (hpla.out a ha).2 (fun e => by have := (hpla.out a ha).1; have := hHlt.out; injection e with e; omega))
      have HB3 := Aside.mk (HB2.out.grown hg3 HB2.out.size (fun k e => by injection e with e; omega))
      have hz3 := Aside.mk hg3.size
      clear hH3 hg3 HH2 HA2
      go_wp2_with ((with_reducible refine wpList_append_bytes_n rfl (.tmp 32) (.tmp 33) rfl (w.heap.size + 1) u4 al p Ap p.length cp rfl rfl rfl ?ho ?hr ?hb ?hl ?_); (case ho => exact HA3.out); (case hr => exact HS3.out); (case hb => have := hz3.out; have := hz2.out; have := hHlt.out; omega); (case hl => have := HAL.out; have := hpl.out; omega); intro v4 w4 h4 hg4 hw4; have HA4 := Aside.mk h4; have HG4 := Aside.mk hg4; have HW4 := Aside.mk hw4; clear h4 hg4 hw4)
      have hgv4 := Aside.mk (show ∀ k, v4.ownBlock = some k → 0 < p.length → k ≠ gp from fun k hk h0 e => by
        obtain ⟨_, cur, hcur, _⟩ := HFORM.out h0
        have hlt := (Array.getElem?_eq_some_iff.1 hcur).1
        have h3 := hz3.out
        rcases HW4.out with h | ⟨b, hb, hle⟩
        · rw [h] at hk
          have := (hAlt.out k hk).2
          have := HGP.out
          omega
        · rw [hb] at hk; injection hk with hk; omega)
      have hHn : ∀ k, u4.ownBlock = some k → k ≠ w.heap.size := fun k hk e => by have := (hAlt.out k hk).1; omega
      have HH4 := Aside.mk (show Hashes w4 w.heap.size (al ++ p) from HH3.out.of_block (HG4.out.block _ HH3.out.lt (fun e => hHn _ e.symm rfl)))
      have HB4 := Aside.mk (HB3.out.grown HG4.out HB3.out.size (fun k e => by have := (hAlt.out k e).1; omega))
      have hrow4 := Aside.mk (show 0 < p.length → ∃ cur, w4.heap[gp]? = some (.cells cur 5 (0, 0)) ∧ p.length ≤ cur.size from fun h0 => by
        obtain ⟨_, cur, hcur, hsz⟩ := HFORM.out h0
        have hlt := (Array.getElem?_eq_some_iff.1 hcur).1
        refine ⟨cur, ?_, hsz⟩
        rw [HG4.out.block _ (Nat.lt_of_lt_of_le hlt hz3.out) (fun e => by have := (hAlt.out _ e.symm).2; have := HGP.out; omega)]
        rw [HG3.out.block _ hlt (fun e => by injection e with e; have := HGP.out; have := hHlt.out; omega)]
        exact hcur)
      clear hHn
      go_wp2_with fail
      have hp63 : p.length ≤ 9223372036854775807 := by have := hpl.out; omega
      obtain ⟨r, hr0, hr1⟩ : ∃ r : Option Nat, (0 < p.length → r = some gp) ∧ (∀ k, r = some k → k = gp ∧ 0 < p.length) := by
        by_cases h0 : 0 < p.length
        · exact ⟨some gp, fun _ => rfl, fun k e => ⟨(Option.some.inj e).symm, h0⟩⟩
        · exact ⟨none, fun h => absurd h h0, fun k e => by cases e⟩
      have HR0 := Aside.mk hr0
      have HR1 := Aside.mk hr1
      clear hr0 hr1
      go_loopg [7, 37] p.length (fun kq _ v37 wr => spRel w4 gp p.length r kq v37 wr)
      case atStart => exact ⟨0, by omega, rfl, hrow4, ⟨World.grownBy.refl _ _⟩⟩
      case round =>
        obtain ⟨j, hj, rfl, hrow, hG⟩ := hrel
        have HJ := Aside.mk hj
        by_cases hlt : j < p.length
        · have h0 : 0 < p.length := by omega
          obtain ⟨rfl, _⟩ := HFORM.out h0
          obtain rfl := HR0.out h0
          obtain ⟨cur, hcur, hsz⟩ := hrow.out h0
          have hfr := frozen_of_row wr gp j _ _ hcur
          obtain ⟨y, hy⟩ : ∃ y, cur[j]? = some y := ⟨_, Array.getElem?_eq_getElem (by omega)⟩
          have cd := (cell_of_row wr gp j _ _ _ hcur).trans hy
          have HCUR := Aside.mk hcur
          have hlt' := Aside.mk hlt
          clear hj hcur hy
          go_wp2
          go_roundg (gk - 1)
          case measure => have := HJ.out; have := hlt'.out; omega
          case rel =>
            refine ⟨j + 1, by have := HJ.out; have := hlt'.out; omega, by go_num, ⟨fun _ => ⟨_, heap_setCell_same wr gp j _ _ _ HCUR.out, by simp; omega⟩⟩, ⟨gb_set hG.out _ _⟩⟩
        · have hjq : j = p.length := by omega
          subst hjq
          clear hlt hj
          have hrH : ∀ k, r = some k → w.heap.size + 1 ≤ k := fun k e => by have := (HR1.out k e).1; have := HGP.out; have := hHlt.out; omega
          have HH5 := Aside.mk (show Hashes wr w.heap.size (al ++ p) from HH4.out.of_block (hG.out.block _ HH4.out.lt (fun e => by have := hrH _ e.symm; omega)))
          have HA5 := Aside.mk (show Bytes wr (w.heap.size + 1) v4 (al ++ p) from World.ownsRow.kept HA4.out hG.out (by
            rcases h : v4.ownBlock with _ | k
            · exact .inl rfl
            · exact .inr (fun e => by
                obtain ⟨h1, h0⟩ := HR1.out k e.symm
                exact hgv4.out k h h0 h1)))
          have HB5 := Aside.mk (HB4.out.grown hG.out HB4.out.size (fun k e => by have := hrH k e; omega))
          have HK5 := Aside.mk (HK.out.of_block (HB5.out.block 0 h00.out))
          have HL5 := Aside.mk (show (al ++ p).length ≤ 2000 * (i + 1) from by rw [List.length_append]; have := HAL.out; have := hpl.out; omega)
          have HR5 := Aside.mk (show ∀ y ∈ al ++ p, 0 ≤ y ∧ y < 256 from fun y hy => by
            rcases List.mem_append.1 hy with h | h
            · exact hR.out y h
            · exact hpr.out y h)
          clear hrH HH4 HA4 HB4 hG hrow hgv4 hrow4 HW4 HG4 HH3 HA3 HB3 HG3 HS3 HR0 HR1 HFORM HP2 hple hpla
          generalize al ++ p = al at *
          go_wp2_with fail
          refine (T.Sum w.heap.size al wr HH5.out HK5.out (by have := HL5.out; omega)).mono ?_
          rintro e w6 ⟨rfl, hb6⟩
          have hdl := Aside.mk (show (T.bs (digestL al)).size = 32 from by simp only [T.bs, List.size_toArray, List.length_map]; exact digestL_length al)
          have HH6 := Aside.mk (HH5.out.below hb6)
          have HA6 := Aside.mk (show Bytes w6 (w.heap.size + 1) v4 al from HA5.out.below hb6)
          have HB6 := Aside.mk (HB5.out.trans (hb6.mono HB5.out.size))
          clear hb6 HH5 HA5 HB5 HK5
          go_wp2_with ((with_reducible refine wpList_store_row rfl 24 (.tmp 8) (.tmp 45) rfl w6.heap.size (T.bs (digestL al)) rfl rfl 24 T.z32 ?hg ?hi ?hold (T.bs_one _) ?_); (case hg => exact heap_alloc_new w6 _); (case hi => rw [hdl.out]; exact hi24.out); (case hold => rw [hdl.out]; rfl))
          generalize hw7 : (w6.alloc (.cells T.z32 24)).setRow w6.heap.size (T.bs (digestL al)) = w7
          have hD7 := Aside.mk (show w7.heap[w6.heap.size]? = some (.cells (T.bs (digestL al)) 24 (0, 0)) from by rw [← hw7]; exact setRow_heap _ _ _ _ _ _ (heap_alloc_new w6 _))
          have hB7 : Below w6.heap.size w6 w7 := by rw [← hw7]; exact Below_setRow ((Below.refl _ _).alloc (Nat.le_refl _) _) (Nat.le_refl _) _
          have HB7 := Aside.mk (HB6.out.trans (hB7.mono HB6.out.size))
          have HH7 := Aside.mk (HH6.out.below hB7)
          have HA7 := Aside.mk (show Bytes w7 (w.heap.size + 1) v4 al from HA6.out.below hB7)
          clear hw7 hB7 HH6 HA6
          obtain ⟨Al, cl, rfl, hcl, _, _⟩ := HA7.out.slice
          have hRO := Aside.mk (show ∀ W, Kp w7 W → Calls Tryd.prog 11 #[.slice Al al.length cl] W fun e w' => ∃ v, e = .returned v ∧ Bytes w' W.heap.size v (digestL al) ∧ Below W.heap.size W w' from fun W hW =>
            refOfB (HA7.out.below hW) (by have := HL5.out; omega) HR5.out)
          have hLen := Aside.mk (show ∀ W, Kp w7 W → Calls Tryd.prog 18 #[.pointer (some ⟨w.heap.size, 0, none⟩)] W fun e w' => e = .returned (.int .i64 al.length) ∧ Below W.heap.size W w' from fun W hW => by
            refine (T.Len w.heap.size al W (HH7.out.below hW)).mono ?_
            rintro e w' ⟨rfl, rfl⟩
            exact ⟨rfl, Below.refl _ _⟩)
          have hd32 := Aside.mk (digestL_length al)
          generalize digestL al = d at *
          have hst := Aside.mk (show (convert 22 9 (.slice (some ⟨w6.heap.size, 0, none⟩) 32 32)).run Tryd.prog w7.drew = .ok (.string (strOfNums d)) w7.drew ∧ w7.drew.heap[w6.heap.size]? = some (.cells (T.bs d) 24 (0, 0)) ∧ Kp w7 w7.drew from ⟨conv_row (W := w7.drew) hD7.out hd32.out, hD7.out, Kp.refl w7⟩)
          have hF0 := hst.out
          have hcv0 := hF0.1
          go_region_with (first | (go_at_call 18; (with_reducible refine (hLen.out _ (And.right (And.right (by assumption)))).mono ?_); rintro e W' ⟨rfl, hb⟩; have hF := keepC hd32.out (by assumption) hb; have hcv := hF.1; clear hb) | (go_at_call 11; (with_reducible refine (hRO.out _ (And.right (And.right (by assumption)))).mono ?_); rintro e W' ⟨v, rfl, hv, hb⟩; obtain ⟨g2, cp2, rfl, hcr⟩ := conv_own hv (by rw [hd32.out]; decide); have hF := keepC hd32.out (by assumption) hb; have hcv := hF.1; clear hv hb))
          all_goals
           have hfin : Kp w7 W' := And.right (And.right (by assumption))
           have HF := Aside.mk hfin
           clear hfin
           go_wp2
           go_roundg (gko - 1)
           case measure => have := HI.out; have := hlt'.out; omega
           case rel => exact ⟨i + 1, al, by have := HI.out; have := hlt'.out; omega, by go_num, HL5.out, ⟨HH7.out.below HF.out⟩, ⟨HA7.out.below HF.out⟩, HR5, ⟨HB7.out.trans (HF.out.mono HB7.out.size)⟩⟩
    · have hNe : i = N := by omega
      have HL5 := Aside.mk (show al.length ≤ 24000 from by omega)
      have HH5 := Aside.mk hH.out
      have HA5 := Aside.mk hA.out
      have HR5 := Aside.mk hR.out
      have HB5 := Aside.mk hB.out
      have HK5 := Aside.mk (HK.out.of_block (HB5.out.block 0 h00.out))
      have hcase : (i < l.length ∧ 12 ≤ i) ∨ l.length ≤ i := by have := HN.out; omega
      clear hH hA hR hB hal hi hlt
      obtain ⟨hc1, hc2⟩ | hc1 := hcase
      all_goals
        go_wp2_with fail
        refine (T.Sum w.heap.size al wr HH5.out HK5.out (by have := HL5.out; omega)).mono ?_
        rintro e w6 ⟨rfl, hb6⟩
        have hdl := Aside.mk (show (T.bs (digestL al)).size = 32 from by simp only [T.bs, List.size_toArray, List.length_map]; exact digestL_length al)
        have HA6 := Aside.mk (show Bytes w6 (w.heap.size + 1) u4 al from HA5.out.below hb6)
        have HB6 := Aside.mk (HB5.out.trans (hb6.mono HB5.out.size))
        clear hb6 HH5 HA5 HB5 HK5
        go_wp2_with (first | ((with_reducible refine wpList_store_row rfl 24 (.tmp 9) (.tmp 60) rfl w6.heap.size (T.bs (digestL al)) rfl rfl 24 T.z32 ?hg ?hi ?hold (T.bs_one _) ?_); (case hg => exact heap_alloc_new w6 _); (case hi => rw [hdl.out]; exact hi24.out); (case hold => rw [hdl.out]; rfl)))
        generalize hw7 : (w6.alloc (.cells T.z32 24)).setRow w6.heap.size (T.bs (digestL al)) = w7
        have hD7 := Aside.mk (show w7.heap[w6.heap.size]? = some (.cells (T.bs (digestL al)) 24 (0, 0)) from by rw [← hw7]; exact setRow_heap _ _ _ _ _ _ (heap_alloc_new w6 _))
        have hB7 : Below w6.heap.size w6 w7 := by rw [← hw7]; exact Below_setRow ((Below.refl _ _).alloc (Nat.le_refl _) _) (Nat.le_refl _) _
        have HB7 := Aside.mk (HB6.out.trans (hB7.mono HB6.out.size))
        have HA7 := Aside.mk (show Bytes w7 (w.heap.size + 1) u4 al from HA6.out.below hB7)
        clear hw7 hB7 HA6
        obtain ⟨Al, cl, rfl, hcl, _, _⟩ := HA7.out.slice
        have hRO := Aside.mk (show ∀ W, Kp w7 W → Calls Tryd.prog 11 #[.slice Al al.length cl] W fun e w' => ∃ v, e = .returned v ∧ Bytes w' W.heap.size v (digestL al) ∧ Below W.heap.size W w' from fun W hW =>
          refOfB (HA7.out.below hW) (by have := HL5.out; omega) HR5.out)
        have hWorks := Aside.mk (show ∀ W, Kp w7 W → Calls Tryd.prog 14 #[] W fun e w' => e = .returned (.bool true) ∧ Below W.heap.size W w' from fun W hW =>
          T.works W (HK.out.of_block ((HB7.out.trans (hW.mono HB7.out.size)).block 0 h00.out)))
        have hd32 := Aside.mk (digestL_length al)
        generalize digestL al = d at *
        have hst := Aside.mk (show (convert 22 9 (.slice (some ⟨w6.heap.size, 0, none⟩) 32 32)).run Tryd.prog w7.drew = .ok (.string (strOfNums d)) w7.drew ∧ w7.drew.heap[w6.heap.size]? = some (.cells (T.bs d) 24 (0, 0)) ∧ Kp w7 w7.drew from ⟨conv_row (W := w7.drew) hD7.out hd32.out, hD7.out, Kp.refl w7⟩)
        have hF0 := hst.out
        have hcv0 := hF0.1
        go_region_with (first | (go_at_call 14; (with_reducible refine (hWorks.out _ (And.right (And.right (by assumption)))).mono ?_); rintro e W' ⟨rfl, hb⟩; have hF := keepC hd32.out (by assumption) hb; have hcv := hF.1; clear hb) | (go_at_call 11; (with_reducible refine (hRO.out _ (And.right (And.right (by assumption)))).mono ?_); rintro e W' ⟨v, rfl, hv, hb⟩; obtain ⟨g2, cp2, rfl, hcr⟩ := conv_own hv (by rw [hd32.out]; decide); have hF := keepC hd32.out (by assumption) hb; have hcv := hF.1; clear hv hb))
        all_goals
         have hfin : Kp w7 W' := And.right (And.right (by assumption))
         have HF := Aside.mk hfin
         clear hfin
         go_wp2
         go_ret
         exact ⟨rfl, HB7.out.trans (HF.out.mono HB7.out.size)⟩
end Go.Proofs.YtoccfgkblognfaaDoor

/- The contract of the reference's Of: it answers with the same digest, in a row of its own. Conditions: bytes from 0 to 255, where they lie, sizes. -/
import Derived.Test.YtoccfgkblognfaaDoorDgQ
import Derived.Deep.Onto
namespace Go.Proofs.YtoccfgkblognfaaDoor
open Go.RowKit Go.Proofs.YtoccfgkblognfaaDoorW.PrintWords Go.Proofs.YtoccfgkblognfaaDoorW.PrintLast Go.Proofs.YtoccfgkblognfaaDoorW.PrintMore
theorem T.turnQ (x : Int) (kI : Int) (k s : Nat) (w : World) (hk : kI = (k : Int)) (h0 : 0 < k) (h1 : k < 32) (hs : 32 - k = s) : Calls Tryd.prog 23 #[.int .u32 x, .int .i64 kI] w fun e w' => e = .returned (.int .u32 (rotl x s)) ∧ ∃ m, w' = w.drewN m := by
  subst hk; subst hs
  exact (T.turn x k w h0 h1).mono fun e w' ⟨h, h'⟩ => ⟨h, 1, h'⟩
/-- These words lie at this address. -/
def SrcW (w : World) (A : Option Addr) (ws : List Int) : Prop := ∀ i x, ws[i]? = some x → ∃ b o, A = some ⟨b, o, none⟩ ∧ w.cell? ⟨b, o + i, none⟩ = some (.int .u32 x)
/-- 'append(v, xs...)' onto a row of words of the call's own. -/
theorem wpList_append_words {w : World} {ops : Array Oper} {rest : List Oper} {o : Oper} {a : Act} {Q : Exit → Act → World → Prop} (hgd : o.guard = none) (s x : Operand)
    (ho : o.op = .call { callee := .builtin .append, args := #[s, x], argTypes := #[46, 46] }) (base : Nat) (v : Value) (l xs : List Int) (A : Option Addr) (m c : Nat) (hs : a.eval s = v) (hx : a.eval x = .slice A m c) (hm : xs.length = m)
    (HO : WordsR w base v l) (HR : SrcW w A xs) (hbase : base ≤ w.heap.size) (hl : l.length + m ≤ 1000000000)
    (h : ∀ v1 w1, WordsR w1 base v1 (l ++ xs) → w.grownBy w1 v.ownBlock → wpList Tryd.prog ops Q rest (a.put o.dst v1) w1) : wpList Tryd.prog ops Q (o :: rest) a w := by
  subst hm
  refine Kd.R_append_rows (Kd.int .u32) (Rr := (Kd.int .u32).K w) (w0 := w) base hgd s x 46 39 (.int .u32 0) 4 ho Tryd.underlying46 PA.info39 rfl (by decide) (by decide) v l xs A xs.length c (fun _ => True) (fun _ => False) hs hx (Kd.R_of_own HO (fun _ _ => trivial)) ⟨rfl, by omega, fun h0 => ?_⟩ (fun _ _ h => h) (fun _ h => h.elim) (fun _ _ => trivial) (Below.refl _ _) hbase (by omega) (fun v1 w1 h1 _ h3 _ => h v1 w1 (Kd.own_of_R h1) h3)
  obtain ⟨b, o, hA, _⟩ := HR 0 _ (List.getElem?_eq_getElem h0)
  subst hA
  refine ⟨_, rfl, fun j p hp => ⟨[.int .u32 p], rfl, rfl, fun i u hu => ?_⟩⟩
  obtain ⟨b', o', hA, hc⟩ := HR j p hp
  simp only [Option.some.injEq, Addr.mk.injEq] at hA
  obtain ⟨rfl, rfl, _⟩ := hA
  match i, hu with
  | 0, hu =>
    simp at hu; subst hu
    rw [Addr.add_mid, ← hc]
    show w.cell? ⟨b, o + (j * 1 + 0), none⟩ = _
    rw [Nat.mul_one]; rfl
theorem WordsR.empty (w : World) (base : Nat) (hb : base ≤ w.heap.size) : WordsR (w.alloc (.cells #[] 39)) base (.slice (some ⟨w.heap.size, 0, none⟩) 0 0) [] :=
  ⟨by simp, .inr ⟨w.heap.size, 0, #[], rfl, hb, heap_alloc_new w _, Nat.le_refl _, by decide, rfl, rfl⟩⟩
theorem ws_src {w : World} {B t : Nat} {l : List Int} (h : w.heap[B]? = some (.cells (T.ws l) t (0, 0))) : SrcW w (some ⟨B, 0, none⟩) l := fun i x hx => ⟨B, 0, rfl, by
  rw [Nat.zero_add, cell_of_row _ _ _ _ _ _ h]
  simp [T.ws, hx]⟩
/-- Eight words in a block. -/
def V8 (w : World) (g : Nat) (l : List Int) : Prop := ∀ i, i < 8 → w.cell? ⟨g, i, none⟩ = some (.int .u32 (l.getD i 0))
/-- What stands in the outer loop: below the blocks of W all is as it was, but for the row of the eight words. -/
def refA (W : World) (hB : Nat) (all : List Int) (Q : Nat) (kq : Nat) (v6 : Value) (wr : World) : Prop := ∃ q n6 : Nat, q + kq = Q ∧ v6 = .int .i64 (n6 : Int) ∧ Aside (n6 = 64 * q) ∧ Aside (wr.heap[hB]? = some (.cells (T.ws (foldQ h0L all q)) 39 (0, 0))) ∧ Aside (W.grownBy wr (some hB))
def refB (W : World) (hB : Nat) (bl hl : List Int) (kq : Nat) (v8 v9 : Value) (wr : World) : Prop := ∃ (i g c : Nat), Aside (hB < g) ∧ i + kq = 64 ∧ v9 = .int .i64 (i : Int) ∧ v8 = .slice (some ⟨g, 0, none⟩) 8 c ∧ 8 ≤ c ∧ Aside (V8 wr g (roundN bl hl i)) ∧ Aside (Below W.heap.size W wr)
def E8 (w : World) (g : Nat) (a b c d e f h k : Int) : Prop := w.cell? ⟨g, 0, none⟩ = some (.int .u32 a) ∧ w.cell? ⟨g, 1, none⟩ = some (.int .u32 b) ∧ w.cell? ⟨g, 2, none⟩ = some (.int .u32 c) ∧ w.cell? ⟨g, 3, none⟩ = some (.int .u32 d) ∧ w.cell? ⟨g, 4, none⟩ = some (.int .u32 e) ∧ w.cell? ⟨g, 5, none⟩ = some (.int .u32 f) ∧ w.cell? ⟨g, 6, none⟩ = some (.int .u32 h) ∧ w.cell? ⟨g, 7, none⟩ = some (.int .u32 k)
theorem V8.e8 {w : World} {g : Nat} {a b c d e f h k : Int} (hv : V8 w g [a, b, c, d, e, f, h, k]) : E8 w g a b c d e f h k :=
  ⟨hv 0 (by decide), hv 1 (by decide), hv 2 (by decide), hv 3 (by decide), hv 4 (by decide), hv 5 (by decide), hv 6 (by decide), hv 7 (by decide)⟩
theorem E8.drewN {w : World} {g : Nat} {a b c d e f h k : Int} (hv : E8 w g a b c d e f h k) (n : Nat) : E8 (w.drewN n) g a b c d e f h k := hv
theorem E8.drew {w : World} {g : Nat} {a b c d e f h k : Int} (hv : E8 w g a b c d e f h k) : E8 w.drew g a b c d e f h k := hv
theorem xor_all (x : Int) : bits .xor .u32 x 4294967295 = bits .xor .u32 IntKind.u32.max x := by
  rw [show IntKind.u32.max = 4294967295 from by decide]
  simp only [bits, BitVec.xor_comm]
theorem V8.row {w : World} {l : List Int} (hl : l.length = 8) (t : TypeId) : V8 (w.alloc (.cells (T.ws l) t)).drew w.heap.size l := fun i hi => T.ws_cell (heap_alloc_new w _) i (by omega)
/-- What stands in the third loop. -/
def refC (W : World) (hB g : Nat) (v hq8 : List Int) (kq : Nat) (v14 : Value) (wr : World) : Prop := ∃ i : Nat, i + kq = 8 ∧ v14 = .int .i64 (i : Int) ∧ Aside (wr.heap[hB]? = some (.cells (T.ws (addW v i hq8)) 39 (0, 0))) ∧ Aside (V8 wr g v) ∧ Aside (W.grownBy wr (some hB))
theorem cell_alloc_kept {W : World} {p : Addr} {v : Value} {o : Obj} (h : W.cell? p = some v) : (W.alloc o).cell? p = some v :=
  (((Below.refl W.heap.size W).alloc (Nat.le_refl _) o).cell (p := p) (block_lt_of_cell h)).trans h
theorem cell_grown_kept {W W' : World} {p : Addr} {v : Value} {r : Option Nat} (hg : W.grownBy W' r) (h : W.cell? p = some v) (hr : r ≠ some p.block) : W'.cell? p = some v :=
  (World.cell?_of_block (a := p) (hg.block p.block (block_lt_of_cell h) (fun e => hr e.symm))).trans h
theorem quad_cells (wr : World) (x y z v : Value) : ∀ (j : Nat) (u : Value), [x, y, z, v][j]? = some u → (wr.alloc (.cells #[x, y, z, v] 5)).drew.cell? ((⟨wr.heap.size, 0, none⟩ : Addr).add j) = some u := by
  intro j u hu
  rw [Addr.add_mid]
  show (wr.alloc (.cells #[x, y, z, v] 5)).cell? _ = _
  rw [cell_of_row _ _ _ _ _ _ (heap_alloc_new wr _), Nat.zero_add]
  simpa using hu
theorem be_step (d : List Int) (i : Nat) (x : Int) (hi : i < d.length) (hx : d.getD i 0 = x) : (d.take (i + 1)).flatMap be4 = (d.take i).flatMap be4 ++ be4 x := by
  rw [List.take_add_one, List.flatMap_append]
  congr 1
  rw [List.getD_eq_getElem?_getD, List.getElem?_eq_getElem hi] at hx
  simp at hx
  rw [List.getElem?_eq_getElem hi, hx]; simp
/-- What stands in the last loop. -/
def refD (W : World) (d : List Int) (kq : Nat) (v15 v16 : Value) (wr : World) : Prop := ∃ i : Nat, i + kq = 8 ∧ v16 = .int .i64 (i : Int) ∧ Aside (wr.ownsRow (W.heap.size + 1) 5 1 v15 (4 * i) (((d.take i).flatMap be4).map (Value.int .u8))) ∧ Aside (wr.heap[W.heap.size]? = some (.cells (T.ws d) 39 (0, 0))) ∧ Aside (Below W.heap.size W wr)
set_option maxHeartbeats 16000000 in
set_option maxRecDepth 100000 in
theorem T.refOf (bs : List Int) (A : Option Addr) (c : Nat) (w : World) (hS : Src w A bs) (hA : ∀ a, A = some a → a.block < w.heap.size) (hc : bs.length ≤ c) (hr : ∀ x ∈ bs, 0 ≤ x ∧ x < 256) (hl : bs.length ≤ 100000) :
    Calls Tryd.prog 11 #[.slice A bs.length c] w fun e w' => ∃ v, e = .returned v ∧ Bytes w' w.heap.size v (digestL bs) ∧ Below w.heap.size w w' := by
  have hR := Aside.mk (T.rounds (w.alloc (.cells (T.ws h0L) 39)))
  have hb0 := Aside.mk ((Below.refl w.heap.size w).alloc (Nat.le_refl _) (.cells (T.ws h0L) 39))
  have HS := Aside.mk hS
  have HA := Aside.mk hA
  have HL := Aside.mk hl
  have hrp := Aside.mk (show ∀ x ∈ padL bs, 0 ≤ x ∧ x < 256 from fun x hx => by
    unfold padL sizeB at hx
    simp only [List.mem_append, List.mem_singleton, List.mem_replicate, List.mem_map] at hx
    rcases hx with ((hx | rfl) | ⟨_, rfl⟩) | ⟨j, _, rfl⟩
    · exact hr x hx
    · omega
    · omega
    · omega)
  have hin : (Tryd.prog.info? 5).map (fun i => (i.zero, i.size, i.bytes)) = some (some (.int .u8 0), 1, 1) := by kernel_rfl
  obtain ⟨i0, hi0, hp0⟩ := Option.map_eq_some_iff.1 hin
  simp only [Prod.mk.injEq] at hp0
  obtain ⟨hz0, hz1, hz2⟩ := hp0
  have HI0 := Aside.mk hi0
  have HZ0 := Aside.mk hz0
  have HZ1 := Aside.mk hz1
  have HZ2 := Aside.mk hz2
  clear hin hi0 hz0 hz1 hz2
  clear hS hA hr hl
  go_enter Tryd.func11, Tryd.ntmps11
  go_wp2_with fail
  refine hR.out.mono ?_
  rintro e w1 ⟨vk, rfl, hk1, hb1⟩
  have hs1 : (w.alloc (.cells (T.ws h0L) 39)).heap.size = w.heap.size + 1 := by simp
  rw [hs1] at hk1 hb1
  obtain ⟨gR, ck, rfl, hck, hgk0, hgk1, hkc⟩ := hk1.at (by decide)
  have hk64 : ksL.length = 64 := rfl
  rw [hk64] at hck hkc
  rw [hk64]
  have HB1 := Aside.mk (hb0.out.trans (hb1.mono (by omega)))
  have hH1 := Aside.mk ((hb1.block w.heap.size (by omega)).trans (heap_alloc_new w (.cells (T.ws h0L) 39)))
  have HKC1 := Aside.mk hkc
  have HGK := Aside.mk hgk0
  have HGK1 := Aside.mk hgk1
  have HW1 := Aside.mk hb1.size
  clear hk1 hb1 hR hb0 hkc hk64 hs1 hgk0 hgk1
  go_wp2_with fail
  refine (T.padded bs A c w1 (HS.out.of_kept fun a ha => HB1.out.block _ (HA.out a ha)) hc HL.out).mono ?_
  rintro e w2 ⟨va, rfl, ha2, hb2⟩
  obtain ⟨Aa, ca, rfl, hca, hsa, haa⟩ := ha2.slice
  obtain ⟨all, hall⟩ : ∃ all, all = padL bs := ⟨_, rfl⟩
  obtain ⟨Q, hQ⟩ : ∃ Q, all.length = 64 * Q := ⟨_, by rw [hall]; exact padL_length bs⟩
  rw [← hall] at hca hsa hrp ha2
  rw [← hall]
  have hqb : Q ≤ 100000 := by have := padL_length bs; rw [← hall, hQ] at this; have := HL.out; omega
  obtain ⟨nA, hnA⟩ : ∃ nA, nA = all.length := ⟨_, rfl⟩
  rw [← hnA] at hca hQ
  rw [← hnA]
  obtain ⟨ga, oa, rfl⟩ : ∃ ga oa, Aa = some ⟨ga, oa, none⟩ := by
    obtain ⟨b', o', h, _⟩ := hsa 0 _ (List.getElem?_eq_getElem (show 0 < all.length from by rw [← hnA, hQ]; have := padL_length bs; rw [← hall, ← hnA, hQ] at this; omega))
    exact ⟨b', o', h⟩
  have HALL := Aside.mk hall
  have HNA := Aside.mk hnA
  have HQ := Aside.mk hQ
  clear hQ
  have HSA := Aside.mk hsa
  have HAA := Aside.mk haa
  have HB2 := Aside.mk (HB1.out.trans (hb2.mono HB1.out.size))
  have hH2 := Aside.mk ((hb2.block _ (by have := HW1.out; simp at this; omega)).trans hH1.out)
  have HKC := Aside.mk (show ∀ i, i < 64 → w2.cell? ⟨gR, i, none⟩ = some (.int .u32 (ksL.getD i 0)) from fun i hi => by
    rw [hb2.cell (p := ⟨gR, i, none⟩) HGK1.out]; exact HKC1.out i hi)
  have HGK2 := Aside.mk (Nat.lt_of_lt_of_le HGK1.out hb2.size)
  clear ha2 hb2 HKC1 hH1 hall hnA hsa haa HGK1
  go_wp2_with fail
  go_loopg [6] Q (fun kq v6 wr => refA w2 w.heap.size all Q kq v6 wr)
  case atStart => exact ⟨0, 0, by omega, rfl, ⟨rfl⟩, hH2, ⟨World.grownBy.refl _ _⟩⟩
  case round =>
    obtain ⟨q, n6, hq, rfl, hn6, hH, hG⟩ := hrel
    have HQQ := Aside.mk hq
    by_cases hlt : q < Q
    · have hlt' := Aside.mk hlt
      have h6 : n6 + 64 ≤ nA := by have := hn6.out; have := HQ.out; omega
      have h6c : n6 + 64 ≤ ca := by omega
      have h6b : n6 < 10000000 := by have := hn6.out; omega
      clear hq hlt
      obtain ⟨bl, hbl⟩ : ∃ bl, bl = (all.drop (64 * q)).take 64 := ⟨_, rfl⟩
      have hbl64 : bl.length = 64 := by rw [hbl, List.length_take, List.length_drop, ← HNA.out]; have := hn6.out; omega
      have hsl := Aside.mk (show Src wr (some ⟨ga, oa + n6, none⟩) bl from fun i x hx => by
        rw [hbl, List.getElem?_take] at hx
        by_cases hi : i < 64
        · rw [if_pos hi, List.getElem?_drop, ← hn6.out] at hx
          obtain ⟨b', o', he, hcl⟩ := HSA.out _ _ hx
          simp only [Option.some.injEq, Addr.mk.injEq] at he
          obtain ⟨rfl, rfl, _⟩ := he
          refine ⟨_, _, rfl, ?_⟩
          rw [← hcl, Nat.add_assoc]
          exact World.cell?_of_block (a := ⟨ga, oa + (n6 + i), none⟩) (hG.out.block ga (block_lt_of_cell hcl) (fun e => by
            have h1 := (HAA.out _ rfl).1
            have h2 := HW1.out
            simp at e h1 h2
            omega))
        · rw [if_neg hi] at hx; cases hx)
      have hblr := Aside.mk (show ∀ x ∈ bl, 0 ≤ x ∧ x < 256 from fun x hx => hrp.out x (by rw [hbl] at hx; exact List.mem_of_mem_drop (List.mem_of_mem_take hx)))
      have HBL := Aside.mk hbl
      have HBL64 := Aside.mk hbl64
      have hne : n6 ≠ ca := by omega
      clear hbl hbl64
      obtain ⟨hq8, hhq⟩ : ∃ l, l = foldQ h0L all q := ⟨_, rfl⟩
      have hq8l := Aside.mk (show hq8.length = 8 from by rw [hhq]; exact foldQ_length _ _ _)
      have HHQ := Aside.mk hhq
      have hHq := Aside.mk (show wr.heap[w.heap.size]? = some (.cells (T.ws hq8) 39 (0, 0)) from by rw [hhq]; exact hH.out)
      clear hhq hH
      go_wp2_with (first | (go_at_call 22; refine (T.schedule bl (some ⟨ga, oa + n6, none⟩) (ca - n6) wr hsl.out HBL64.out (by omega) hblr.out).mono ?_; rintro e w3 ⟨vs, rfl, hs3, hb3⟩; have HS3 := Aside.mk hs3; have HB3 := Aside.mk hb3; clear hs3 hb3; have HH3 := Aside.mk ((HB3.out.block _ (Array.getElem?_eq_some_iff.1 hHq.out).1).trans hHq.out); have hb3' := Aside.mk ((Below.refl w3.heap.size w3).alloc (Nat.le_refl _) (.cells #[] 39))) | ((with_reducible refine wpList_append_words rfl (.tmp 33) (.tmp 34) rfl w3.heap.size _ [] hq8 (some ⟨w.heap.size, 0, none⟩) 8 8 rfl rfl ?hm ?ho ?hr ?hb ?hl ?_); (case hm => exact hq8l.out); (case ho => exact WordsR.empty w3 _ (Nat.le_refl _)); (case hr => exact ws_src ((hb3'.out.block _ (Array.getElem?_eq_some_iff.1 HH3.out).1).trans HH3.out)); (case hb => simp); (case hl => simp); intro v4 w4 h4 hg4; have H4 := Aside.mk h4; have HB4 := Aside.mk (hb3'.out.grown hg4 (by simp) (fun k e => Nat.le_of_eq (Option.some.inj e))); clear h4 hg4))
      obtain ⟨gs, cs, hvs, hcs, _, hgs, hsc⟩ := HS3.out.at (by rw [schedN_length]; decide)
      rw [schedN_length] at hvs hcs hsc
      subst hvs
      obtain ⟨gv, cv, hv4, hcv, hgv0, hgv, hvc⟩ := H4.out.at (by rw [List.nil_append, hq8l.out]; decide)
      rw [List.nil_append, hq8l.out] at hv4 hcv hvc
      subst hv4
      have hW34 := Aside.mk (show w2.grownBy w4 (some w.heap.size) from gb_trans hG.out (gb_below (HB3.out.trans (HB4.out.mono HB3.out.size)) _))
      have hKC4 := Aside.mk (show ∀ i, i < 64 → w4.cell? ⟨gR, i, none⟩ = some (.int .u32 (ksL.getD i 0)) from fun i hi => by
        rw [← HKC.out i hi]
        exact World.cell?_of_block (a := ⟨gR, i, none⟩) (hW34.out.block gR HGK2.out (fun e => by have := HGK.out; simp at e; omega)))
      have hSC4 := Aside.mk (show ∀ i, i < 64 → w4.cell? ⟨gs, i, none⟩ = some (.int .u32 ((schedN bl 64).getD i 0)) from fun i hi => by
        rw [HB4.out.cell (p := ⟨gs, i, none⟩) hgs]; exact hsc i hi)
      have hV4 := Aside.mk (show V8 w4 gv hq8 from fun i hi => hvc i hi)
      have hgs4 := Aside.mk (Nat.lt_of_lt_of_le hgs HB4.out.size)
      have hgv4 := Aside.mk hgv
      have hgb : w.heap.size < gv := Nat.lt_of_lt_of_le (Array.getElem?_eq_some_iff.1 HH3.out).1 hgv0
      have hHH4 := Aside.mk ((HB4.out.block _ (Array.getElem?_eq_some_iff.1 HH3.out).1).trans HH3.out)
      have h04 := Aside.mk (Array.getElem?_eq_some_iff.1 hHH4.out).1
      clear hgs hsc hgv hvc H4 HS3 hsl hblr HB3 HB4 HH3 hb3' hHq hG
      generalize gk = gko at *
      go_loopg [8, 9] 64 (fun kq v8 v9 wr => refB w4 w.heap.size bl hq8 kq v8 v9 wr)
      case atStart => exact ⟨0, gv, cv, ⟨hgb⟩, rfl, rfl, rfl, hcv, hV4, ⟨Below.refl _ _⟩⟩
      case round =>
        obtain ⟨i, g, c8, hgB, hi, rfl, rfl, hc8, hv, hB⟩ := hrel
        have HI := Aside.mk hi
        by_cases hlt : i < 64
        · have hlt' := Aside.mk hlt
          obtain ⟨xa, xb, xc, xd, xe, xf, xg, xh, hrn⟩ := eight (roundN_length bl hq8 hq8l.out i)
          have hE : E8 wr g xa xb xc xd xe xf xg xh := V8.e8 (by rw [← hrn]; exact hv.out)
          have hrn' := Aside.mk hrn
          have HE := Aside.mk hE
          have ck := (hB.out.cell (p := ⟨gR, i, none⟩) (show gR < w4.heap.size from block_lt_of_cell (hKC4.out 0 (by decide)))).trans (hKC4.out i hlt)
          have cw := (hB.out.cell (p := ⟨gs, i, none⟩) (show gs < w4.heap.size from hgs4.out)).trans (hSC4.out i hlt)
          have hnx := Aside.mk (show roundN bl hq8 (i + 1) = stepV (ksL.getD i 0) ((schedN bl 64).getD i 0) (roundN bl hq8 i) from rfl)
          generalize ksL.getD i 0 = xk at ck hnx
          generalize (schedN bl 64).getD i 0 = xw at cw hnx
          have CK := Aside.mk ck
          have CW := Aside.mk cw
          obtain ⟨e0, e1, e2, e3, e4, e5, e6, e7⟩ := hE
          clear hrn hi
          go_wp2
          refine still_lit (by kernel_rfl) (by kernel_rfl) ?_
          repeat still_step
          refine wpStill_nil ?_
          go_wp2
          refine still_lit (by kernel_rfl) (by kernel_rfl) ?_
          repeat still_step
          refine wpStill_nil ?_
          go_wp2
          clear ck cw e0 e1 e2 e3 e4 e5 e6 e7
          generalize hq1 : wr.drew.drew = wq1
          have HQ1 := Aside.mk hq1
          clear hq1
          obtain ⟨e0, e1, e2, e3, e4, e5, e6, e7⟩ := show E8 wq1 g xa xb xc xd xe xf xg xh from by rw [← HQ1.out]; exact HE.out
          have ck := show wq1.cell? ⟨gR, i, none⟩ = some (.int .u32 xk) from by rw [← HQ1.out]; exact CK.out
          have cw := show wq1.cell? ⟨gs, i, none⟩ = some (.int .u32 xw) from by rw [← HQ1.out]; exact CW.out
          go_quiet ((go_at_call 23; first | with_reducible exact Calls.quiet_of (T.turnQ xe 6 6 26 _ rfl (by decide) (by decide) rfl) | with_reducible exact Calls.quiet_of (T.turnQ xe 11 11 21 _ rfl (by decide) (by decide) rfl) | with_reducible exact Calls.quiet_of (T.turnQ xe 25 25 7 _ rfl (by decide) (by decide) rfl)))
          clear ck cw e0 e1 e2 e3 e4 e5 e6 e7
          generalize hq2 : wq1.drewN nq = wq2
          have HQ2 := Aside.mk hq2
          clear hq2
          obtain ⟨e0, e1, e2, e3, e4, e5, e6, e7⟩ := show E8 wq2 g xa xb xc xd xe xf xg xh from by rw [← HQ2.out, ← HQ1.out]; exact HE.out
          go_wp2
          go_quiet ((go_at_call 23; first | with_reducible exact Calls.quiet_of (T.turnQ xa 2 2 30 _ rfl (by decide) (by decide) rfl) | with_reducible exact Calls.quiet_of (T.turnQ xa 13 13 19 _ rfl (by decide) (by decide) rfl) | with_reducible exact Calls.quiet_of (T.turnQ xa 22 22 10 _ rfl (by decide) (by decide) rfl)))
          clear e0 e1 e2 e3 e4 e5 e6 e7
          generalize hq3 : wq2.drewN _ = wq3
          have HQ3 := Aside.mk hq3
          clear hq3
          obtain ⟨e0, e1, e2, e3, e4, e5, e6, e7⟩ := show E8 wq3 g xa xb xc xd xe xf xg xh from by rw [← HQ3.out, ← HQ2.out, ← HQ1.out]; exact HE.out
          go_wp2
          refine still_tail 26 (by kernel_rfl) (by kernel_rfl) ?_
          simp only [List.take_succ_cons, List.take_zero, List.drop_succ_cons, List.drop_zero]
          repeat still_step
          refine wpStill_nil ?_
          clear e0 e1 e2 e3 e4 e5 e6 e7
          go_wp2
          go_roundg (gk - 1)
          case measure => have := HI.out; have := hlt'.out; omega
          case rel =>
            have h3 := HQ3.out
            have h2 := HQ2.out
            have h1 := HQ1.out
            have hszq : w.heap.size < wq3.heap.size := by rw [← h3, ← h2, ← h1]; exact Nat.lt_of_lt_of_le h04.out hB.out.size
            refine ⟨i + 1, wq3.heap.size, 8, ⟨hszq⟩, by have := HI.out; omega, by go_num, rfl, Nat.le_refl _, ⟨?_⟩, ⟨?_⟩⟩
            · rw [hnx.out, hrn'.out]
              have he := xor_all xe
              simp only [stepV]
              rw [← he]
              exact V8.row (l := [_, _, _, _, _, _, _, _]) rfl 39
            · subst h3; subst h2; subst h1
              exact (((Below.trans hB.out ⟨rfl, rfl, rfl, Nat.le_refl _, fun _ _ => rfl⟩ : Below w4.heap.size w4 (((wr.drew.drew).drewN _).drewN _)).alloc hB.out.size _).drew)
        · have hiq : i = 64 := by omega
          subst hiq
          have hv64 := Aside.mk hv.out
          clear hlt hi
          have hG4 := Aside.mk (show w2.grownBy wr (some w.heap.size) from gb_trans hW34.out (gb_below hB.out _))
          have hHw := Aside.mk (show wr.heap[w.heap.size]? = some (.cells (T.ws hq8) 39 (0, 0)) from (hB.out.block _ h04.out).trans hHH4.out)
          clear hB hv
          go_wp2
          go_loopg [14] 8 (fun kq v14 wr => refC w2 w.heap.size g (roundN bl hq8 64) hq8 kq v14 wr)
          case atStart => exact ⟨0, rfl, rfl, hHw, hv64, hG4⟩
          case round =>
            clear hHw hv64 hG4
            obtain ⟨i, hi, rfl, hR, hv, hG⟩ := hrel
            have HI := Aside.mk hi
            by_cases hlt : i < 8
            · have hgne : g ≠ w.heap.size := by have := hgB.out; omega
              have hal := Aside.mk (show (addW (roundN bl hq8 64) i hq8).length = 8 from (addW_length _ _ _).trans hq8l.out)
              have cv := hv.out i hlt
              have cw := T.ws_cell hR.out i (by rw [hal.out]; exact hlt)
              have hfr := frozen_of_row wr w.heap.size i _ _ hR.out
              have hnx := Aside.mk (show addW (roundN bl hq8 64) (i + 1) hq8 = (addW (roundN bl hq8 64) i hq8).set i (((addW (roundN bl hq8 64) i hq8).getD i 0 + (roundN bl hq8 64).getD i 0) % 4294967296) from rfl)
              generalize (addW (roundN bl hq8 64) i hq8).getD i 0 = xw at cw hnx
              generalize (roundN bl hq8 64).getD i 0 = xv at cv hnx
              have hlt' := Aside.mk hlt
              clear hi
              go_wp2
              refine still_tail 12 (by kernel_rfl) (by kernel_rfl) ?_
              simp only [List.take_succ_cons, List.take_zero, List.drop_succ_cons, List.drop_zero]
              repeat still_step
              refine wpStill_nil ?_
              go_wp2
              go_roundg (gk - 1)
              case measure => have := HI.out; have := hlt'.out; omega
              case rel =>
                refine ⟨i + 1, by have := HI.out; omega, by go_num, ⟨?_⟩, ⟨?_⟩, ⟨?_⟩⟩
                · rw [hnx.out]
                  exact T.ws_set hR.out i _
                · intro k hk
                  exact (World.cell?_setCell_far wr ⟨w.heap.size, i, none⟩ ⟨g, k, none⟩ _ (Ne.symm hgne)).trans (hv.out k hk)
                · exact gb_drew (gb_set hG.out _ _)
            · have hiq : i = 8 := by omega
              subst hiq
              clear hlt hi
              go_wp2
              go_roundg (gko - 1)
              case measure => have := HQQ.out; have := hlt'.out; omega
              case rel =>
                refine ⟨q + 1, n6 + 64, by have := HQQ.out; have := hlt'.out; omega, by go_num, ⟨by have := hn6.out; omega⟩, ⟨?_⟩, hG⟩
                simp only [foldQ, mixL]
                rw [← HHQ.out, ← HBL.out]
                exact hR.out
    · have hqQ : q = Q := by omega
      subst hqQ
      have hdone : n6 = nA := by have := hn6.out; have := HQ.out; omega
      subst hdone
      clear hlt hq
      go_wp2
      have HBr := Aside.mk (HB2.out.grown hG.out (by have := HB2.out.size; omega) (fun k e => Nat.le_of_eq (Option.some.inj e)))
      have hfold := Aside.mk (show foldQ h0L all q = foldW h0L (padL bs) from by
        rw [← HALL.out]; unfold foldW; rw [show all.length / 64 = q from by rw [← HNA.out, HQ.out]; omega])
      have hd8 := Aside.mk (show (foldQ h0L all q).length = 8 from foldQ_length _ _ _)
      generalize foldQ h0L all q = d at hH hfold hd8
      clear hn6 hG
      go_loopg [15, 16] 8 (fun kq v15 v16 wr => refD w d kq v15 v16 wr)
      case atStart => exact ⟨0, rfl, rfl, ⟨by simpa using World.ownsRow_nil _ _ _ _⟩, hH, HBr⟩
      case round =>
        obtain ⟨i, hi, rfl, ho, hd, hB⟩ := hrel
        have HI := Aside.mk hi
        by_cases hlt : i < 8
        · have cw := T.ws_cell hd.out i (by rw [hd8.out]; exact hlt)
          generalize hx : d.getD i 0 = x at cw
          have HX := Aside.mk hx
          clear hx hi
          go_wp2
          have hst := Aside.mk (show wr.drew.cell? ⟨w.heap.size, i, none⟩ = some (.int .u32 x) from cw)
          go_region_held3 (fun W => W.cell? ⟨w.heap.size, i, none⟩ = some (.int .u32 x)) (first | exact hst.out | assumption | exact cell_alloc_kept (by assumption)) (first | (refine step_append_own rfl (.tmp 172) (.tmp 196) 22 rfl (w.heap.size + 1) 5 i0 (.int .u8 0) 1 1 Tryd.underlying22 HI0.out HZ0.out HZ1.out HZ2.out rfl (by decide) u15 (4 * i) (((d.take i).flatMap be4).map (Value.int .u8)) rfl ?ho ⟨wr.heap.size, 0, none⟩ 4 4 ((be4 x).map (Value.int .u8)) rfl rfl ?hnews ?h1 ?h63 ?hb ?hbase ?_); (case ho => exact owns_drew (ho.out.alloc _)); (case hnews => exact quad_cells wr _ _ _ _); (case h1 => intro u hu; simp only [be4, List.map_cons, List.map_nil, List.mem_cons, List.not_mem_nil, or_false] at hu; rcases hu with rfl | rfl | rfl | rfl <;> rfl); (case h63 => unfold maxLen; omega); (case hb => omega); (case hbase => have := (Array.getElem?_eq_some_iff.1 hd.out).1; simp; omega); intro v' w2' ho2 hg2 _; have HO2 := Aside.mk ho2; have HG2 := Aside.mk hg2; have hS2 : w2'.cell? ⟨w.heap.size, i, none⟩ = some (.int .u32 x) := cell_grown_kept hg2 (cell_alloc_kept (o := .cells (((be4 x).map (Value.int .u8)).toArray) 5) cw) (fun e => Nat.lt_irrefl _ (ho.out.lt _ e).1); clear ho2 hg2)
          all_goals
            have hfin := Aside.mk (show w2'.ownsRow (w.heap.size + 1) 5 1 v' (4 * (i + 1)) (((d.take (i + 1)).flatMap be4).map (Value.int .u8)) from by
              rw [be_step d i x (by rw [hd8.out]; exact hlt) HX.out, List.map_append]; exact HO2.out)
            have hbel := Aside.mk (Below.grown (hB.out.alloc hB.out.size (.cells (((be4 x).map (Value.int .u8)).toArray) 5)).drew HG2.out (by simp; have := hB.out.size; omega) (fun k e => by have := ho.out.lt _ e; omega))
            have hblk := Aside.mk (show w2'.heap[w.heap.size]? = some (.cells (T.ws d) 39 (0, 0)) from by
              rw [HG2.out.block _ (by simp; have := (Array.getElem?_eq_some_iff.1 hd.out).1; omega) (fun e => by have := ho.out.lt _ e.symm; omega)]
              exact (Below.heap_alloc wr _ _ (Array.getElem?_eq_some_iff.1 hd.out).1).trans hd.out)
            go_wp2
            go_roundg (gk - 1)
            case measure => have := HI.out; omega
            case rel => exact ⟨i + 1, by have := HI.out; omega, by go_num, hfin, hblk, hbel⟩
        · have hiq : i = 8 := by omega
          subst hiq
          have hfin := Aside.mk (show Bytes wr w.heap.size u15 (digestL bs) from by
            have h32 : (digestL bs).length = 32 := digestL_length bs
            unfold Bytes
            rw [h32]
            unfold digestL
            rw [← hfold.out]
            have h := ho.out
            rw [List.take_of_length_le (by rw [hd8.out]; decide)] at h
            exact Go.World.ownsRow.mono (show wr.ownsRow (w.heap.size + 1) 5 1 u15 32 _ from h) (by omega))
          clear hlt hi
          go_wp2
          go_ret
          exact ⟨_, rfl, hfin.out, hB.out⟩
end Go.Proofs.YtoccfgkblognfaaDoor

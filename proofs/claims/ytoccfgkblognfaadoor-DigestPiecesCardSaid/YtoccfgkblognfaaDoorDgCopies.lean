/- The statement DigestCopies: the call returns true and turns nothing that was there. Conditions: where the bytes lie, the table of rounds. -/
import Derived.Test.YtoccfgkblognfaaDoorDgAlone
namespace Go.Proofs.YtoccfgkblognfaaDoor
open Go.RowKit Go.Proofs.YtoccfgkblognfaaDoorW.PrintWords Go.Proofs.YtoccfgkblognfaaDoorW.PrintLast Go.Proofs.YtoccfgkblognfaaDoorW.PrintMore
theorem Bytes.hash {w w' : World} {base H : Nat} {v : Value} {l : List Int} {cs : Array Value} {fr : Nat × Nat} (h : Bytes w base v l) (hH : w.heap[H]? = some (.cells cs 43 fr)) (hg : w.grownBy w' (some H)) : Bytes w' base v l := by
  refine World.ownsRow.kept h hg ?_
  rcases h.2 with ⟨rfl, _⟩ | ⟨g, cap, cur, rfl, _, hh, _⟩
  · exact .inl rfl
  · refine .inr fun e => ?_
    have : g = H := by simpa [Value.ownBlock] using e
    subst this
    rw [hh] at hH
    simp at hH
/-- What stands while DigestCopies works: below the start's blocks all is as it was; three rows of bytes. -/
def CI (w0 w : World) (v1 v2 v3 : Value) (a b c : List Int) : Prop := Below w0.heap.size w0 w ∧ Bytes w w0.heap.size v1 a ∧ Bytes w w0.heap.size v2 b ∧ Bytes w w0.heap.size v3 c
theorem CI.below {w0 w w' : World} {v1 v2 v3 : Value} {a b c : List Int} (h : CI w0 w v1 v2 v3 a b c) (hb : Below w.heap.size w w') : CI w0 w' v1 v2 v3 a b c :=
  ⟨h.1.trans (hb.mono h.1.size), h.2.1.below hb, h.2.2.1.below hb, h.2.2.2.below hb⟩
theorem CI.hash {w0 w w' : World} {v1 v2 v3 : Value} {a b c : List Int} {H : Nat} {cs : Array Value} {fr : Nat × Nat} (h : CI w0 w v1 v2 v3 a b c) (hH : w.heap[H]? = some (.cells cs 43 fr)) (h0 : w0.heap.size ≤ H) (hg : w.grownBy w' (some H)) : CI w0 w' v1 v2 v3 a b c :=
  ⟨h.1.trans ⟨hg.os, hg.tape, hg.output, hg.size, fun k hk => hg.block k (by have := h.1.size; omega) (by simp; omega)⟩, h.2.1.hash hH hg, h.2.2.1.hash hH hg, h.2.2.2.hash hH hg⟩
theorem Hashes.block {w : World} {H : Nat} {all : List Int} (h : Hashes w H all) : ∃ cs, w.heap[H]? = some (.cells cs 43 (0, 0)) := by
  obtain ⟨bl, _, h2, _⟩ := h
  exact ⟨_, h2⟩
theorem Hashes.lt {w : World} {H : Nat} {all : List Int} (h : Hashes w H all) : H < w.heap.size := block_lt_of_cell h.made
theorem Hashes.below {w w' : World} {H : Nat} {all : List Int} (h : Hashes w H all) (hb : Below w.heap.size w w') : Hashes w' H all := h.of_block (hb.block _ h.lt)
theorem Hashes.other {w w' : World} {H K : Nat} {all : List Int} (h : Hashes w H all) (hg : w.grownBy w' (some K)) (hn : H ≠ K) : Hashes w' H all := h.of_block (hg.block _ h.lt (by simpa using hn))
/-- Write, at a row of bytes. -/
theorem WriteB {w : World} {base H cap : Nat} {A : Option Addr} {all bs : List Int} (hst : Hashes w H all) (hb : Bytes w base (.slice A bs.length cap) bs) (hl : all.length + bs.length ≤ 4611686018427387904) (hk : K64 w) :
    Calls Tryd.prog 16 #[.pointer (some ⟨H, 0, none⟩), .slice A bs.length cap] w fun e w' => e = .returned (.int .i64 0) ∧ Hashes w' H (all ++ bs) ∧ w.grownBy w' (some H) := by
  obtain ⟨_, h1, h2, _⟩ := hb.src
  refine T.Write H all bs A cap w hst h2 (fun a ha e => ?_) h1 hl hk
  subst ha
  obtain ⟨cs, hcs⟩ := hst.block
  rcases hb.2 with ⟨he, _⟩ | ⟨g, cap', cur, he, _, hh, _⟩
  · cases he
  · simp only [Value.slice.injEq, Option.some.injEq] at he
    obtain ⟨rfl, _⟩ := he
    rw [← e, hh] at hcs
    simp at hcs
theorem K64.below {w w' : World} (h : K64 w) (hb : Below w.heap.size w w') : K64 w' := h.of_block (hb.block 0 (block_lt_of_cell (h 0 (by decide))))
theorem K64.from {w w' : World} {n : Nat} (h : K64 w) (hb : Below n w w') (hn : 0 < n) : K64 w' := h.of_block (hb.block 0 hn)
/-- The same behind a guard that is met. -/
theorem wpList_append_bytes_g {w : World} {ops : Array Oper} {rest : List Oper} {o : Oper} {a : Act} {Q : Exit → Act → World → Prop} (hgd : Region.wanted o (yielded ops a.tmps) = true) (s x : Operand)
    (ho : o.op = .call { callee := .builtin .append, args := #[s, x], argTypes := #[22, 22] }) (base : Nat) (v : Value) (l xs : List Int) (A : Option Addr) (m c : Nat) (hs : a.eval s = v) (hx : a.eval x = .slice A m c) (hm : xs.length = m)
    (HO : Bytes w base v l) (HR : Src w A xs) (hbase : base ≤ w.heap.size) (hl : l.length + m ≤ 140737488355328)
    (h : ∀ v1 w1, Bytes w1 base v1 (l ++ xs) → w.grownBy w1 v.ownBlock → wpList Tryd.prog ops Q rest (a.put o.dst v1) w1) : wpList Tryd.prog ops Q (o :: rest) a w := by
  subst hm
  refine wpList_step fun K hK => ?_
  refine Kd.R_append_rows_step (Kd.int .u8) (Rr := (Kd.int .u8).K w) (w0 := w) base hgd s x 22 5 (.int .u8 0) 1 ho Tryd.underlying22 PA.info5 rfl (by decide) (by decide) v l xs A xs.length c (fun _ => True) (fun _ => False) hs hx (Kd.R_of_own HO (fun _ _ => trivial)) ⟨rfl, by omega, fun h0 => ?_⟩ (fun _ _ h => h) (fun _ h => h.elim) (fun _ _ => trivial) (Below.refl _ _) hbase (by omega) (fun v1 w1 h1 _ h3 _ => hK _ _ (h v1 w1 (Kd.own_of_R h1) h3))
  obtain ⟨b, o, hA, _⟩ := HR 0 _ (List.getElem?_eq_getElem h0)
  subst hA
  refine ⟨_, rfl, fun j p hp => ⟨[.int .u8 p], rfl, rfl, fun i u hu => ?_⟩⟩
  obtain ⟨b', o', hA, hc⟩ := HR j p hp
  simp only [Option.some.injEq, Addr.mk.injEq] at hA
  obtain ⟨rfl, rfl, _⟩ := hA
  match i, hu with
  | 0, hu =>
    simp at hu; subst hu
    rw [Addr.add_mid, ← hc]
    show w.cell? ⟨b, o + (j * 1 + 0), none⟩ = _
    rw [Nat.mul_one]; rfl
/-- One Hash and what else stands. -/
def C1 (w0 w : World) (v1 v2 v3 : Value) (a b c : List Int) (H : Nat) (x : List Int) : Prop := CI w0 w v1 v2 v3 a b c ∧ Hashes w H x ∧ w0.heap.size ≤ H
/-- Two Hashes and what else stands. -/
def C2 (w0 w : World) (v1 v2 v3 : Value) (a b c : List Int) (H : Nat) (x : List Int) (K : Nat) (y : List Int) : Prop := CI w0 w v1 v2 v3 a b c ∧ Hashes w H x ∧ Hashes w K y ∧ w0.heap.size ≤ H ∧ H < K
section
variable {w0 w w' : World} {v1 v2 v3 : Value} {a b c x y z : List Int} {H K : Nat}
theorem C1.k (h : C1 w0 w v1 v2 v3 a b c H x) (hk : K64 w0) : K64 w := hk.below h.1.1
theorem C2.k (h : C2 w0 w v1 v2 v3 a b c H x K y) (hk : K64 w0) : K64 w := hk.below h.1.1
theorem C1.below (h : C1 w0 w v1 v2 v3 a b c H x) (hb : Below w.heap.size w w') : C1 w0 w' v1 v2 v3 a b c H x := ⟨h.1.below hb, h.2.1.below hb, h.2.2⟩
theorem C2.below (h : C2 w0 w v1 v2 v3 a b c H x K y) (hb : Below w.heap.size w w') : C2 w0 w' v1 v2 v3 a b c H x K y := ⟨h.1.below hb, h.2.1.below hb, h.2.2.1.below hb, h.2.2.2⟩
theorem C1.write (h : C1 w0 w v1 v2 v3 a b c H x) (hg : w.grownBy w' (some H)) (hh : Hashes w' H z) : C1 w0 w' v1 v2 v3 a b c H z := by
  obtain ⟨cs, hcs⟩ := h.2.1.block
  exact ⟨h.1.hash hcs h.2.2 hg, hh, h.2.2⟩
theorem C2.writeH (h : C2 w0 w v1 v2 v3 a b c H x K y) (hg : w.grownBy w' (some H)) (hh : Hashes w' H z) : C2 w0 w' v1 v2 v3 a b c H z K y := by
  obtain ⟨cs, hcs⟩ := h.2.1.block
  exact ⟨h.1.hash hcs h.2.2.2.1 hg, hh, h.2.2.1.other hg (Nat.ne_of_gt h.2.2.2.2), h.2.2.2⟩
theorem C2.writeK (h : C2 w0 w v1 v2 v3 a b c H x K y) (hg : w.grownBy w' (some K)) (hh : Hashes w' K z) : C2 w0 w' v1 v2 v3 a b c H x K z := by
  obtain ⟨cs, hcs⟩ := h.2.2.1.block
  exact ⟨h.1.hash hcs (Nat.le_of_lt (Nat.lt_of_le_of_lt h.2.2.2.1 h.2.2.2.2)) hg, h.2.1.other hg (Nat.ne_of_lt h.2.2.2.2), hh, h.2.2.2⟩
end
/-- A pointer to a Hash that New did not make. -/
def NoHash (w : World) (p : Option Addr) : Prop := p = none ∨ ∃ b, p = some ⟨b, 0, none⟩ ∧ w.cell? ⟨b, 0, none⟩ = some (.bool false)
theorem NoHash.below {w w' : World} {p : Option Addr} (h : NoHash w p) (hb : Below w.heap.size w w') : NoHash w' p :=
  h.imp id fun ⟨b, h1, h2⟩ => ⟨b, h1, (hb.cell (p := ⟨b, 0, none⟩) (block_lt_of_cell h2)).trans h2⟩
theorem Write_none {w : World} {p : Option Addr} (v : Value) (h : NoHash w p) : Calls Tryd.prog 16 #[.pointer p, v] w fun e w' => e = .returned (.int .i64 1) ∧ w' = w := by
  rcases h with rfl | ⟨b, rfl, hc⟩
  · exact T.Write_nil v w
  · exact T.Write_bad b v w hc
theorem Len_none {w : World} {p : Option Addr} (h : NoHash w p) : Calls Tryd.prog 18 #[.pointer p] w fun e w' => e = .returned (.int .i64 0) ∧ w' = w := by
  rcases h with rfl | ⟨b, rfl, hc⟩
  · exact T.Len_nil w
  · exact T.Len_bad b w hc
theorem Copy_none {w : World} {p : Option Addr} (h : NoHash w p) : Calls Tryd.prog 19 #[.pointer p] w fun e w' => e = .returned (.pointer none) ∧ w' = w := by
  rcases h with rfl | ⟨b, rfl, hc⟩
  · exact T.Copy_nil w
  · exact T.Copy_bad b w hc
def copL (w : World) (B : Nat) (kq : Nat) (v74 : Value) (wr : World) : Prop := ∃ i : Nat, i + kq = 2 ∧ v74 = .int .i64 (i : Int) ∧ Aside (wr.heap[B + 1]? = some (.cells #[.pointer none, .pointer (some ⟨B, 0, none⟩)] 32 (0, 0))) ∧ Aside (wr.cell? ⟨B, 0, none⟩ = some (.bool false)) ∧ Aside (Below w.heap.size w wr)
set_option maxHeartbeats 8000000 in
set_option maxRecDepth 100000 in
theorem walk_copies (w : World) (A1 : Option Addr) (c1 : Nat) (l1 : List Int) (hC1 : Kd.C (Kd.int .u8) w A1 l1.length l1) (hc1 : l1.length ≤ c1) (_h1 : ∀ n ∈ l1, 0 ≤ n ∧ n < 256) (A2 : Option Addr) (c2 : Nat) (l2 : List Int) (hC2 : Kd.C (Kd.int .u8) w A2 l2.length l2) (hc2 : l2.length ≤ c2) (_h2 : ∀ n ∈ l2, 0 ≤ n ∧ n < 256) (A3 : Option Addr) (c3 : Nat) (l3 : List Int) (hC3 : Kd.C (Kd.int .u8) w A3 l3.length l3) (hc3 : l3.length ≤ c3) (_h3 : ∀ n ∈ l3, 0 ≤ n ∧ n < 256) (hk : K64 w) :
    Calls Tryd.prog 8 #[.slice A1 l1.length c1, .slice A2 l2.length c2, .slice A3 l3.length c3] w fun e w' => e = .returned (.bool true) ∧ Below w.heap.size w w' := by
  have h00 := Aside.mk (show 0 < w.heap.size from block_lt_of_cell (hk 0 (by decide)))
  have HK := Aside.mk hk
  obtain ⟨a, ha⟩ : ∃ a, a = l1.take 2000 := ⟨_, rfl⟩
  obtain ⟨b, hb⟩ : ∃ b, b = l2.take 2000 := ⟨_, rfl⟩
  obtain ⟨c, hc⟩ : ∃ c, c = l3.take 2000 := ⟨_, rfl⟩
  have hla := Aside.mk (show a.length ≤ 2000 from by rw [ha, List.length_take]; omega)
  have hlb := Aside.mk (show b.length ≤ 2000 from by rw [hb, List.length_take]; omega)
  have hlc := Aside.mk (show c.length ≤ 2000 from by rw [hc, List.length_take]; omega)
  have hF1 := Aside.mk (T.few A1 c1 l1 w hC1 hc1)
  have hF2 := Aside.mk (show ∀ w1, Below w.heap.size w w1 → Calls Tryd.prog 9 #[.slice A2 l2.length c2] w1 fun e w' => ∃ v, e = .returned v ∧ Bytes w' w1.heap.size v b ∧ Below w1.heap.size w1 w' from fun w1 h1 => by
    rw [hb]; exact T.few A2 c2 l2 w1 (hC2.imp_ h1 (fun _ _ hp => hp)) hc2)
  have hF3 := Aside.mk (show ∀ w1, Below w.heap.size w w1 → Calls Tryd.prog 9 #[.slice A3 l3.length c3] w1 fun e w' => ∃ v, e = .returned v ∧ Bytes w' w1.heap.size v c ∧ Below w1.heap.size w1 w' from fun w1 h1 => by
    rw [hc]; exact T.few A3 c3 l3 w1 (hC3.imp_ h1 (fun _ _ hp => hp)) hc3)
  rw [← ha] at hF1
  clear hk hC1 hC2 hC3 _h1 _h2 _h3 ha hb hc
  go_enter Tryd.func8, Tryd.ntmps8
  go_wp2_with fail
  refine hF1.out.mono ?_
  rintro e w1 ⟨v1, rfl, hv1, hB1⟩
  have HV1 := Aside.mk hv1
  have HB1 := Aside.mk hB1
  clear hv1 hB1 hF1
  go_wp2_with fail
  refine (hF2.out w1 HB1.out).mono ?_
  rintro e w2 ⟨v2, rfl, hv2, hB2⟩
  have HV2 := Aside.mk hv2
  have HV1' := Aside.mk (HV1.out.below hB2)
  have HB2 := Aside.mk (HB1.out.trans (hB2.mono HB1.out.size))
  clear hv2 hB2 hF2
  go_wp2_with fail
  refine (hF3.out w2 HB2.out).mono ?_
  rintro e w3 ⟨v3, rfl, hv3, hB3⟩
  have hI3 : CI w w3 v1 v2 v3 a b c := ⟨HB2.out.trans (hB3.mono HB2.out.size), HV1'.out.below hB3, World.ownsRow.kept (HV2.out.below hB3 |> fun h => (⟨h.1, h.2.imp id (fun ⟨g, cap, cur, h1, h2, h3⟩ => ⟨g, cap, cur, h1, Nat.le_trans HB1.out.size h2, h3⟩)⟩ : Bytes w3 w.heap.size v2 b)) (World.grownBy.refl _ none) (by cases hv : v2.ownBlock <;> simp), ⟨hv3.1, hv3.2.imp id (fun ⟨g, cap, cur, h1, h2, h3⟩ => ⟨g, cap, cur, h1, Nat.le_trans HB2.out.size h2, h3⟩)⟩⟩
  have I3 := Aside.mk hI3
  clear hv3 hB3 hI3 hF3 HV1 HV1' HV2 HB1 HB2
  obtain ⟨B1, d1, rfl, hd1, _⟩ := I3.out.2.1.slice
  obtain ⟨B2, d2, rfl, hd2, _⟩ := I3.out.2.2.1.slice
  obtain ⟨B3, d3, rfl, hd3, _⟩ := I3.out.2.2.2.slice
  go_wp2_with fail
  refine (T.New_has w3).mono ?_
  rintro e w4 ⟨rfl, hn4, hb4, _⟩
  have hH := I3.out.1.size
  have J4 := Aside.mk (show C1 w w4 _ _ _ a b c w3.heap.size [] from ⟨I3.out.below hb4, hn4, hH⟩)
  generalize w3.heap.size = H at *
  clear hn4 hb4 hH
  go_wp2_with fail
  refine (WriteB J4.out.2.1 J4.out.1.2.1 (by have := hla.out; simp; omega) (J4.out.k HK.out)).mono ?_
  rintro e w5 ⟨rfl, hh5, hg5⟩
  have J5 := Aside.mk (J4.out.write hg5 (by simpa using hh5))
  clear hh5 hg5 J4
  go_wp2_with fail
  refine (T.Copy H a w5 J5.out.2.1).mono ?_
  rintro e w6 ⟨rfl, hh6, hb6, _⟩
  have hHK := J5.out.2.1.lt
  have J6 := Aside.mk (show C2 w w6 _ _ _ a b c H a w5.heap.size a from ⟨(J5.out.below hb6).1, (J5.out.below hb6).2.1, hh6, J5.out.2.2, hHK⟩)
  generalize w5.heap.size = K at *
  clear hh6 hb6 hHK J5
  go_wp2_with fail
  refine (T.Len K a w6 J6.out.2.2.1).mono ?_
  rintro e w6' ⟨rfl, hw⟩
  subst w6'
  have hnq := neq24 (digestL a) (digestL_length a)
  have hg24 := guard24
  go_wp2_with fail
  refine (T.Sum K a w6 J6.out.2.2.1 (J6.out.k HK.out) (by have := hla.out; omega)).mono ?_
  rintro e w7 ⟨rfl, hb7⟩
  have J7 := Aside.mk (J6.out.below hb7)
  clear hb7 J6
  go_wp2_with fail
  refine (T.Sum H a w7 J7.out.2.1 (J7.out.k HK.out) (by have := hla.out; omega)).mono ?_
  rintro e w8 ⟨rfl, hb8⟩
  have J8 := Aside.mk (J7.out.below hb8)
  clear hb8 J7
  go_wp2_with fail
  refine (WriteB J8.out.2.1 J8.out.1.2.2.1 (by have := hla.out; have := hlb.out; omega) (J8.out.k HK.out)).mono ?_
  rintro e w9 ⟨rfl, hh9, hg9⟩
  have J9 := Aside.mk (J8.out.writeH hg9 hh9)
  clear hh9 hg9 J8
  go_wp2_with fail
  refine (WriteB J9.out.2.2.1 J9.out.1.2.2.2 (by have := hla.out; have := hlc.out; omega) (J9.out.k HK.out)).mono ?_
  rintro e w10 ⟨rfl, hh10, hg10⟩
  have J10 := Aside.mk (J9.out.writeK hg10 hh10)
  clear hh10 hg10 J9 hnq
  go_wp2_with fail
  refine (T.Sum H (a ++ b) w10 J10.out.2.1 (J10.out.k HK.out) (by have := hla.out; have := hlb.out; simp; omega)).mono ?_
  rintro e w11 ⟨rfl, hb11⟩
  have J11 := Aside.mk (J10.out.below hb11)
  clear hb11 J10
  have hb11 := Aside.mk ((Below.refl w11.heap.size w11).alloc (Nat.le_refl _) (.cells #[] 5))
  have hsa := Aside.mk (show Src (w11.alloc (.cells #[] 5)) B1 a from (J11.out.below ((Below.refl _ _).alloc (Nat.le_refl _) _)).1.2.1.src.2.2.1)
  go_wp2_with (first | ((with_reducible refine wpList_append_bytes rfl (.tmp 52) (.tmp 53) rfl w11.heap.size _ [] a B1 a.length d1 rfl rfl rfl ?ho ?hr ?hb ?hl ?_); (case ho => exact Bytes.empty w11 _ (Nat.le_refl _)); (case hr => exact hsa.out); (case hb => simp); (case hl => have := hla.out; simp; omega); intro v12 w12 h12 hg12; have H12 := Aside.mk h12; have HB12 := Aside.mk (hb11.out.grown hg12 (by simp) (fun k e => Nat.le_of_eq (Option.some.inj e))); clear h12 hg12) | ((with_reducible refine wpList_append_bytes rfl (.tmp 54) (.tmp 55) rfl w11.heap.size v12 ([] ++ a) b B2 b.length d2 rfl rfl rfl ?ho ?hr ?hb ?hl ?_); (case ho => exact H12.out); (case hr => exact (J11.out.below HB12.out).1.2.2.1.src.2.2.1); (case hb => exact HB12.out.size); (case hl => have := hla.out; have := hlb.out; simp; omega); intro v13 w13 h13 hg13; have H13 := Aside.mk (show Bytes w13 w11.heap.size v13 (a ++ b) from by simpa using h13); have HB13 := Aside.mk (HB12.out.grown hg13 HB12.out.size (fun k e => (H12.out.lt k e).1)); clear h13 hg13))
  obtain ⟨E1, f1, rfl, _⟩ := H13.out.slice
  have J13 := Aside.mk (J11.out.below HB13.out)
  clear H12 HB12 HB13 hb11 hsa J11
  refine (OfB H13.out (by have := hla.out; have := hlb.out; simp; omega) (J13.out.k HK.out)).mono ?_
  rintro e w14 ⟨rfl, hb14⟩
  have J14 := Aside.mk (J13.out.below hb14)
  clear hb14 J13 H13
  have hnab := neq24 (digestL (a ++ b)) (digestL_length _)
  go_wp2_with fail
  clear hnab
  refine (T.Sum K (a ++ c) w14 J14.out.2.2.1 (J14.out.k HK.out) (by have := hla.out; have := hlc.out; simp; omega)).mono ?_
  rintro e w15 ⟨rfl, hb15⟩
  have J15 := Aside.mk (J14.out.below hb15)
  clear hb15 J14
  have hb15 := Aside.mk ((Below.refl w15.heap.size w15).alloc (Nat.le_refl _) (.cells #[] 5))
  have hsa := Aside.mk (show Src (w15.alloc (.cells #[] 5)) B1 a from (J15.out.below ((Below.refl _ _).alloc (Nat.le_refl _) _)).1.2.1.src.2.2.1)
  go_wp2_with (first | ((with_reducible refine wpList_append_bytes_g ?hw (.tmp 62) (.tmp 63) rfl w15.heap.size _ [] a B1 a.length d1 rfl rfl rfl ?ho ?hr ?hb ?hl ?_); (case hw => rfl); (case ho => exact Bytes.empty w15 _ (Nat.le_refl _)); (case hr => exact hsa.out); (case hb => simp); (case hl => have := hla.out; simp; omega); intro v12 w12 h12 hg12; have H12 := Aside.mk h12; have HB12 := Aside.mk (hb15.out.grown hg12 (by simp) (fun k e => Nat.le_of_eq (Option.some.inj e))); clear h12 hg12) | ((with_reducible refine wpList_append_bytes_g ?hw (.tmp 64) (.tmp 65) rfl w15.heap.size v12 ([] ++ a) c B3 c.length d3 rfl rfl rfl ?ho ?hr ?hb ?hl ?_); (case hw => rfl); (case ho => exact H12.out); (case hr => exact (J15.out.below HB12.out).1.2.2.2.src.2.2.1); (case hb => exact HB12.out.size); (case hl => have := hla.out; have := hlc.out; simp; omega); intro v13 w13 h13 hg13; have H13 := Aside.mk (show Bytes w13 w15.heap.size v13 (a ++ c) from by simpa using h13); have HB13 := Aside.mk (HB12.out.grown hg13 HB12.out.size (fun k e => (H12.out.lt k e).1)); clear h13 hg13))
  obtain ⟨E2, f2, rfl, _⟩ := H13.out.slice
  have J16 := Aside.mk (J15.out.below HB13.out)
  clear H12 HB12 HB13 hb15 hsa J15
  refine (OfB H13.out (by have := hla.out; have := hlc.out; simp; omega) (J16.out.k HK.out)).mono ?_
  rintro e w17 ⟨rfl, hb17⟩
  have J17 := Aside.mk (J16.out.below hb17)
  clear hb17 J16 H13
  have hnac := neq24 (digestL (a ++ c)) (digestL_length _)
  have hz : ∀ W, (zeroValue 43).run Tryd.prog W = .ok (.agg (T.cells false (List.replicate 8 0) (List.replicate 64 0) 0)) W := fun W => by
    have hi : (Tryd.prog.info? 43).map (·.zero) = some (some (.agg (T.cells false (List.replicate 8 0) (List.replicate 64 0) 0))) := by kernel_rfl
    obtain ⟨i, h1, h2⟩ := Option.map_eq_some_iff.1 hi
    simp [zeroValue, typeInfo, h1, h2]
  have hbd := fun W => run_build (P := Tryd.prog) W 43 #[] (T.cells false (List.replicate 8 0) (List.replicate 64 0) 0) (by kernel_rfl)
  go_wp2_with fail
  have hsz : ∀ o : Obj, (w17.alloc o).heap.size = w17.heap.size + 1 := fun o => by simp
  have hle := J17.out.1.1.size
  go_loopg [74] 2 (fun kq v74 wr => copL w w17.heap.size kq v74 wr)
  case atStart =>
    refine ⟨0, rfl, rfl, ⟨by rw [← hsz (.cells (T.cells false (List.replicate 8 0) (List.replicate 64 0) 0) 43)]; exact heap_alloc_new _ _⟩, ⟨?_⟩, ⟨(J17.out.1.1.alloc hle _).alloc (by rw [hsz]; omega) _⟩⟩
    rw [cell_of_row _ _ _ _ _ _ ((Below.heap_alloc _ _ _ (by rw [hsz]; omega)).trans (heap_alloc_new w17 _))]
    simp [T.cells]
  case round =>
    obtain ⟨i, hi, rfl, hp, hf, hB⟩ := hrel
    have HI := Aside.mk hi
    have HSZ := Aside.mk hsz
    have HLE := Aside.mk hle
    clear hsz hle
    by_cases hlt : i < 2
    · obtain ⟨p, hpc, hno⟩ : ∃ p, wr.cell? ⟨w17.heap.size + 1, i, none⟩ = some (.pointer p) ∧ NoHash wr p := by
        rcases Nat.eq_zero_or_pos i with h | h
        · subst h; exact ⟨none, by rw [cell_of_row _ _ _ _ _ _ hp.out]; rfl, .inl rfl⟩
        · obtain rfl : i = 1 := by omega
          exact ⟨_, by rw [cell_of_row _ _ _ _ _ _ hp.out]; rfl, .inr ⟨_, rfl, hf.out⟩⟩
      have HNO := Aside.mk hno
      have hlt' := Aside.mk hlt
      clear hno hi hnac hz hbd
      have hb24 := fun W => run_build (P := Tryd.prog) W 24 #[] T.z32 (by kernel_rfl)
      have hz24 : ∀ W, (zeroValue 24).run Tryd.prog W = .ok (.agg T.z32) W := fun W => by
        have hi : (Tryd.prog.info? 24).map (·.zero) = some (some (.agg T.z32)) := by kernel_rfl
        obtain ⟨i, h1, h2⟩ := Option.map_eq_some_iff.1 hi
        simp [zeroValue, typeInfo, h1, h2]
      have hnz : ∀ W : World, (binOp .neq 24 (.agg T.z32) (.agg T.z32)).run Tryd.prog W = .ok (.bool false) W := neq24 (List.replicate 32 0) rfl
      go_wp2_with fail
      refine (Write_none _ HNO.out).mono ?_
      rintro e w' ⟨rfl, hw⟩
      subst w'
      go_wp2_with fail
      refine (Len_none HNO.out).mono ?_
      rintro e w' ⟨rfl, hw⟩
      subst w'
      go_wp2_with fail
      refine (T.Sum_none p wr HNO.out).mono ?_
      rintro e ws ⟨rfl, hbs⟩
      have HBS := Aside.mk hbs
      have HNO2 := Aside.mk (HNO.out.below hbs)
      clear hbs
      go_wp2_with fail
      refine (Copy_none HNO2.out).mono ?_
      rintro e w' ⟨rfl, hw⟩
      subst w'
      go_wp2_with fail
      go_roundg (gk - 1)
      case measure => have := HI.out; have := hlt'.out; omega
      case rel =>
        refine ⟨i + 1, by have := HI.out; have := hlt'.out; omega, by go_num, ⟨?_⟩, ⟨?_⟩, ⟨hB.out.trans (HBS.out.mono hB.out.size)⟩⟩
        · rw [HBS.out.block _ (Array.getElem?_eq_some_iff.1 hp.out).1]; exact hp.out
        · rw [HBS.out.cell (p := ⟨w17.heap.size, 0, none⟩) (block_lt_of_cell hf.out)]; exact hf.out
    · have hi2 : i = 2 := by omega
      subst hi2
      have hW := Aside.mk (T.works wr (HK.out.of_block (hB.out.block 0 h00.out)))
      clear hi hlt hbd hz hnac
      go_wp2_with (go_at_call 14; refine hW.out.mono ?_; rintro e wf ⟨rfl, hbf⟩)
      go_ret
      exact ⟨rfl, hB.out.trans (hbf.mono hB.out.size)⟩
end Go.Proofs.YtoccfgkblognfaaDoor

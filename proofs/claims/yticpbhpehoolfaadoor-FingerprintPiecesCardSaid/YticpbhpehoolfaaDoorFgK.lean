/- The statement FingerprintPieces: the call returns true and turns nothing that was there. Conditions: where the bytes and the cuts lie, the tables. -/
import Derived.Test.YticpbhpehoolfaaDoorFgJ
namespace Go.Proofs.YticpbhpehoolfaaDoor
open Go.RowKit Go.Proofs.YticpbhpehoolfaaDoor.PA Go.Proofs.YticpbhpehoolfaaDoorW.PrintWords Go.Proofs.YticpbhpehoolfaaDoorW.PrintLast Go.Proofs.YticpbhpehoolfaaDoorW.PrintMore
/-- What stands while FingerprintPieces works. -/
def PI (w : World) (H : Nat) (v0 : Value) (b all : List Int) (wr : World) : Prop := Below w.heap.size w wr ∧ w.heap.size ≤ H ∧ Bytes wr w.heap.size v0 b ∧ Hashes wr H all
theorem PI.below {w wr w' : World} {H : Nat} {v0 : Value} {b all : List Int} (h : PI w H v0 b all wr) (hb : Below wr.heap.size wr w') : PI w H v0 b all w' :=
  ⟨h.1.trans (hb.mono h.1.size), h.2.1, h.2.2.1.below hb, h.2.2.2.below hb⟩
theorem PI.write {w wr w' : World} {H : Nat} {v0 : Value} {b all al2 : List Int} (h : PI w H v0 b all wr) (hg : wr.grownBy w' (some H)) (hs : Hashes w' H al2) : PI w H v0 b al2 w' := by
  obtain ⟨cs, hcs⟩ := h.2.2.2.block
  exact ⟨h.1.trans ⟨hg.os, hg.tape, hg.output, hg.size, fun k hk => hg.block k (by have := h.1.size; omega) (by have := h.2.1; simp; omega)⟩, h.2.1, h.2.2.1.hash hcs hg, hs⟩
theorem PI.tabs {w wr : World} {H : Nat} {v0 : Value} {b all : List Int} (h : PI w H v0 b all wr) (hk : Tabs w) : Tabs wr := hk.from h.1 hk.lt
theorem PI.Write {w wr : World} {H : Nat} {v0 : Value} {b all : List Int} (h : PI w H v0 b all wr) (hk : Tabs w) (hl : all.length ≤ 1000000) {A : Option Addr} {p : List Int} (hs : Src wr A p) (hp : p.length ≤ 1000000) (hA : ∀ a, A = some a → a.block ≠ H) {m c : Nat} (hm : p.length = m) :
    Calls Tryd.prog 15 #[.pointer (some ⟨H, 0, none⟩), .slice A m c] wr fun e w' => e = .returned (.int .i64 0) ∧ PI w H v0 b (all ++ p) w' := by
  subst hm
  refine (T.Write H all p A c wr h.2.2.2 hs hA (by omega) (h.tabs hk)).mono ?_
  rintro e w' ⟨rfl, g1, g2⟩
  exact ⟨rfl, h.write g2 g1⟩
theorem PI.Sum {w wr : World} {H : Nat} {v0 : Value} {b all : List Int} (h : PI w H v0 b all wr) (hk : Tabs w) (hl : all.length ≤ 1000000) :
    Calls Tryd.prog 20 #[.pointer (some ⟨H, 0, none⟩)] wr fun e w' => e = .returned (.agg (T.bs (digestL all))) ∧ PI w H v0 b all w' := by
  refine (T.Sum H all wr h.2.2.2 (h.tabs hk) (by omega)).mono ?_
  rintro e w' ⟨rfl, g⟩
  exact ⟨rfl, h.below g⟩
/-- A row of bytes does not lie where a Print does. -/
theorem PI.away {w wr : World} {H n c : Nat} {A : Option Addr} {b all : List Int} (h : PI w H (.slice A n c) b all wr) : ∀ a, A = some a → a.block ≠ H := by
  intro a ha
  subst ha
  obtain ⟨cs, hcs⟩ := h.2.2.2.block
  rcases h.2.2.1.2 with ⟨he, _⟩ | ⟨g', cap, cur, he, _, hh, _⟩
  · cases he
  · obtain ⟨rfl, _, _⟩ : a = ⟨g', 0, none⟩ ∧ n = b.length ∧ c = cap := by simpa using he
    rintro rfl
    rw [hh] at hcs
    simp at hcs
theorem int_in {W : World} {A : Option Addr} {l : List Int} (h : Kd.C (Kd.int .i64) W A l.length l) (i : Nat) (x : Int) (hx : l[i]? = some x) : ∃ a, A = some a ∧ W.cell? (a.add i) = some (.int .i64 x) := by
  obtain ⟨_, _, h3⟩ := h
  obtain ⟨a, rfl, h4⟩ := h3 (by have := (List.getElem?_eq_some_iff.1 hx).1; omega)
  obtain ⟨c, hcl, hK, hcell⟩ := h4 i x hx
  refine ⟨a, rfl, ?_⟩
  have e : c = [.int .i64 x] := hK
  subst e
  have := hcell 0 _ rfl
  rwa [show (Kd.int .i64).sz = 1 from rfl, Nat.mul_one, Nat.add_zero] at this
def pcRel (w : World) (H : Nat) (v0 : Value) (b : List Int) (N : Nat) (kq : Nat) (v8 v9 : Value) (wr : World) : Prop :=
  ∃ at_ i : Nat, i + kq = N ∧ at_ ≤ b.length ∧ v8 = .int .i64 (at_ : Int) ∧ v9 = .int .i64 (i : Int) ∧ Aside (PI w H v0 b (b.take at_) wr)
theorem wrap64_in' {x : Int} (h0 : -9223372036854775808 ≤ x) (h1 : x < 9223372036854775808) : IntKind.i64.wrap x = x := by simp [IntKind.wrap, IntKind.bits, IntKind.signed]; omega
/-- What stands while the bad Prints are tried. -/
def PJ (w : World) (H : Nat) (v0 : Value) (b : List Int) (B1 B2 : Nat) (wr : World) : Prop := PI w H v0 b b wr ∧ wr.cell? ⟨B1, 0, none⟩ = some (.bool false) ∧ wr.cell? ⟨B2, 0, none⟩ = some (.pointer none) ∧ wr.cell? ⟨B2, 1, none⟩ = some (.pointer (some ⟨B1, 0, none⟩))
theorem PJ.below {w wr w' : World} {H : Nat} {v0 : Value} {b : List Int} {B1 B2 : Nat} (h : PJ w H v0 b B1 B2 wr) (hb : Below wr.heap.size wr w') : PJ w H v0 b B1 B2 w' :=
  ⟨h.1.below hb, (hb.cell (block_lt_of_cell h.2.1)).trans h.2.1, (hb.cell (block_lt_of_cell h.2.2.1)).trans h.2.2.1, (hb.cell (block_lt_of_cell h.2.2.2)).trans h.2.2.2⟩
def pjRel (w : World) (H : Nat) (v0 : Value) (b : List Int) (B1 B2 : Nat) (kq : Nat) (v70 : Value) (wr : World) : Prop :=
  ∃ i : Nat, i + kq = 2 ∧ v70 = .int .i64 (i : Int) ∧ Aside (PJ w H v0 b B1 B2 wr)
theorem c0_made : T.c0[0]? = some (.bool false) := by simp [T.c0, T.cells]
theorem mod_fit (x : Int) (n : Nat) (h : 0 < n) : ∃ (r : Int) (k : Nat), x.tmod n = r ∧ -(n : Int) < r ∧ r < n ∧ (r + n).tmod n = (k : Int) ∧ k < n := by
  have h1 := Int.lt_tmod_of_pos x (b := (n : Int)) (by omega)
  have h2 := Int.tmod_lt_of_pos x (b := (n : Int)) (by omega)
  refine ⟨x.tmod n, ((x.tmod n + n).tmod n).toNat, rfl, h1, h2, ?_, ?_⟩
  · rw [Int.toNat_of_nonneg (Int.tmod_nonneg _ (by omega))]
  · have := Int.tmod_lt_of_pos (x.tmod n + n) (b := (n : Int)) (by omega)
    have := Int.tmod_nonneg (n : Int) (a := x.tmod n + n) (by omega)
    omega
set_option maxHeartbeats 16000000 in
set_option maxRecDepth 100000 in
theorem walk_pieces (w : World) (A0 : Option Addr) (c0 : Nat) (l0 : List Int) (hC0 : Kd.C (Kd.int .u8) w A0 l0.length l0) (hc0 : l0.length ≤ c0) (_hw0 : ∀ n ∈ l0, 0 ≤ n ∧ n < 256)
    (A1 : Option Addr) (c1 : Nat) (l1 : List Int) (hC1 : Kd.C (Kd.int .i64) w A1 l1.length l1) (hm1 : l1.length ≤ maxLen)
    (A2 : Option Addr) (c2 : Nat) (l2 : List Int) (hC2 : Kd.C (Kd.int .u8) w A2 l2.length l2) (hc2 : l2.length ≤ c2) (_hw2 : ∀ n ∈ l2, 0 ≤ n ∧ n < 256) (hk : Tabs w) :
    Calls Tryd.prog 6 #[.slice A0 l0.length c0, .slice A1 l1.length c1, .slice A2 l2.length c2] w fun e w' => e = .returned (.bool true) ∧ Below w.heap.size w w' := by
  have HK := Aside.mk hk
  have HF := Aside.mk (T.few A0 c0 l0 w hC0 hc0)
  have HC1 := Aside.mk hC1
  have HF2 := Aside.mk (show ∀ w1, Below w.heap.size w w1 → Calls Tryd.prog 8 #[.slice A2 l2.length c2] w1 fun e w' => ∃ v, e = .returned v ∧ Bytes w' w1.heap.size v (l2.take 2000) ∧ Below w1.heap.size w1 w' from fun w1 hb => T.few A2 c2 l2 w1 (Kd.C_below hC2 hb) hc2)
  obtain ⟨b, hb⟩ : ∃ b, b = l0.take 2000 := ⟨_, rfl⟩
  obtain ⟨d, hd⟩ : ∃ d, d = l2.take 2000 := ⟨_, rfl⟩
  rw [← hb] at HF
  rw [← hd] at HF2
  have hbl : b.length ≤ 2000 := by rw [hb, List.length_take]; omega
  have hdl : d.length ≤ 2000 := by rw [hd, List.length_take]; omega
  have HBL := Aside.mk hbl
  have HDL := Aside.mk hdl
  have hlm : l1.length ≤ 9223372036854775807 := hm1
  clear hk hC0 hC1 hC2 hc0 hc2 hb hd hbl hdl hm1
  go_enter Tryd.func6, Tryd.ntmps6
  go_wp2_with fail
  refine HF.out.mono ?_
  rintro e w1 ⟨v0, rfl, hb1, hB1⟩
  have HB1 := Aside.mk hb1
  have HW1 := Aside.mk hB1
  clear hb1 hB1
  go_wp2_with fail
  refine (HF2.out w1 HW1.out).mono ?_
  rintro e w2 ⟨v2, rfl, hb2, hB2⟩
  obtain ⟨Am, cm, rfl, hcm, hsm, ham⟩ := hb2.slice
  obtain ⟨Ab, cb, rfl, hcb, _, _⟩ := HB1.out.slice
  have HSM := Aside.mk hsm
  have HAM := Aside.mk ham
  have HB2 := Aside.mk (HB1.out.below hB2)
  have HW2 := Aside.mk (HW1.out.trans (hB2.mono HW1.out.size))
  clear hb2 hB2 hsm ham HB1 HW1 HF HF2
  go_wp2_with fail
  refine (T.New_has w2).mono ?_
  rintro e w3 ⟨rfl, h1, hb3, hs3⟩
  have HP3 := Aside.mk (show PI w w2.heap.size _ b [] w3 from ⟨HW2.out.trans (hb3.mono HW2.out.size), HW2.out.size, HB2.out.below hb3, h1⟩)
  have HM3 := Aside.mk (HSM.out.below (fun a h => (HAM.out a h).2) hb3)
  have HZ3 := Aside.mk hb3.size
  clear h1 hb3 hs3 HB2 HW2
  go_wp2_with fail
  refine (T.Of d Am cm w3 HM3.out (fun a h => by have := (HAM.out a h).2; have := HZ3.out; omega) (by have := HDL.out; omega) (HP3.out.tabs HK.out)).mono ?_
  rintro e w4 ⟨rfl, hb4⟩
  have HP4 := Aside.mk (HP3.out.below hb4)
  clear hb4 HP3 HM3 HZ3 HSM HAM
  go_wp2_with fail
  obtain ⟨N, hN⟩ : ∃ N, N = min l1.length 20 := ⟨_, rfl⟩
  have HN := Aside.mk hN
  clear hN
  go_loopg [8, 9, 10, 11] N (fun kq v8 v9 _ _ wr => pcRel w w2.heap.size (.slice Ab b.length cb) b N kq v8 v9 wr)
  case atStart => exact ⟨0, 0, by omega, by omega, rfl, rfl, ⟨by simpa using HP4.out⟩⟩
  case round =>
    obtain ⟨at_, i, hi, hat, rfl, rfl, hP⟩ := hrel
    have HI := Aside.mk hi
    have HAT := Aside.mk hat
    by_cases hlt : i < N
    · have h1l : i < l1.length := by have := HN.out; omega
      have h20 : i < 20 := by have := HN.out; omega
      obtain ⟨x, hx⟩ : ∃ x, l1[i]? = some x := ⟨_, List.getElem?_eq_getElem h1l⟩
      obtain ⟨a, rfl, hcell⟩ := int_in HC1.out i x hx
      have hcr := (hP.out.1.cell (block_lt_of_cell hcell)).trans hcell
      have hbl := HBL.out
      obtain ⟨nn, hnn⟩ : ∃ nn : Nat, (nn : Int) = (b.length : Int) - (at_ : Int) + 1 := ⟨b.length - at_ + 1, by omega⟩
      obtain ⟨r, k, hr, hr1, hr2, hk, hk2⟩ := mod_fit x nn (by omega)
      have e1 : IntKind.i64.wrap ((b.length : Int) - (at_ : Int)) = (b.length : Int) - (at_ : Int) := wrap64_in' (by omega) (by omega)
      have e2 : IntKind.i64.wrap ((b.length : Int) - (at_ : Int) + 1) = (nn : Int) := by rw [hnn]; exact wrap64_in (by omega) (by omega)
      have e3 : IntKind.i64.wrap (r + (nn : Int)) = r + (nn : Int) := wrap64_in (by omega) (by omega)
      have e4 : ¬ ((nn : Int) = 0) := by omega
      have hk3 : at_ + k ≤ b.length := by omega
      have hpc := Aside.mk (show ((b.drop at_).take k).length = k from by rw [List.length_take, List.length_drop]; omega)
      have hnx := Aside.mk (show b.take at_ ++ (b.drop at_).take k = b.take (at_ + k) from (List.take_add).symm)
      have hta := Aside.mk (show (b.take at_).length ≤ 1000000 from by rw [List.length_take]; omega)
      have hta2 := Aside.mk (show (b.take (at_ + k)).length ≤ 1000000 from by rw [List.length_take]; omega)
      have hpl := Aside.mk (show ((b.drop at_).take k).length ≤ 1000000 from by rw [List.length_take]; omega)
      have t1 : ((at_ : Int) + (k : Int)).toNat = at_ + k := by omega
      have t2 : (at_ : Int) + (k : Int) ≤ (cb : Int) := by omega
      have t3 : (0 : Int) ≤ (at_ : Int) + (k : Int) := by omega
      have e5 : IntKind.i64.wrap ((at_ : Int) + (k : Int)) = (at_ : Int) + (k : Int) := wrap64_in (by omega) (by omega)
      have HNN := Aside.mk hnn
      have hlt' := Aside.mk hlt
      have HK3 := Aside.mk hk3
      have hcb' := Aside.mk hcb
      clear hx hcell hnn hlt hi hbl hk3 hr1 hr2 hcb hat
      have HS := Aside.mk hP.out.2.2.1.src
      by_cases hca : cb = at_
      · subst hca
        have hk0 : k = 0 := by have := HK3.out; have := hcb'.out; omega
        subst hk0
        have hcm : cb ≤ 9223372036854775807 := by have := HK3.out; have := HBL.out; omega
        clear t1 t2 t3 e5
        go_wp2_with fail
        refine (PI.Write hP.out HK.out hta.out (A := Ab) (p := []) (fun i x hx => by cases hx) (by simp) hP.out.away rfl).mono ?_
        rintro e w5 ⟨rfl, hP5⟩
        rw [List.append_nil] at hP5
        have HP5 := Aside.mk hP5
        clear hP5
        go_wp2_with fail
        refine (PI.Sum HP5.out HK.out hta.out).mono ?_
        rintro e w6 ⟨rfl, hP6⟩
        have HP6 := Aside.mk hP6
        clear hP6
        go_wp2_with fail
        go_roundg (gk - 1)
        case measure => have := HI.out; have := hlt'.out; omega
        case rel => exact ⟨cb, i + 1, by have := HI.out; have := hlt'.out; omega, HAT.out, by go_num, by go_num, HP6⟩
      · have hcl : at_ < cb := by have := HK3.out; have := hcb'.out; omega
        obtain ⟨g, hg⟩ : ∃ g : Nat, Ab = some ⟨g, 0, none⟩ := by
          rcases hP.out.2.2.1.2 with ⟨he, _⟩ | ⟨g', cap, cur, he, _⟩
          · have : cb = 0 := by simpa using (Value.slice.inj he).2.2
            omega
          · exact ⟨g', (Value.slice.inj he).1⟩
        subst hg
        have hsr := Aside.mk (show Src wr (some ⟨g, at_, none⟩) ((b.drop at_).take k) from by
          have := HS.out.2.2.1.sub cb at_ k hcb'.out
          unfold subA at this
          rw [if_neg hca] at this
          simpa [Addr.add_mid] using this)
        have haw := Aside.mk (show ∀ a, some (⟨g, at_, none⟩ : Addr) = some a → a.block ≠ w2.heap.size from fun a ha => by
          obtain rfl := Option.some.inj ha
          exact hP.out.away ⟨g, 0, none⟩ rfl)
        go_wp2_with fail
        refine (PI.Write hP.out HK.out hta.out hsr.out hpl.out haw.out hpc.out).mono ?_
        rintro e w5 ⟨rfl, hP5⟩
        rw [hnx.out] at hP5
        have HP5 := Aside.mk hP5
        clear hP5
        go_wp2_with fail
        refine (PI.Sum HP5.out HK.out hta2.out).mono ?_
        rintro e w6 ⟨rfl, hP6⟩
        have HP6 := Aside.mk hP6
        clear hP6
        go_wp2_with fail
        go_roundg (gk - 1)
        case measure => have := HI.out; have := hlt'.out; omega
        case rel => exact ⟨at_ + k, i + 1, by have := HI.out; have := hlt'.out; omega, HK3.out, by go_num, by go_num, HP6⟩
    · have hNe : i = N := by omega
      have hcase : (i < l1.length ∧ 20 ≤ i) ∨ l1.length ≤ i := by have := HN.out; omega
      have hcb' := Aside.mk hcb
      have hta := Aside.mk (show (b.take at_).length ≤ 1000000 from by rw [List.length_take]; have := HBL.out; omega)
      have HS := Aside.mk hP.out.2.2.1.src
      have hdl := Aside.mk (show (b.drop at_).length = b.length - at_ from List.length_drop ..)
      have hdm := Aside.mk (show (b.drop at_).length ≤ 1000000 from by rw [List.length_drop]; have := HBL.out; omega)
      have hnx := Aside.mk (show b.take at_ ++ b.drop at_ = b from List.take_append_drop ..)
      have hsub := Aside.mk (show Src wr (subA Ab cb at_) (b.drop at_) from by
        have := HS.out.2.2.1.sub cb at_ (b.length - at_) hcb
        rwa [List.take_of_length_le (by rw [List.length_drop]; omega)] at this)
      have haw := Aside.mk (show ∀ a, subA Ab cb at_ = some a → a.block ≠ w2.heap.size from fun a ha => by
        obtain ⟨a0, h1, h2⟩ := subA_block ha
        rw [← h2]; exact hP.out.away a0 h1)
      have hsl : ∀ W, (Instr.slice 22 (.slice Ab b.length cb) (some (.int .i64 (at_ : Int))) none none).run Tryd.prog W = .ok (.slice (subA Ab cb at_) (b.length - at_) (cb - at_)) W := fun W => by
        rw [run_slice_l W 22 Ab b.length cb Tryd.underlying22 .i64 at_ (by omega) (by omega), show Tryd.prog.elem 22 = 5 from rfl, Tryd.sizeOf5 W]
        simp only [Result.andThen, sliced, Int.toNat_natCast, Nat.mul_one]
        rfl
      clear hi hlt hcb
      obtain ⟨hc1, hc2⟩ | hc1 := hcase
      all_goals
        clear hNe hat
        go_wp2_with fail
        refine (PI.Write hP.out HK.out hta.out hsub.out hdm.out haw.out hdl.out).mono ?_
        rintro e w5 ⟨rfl, hP5⟩
        rw [hnx.out] at hP5
        have HP5 := Aside.mk hP5
        clear hP5 hP hsl
        have hz49 : ∀ W, (zeroValue 49).run Tryd.prog W = .ok (.agg T.c0) W := fun W => by
          have hi : (Tryd.prog.info? 49).map (·.zero) = some (some (.agg T.c0)) := by kernel_rfl
          obtain ⟨i, h1, h2⟩ := Option.map_eq_some_iff.1 hi
          simp [zeroValue, typeInfo, h1, h2]
        have hz24 : ∀ W, (zeroValue 24).run Tryd.prog W = .ok (.agg T.z16) W := fun W => by
          have hi : (Tryd.prog.info? 24).map (·.zero) = some (some (.agg T.z16)) := by kernel_rfl
          obtain ⟨i, h1, h2⟩ := Option.map_eq_some_iff.1 hi
          simp [zeroValue, typeInfo, h1, h2]
        have hnq : ∀ W, (binOp .neq 24 (.agg T.z16) (.agg T.z16)).run Tryd.prog W = .ok (.bool false) W := neq24 (List.replicate 16 0) rfl
        go_wp2_with fail
        have HJ := Aside.mk (show PJ w w2.heap.size (.slice Ab b.length cb) b w5.heap.size (w5.heap.size + 1) ((w5.alloc (.cells T.c0 49)).alloc (.cells #[.pointer none, .pointer (some ⟨w5.heap.size, 0, none⟩)] 30)) from by
          have h1 : Below w5.heap.size w5 ((w5.alloc (.cells T.c0 49)).alloc (.cells #[.pointer none, .pointer (some ⟨w5.heap.size, 0, none⟩)] 30)) := ((Below.refl _ _).alloc (Nat.le_refl _) _).alloc (by simp) _
          refine ⟨HP5.out.below h1, ?_, ?_, ?_⟩
          · rw [cell_of_row _ _ _ _ _ _ (heap_alloc2_old w5 _ _)]; exact c0_made
          · rw [cell_of_row _ _ _ _ _ _ (heap_alloc2_new w5 _ _)]; rfl
          · rw [cell_of_row _ _ _ _ _ _ (heap_alloc2_new w5 _ _)]; rfl)
        go_loopg [13, 70] 2 (fun kq _ v70 wr => pjRel w w2.heap.size (.slice Ab b.length cb) b w5.heap.size (w5.heap.size + 1) kq v70 wr)
        case atStart => exact ⟨0, rfl, rfl, HJ⟩
        case round =>
          clear HJ HP5
          obtain ⟨j, hj, rfl, hJ⟩ := hrel
          have c1 := hJ.out.2.1
          have c2 := hJ.out.2.2.1
          have c3 := hJ.out.2.2.2
          obtain rfl | rfl | rfl : j = 0 ∨ j = 1 ∨ j = 2 := by omega
          · have HJJ := Aside.mk hj
            clear hj
            go_wp2_with (first | (go_at_call 15; refine (T.Write_nil _ _).mono ?_; rintro e w' ⟨rfl, hw⟩; subst w') | (go_at_call 16; refine (T.Number_nil _ _).mono ?_; rintro e w' ⟨rfl, hw⟩; subst w') | (go_at_call 18; refine (T.Text_nil _ _).mono ?_; rintro e w' ⟨rfl, hw⟩; subst w') | (go_at_call 21; refine (T.Len_nil _).mono ?_; rintro e w' ⟨rfl, hw⟩; subst w') | (go_at_call 20; refine (T.Sum_none none _ (.inl rfl)).mono ?_; rintro e w7 ⟨rfl, hb7⟩; have HB7 := Aside.mk hb7; clear hb7))
            go_roundg (gk - 1)
            case measure => have := HJJ.out; omega
            case rel => exact ⟨1, by have := HJJ.out; omega, by rfl, ⟨hJ.out.below HB7.out⟩⟩
          · have HJJ := Aside.mk hj
            clear hj
            go_wp2_with (first | (go_at_call 15; refine (T.Write_bad _ _ _ c1).mono ?_; rintro e w' ⟨rfl, hw⟩; subst w') | (go_at_call 16; refine (T.Number_bad _ _ _ c1).mono ?_; rintro e w' ⟨rfl, hw⟩; subst w') | (go_at_call 18; refine (T.Text_bad _ _ _ c1).mono ?_; rintro e w' ⟨rfl, hw⟩; subst w') | (go_at_call 21; refine (T.Len_bad _ _ c1).mono ?_; rintro e w' ⟨rfl, hw⟩; subst w') | (go_at_call 20; refine (T.Sum_none (some ⟨w5.heap.size, 0, none⟩) _ (.inr ⟨_, rfl, c1⟩)).mono ?_; rintro e w7 ⟨rfl, hb7⟩; have HB7 := Aside.mk hb7; clear hb7))
            go_roundg (gk - 1)
            case measure => have := HJJ.out; omega
            case rel => exact ⟨2, by have := HJJ.out; omega, by rfl, ⟨hJ.out.below HB7.out⟩⟩
          · have HQ := Aside.mk hJ.out.1
            have heq := eq24 (digestL b) (digestL_length b)
            have hb1 := Aside.mk (show b.length ≤ 1000000 from by have := HBL.out; omega)
            have HOf := Aside.mk (show ∀ W, PI w w2.heap.size (.slice Ab b.length cb) b b W → Calls Tryd.prog 9 #[.slice Ab b.length cb] W fun e w' => e = .returned (.agg (T.bs (digestL b))) ∧ PI w w2.heap.size (.slice Ab b.length cb) b b w' from fun W hW => by
              have hs := hW.2.2.1.src
              refine (T.Of b Ab cb W hs.2.2.1 (fun a h => (hs.2.2.2 a h).2) (by have := hb1.out; omega) (hW.tabs HK.out)).mono ?_
              rintro e w' ⟨rfl, g⟩
              exact ⟨rfl, hW.below g⟩)
            clear hj c1 c2 c3 hJ
            go_wp2_with (first | (go_at_call 20; refine (PI.Sum HQ.out HK.out hb1.out).mono ?_; rintro e w7 ⟨rfl, hp7⟩; have HP7 := Aside.mk hp7; clear hp7) | (go_at_call 9; refine (HOf.out _ HP7.out).mono ?_; rintro e w8 ⟨rfl, hp8⟩; have HP8 := Aside.mk hp8; clear hp8) | (go_at_call 21; refine (T.Len _ _ _ HP8.out.2.2.2).mono ?_; rintro e w' ⟨rfl, hw⟩; subst w') | (go_at_call 13; refine (T.works _ (HP8.out.tabs HK.out)).mono ?_; rintro e w9 ⟨rfl, hb9⟩; have HB9 := Aside.mk hb9; clear hb9))
            go_ret
            exact ⟨rfl, HP8.out.1.trans (HB9.out.mono HP8.out.1.size)⟩
end Go.Proofs.YticpbhpehoolfaaDoor

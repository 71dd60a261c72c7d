/- The statement OctetKeeps: the call returns true and turns nothing that was there. Conditions: where the bytes lie; lengths below the machine's. -/
import Derived.Test.YtjjpglkmkemkeaaOct4
import Derived.WalkKit
import Derived.Below
import Derived.Deep.RegionLaw
import Derived.Deep.QuietTactic
import Derived.BigQuiet
import Derived.Laws.MakeOwn
import Derived.Shelf.Abstract
namespace Go.Proofs.Ytjjpglkmkemkeaa.Oct
open Go.Shelf Go.RowKit Go.Proofs.Ytjjpglkmkemkeaa.PA Go.Proofs.YtjjpglkmkemkeaaW.PrintWords Go.Proofs.YtjjpglkmkemkeaaW.PrintLast Go.Proofs.YtjjpglkmkemkeaaW.PrintMore
/-- Kept away from the walk. -/
structure Away (p : Prop) : Prop where
  out : p
/-- A call of a Go function as one step of a region that draws. -/
theorem step_calls {P : Program} {ops : Array Oper} {o : Oper} {a : Act} {w : World} {K : Act → World → Prop} {Q : Exit → Act → World → Prop} {E : Prop}
    (hg : o.guard = none) (f : FuncId) (xs : Array Operand) (ts : Array TypeId) (ho : o.op = .call { callee := .value (.func f), args := xs, argTypes := ts }) (eg : ∀ args w, (callFunc f args).run P w = .ok (.enter f args) w) (args : Array Value) (hx : xs.map a.eval = args)
    (h : Calls P f args w fun e w' => ∃ v, e = .returned v ∧ K (a.put o.dst v) w') :
    if Region.wanted o (yielded ops a.tmps) = true then Oper.wp P o a w K Q else E := by
  have hw : Region.wanted o (yielded ops a.tmps) = true := by simp [Region.wanted, hg]
  rw [if_pos hw]
  unfold Oper.wp
  simp [execOp, ho, resolve, invoke, hx, Deferred.ofValue, Act.eval, eg, go_sem]
  refine h.mono ?_
  rintro e w' ⟨v, rfl, hk⟩
  exact hk
theorem step_call1 {P : Program} {ops : Array Oper} {o : Oper} {a : Act} {w : World} {K : Act → World → Prop} {Q : Exit → Act → World → Prop} {E : Prop}
    (hg : o.guard = none) (f : FuncId) (x : Operand) (t : TypeId) (ho : o.op = .call { callee := .value (.func f), args := #[x], argTypes := #[t] }) (eg : ∀ args w, (callFunc f args).run P w = .ok (.enter f args) w) (v : Value) (hx : a.eval x = v)
    (h : Calls P f #[v] w fun e w' => ∃ v, e = .returned v ∧ K (a.put o.dst v) w') :
    if Region.wanted o (yielded ops a.tmps) = true then Oper.wp P o a w K Q else E := step_calls hg f #[x] #[t] ho eg #[v] (by simp [hx]) h
theorem infoB : (Try.prog.info? 5).map (fun i => (i.zero, i.size, i.bytes)) = some (some (.int .u8 0), 1, 1) := by kernel_rfl
theorem step_appendB {ops : Array Oper} {o : Oper} {a : Act} {w : World} {Kc : Act → World → Prop} {Q : Exit → Act → World → Prop} (hgd : Region.wanted o (yielded ops a.tmps) = true) (s x : Operand)
    (ho : o.op = .call { callee := .builtin .append, args := #[s, x], argTypes := #[22, 22] }) (base : Nat) (v : Value) (l xs : List Int) (A : Option Addr) (m c : Nat) (hs : a.eval s = v) (hx : a.eval x = .slice A m c)
    (HO : Kd.R (Kd.int .u8) 5 w base (fun _ => True) v l) (HR : Kd.C (Kd.int .u8) w A m xs) (hbase : base ≤ w.heap.size) (hl : l.length + m ≤ 1000000)
    (h : ∀ v1 w1, Kd.R (Kd.int .u8) 5 w1 base (fun _ => True) v1 (l ++ xs) → w.grownBy w1 v.ownBlock → (v1.ownBlock = v.ownBlock ∨ ∃ b, v1.ownBlock = some b ∧ w.heap.size ≤ b) → Kc (a.put o.dst v1) w1) :
    if Region.wanted o (yielded ops a.tmps) = true then Oper.wp Try.prog o a w Kc Q else Kc (a.put o.dst undef) w := by
  have hm := HR.1
  subst hm
  exact Kd.R_append_rows_step (Kd.int .u8) (Rr := (Kd.int .u8).K w) (w0 := w) base hgd s x 22 5 (.int .u8 0) 1 ho Try.underlying22 infoB rfl (by decide) (by decide) v l xs A xs.length c (fun _ => True) (fun _ => False) hs hx HO HR (fun _ _ h => h) (fun _ h => h.elim) (fun _ _ => trivial) (Below.refl _ _) hbase (by omega) (fun v1 w1 h1 _ h3 h4 => h v1 w1 h1 h3 h4)
theorem run_make5 (m : Nat) (hm : m ≤ 1000000) : ∃ Z : Array Value, Z.size = m ∧ ∀ W, (Instr.makeSlice 22 (.int .i64 0) (.int .i64 (m : Int))).run Try.prog W = .ok (.slice (some ⟨W.heap.size, 0, none⟩) 0 m) (W.alloc (.cells Z 5)) := by
  obtain ⟨i, hi, hp⟩ := Option.map_eq_some_iff.1 infoB
  simp only [Prod.mk.injEq] at hp
  obtain ⟨h0, h1, h2⟩ := hp
  refine ⟨madeCells (Value.int .u8 0).cells (m * 1), by rw [size_madeCells]; omega, fun W => ?_⟩
  have := run_make (P := Try.prog) W 22 5 i (.int .u8 0) Try.underlying22 hi h0 .i64 .i64 0 (m : Int) (by omega) (by omega) (by rw [h2]; omega) (by omega)
  rw [h1] at this
  simpa using this
theorem made5 (w : World) (base : Nat) (hb : base ≤ w.heap.size) (Z : Array Value) (m : Nat) (hZ : Z.size = m) (hm : m ≤ 1000000) : Kd.R (Kd.int .u8) 5 (w.alloc (.cells Z 5)) base (fun _ => True) (.slice (some ⟨w.heap.size, 0, none⟩) 0 m) [] :=
  Kd.R_of_own (World.ownsRow_made (e := 5) (size := 1) w Z m hb (by unfold maxLen; omega) (by omega)) (fun _ _ => trivial)
theorem T.Num (A : Option Addr) (c : Nat) (l : List Int) (n : Int) (w : World) (hC : Kd.C (Kd.int .u8) w A l.length l) (hc : l.length ≤ c) (hl : l.length ≤ 1000000) :
    Calls Try.prog 12 #[.slice A l.length c, .int .i64 n] w fun e w' => ∃ v, e = .returned (.tuple #[v, .int .i64 (numS l n).2]) ∧ Kd.R (Kd.int .u8) 5 w' w.heap.size (fun _ => True) v (numS l n).1 ∧ Below w.heap.size w w' := by
  obtain ⟨k, hk⟩ := (Num_ev l n (by omega)).rounds
  exact octet_Num.calls k A c l n _ _ w hC hc hk
theorem T.Text (A : Option Addr) (c : Nat) (l : List Int) (t : ByteArray) (w : World) (hC : Kd.C (Kd.int .u8) w A l.length l) (hc : l.length ≤ c) (hl : l.length ≤ 1000000) :
    Calls Try.prog 17 #[.slice A l.length c, .string t] w fun e w' => ∃ v, e = .returned (.tuple #[v, .int .i64 (textS l t).2]) ∧ Kd.R (Kd.int .u8) 5 w' w.heap.size (fun _ => True) v (textS l t).1 ∧ Below w.heap.size w w' := by
  obtain ⟨k, hk⟩ := (Text_ev l t (by omega)).rounds
  exact octet_Text.calls k A c l t _ _ w hC hc hk
theorem T.ReadNum (A : Option Addr) (m c : Nat) (l : List Int) (w : World) (hm : l.length = m) (hC : Kd.C (Kd.int .u8) w A m l) (hc : m ≤ c) (hb : Byts l) (hl : m ≤ 1000000) :
    Calls Try.prog 14 #[.slice A m c] w fun e w' => e = .returned (.tuple #[.int .i64 (rdN l 0 0).1, .int .i64 (rdN l 0 0).2.1, .int .i64 (rdN l 0 0).2.2]) ∧ Below w.heap.size w w' := by
  subst hm
  obtain ⟨k, hk⟩ := (ReadNum_ev l hb (by omega)).rounds
  exact (octet_ReadNum.calls k A c l _ _ _ w hC hc hk).mono fun e w' ⟨he, hd⟩ => ⟨he, hd.below⟩
theorem T.ReadText (A : Option Addr) (m c : Nat) (l : List Int) (w : World) (hm : l.length = m) (hC : Kd.C (Kd.int .u8) w A m l) (hc : m ≤ c) (hb : Byts l) (hl : m ≤ 1000000) :
    Calls Try.prog 19 #[.slice A m c] w fun e w' => e = .returned (.tuple #[.string (rdT l).1, .int .i64 (rdT l).2.1, .int .i64 (rdT l).2.2]) ∧ Below w.heap.size w w' := by
  subst hm
  obtain ⟨k, hk⟩ := (ReadText_ev l hb (by omega)).rounds
  exact (octet_ReadText.calls k A c l _ _ _ w hC hc hk).mono fun e w' ⟨he, hd⟩ => ⟨he, hd.below⟩
theorem T.works (w : World) : Calls Try.prog 16 #[] w fun e w' => e = .returned (.bool true) ∧ Below w.heap.size w w' := by
  obtain ⟨k, hk⟩ := works_ev.rounds
  exact racewaylaw01_works.calls k _ w hk
theorem bytesOf_byts (s : ByteArray) : Byts (bytesOf s) := fun x hx => by
  unfold bytesOf at hx
  obtain ⟨b, _, rfl⟩ := List.mem_map.1 hx
  have := b.toNat_lt
  omega
theorem strOfNums_bytesOf (t : ByteArray) : strOfNums (bytesOf t) = t := by
  refine ByteArray.ext (Array.toList_inj.1 ?_)
  rw [strOfNums_data]
  unfold bytesOf
  rw [List.map_map]
  conv => rhs; rw [← List.map_id t.data.toList]
  exact List.map_congr_left fun b _ => by simp
theorem rdT_enc (t : ByteArray) (h : t.size ≤ 4096) (rest : List Int) : rdT (enc t.size ++ (bytesOf t ++ rest)) = (t, (((enc t.size).length + t.size : Nat) : Int), 0) := by
  have hbl : (bytesOf t).length = t.size := bytesOf_length t
  unfold rdT
  rw [rd_enc0 (by omega) (bytesOf t ++ rest)]
  dsimp only
  rw [if_neg (by omega), if_neg (by omega), if_neg (by simp only [List.length_append, hbl]; omega)]
  have e1 : ((((enc t.size).length : Nat) : Int) + ((t.size : Nat) : Int)).toNat = (enc t.size).length + t.size := by omega
  rw [e1, Int.toNat_natCast, List.take_append, List.take_of_length_le (by omega), show (enc t.size).length + t.size - (enc t.size).length = (bytesOf t).length from by omega, List.take_left, List.drop_left]
  rw [strOfNums_bytesOf]
  simp
/-- A row's two parts: the first read as a text, the second as it lies. -/
theorem T.part (g c : Nat) (a b : List Int) (w : World) (h : Kd.C (Kd.int .u8) w (some ⟨g, 0, none⟩) (a ++ b).length (a ++ b)) (hc : (a ++ b).length ≤ c) (hb : 0 < b.length) :
    (convert 22 9 (.slice (some ⟨g, 0, none⟩) a.length c)).run Try.prog w = .ok (.string (strOfNums a)) w ∧ a.length < (a ++ b).length ∧ (a ++ b).length ≤ c ∧ ¬ c = a.length ∧ Kd.C (Kd.int .u8) w (some ⟨g, a.length, none⟩) ((a ++ b).length - a.length) b := by
  have hl : (a ++ b).length = a.length + b.length := List.length_append
  have h1 := Kd.C_take (m := a.length) h (by omega)
  have h2 := Kd.C_drop (m := a.length) h (by omega) hc
  rw [List.take_left] at h1
  rw [List.drop_left, if_neg (by omega)] at h2
  refine ⟨Kd.C_string Try.underlying22 Try.underlying5 Try.underlying9 h1, by omega, hc, by omega, ?_⟩
  rw [show (a ++ b).length - a.length = b.length from by omega]
  have e : (Option.map (fun x : Addr => x.add (a.length * (Kd.int .u8).sz)) (some ⟨g, 0, none⟩)) = some ⟨g, a.length, none⟩ := by
    show some ((⟨g, 0, none⟩ : Addr).add (a.length * 1)) = _
    rw [Nat.mul_one, Addr.add_mid, Nat.zero_add]
  rw [e] at h2
  exact h2
set_option maxHeartbeats 8000000 in
set_option maxRecDepth 100000 in
theorem walk_keeps (w : World) (A0 : Option Addr) (c0 : Nat) (l0 : List Int) (hC0 : Kd.C (Kd.int .u8) w A0 l0.length l0) (hc0 : l0.length ≤ c0) (hm0 : l0.length ≤ maxLen ∧ ∀ x ∈ l0, (Lit.int .u8 x).wf = true)
    (n : Int) (hn : (Lit.int .i64 n).wf = true) (s : ByteArray) (hs : s.size ≤ maxLen) :
    Calls Try.prog 6 #[.slice A0 l0.length c0, .int .i64 n, .string s] w fun e w' => e = .returned (.bool true) ∧ Below w.heap.size w w' := by
  have hs' : s.size ≤ 9223372036854775807 := hs
  obtain ⟨l, hl⟩ : ∃ l, l = l0.take 6000 := ⟨_, rfl⟩
  have hll : l.length ≤ 6000 := by rw [hl, List.length_take]; omega
  have hlb := Away.mk (show Byts l from by rw [hl]; exact (Byts.of_wf hm0.2).take _)
  have hfew := Away.mk (show racewaylaw01_few.f l0 = some l from by rw [hl]; exact few_some' l0 hm0.1)
  have HC := Away.mk hC0
  have HC0 := Away.mk hc0
  have hF := Away.mk (fun (W : World) (hW : Below w.heap.size w W) => racewaylaw01_few.calls A0 c0 l0 l W (Kd.C_below HC.out hW) HC0.out hfew.out)
  obtain ⟨Z, hZ, hmk⟩ := run_make5 (l.length + 64) (by omega)
  have HZ := Away.mk hZ
  rw [show ((l.length + 64 : Nat) : Int) = (l.length : Int) + 64 from by omega] at hmk
  have hwr : IntKind.i64.wrap ((l.length : Int) + 64) = (l.length : Int) + 64 := by simp [IntKind.wrap, IntKind.bits, IntKind.signed]; omega
  clear hC0 hc0 hm0 hl hZ
  go_enter Try.func6, Try.ntmps6
  go_wp2_with fail
  · have hT : (s.extract 0 300).size ≤ 300 := by simp; omega
    generalize s.extract 0 300 = t at *
    go_region_law (first | (refine step_call1 rfl 11 (.tmp 26) 22 rfl (enters_of Try.func11 (by kernel_rfl) rfl) (.slice A0 l0.length c0) rfl ?_; refine (hF.out _ (Below.drew (Below.refl _ _))).mono ?_; rintro e w1 ⟨v1, rfl, hr1, hb1⟩; obtain ⟨A1, c1, rfl, hc1, hC1⟩ := Kd.R_reads hr1; have HB1 := Away.mk (show Below w.heap.size w w1 from (Below.drew (Below.refl _ _)).trans hb1); clear hr1 hb1 hc1 hC1; refine ⟨_, rfl, ?_⟩) | (refine step_call1 rfl 11 (.tmp 31) 22 rfl (enters_of Try.func11 (by kernel_rfl) rfl) (.slice A0 l0.length c0) rfl ?_; refine (hF.out _ ?hw2).mono ?_; (case hw2 => first | exact HB1.out | exact HB1.out.alloc HB1.out.size _); rintro e w2 ⟨v2, rfl, hr2, hb2⟩; obtain ⟨A2, c2, rfl, hc2, hC2⟩ := Kd.R_reads hr2; have HB2 := Away.mk hb2; have HR2 := Away.mk hr2; have HC2 := Away.mk hC2; clear hr2 hb2 hc2 hC2; refine ⟨_, rfl, ?_⟩) | (refine step_appendB rfl (.tmp 30) (.tmp 32) rfl w.heap.size (.slice (some ⟨w1.heap.size, 0, none⟩) 0 (l.length + 64)) [] l A2 l.length c2 rfl rfl ?ho ?hr ?hb ?hl ?_; (case ho => exact Kd.R_below (made5 w1 w.heap.size HB1.out.size Z _ HZ.out (by omega)) HB2.out); (case hr => exact HC2.out); (case hb => have := HB1.out.size; have := HB2.out.size; simp at *; omega); (case hl => simp; omega); intro v7 w3 hr3 hg3 hw3; rw [List.nil_append] at hr3; have HB3 := Away.mk (show Below w.heap.size w w3 from ((HB1.out.alloc HB1.out.size (.cells Z 5)).trans (HB2.out.mono (by have := HB1.out.size; simp; omega))).grown hg3 (by have := HB1.out.size; have := HB2.out.size; simp at *; omega) (fun k e => by have := Option.some.inj e; have := HB1.out.size; have := HB2.out.size; simp at *; omega)); obtain ⟨A7, c7, rfl, hc7, hC7⟩ := Kd.R_reads hr3; have HC7 := Away.mk hC7; have HR3 := Away.mk hr3; clear hr3 hg3 hw3 hC7) | (refine step_appendB rfl (.tmp 30) (.tmp 32) rfl w.heap.size (.slice (some ⟨w2.heap.size, 0, none⟩) 0 (l.length + 64)) [] l A2 l.length c2 rfl rfl ?ho ?hr ?hb ?hl ?_; (case ho => exact made5 w2 w.heap.size (Nat.le_trans HB1.out.size HB2.out.size) Z _ HZ.out (by omega)); (case hr => exact Kd.C_alloc HC2.out _); (case hb => have := HB1.out.size; have := HB2.out.size; simp at *; omega); (case hl => simp; omega); intro v7 w3 hr3 hg3 hw3; rw [List.nil_append] at hr3; have HB3 := Away.mk (show Below w.heap.size w w3 from ((HB1.out.trans (HB2.out.mono HB1.out.size)).alloc (Nat.le_trans HB1.out.size HB2.out.size) (.cells Z 5)).grown hg3 (by have := HB1.out.size; have := HB2.out.size; simp at *; omega) (fun k e => by have := Option.some.inj e; have := HB1.out.size; have := HB2.out.size; simp at *; omega)); obtain ⟨A7, c7, rfl, hc7, hC7⟩ := Kd.R_reads hr3; have HC7 := Away.mk hC7; have HR3 := Away.mk hr3; clear hr3 hg3 hw3 hC7))
    all_goals
      clear hmk hF HB1 HB2 HC2 hfew HC HC0
      try clear HZ
      have hcs7 := Kd.C_string Try.underlying22 Try.underlying5 Try.underlying9 (c := c7) HC7.out
      have hN := Away.mk (T.Num A7 c7 l n w3 HC7.out hc7 (by omega))
      have HT := Away.mk hT
      clear hT
      go_wp2_with fail
      refine hN.out.mono ?_
      rintro e w4 ⟨v9, rfl, hr9, hb4⟩
      have HR9 := Away.mk hr9
      have HB4 := Away.mk hb4
      have hX := Away.mk (T.Text A7 c7 l t w4 (Kd.C_below HC7.out hb4) hc7 (by omega))
      have hts : textS l t = (l ++ enc t.size ++ bytesOf t, 0) := by unfold textS; rw [if_neg (by have := HT.out; omega)]
      rw [hts] at hX
      clear hr9 hb4 hN hcs7 hts
      go_wp2_with fail
      refine hX.out.mono ?_
      rintro e w5 ⟨v11, rfl, hr11, hb5⟩
      have HR11 := Away.mk hr11
      have HB5 := Away.mk hb5
      clear hr11 hb5 hX
      have HRW := Away.mk (Kd.R_below HR3.out (HB4.out.trans (HB5.out.mono HB4.out.size)))
      have HB35 := Away.mk (HB3.out.trans ((HB4.out.trans (HB5.out.mono HB4.out.size)).mono HB3.out.size))
      have hc7m : c7 ≤ 9223372036854775807 := by
        rcases (Kd.own_of_R HRW.out).2 with ⟨h1, _⟩ | ⟨g, cap, cur, h1, _, _, _, hm, _⟩
        · obtain ⟨_, _, rfl⟩ : A7 = none ∧ l.length = 0 ∧ c7 = 0 := by simpa using h1
          omega
        · cases h1; exact hm
      have HB3s := Away.mk HB3.out.size
      have HR9b := Away.mk (Kd.R_bound (Kd.R_below HR9.out HB5.out))
      have HR11b := Away.mk (Kd.R_bound HR11.out)
      have HB4s := Away.mk HB4.out.size
      have hown7 := Away.mk (Kd.R_bound HR3.out).1
      clear HC7 HR3 HB3 HB4 HB5 HR9 HR11
      go_wp2_with fail
      go_loopg [14, 54] c7 (fun kq _ v54 wr => ∃ j : Nat, j + kq = c7 ∧ v54 = .int .i64 (j : Int) ∧ Away (w5.grownBy wr (Value.slice A7 l.length c7).ownBlock) ∧ Away (∀ g, (Value.slice A7 l.length c7).ownBlock = some g → ∃ cur : Array Value, wr.heap[g]? = some (.cells cur 5 (0, 0)) ∧ c7 ≤ cur.size))
      case atStart =>
        refine ⟨0, by omega, rfl, ⟨⟨rfl, rfl, rfl, Nat.le_refl _, fun _ _ _ => rfl⟩⟩, ⟨fun g hg => ?_⟩⟩
        rcases (Kd.own_of_R HRW.out).2 with ⟨h1, _⟩ | ⟨g', cap, cur, h1, _, hh, _, hm, hsz, _⟩
        · rw [h1] at hg; cases hg
        · rw [h1] at hg
          cases hg
          cases h1
          exact ⟨cur, hh, by omega⟩
      case round =>
        obtain ⟨j, hj, rfl, hG, hcur⟩ := hrel
        have HJ := Away.mk hj
        by_cases hlt : j < c7
        · rcases (Kd.own_of_R HRW.out).2 with ⟨h1, _⟩ | ⟨g, cap, cur0, h1, _⟩
          · obtain ⟨_, _, rfl⟩ : A7 = none ∧ l.length = 0 ∧ c7 = 0 := by simpa using h1
            omega
          · cases h1
            obtain ⟨cur, hh, hsz⟩ := hcur.out g rfl
            obtain ⟨ce, hce⟩ : ∃ ce, cur[j]? = some ce := ⟨_, Array.getElem?_eq_getElem (by omega)⟩
            have hcj : wr.cell? ⟨g, j, none⟩ = some ce := by rw [cell_of_row _ _ _ _ _ _ hh]; exact hce
            have hfj := frozen_of_row wr g j _ _ hh
            have HH := Away.mk hh
            have HLT := Away.mk hlt
            have HSZ := Away.mk hsz
            clear hj hh hsz hce
            go_wp2
            go_roundg (gk - 1)
            case measure => have := HJ.out; have := HLT.out; omega
            case rel =>
              refine ⟨j + 1, by have := HJ.out; have := HLT.out; omega, by go_num, ⟨⟨hG.out.os, hG.out.tape, hG.out.output, by simpa [World.setCell] using hG.out.size, fun k hk hne => ?_⟩⟩, ⟨fun g' hg' => ?_⟩⟩
              · rw [Below.heap_setCell _ ⟨g, j, none⟩ _ _ (fun e => hne (congrArg some e))]
                exact hG.out.block k hk hne
              · cases hg'
                exact ⟨_, heap_setCell_same wr g j _ _ _ HH.out, by have := HSZ.out; simpa using this⟩
        · have hje : j = c7 := by omega
          have hor : ∀ k, w3.heap.size ≤ k → some k ≠ (Value.slice A7 l.length c7).ownBlock := fun k hk e => by
            have := (hown7.out k e.symm).2.2.1
            omega
          have R9 := Away.mk (Kd.R_drop (Kd.R_grown HR9b.out hG.out (fun k hk => hor k hk.2.1)))
          have R11 := Away.mk (Kd.R_drop (Kd.R_grown HR11b.out hG.out (fun k hk => hor k (Nat.le_trans HB4s.out hk.2.1))))
          have HBr := Away.mk (HB35.out.grown hG.out (HB35.out.size) (fun k e => (hown7.out k e).2.1))
          clear hlt hj
          subst hje
          obtain ⟨g11, c11, rfl, hg11, _⟩ := Kd.R_form R11.out (by have := enc_ne t.size; have : 0 < (enc t.size).length := List.length_pos_iff.2 this; simp only [List.length_append]; omega)
          obtain ⟨_, hc11, hC11⟩ := Kd.R_reads' R11.out
          have hY := T.part g11 c11 l (enc t.size ++ bytesOf t) wr (by rw [← List.append_assoc]; exact hC11) (by rw [← List.append_assoc]; exact hc11) (by have := enc_ne t.size; have : 0 < (enc t.size).length := List.length_pos_iff.2 this; simp only [List.length_append]; omega)
          rw [← List.append_assoc] at hY
          obtain ⟨ny, hny⟩ : ∃ ny, ny = (l ++ enc t.size ++ bytesOf t).length := ⟨_, rfl⟩
          rw [← hny] at hY ⊢
          have hnyl : ny - l.length ≤ 5000 := by rw [hny]; have := enc_len9 (show t.size ≤ 4611686018427387904 by have := HT.out; omega); have := HT.out; simp only [List.length_append, bytesOf_length]; omega
          obtain ⟨y1, y2, y3, y4, hY5⟩ := hY
          have HY5 := Away.mk hY5
          have hRT := rdT_enc t (by have := HT.out; omega) []
          rw [List.append_nil] at hRT
          have hTX := Away.mk (show ∀ W, Below wr.heap.size wr W → Calls Try.prog 19 #[.slice (some ⟨g11, l.length, none⟩) (ny - l.length) (c11 - l.length)] W fun e w' => e = .returned (.tuple #[.string t, .int .i64 (((enc t.size).length + t.size : Nat) : Int), .int .i64 0]) ∧ Below W.heap.size W w' from fun W hW => by
            have := T.ReadText (some ⟨g11, l.length, none⟩) (ny - l.length) (c11 - l.length) (enc t.size ++ bytesOf t) W hY5.1 (Kd.C_below hY5 hW) (by omega) ((enc_byts _).append (bytesOf_byts _)) (by omega)
            rw [hRT] at this
            exact this)
          have hS : (strOfNums l).size = l.length := strOfNums_size l
          generalize hSl : strOfNums l = S at *
          have HSl := Away.mk hSl
          clear hSl
          clear hY5 hRT hC11 hc11 hny hg11
          by_cases hr : n < 0 ∨ 4611686018427387904 < n
          · have hn : numS l n = ([], 2) := by unfold numS; rw [if_pos hr]
            rw [hn] at R9 ⊢
            obtain ⟨A9, c9, rfl, hc9, hC9⟩ := Kd.R_reads R9.out
            clear hr hn
            go_wp2_with fail
            refine (T.ReadNum _ 0 _ [] wr rfl ⟨rfl, by simp, fun h => absurd h (Nat.lt_irrefl 0)⟩ (Nat.zero_le _) Byts.nil (by omega)).mono ?_
            rw [show rdN [] 0 0 = (0, 0, 4) from rfl]
            dsimp only
            rintro e wa ⟨rfl, hba⟩
            have HBa := Away.mk hba
            clear hba
            go_wp2_with fail
            refine (hTX.out wa HBa.out).mono ?_
            rintro e wb ⟨rfl, hbb⟩
            have HBb := Away.mk (HBr.out.trans ((HBa.out.trans (hbb.mono HBa.out.size)).mono HBr.out.size))
            clear hbb
            go_wp2_with (go_at_call 16; refine (T.works _).mono ?_; rintro e wc ⟨rfl, hbc⟩; have HBc := Away.mk (HBb.out.trans (hbc.mono HBb.out.size)); clear hbc)
            go_ret
            exact ⟨rfl, HBc.out⟩
          · have hn : numS l n = (l ++ enc n.toNat, 0) := by unfold numS; rw [if_neg hr]
            obtain ⟨m, rfl⟩ : ∃ m : Nat, n = (m : Int) := ⟨n.toNat, by omega⟩
            rw [Int.toNat_natCast] at hn
            rw [hn] at R9 ⊢
            have hmm : m ≤ 4611686018427387904 := by omega
            have hep : 0 < (enc m).length := List.length_pos_iff.2 (enc_ne m)
            have he9 := enc_len9 hmm
            obtain ⟨g9, c9, rfl, hg9, _⟩ := Kd.R_form R9.out (by simp only [List.length_append]; omega)
            obtain ⟨_, hc9, hC9⟩ := Kd.R_reads' R9.out
            have hX := T.part g9 c9 l (enc m) wr hC9 hc9 hep
            obtain ⟨nx, hnx⟩ : ∃ nx, nx = (l ++ enc m).length := ⟨_, rfl⟩
            rw [← hnx] at hX ⊢
            have hnx9 : nx - l.length ≤ 9 := by rw [hnx, List.length_append]; omega
            obtain ⟨x1, x2, x3, x4, hX5⟩ := hX
            rw [HSl.out] at x1
            have HX5 := Away.mk hX5
            have hRN := rd_enc0 hmm []
            rw [List.append_nil] at hRN
            have hNX := Away.mk (T.ReadNum (some ⟨g9, l.length, none⟩) (nx - l.length) (c9 - l.length) (enc m) wr hX5.1 hX5 (by omega) (enc_byts _) (by omega))
            rw [hRN] at hNX
            have hlx : ¬ nx ≤ l.length := by omega
            have HM := Away.mk hmm
            clear hX5 hRN hC9 hc9 hnx hg9 hep he9 hr hn hmm
            go_wp2_with fail
            refine hNX.out.mono ?_
            rintro e wa ⟨rfl, hba⟩
            have HBa := Away.mk hba
            clear hba
            go_wp2_with fail
            refine (hTX.out wa HBa.out).mono ?_
            rintro e wb ⟨rfl, hbb⟩
            have HBb := Away.mk (HBr.out.trans ((HBa.out.trans (hbb.mono HBa.out.size)).mono HBr.out.size))
            clear hbb
            go_wp2_with (go_at_call 16; refine (T.works _).mono ?_; rintro e wc ⟨rfl, hbc⟩; have HBc := Away.mk (HBb.out.trans (hbc.mono HBb.out.size)); clear hbc)
            go_ret
            exact ⟨rfl, HBc.out⟩
  · have hT : s.size ≤ 300 := by omega
    generalize s = t at *
    go_region_law (first | (refine step_call1 rfl 11 (.tmp 26) 22 rfl (enters_of Try.func11 (by kernel_rfl) rfl) (.slice A0 l0.length c0) rfl ?_; refine (hF.out _ (Below.drew (Below.refl _ _))).mono ?_; rintro e w1 ⟨v1, rfl, hr1, hb1⟩; obtain ⟨A1, c1, rfl, hc1, hC1⟩ := Kd.R_reads hr1; have HB1 := Away.mk (show Below w.heap.size w w1 from (Below.drew (Below.refl _ _)).trans hb1); clear hr1 hb1 hc1 hC1; refine ⟨_, rfl, ?_⟩) | (refine step_call1 rfl 11 (.tmp 31) 22 rfl (enters_of Try.func11 (by kernel_rfl) rfl) (.slice A0 l0.length c0) rfl ?_; refine (hF.out _ ?hw2).mono ?_; (case hw2 => first | exact HB1.out | exact HB1.out.alloc HB1.out.size _); rintro e w2 ⟨v2, rfl, hr2, hb2⟩; obtain ⟨A2, c2, rfl, hc2, hC2⟩ := Kd.R_reads hr2; have HB2 := Away.mk hb2; have HR2 := Away.mk hr2; have HC2 := Away.mk hC2; clear hr2 hb2 hc2 hC2; refine ⟨_, rfl, ?_⟩) | (refine step_appendB rfl (.tmp 30) (.tmp 32) rfl w.heap.size (.slice (some ⟨w1.heap.size, 0, none⟩) 0 (l.length + 64)) [] l A2 l.length c2 rfl rfl ?ho ?hr ?hb ?hl ?_; (case ho => exact Kd.R_below (made5 w1 w.heap.size HB1.out.size Z _ HZ.out (by omega)) HB2.out); (case hr => exact HC2.out); (case hb => have := HB1.out.size; have := HB2.out.size; simp at *; omega); (case hl => simp; omega); intro v7 w3 hr3 hg3 hw3; rw [List.nil_append] at hr3; have HB3 := Away.mk (show Below w.heap.size w w3 from ((HB1.out.alloc HB1.out.size (.cells Z 5)).trans (HB2.out.mono (by have := HB1.out.size; simp; omega))).grown hg3 (by have := HB1.out.size; have := HB2.out.size; simp at *; omega) (fun k e => by have := Option.some.inj e; have := HB1.out.size; have := HB2.out.size; simp at *; omega)); obtain ⟨A7, c7, rfl, hc7, hC7⟩ := Kd.R_reads hr3; have HC7 := Away.mk hC7; have HR3 := Away.mk hr3; clear hr3 hg3 hw3 hC7) | (refine step_appendB rfl (.tmp 30) (.tmp 32) rfl w.heap.size (.slice (some ⟨w2.heap.size, 0, none⟩) 0 (l.length + 64)) [] l A2 l.length c2 rfl rfl ?ho ?hr ?hb ?hl ?_; (case ho => exact made5 w2 w.heap.size (Nat.le_trans HB1.out.size HB2.out.size) Z _ HZ.out (by omega)); (case hr => exact Kd.C_alloc HC2.out _); (case hb => have := HB1.out.size; have := HB2.out.size; simp at *; omega); (case hl => simp; omega); intro v7 w3 hr3 hg3 hw3; rw [List.nil_append] at hr3; have HB3 := Away.mk (show Below w.heap.size w w3 from ((HB1.out.trans (HB2.out.mono HB1.out.size)).alloc (Nat.le_trans HB1.out.size HB2.out.size) (.cells Z 5)).grown hg3 (by have := HB1.out.size; have := HB2.out.size; simp at *; omega) (fun k e => by have := Option.some.inj e; have := HB1.out.size; have := HB2.out.size; simp at *; omega)); obtain ⟨A7, c7, rfl, hc7, hC7⟩ := Kd.R_reads hr3; have HC7 := Away.mk hC7; have HR3 := Away.mk hr3; clear hr3 hg3 hw3 hC7))
    all_goals
      clear hmk hF HB1 HB2 HC2 hfew HC HC0
      try clear HZ
      have hcs7 := Kd.C_string Try.underlying22 Try.underlying5 Try.underlying9 (c := c7) HC7.out
      have hN := Away.mk (T.Num A7 c7 l n w3 HC7.out hc7 (by omega))
      have HT := Away.mk hT
      clear hT
      go_wp2_with fail
      refine hN.out.mono ?_
      rintro e w4 ⟨v9, rfl, hr9, hb4⟩
      have HR9 := Away.mk hr9
      have HB4 := Away.mk hb4
      have hX := Away.mk (T.Text A7 c7 l t w4 (Kd.C_below HC7.out hb4) hc7 (by omega))
      have hts : textS l t = (l ++ enc t.size ++ bytesOf t, 0) := by unfold textS; rw [if_neg (by have := HT.out; omega)]
      rw [hts] at hX
      clear hr9 hb4 hN hcs7 hts
      go_wp2_with fail
      refine hX.out.mono ?_
      rintro e w5 ⟨v11, rfl, hr11, hb5⟩
      have HR11 := Away.mk hr11
      have HB5 := Away.mk hb5
      clear hr11 hb5 hX
      have HRW := Away.mk (Kd.R_below HR3.out (HB4.out.trans (HB5.out.mono HB4.out.size)))
      have HB35 := Away.mk (HB3.out.trans ((HB4.out.trans (HB5.out.mono HB4.out.size)).mono HB3.out.size))
      have hc7m : c7 ≤ 9223372036854775807 := by
        rcases (Kd.own_of_R HRW.out).2 with ⟨h1, _⟩ | ⟨g, cap, cur, h1, _, _, _, hm, _⟩
        · obtain ⟨_, _, rfl⟩ : A7 = none ∧ l.length = 0 ∧ c7 = 0 := by simpa using h1
          omega
        · cases h1; exact hm
      have HB3s := Away.mk HB3.out.size
      have HR9b := Away.mk (Kd.R_bound (Kd.R_below HR9.out HB5.out))
      have HR11b := Away.mk (Kd.R_bound HR11.out)
      have HB4s := Away.mk HB4.out.size
      have hown7 := Away.mk (Kd.R_bound HR3.out).1
      clear HC7 HR3 HB3 HB4 HB5 HR9 HR11
      go_wp2_with fail
      go_loopg [14, 54] c7 (fun kq _ v54 wr => ∃ j : Nat, j + kq = c7 ∧ v54 = .int .i64 (j : Int) ∧ Away (w5.grownBy wr (Value.slice A7 l.length c7).ownBlock) ∧ Away (∀ g, (Value.slice A7 l.length c7).ownBlock = some g → ∃ cur : Array Value, wr.heap[g]? = some (.cells cur 5 (0, 0)) ∧ c7 ≤ cur.size))
      case atStart =>
        refine ⟨0, by omega, rfl, ⟨⟨rfl, rfl, rfl, Nat.le_refl _, fun _ _ _ => rfl⟩⟩, ⟨fun g hg => ?_⟩⟩
        rcases (Kd.own_of_R HRW.out).2 with ⟨h1, _⟩ | ⟨g', cap, cur, h1, _, hh, _, hm, hsz, _⟩
        · rw [h1] at hg; cases hg
        · rw [h1] at hg
          cases hg
          cases h1
          exact ⟨cur, hh, by omega⟩
      case round =>
        obtain ⟨j, hj, rfl, hG, hcur⟩ := hrel
        have HJ := Away.mk hj
        by_cases hlt : j < c7
        · rcases (Kd.own_of_R HRW.out).2 with ⟨h1, _⟩ | ⟨g, cap, cur0, h1, _⟩
          · obtain ⟨_, _, rfl⟩ : A7 = none ∧ l.length = 0 ∧ c7 = 0 := by simpa using h1
            omega
          · cases h1
            obtain ⟨cur, hh, hsz⟩ := hcur.out g rfl
            obtain ⟨ce, hce⟩ : ∃ ce, cur[j]? = some ce := ⟨_, Array.getElem?_eq_getElem (by omega)⟩
            have hcj : wr.cell? ⟨g, j, none⟩ = some ce := by rw [cell_of_row _ _ _ _ _ _ hh]; exact hce
            have hfj := frozen_of_row wr g j _ _ hh
            have HH := Away.mk hh
            have HLT := Away.mk hlt
            have HSZ := Away.mk hsz
            clear hj hh hsz hce
            go_wp2
            go_roundg (gk - 1)
            case measure => have := HJ.out; have := HLT.out; omega
            case rel =>
              refine ⟨j + 1, by have := HJ.out; have := HLT.out; omega, by go_num, ⟨⟨hG.out.os, hG.out.tape, hG.out.output, by simpa [World.setCell] using hG.out.size, fun k hk hne => ?_⟩⟩, ⟨fun g' hg' => ?_⟩⟩
              · rw [Below.heap_setCell _ ⟨g, j, none⟩ _ _ (fun e => hne (congrArg some e))]
                exact hG.out.block k hk hne
              · cases hg'
                exact ⟨_, heap_setCell_same wr g j _ _ _ HH.out, by have := HSZ.out; simpa using this⟩
        · have hje : j = c7 := by omega
          have hor : ∀ k, w3.heap.size ≤ k → some k ≠ (Value.slice A7 l.length c7).ownBlock := fun k hk e => by
            have := (hown7.out k e.symm).2.2.1
            omega
          have R9 := Away.mk (Kd.R_drop (Kd.R_grown HR9b.out hG.out (fun k hk => hor k hk.2.1)))
          have R11 := Away.mk (Kd.R_drop (Kd.R_grown HR11b.out hG.out (fun k hk => hor k (Nat.le_trans HB4s.out hk.2.1))))
          have HBr := Away.mk (HB35.out.grown hG.out (HB35.out.size) (fun k e => (hown7.out k e).2.1))
          clear hlt hj
          subst hje
          obtain ⟨g11, c11, rfl, hg11, _⟩ := Kd.R_form R11.out (by have := enc_ne t.size; have : 0 < (enc t.size).length := List.length_pos_iff.2 this; simp only [List.length_append]; omega)
          obtain ⟨_, hc11, hC11⟩ := Kd.R_reads' R11.out
          have hY := T.part g11 c11 l (enc t.size ++ bytesOf t) wr (by rw [← List.append_assoc]; exact hC11) (by rw [← List.append_assoc]; exact hc11) (by have := enc_ne t.size; have : 0 < (enc t.size).length := List.length_pos_iff.2 this; simp only [List.length_append]; omega)
          rw [← List.append_assoc] at hY
          obtain ⟨ny, hny⟩ : ∃ ny, ny = (l ++ enc t.size ++ bytesOf t).length := ⟨_, rfl⟩
          rw [← hny] at hY ⊢
          have hnyl : ny - l.length ≤ 5000 := by rw [hny]; have := enc_len9 (show t.size ≤ 4611686018427387904 by have := HT.out; omega); have := HT.out; simp only [List.length_append, bytesOf_length]; omega
          obtain ⟨y1, y2, y3, y4, hY5⟩ := hY
          have HY5 := Away.mk hY5
          have hRT := rdT_enc t (by have := HT.out; omega) []
          rw [List.append_nil] at hRT
          have hTX := Away.mk (show ∀ W, Below wr.heap.size wr W → Calls Try.prog 19 #[.slice (some ⟨g11, l.length, none⟩) (ny - l.length) (c11 - l.length)] W fun e w' => e = .returned (.tuple #[.string t, .int .i64 (((enc t.size).length + t.size : Nat) : Int), .int .i64 0]) ∧ Below W.heap.size W w' from fun W hW => by
            have := T.ReadText (some ⟨g11, l.length, none⟩) (ny - l.length) (c11 - l.length) (enc t.size ++ bytesOf t) W hY5.1 (Kd.C_below hY5 hW) (by omega) ((enc_byts _).append (bytesOf_byts _)) (by omega)
            rw [hRT] at this
            exact this)
          have hS : (strOfNums l).size = l.length := strOfNums_size l
          generalize hSl : strOfNums l = S at *
          have HSl := Away.mk hSl
          clear hSl
          clear hY5 hRT hC11 hc11 hny hg11
          by_cases hr : n < 0 ∨ 4611686018427387904 < n
          · have hn : numS l n = ([], 2) := by unfold numS; rw [if_pos hr]
            rw [hn] at R9 ⊢
            obtain ⟨A9, c9, rfl, hc9, hC9⟩ := Kd.R_reads R9.out
            clear hr hn
            go_wp2_with fail
            refine (T.ReadNum _ 0 _ [] wr rfl ⟨rfl, by simp, fun h => absurd h (Nat.lt_irrefl 0)⟩ (Nat.zero_le _) Byts.nil (by omega)).mono ?_
            rw [show rdN [] 0 0 = (0, 0, 4) from rfl]
            dsimp only
            rintro e wa ⟨rfl, hba⟩
            have HBa := Away.mk hba
            clear hba
            go_wp2_with fail
            refine (hTX.out wa HBa.out).mono ?_
            rintro e wb ⟨rfl, hbb⟩
            have HBb := Away.mk (HBr.out.trans ((HBa.out.trans (hbb.mono HBa.out.size)).mono HBr.out.size))
            clear hbb
            go_wp2_with (go_at_call 16; refine (T.works _).mono ?_; rintro e wc ⟨rfl, hbc⟩; have HBc := Away.mk (HBb.out.trans (hbc.mono HBb.out.size)); clear hbc)
            go_ret
            exact ⟨rfl, HBc.out⟩
          · have hn : numS l n = (l ++ enc n.toNat, 0) := by unfold numS; rw [if_neg hr]
            obtain ⟨m, rfl⟩ : ∃ m : Nat, n = (m : Int) := ⟨n.toNat, by omega⟩
            rw [Int.toNat_natCast] at hn
            rw [hn] at R9 ⊢
            have hmm : m ≤ 4611686018427387904 := by omega
            have hep : 0 < (enc m).length := List.length_pos_iff.2 (enc_ne m)
            have he9 := enc_len9 hmm
            obtain ⟨g9, c9, rfl, hg9, _⟩ := Kd.R_form R9.out (by simp only [List.length_append]; omega)
            obtain ⟨_, hc9, hC9⟩ := Kd.R_reads' R9.out
            have hX := T.part g9 c9 l (enc m) wr hC9 hc9 hep
            obtain ⟨nx, hnx⟩ : ∃ nx, nx = (l ++ enc m).length := ⟨_, rfl⟩
            rw [← hnx] at hX ⊢
            have hnx9 : nx - l.length ≤ 9 := by rw [hnx, List.length_append]; omega
            obtain ⟨x1, x2, x3, x4, hX5⟩ := hX
            rw [HSl.out] at x1
            have HX5 := Away.mk hX5
            have hRN := rd_enc0 hmm []
            rw [List.append_nil] at hRN
            have hNX := Away.mk (T.ReadNum (some ⟨g9, l.length, none⟩) (nx - l.length) (c9 - l.length) (enc m) wr hX5.1 hX5 (by omega) (enc_byts _) (by omega))
            rw [hRN] at hNX
            have hlx : ¬ nx ≤ l.length := by omega
            have HM := Away.mk hmm
            clear hX5 hRN hC9 hc9 hnx hg9 hep he9 hr hn hmm
            go_wp2_with fail
            refine hNX.out.mono ?_
            rintro e wa ⟨rfl, hba⟩
            have HBa := Away.mk hba
            clear hba
            go_wp2_with fail
            refine (hTX.out wa HBa.out).mono ?_
            rintro e wb ⟨rfl, hbb⟩
            have HBb := Away.mk (HBr.out.trans ((HBa.out.trans (hbb.mono HBa.out.size)).mono HBr.out.size))
            clear hbb
            go_wp2_with (go_at_call 16; refine (T.works _).mono ?_; rintro e wc ⟨rfl, hbc⟩; have HBc := Away.mk (HBb.out.trans (hbc.mono HBb.out.size)); clear hbc)
            go_ret
            exact ⟨rfl, HBc.out⟩
end Go.Proofs.Ytjjpglkmkemkeaa.Oct

/- The statement OctetCarries: the call returns true and turns nothing that was there. Conditions: where the lists lie; lengths below the machine's. -/
import Derived.Test.YtjjpglkmkemkeaaOctP
import Derived.WalkKit
import Derived.Below
import Derived.Deep.RegionLaw
import Derived.Deep.QuietTactic
import Derived.BigQuiet
import Derived.Laws.MakeOwn
namespace Go.Proofs.Ytjjpglkmkemkeaa.OctC
open Go.RowKit Go.Proofs.Ytjjpglkmkemkeaa.PA Go.Proofs.Ytjjpglkmkemkeaa.Oct Go.Proofs.YtjjpglkmkemkeaaW.PrintWords Go.Proofs.YtjjpglkmkemkeaaW.PrintLast Go.Proofs.YtjjpglkmkemkeaaW.PrintMore
/-- Kept away from the walk. -/
structure Away (p : Prop) : Prop where
  out : p
theorem infoB : (Try.prog.info? 5).map (fun i => (i.zero, i.size, i.bytes)) = some (some (.int .u8 0), 1, 1) := by kernel_rfl
theorem infoS : (Try.prog.info? 9).map (fun i => (i.zero, i.size, i.bytes)) = some (some (.string ⟨#[]⟩), 1, 16) := by kernel_rfl
theorem wpList_appendB {w : World} {ops : Array Oper} {rest : List Oper} {o : Oper} {a : Act} {Q : Exit → Act → World → Prop} (hgd : o.guard = none) (s x : Operand)
    (ho : o.op = .call { callee := .builtin .append, args := #[s, x], argTypes := #[22, 22] }) (base : Nat) (v : Value) (l xs : List Int) (A : Option Addr) (m c : Nat) (hs : a.eval s = v) (hx : a.eval x = .slice A m c) (hm : xs.length = m)
    (HO : Kd.R (Kd.int .u8) 5 w base (fun _ => True) v l) (HR : Kd.C (Kd.int .u8) w A m xs) (hbase : base ≤ w.heap.size) (hl : l.length + m ≤ 1000000)
    (h : ∀ v1 w1, Kd.R (Kd.int .u8) 5 w1 base (fun _ => True) v1 (l ++ xs) → w.grownBy w1 v.ownBlock → wpList Try.prog ops Q rest (a.put o.dst v1) w1) : wpList Try.prog ops Q (o :: rest) a w := by
  subst hm
  exact Kd.R_append_rows (Kd.int .u8) (Rr := (Kd.int .u8).K w) (w0 := w) base hgd s x 22 5 (.int .u8 0) 1 ho Try.underlying22 infoB rfl (by decide) (by decide) v l xs A xs.length c (fun _ => True) (fun _ => False) hs hx HO HR (fun _ _ h => h) (fun _ h => h.elim) (fun _ _ => trivial) (Below.refl _ _) hbase (by omega) (fun v1 w1 h1 _ h3 _ => h v1 w1 h1 h3)
theorem step_appendS {ops : Array Oper} {o : Oper} {a : Act} {w : World} {Kc : Act → World → Prop} {Q : Exit → Act → World → Prop} (hgd : Region.wanted o (yielded ops a.tmps) = true) (s x : Operand)
    (ho : o.op = .call { callee := .builtin .append, args := #[s, x], argTypes := #[45, 45] }) (base : Nat) (v : Value) (l xs : List ByteArray) (A : Option Addr) (m c : Nat) (hs : a.eval s = v) (hx : a.eval x = .slice A m c)
    (HO : Kd.R Kd.string 9 w base (fun _ => True) v l) (HR : Kd.C Kd.string w A m xs) (hbase : base ≤ w.heap.size) (hl : l.length + m ≤ 1000000)
    (h : ∀ v1 w1, Kd.R Kd.string 9 w1 base (fun _ => True) v1 (l ++ xs) → w.grownBy w1 v.ownBlock → Kc (a.put o.dst v1) w1) :
    if Region.wanted o (yielded ops a.tmps) = true then Oper.wp Try.prog o a w Kc Q else Kc (a.put o.dst undef) w := by
  have hm := HR.1
  subst hm
  exact Kd.R_append_rows_step Kd.string (Rr := Kd.string.K w) (w0 := w) base hgd s x 45 9 (.string ⟨#[]⟩) 16 ho Try.underlying45 infoS rfl (by decide) (by decide) v l xs A xs.length c (fun _ => True) (fun _ => False) hs hx HO HR (fun _ _ h => h) (fun _ h => h.elim) (fun _ _ => trivial) (Below.refl _ _) hbase (by omega) (fun v1 w1 h1 _ h3 _ => h v1 w1 h1 h3)
theorem one_S (w : World) (x : ByteArray) : Kd.C Kd.string (w.alloc (.cells #[.string x] 9)) (some ⟨w.heap.size, 0, none⟩) 1 [x] :=
  ⟨rfl, by omega, fun _ => ⟨_, rfl, fun j p hj => by
    match j, hj with
    | 0, hj =>
      simp at hj; subst hj
      exact ⟨[.string x], rfl, rfl, fun i u hu => by
        match i, hu with
        | 0, hu => simp at hu; subst hu; show (w.alloc (.cells #[.string x] 9)).cell? ⟨w.heap.size, 0, none⟩ = _; rw [cell_of_row _ _ _ _ _ _ (heap_alloc_new w _)]; rfl⟩⟩⟩
theorem src_S {W : World} {A : Option Addr} {l : List ByteArray} (h : Kd.C Kd.string W A l.length l) (i : Nat) (x : ByteArray) (hx : l[i]? = some x) : ∃ a, A = some a ∧ W.cell? (a.add i) = some (.string x) := by
  obtain ⟨_, _, h3⟩ := h
  obtain ⟨a, rfl, h4⟩ := h3 (by have := (List.getElem?_eq_some_iff.1 hx).1; omega)
  obtain ⟨c, hcl, hK, hcell⟩ := h4 i x hx
  refine ⟨a, rfl, ?_⟩
  have e : c = [.string x] := hK
  subst e
  have := hcell 0 _ rfl
  rwa [show Kd.string.sz = 1 from rfl, Nat.mul_one, Nat.add_zero] at this
theorem T.Texts (A0 : Option Addr) (c0 : Nat) (l0 : List Int) (A1 : Option Addr) (c1 : Nat) (l1 : List ByteArray) (w : World) (hr0 : Kd.C (Kd.int .u8) w A0 l0.length l0) (hc0 : l0.length ≤ c0) (hr1 : Kd.C Kd.string w A1 l1.length l1) (hc1 : l1.length ≤ c1)
    (h0 : l0.length ≤ 6000) (h1 : l1.length ≤ 1024) (h2 : ∀ s ∈ l1, s.size ≤ 200) :
    Calls Try.prog 23 #[.slice A0 l0.length c0, .slice A1 l1.length c1] w fun e w' => ∃ v, e = .returned (.tuple #[v, .int .i64 0]) ∧ Kd.R (Kd.int .u8) 5 w' w.heap.size (fun _ => True) v (l0 ++ (enc l1.length ++ wTs l1)) ∧ Below w.heap.size w w' := by
  obtain ⟨k, hk⟩ := (Texts_ev l0 l1 (by omega)).rounds
  rw [list_T l1 l0 h1 h2] at hk
  exact octet_Texts.calls k A0 c0 l0 A1 c1 l1 _ _ w hr0 hc0 hr1 hc1 hk
theorem T.ReadTexts (A : Option Addr) (m c : Nat) (l : List Int) (w : World) (ms : List ByteArray) (k e : Int) (hm : l.length = m) (hC : Kd.C (Kd.int .u8) w A m l) (hc : m ≤ c) (hb : Byts l) (hl : m ≤ 1000000) (he : rdL rdT l = (ms, k, e)) :
    Calls Try.prog 27 #[.slice A m c] w fun ee w' => ∃ v, ee = .returned (.tuple #[v, .int .i64 k, .int .i64 e]) ∧ Kd.R Kd.string 9 w' w.heap.size (fun _ => True) v ms ∧ Below w.heap.size w w' := by
  subst hm
  obtain ⟨q, hq⟩ := (ReadTexts_ev l hb (by omega)).rounds
  rw [he] at hq
  exact octet_ReadTexts.calls q A c l _ _ _ w hC hc hq
theorem T.SameTexts (A0 : Option Addr) (c0 : Nat) (A1 : Option Addr) (c1 : Nat) (l : List ByteArray) (w : World) (hr0 : Kd.C Kd.string w A0 l.length l) (hc0 : l.length ≤ c0) (hr1 : Kd.C Kd.string w A1 l.length l) (hc1 : l.length ≤ c1) (hl : l.length ≤ 1024) :
    Calls Try.prog 30 #[.slice A0 l.length c0, .slice A1 l.length c1] w fun e w' => e = .returned (.bool true) ∧ Below w.heap.size w w' := by
  obtain ⟨k, hk⟩ := (sameTexts_ev l (by omega)).rounds
  exact (racewayref01_SameTexts.calls k A0 c0 l A1 c1 l _ w hr0 hc0 hr1 hc1 hk).mono fun e w' ⟨he, hd⟩ => ⟨he, hd.below⟩
theorem T.works (w : World) : Calls Try.prog 16 #[] w fun e w' => e = .returned (.bool true) ∧ Below w.heap.size w w' := by
  obtain ⟨k, hk⟩ := works_ev.rounds
  exact racewaylaw01_works.calls k _ w hk
theorem T.part (g c : Nat) (a b : List Int) (w : World) (h : Kd.C (Kd.int .u8) w (some ⟨g, 0, none⟩) (a ++ b).length (a ++ b)) (hc : (a ++ b).length ≤ c) (hb : 0 < b.length) :
    Kd.C (Kd.int .u8) w (some ⟨g, 0, none⟩) a.length a ∧ Kd.C (Kd.int .u8) w (some ⟨g, a.length, none⟩) b.length b := by
  have hl : (a ++ b).length = a.length + b.length := List.length_append
  have h1 := Kd.C_take (m := a.length) h (by omega)
  have h2 := Kd.C_drop (m := a.length) h (by omega) hc
  rw [List.take_left] at h1
  rw [List.drop_left, if_neg (by omega)] at h2
  refine ⟨h1, ?_⟩
  have e : (Option.map (fun x : Addr => x.add (a.length * (Kd.int .u8).sz)) (some ⟨g, 0, none⟩)) = some ⟨g, a.length, none⟩ := by
    show some ((⟨g, 0, none⟩ : Addr).add (a.length * 1)) = _
    rw [Nat.mul_one, Addr.add_mid, Nat.zero_add]
  rw [e] at h2
  exact h2
def cutS (s : ByteArray) : ByteArray := if 200 < s.size then s.extract 0 200 else s
theorem cutS_size (s : ByteArray) : (cutS s).size ≤ 200 := by
  unfold cutS
  split
  · simp; omega
  · omega
set_option maxHeartbeats 8000000 in
set_option maxRecDepth 100000 in
theorem walk_carries (w : World) (A0 : Option Addr) (c0 : Nat) (l0 : List ByteArray) (hC0 : Kd.C Kd.string w A0 l0.length l0) (_hc0 : l0.length ≤ c0) (hm0 : l0.length ≤ maxLen ∧ ∀ x ∈ l0, x.size ≤ maxLen)
    (A1 : Option Addr) (c1 : Nat) (l1 : List Int) (hC1 : Kd.C (Kd.int .u8) w A1 l1.length l1) (hc1 : l1.length ≤ c1) (hm1 : l1.length ≤ maxLen ∧ ∀ x ∈ l1, (Lit.int .u8 x).wf = true)
    (cut : Int) (_hcut : (Lit.int .i64 cut).wf = true) :
    Calls Try.prog 9 #[.slice A0 l0.length c0, .slice A1 l1.length c1, .int .i64 cut] w fun e w' => e = .returned (.bool true) ∧ Below w.heap.size w w' := by
  obtain ⟨ah, hah⟩ : ∃ ah, ah = l1.take 6000 := ⟨_, rfl⟩
  have hal : ah.length ≤ 6000 := by rw [hah, List.length_take]; omega
  have hab := Away.mk (show Byts ah from by rw [hah]; exact (Byts.of_wf hm1.2).take _)
  have hF := Away.mk (racewaylaw01_few.calls A1 c1 l1 ah w hC1 hc1 (by rw [hah]; exact few_some' l1 hm1.1))
  have HC0 := Away.mk hC0
  have hlm : l0.length ≤ 9223372036854775807 := hm0.1
  have hxs := Away.mk hm0.2
  obtain ⟨N, hN⟩ : ∃ N, N = min l0.length 30 := ⟨_, rfl⟩
  have HN := Away.mk hN
  clear hC0 hm0 hC1 hc1 hm1 hah hN
  go_enter Try.func9, Try.ntmps9
  go_wp2_with fail
  refine hF.out.mono ?_
  rintro e w1 ⟨v1, rfl, hr1, hb1⟩
  obtain ⟨Aa, ca, rfl, hca, hCa⟩ := Kd.R_reads hr1
  have HB1 := Away.mk hb1
  have HCa := Away.mk hCa
  have HS := Away.mk (Kd.C_below HC0.out hb1)
  clear hr1 hb1 hCa hF
  go_wp2_with fail
  go_loopg [7, 8] N (fun kq v7 v8 wr => ∃ i : Nat, (i ≤ N ∧ N ≤ i + kq) ∧ v8 = .int .i64 (i : Int) ∧ Away (Kd.R Kd.string 9 wr w1.heap.size (fun _ => True) v7 ((l0.take i).map cutS)) ∧ Away (Below w1.heap.size w1 wr))
  case atStart => exact ⟨0, by omega, rfl, ⟨Kd.R_nil _ _ _ _ _⟩, ⟨Below.refl _ _⟩⟩
  case round =>
    obtain ⟨i, hi, rfl, hR, hB⟩ := hrel
    have HI := Away.mk hi
    by_cases hlt : i < N
    · have hil : i < l0.length := by have := HN.out; omega
      have hi30 : i < 30 := by have := HN.out; omega
      obtain ⟨x, hx⟩ : ∃ x, l0[i]? = some x := ⟨_, List.getElem?_eq_getElem hil⟩
      obtain ⟨a, rfl, hcx⟩ := src_S (Kd.C_below HS.out hB.out) i x hx
      have hstep := Away.mk (show (l0.take (i + 1)).map cutS = (l0.take i).map cutS ++ [cutS x] from by rw [List.take_add_one, hx, List.map_append]; rfl)
      have hxm : x.size ≤ 9223372036854775807 := hxs.out x (List.mem_of_getElem? hx)
      have HR := Away.mk (Kd.R_drew hR.out)
      have hbx := Away.mk (Below.drew hB.out)
      have hll := Away.mk (show ((l0.take i).map cutS).length ≤ 30 from by rw [List.length_map, List.length_take]; omega)
      have hlt' := Away.mk hlt
      clear hx hi hlt hR
      by_cases h200 : 200 < x.size
      · have hcs : cutS x = x.extract 0 200 := by unfold cutS; rw [if_pos h200]
        have hmin : (if (200 : Int) < (x.size : Int) then (200 : Int) else x.size) = 200 := if_pos (by omega)
        have hmn2 : (200 : Int) ≤ (x.size : Int) := by omega
        rw [hcs] at hstep
        clear hcs
        go_wp2_with fail
        go_region_law (refine step_appendS rfl (.tmp 31) (.tmp 43) rfl w1.heap.size u7 ((l0.take i).map cutS) [x.extract 0 200] (some ⟨wr.heap.size, 0, none⟩) 1 1 rfl rfl ?ho ?hr ?hb ?hl ?_; (case ho => exact Kd.R_alloc HR.out _); (case hr => exact one_S wr.drew _); (case hb => have := hbx.out.size; simp at this ⊢; omega); (case hl => have := hll.out; simp at this ⊢; omega); intro v2 w2 hr2 hg2; have HR2 := Away.mk hr2; have HB2 := Away.mk ((hbx.out.alloc hbx.out.size (.cells #[.string (x.extract 0 200)] 9)).grown hg2 (by have := hbx.out.size; simp at this ⊢; omega) (fun k e => Kd.R_base HR.out k e)); clear hr2 hg2)
        all_goals
          go_wp2
          go_roundg (gk - 1)
          case measure => have := HI.out; have := hlt'.out; omega
          case rel => exact ⟨i + 1, by have := HI.out; have := hlt'.out; omega, by go_num, ⟨by rw [hstep.out]; exact HR2.out⟩, HB2⟩
      · have hcs : cutS x = x := by unfold cutS; rw [if_neg h200]
        have hmin : (if (200 : Int) < (x.size : Int) then (200 : Int) else x.size) = x.size := if_neg (by omega)
        rw [hcs] at hstep
        clear hcs
        go_wp2_with fail
        go_region_law (refine step_appendS rfl (.tmp 31) (.tmp 43) rfl w1.heap.size u7 ((l0.take i).map cutS) [x] (some ⟨wr.heap.size, 0, none⟩) 1 1 rfl rfl ?ho ?hr ?hb ?hl ?_; (case ho => exact Kd.R_alloc HR.out _); (case hr => exact one_S wr.drew _); (case hb => have := hbx.out.size; simp at this ⊢; omega); (case hl => have := hll.out; simp at this ⊢; omega); intro v2 w2 hr2 hg2; have HR2 := Away.mk hr2; have HB2 := Away.mk ((hbx.out.alloc hbx.out.size (.cells #[.string x] 9)).grown hg2 (by have := hbx.out.size; simp at this ⊢; omega) (fun k e => Kd.R_base HR.out k e)); clear hr2 hg2)
        all_goals
          go_wp2
          go_roundg (gk - 1)
          case measure => have := HI.out; have := hlt'.out; omega
          case rel => exact ⟨i + 1, by have := HI.out; have := hlt'.out; omega, by go_num, ⟨by rw [hstep.out]; exact HR2.out⟩, HB2⟩
    · have hNe : i = N := by omega
      have hcase : (i < l0.length ∧ 30 ≤ i) ∨ l0.length ≤ i := by have := HN.out; omega
      obtain ⟨ms, hms⟩ : ∃ ms, ms = (l0.take i).map cutS := ⟨_, rfl⟩
      rw [← hms] at hR
      have hml : ms.length ≤ 30 := by rw [hms, List.length_map, List.length_take]; have := HN.out; omega
      have hmz := Away.mk (show ∀ s ∈ ms, s.size ≤ 200 from fun s hs => by rw [hms] at hs; obtain ⟨y, _, rfl⟩ := List.mem_map.1 hs; exact cutS_size y)
      obtain ⟨Am, cm, rfl, hcm, hCm⟩ := Kd.R_reads hR.out
      have HCm := Away.mk hCm
      obtain ⟨W, hW⟩ : ∃ W, W = enc ms.length ++ wTs ms := ⟨_, rfl⟩
      have hTx := Away.mk (T.Texts Aa ca ah Am cm ms wr (Kd.C_below HCa.out hB.out) hca hCm hcm hal (by omega) hmz.out)
      rw [← hW] at hTx
      have hWb := Away.mk (show Byts W from by rw [hW]; exact (enc_byts _).append (wTs_byts _))
      have hWl := Away.mk (show 0 < W.length ∧ W.length ≤ 100000 from by
        have h1 := enc_len_pos ms.length
        have h2 := enc_len9 (show ms.length ≤ 4611686018427387904 by omega)
        have h3 := wTs_len ms hmz.out
        rw [hW, List.length_append]
        omega)
      have hrd := Away.mk (show ∀ rest, rdL rdT (W ++ rest) = (ms, (W.length : Int), 0) from fun rest => by rw [hW]; exact rdL_T ms rest (by omega) hmz.out)
      have hrc := Away.mk (show ∀ j, j < W.length → rdL rdT (W.take j) = ([], 0, 4) from fun j hj => by rw [hW] at hj ⊢; exact rdL_cut ms j (by omega) hmz.out hj)
      clear hi hlt hNe hms hW hR hCm HC0 HS hxs
      obtain ⟨hc1, hc2⟩ | hc1 := hcase
      all_goals
        go_wp2_with fail
        refine hTx.out.mono ?_
        rintro e w3 ⟨v9, rfl, hr9, hb3⟩
        have HB3 := Away.mk (hB.out.trans (hb3.mono hB.out.size))
        have hlen : (ah ++ W).length = ah.length + W.length := List.length_append
        obtain ⟨gb, cb, rfl, _, _⟩ := Kd.R_form hr9 (by rw [hlen]; have := hWl.out; omega)
        obtain ⟨_, hcb, hCb⟩ := Kd.R_reads' hr9
        obtain ⟨hP1, hP2⟩ := T.part gb cb ah W w3 hCb hcb hWl.out.1
        rw [hlen] at hcb ⊢
        have HP2 := Away.mk hP2
        have HCa3 := Away.mk (Kd.C_below HCa.out HB3.out)
        have HCm3 := Away.mk (Kd.C_below HCm.out hb3)
        have hcv1 : ∀ n, (convert 22 9 (.slice (some ⟨gb, 0, none⟩) ah.length cb)).run Try.prog (w3.drewN n) = .ok (.string (strOfNums ah)) (w3.drewN n) := fun n => Kd.C_string Try.underlying22 Try.underlying5 Try.underlying9 (Kd.C_drewN hP1 n)
        have hcv2 : ∀ n, (convert 22 9 (.slice Aa ah.length ca)).run Try.prog (w3.drewN n) = .ok (.string (strOfNums ah)) (w3.drewN n) := fun n => Kd.C_string Try.underlying22 Try.underlying5 Try.underlying9 (Kd.C_drewN HCa3.out n)
        generalize strOfNums ah = S at *
        have hWL := hWl.out
        obtain ⟨nW, hnW⟩ : ∃ nW, W.length = nW := ⟨_, rfl⟩
        rw [hnW] at hWL hcb HP2 hrd hrc ⊢
        have HNW := Away.mk hnW
        obtain ⟨hW1, hW2⟩ := hWL
        have hcbn : ¬ cb = ah.length := by omega
        have hcba : ah.length ≤ cb := by omega
        clear hr9 hb3 hlen hCb hP1 hP2 hTx hnW
        go_wp2_with fail
        go_quiet (fail)
        have HB3n := Away.mk (pw_below_drewN HB3.out nq)
        have HP2n := Away.mk (Kd.C_drewN HP2.out nq)
        have HCan := Away.mk (Kd.C_drewN HCa3.out nq)
        have HCmn := Away.mk (Kd.C_drewN HCm3.out nq)
        clear hcv1 hcv2 HB3 HP2 HCa3 HCm3 HCa HCm hB
        generalize w3.drewN nq = w4 at *
        have hRE := Away.mk (show Kd.R (Kd.int .u8) 5 (w4.alloc (.cells #[] 5)) w4.heap.size (fun _ => True) (.slice (some ⟨w4.heap.size, 0, none⟩) 0 0) [] from Kd.R_of_own (World.ownsRow_made (e := 5) (size := 1) w4 #[] 0 (Nat.le_refl _) (by decide) rfl) (fun _ _ => trivial))
        have hBe := Away.mk (show Below w4.heap.size w4 (w4.alloc (.cells #[] 5)) from (Below.refl _ _).alloc (Nat.le_refl _) _)
        go_wp2_with (first | ((with_reducible refine wpList_appendB rfl (.tmp 71) (.tmp 72) rfl w4.heap.size (.slice (some ⟨w4.heap.size, 0, none⟩) 0 0) [] W (some ⟨gb, ah.length, none⟩) nW (cb - ah.length) rfl rfl HNW.out hRE.out ?hr ?hb ?hl ?_); (case hr => exact Kd.C_below HP2n.out hBe.out); (case hb => exact hBe.out.size); (case hl => simp; omega); intro v5 w5 hr5 hg5; rw [List.nil_append] at hr5; have HR5 := Away.mk hr5; have HB5 := Away.mk (hBe.out.grown hg5 hBe.out.size (fun k e => by simp [Value.ownBlock] at e; omega)); obtain ⟨A5, c5, rfl, hc5, _⟩ := Kd.R_reads hr5; clear hr5 hg5) | ((with_reducible refine wpList_appendB rfl (.tmp 73) (.tmp 74) rfl w4.heap.size (.slice A5 W.length c5) W ah Aa ah.length ca rfl rfl rfl HR5.out ?hr ?hb ?hl ?_); (case hr => exact Kd.C_below HCan.out HB5.out); (case hb => exact HB5.out.size); (case hl => have := HNW.out; omega); intro v6 w6 hr6 hg6; have HB6 := Away.mk (HB5.out.grown hg6 HB5.out.size (fun k e => Kd.R_base HR5.out k e)); obtain ⟨A6, c6, rfl, hc6, hC6⟩ := Kd.R_reads hr6; have HC6 := Away.mk hC6; have HC6c := Away.mk hc6; clear hr6 hg6 hc6 hC6))
        refine (T.ReadTexts A6 (W.length + ah.length) c6 (W ++ ah) w6 ms _ _ List.length_append (by rw [← List.length_append]; exact HC6.out) (by rw [← List.length_append]; exact HC6c.out) (hWb.out.append hab.out) (by have := HNW.out; omega) (hrd.out ah)).mono ?_
        rintro e w7 ⟨v12, rfl, hr12, hb7⟩
        obtain ⟨A12, c12, rfl, hc12, hC12⟩ := Kd.R_reads hr12
        have HB7 := Away.mk (HB6.out.trans (hb7.mono HB6.out.size))
        have hST := Away.mk (T.SameTexts A12 c12 Am cm ms w7 hC12 hc12 (Kd.C_below HCmn.out HB7.out) hcm (by omega))
        clear hr12 hb7 hC12 HR5 HB5 HC6 HC6c HB6 hRE hBe
        obtain ⟨t1, t2⟩ : -(nW : Int) < cut.tmod nW ∧ cut.tmod nW < nW := ⟨Int.lt_tmod_of_pos cut (by omega), Int.tmod_lt_of_pos cut (by omega)⟩
        obtain ⟨t, ht⟩ : ∃ t, cut.tmod (nW : Int) = t := ⟨_, rfl⟩
        rw [ht] at t1 t2
        have hwr : IntKind.i64.wrap (t + (nW : Int)) = t + (nW : Int) := by simp [IntKind.wrap, IntKind.bits, IntKind.signed]; omega
        obtain ⟨j, hj⟩ : ∃ j : Nat, (t + (nW : Int)).tmod (nW : Int) = (j : Int) := ⟨((t + (nW : Int)).tmod (nW : Int)).toNat, by have := Int.tmod_nonneg (nW : Int) (show 0 ≤ t + (nW : Int) by omega); omega⟩
        have hjn : j < nW := by have := Int.tmod_lt_of_pos (t + (nW : Int)) (show (0 : Int) < (nW : Int) by omega); omega
        have hn0 : ¬ ((nW : Int) = 0) := by omega
        clear t1 t2
        go_wp2_with fail
        refine hST.out.mono ?_
        rintro e w8 ⟨rfl, hb8⟩
        have HB8 := Away.mk (HB7.out.trans (hb8.mono HB7.out.size))
        have hR2 := Away.mk (T.ReadTexts (some ⟨gb, ah.length, none⟩) j (cb - ah.length) (W.take j) w8 [] 0 4 (by rw [List.length_take]; have := HNW.out; omega) (by
          have h1 : Kd.C (Kd.int .u8) w8 (some ⟨gb, ah.length, none⟩) W.length W := by rw [HNW.out]; exact Kd.C_below HP2n.out HB8.out
          have h2 := Kd.C_take (m := j) h1 (by rw [HNW.out]; omega)
          rwa [List.length_take, HNW.out, Nat.min_eq_left (by omega)] at h2) (by omega) (hWb.out.take j) (by omega) (hrc.out j hjn))
        clear hb8 HB7 hST
        go_wp2_with fail
        refine hR2.out.mono ?_
        rintro e w9 ⟨v16, rfl, hr16, hb9⟩
        obtain ⟨A16, c16, rfl, hc16, _⟩ := Kd.R_reads hr16
        have HB9 := Away.mk (HB8.out.trans (hb9.mono HB8.out.size))
        clear hr16 hb9
        go_wp2_with (go_at_call 16; refine (T.works _).mono ?_; rintro e wc ⟨rfl, hbc⟩; have HBc := Away.mk (HB9.out.trans (hbc.mono HB9.out.size)); clear hbc)
        go_ret
        exact ⟨rfl, HB1.out.trans ((HB3n.out.trans (HBc.out.mono HB3n.out.size)).mono HB1.out.size)⟩
end Go.Proofs.Ytjjpglkmkemkeaa.OctC

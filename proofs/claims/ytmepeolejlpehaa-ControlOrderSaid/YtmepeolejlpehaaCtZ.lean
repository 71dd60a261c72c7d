/- The walk of ControlOrder. Conditions: where the acts lie. -/
import Derived.Test.YtmepeolejlpehaaConfS
import Derived.Test.YtmepeolejlpehaaCtIn
import Derived.Test.YtmepeolejlpehaaCtIe
namespace Go.Proofs.Ytmepeolejlpehaa
open Go.RowKit Go.Maps Go.Proofs.YtmepeolejlpehaaW.PrintWords Go.Proofs.YtmepeolejlpehaaW.PrintLast Go.Proofs.YtmepeolejlpehaaW.PrintMore
/-- What holds between the law's numbers and the control. -/
def OInv (s : AS) (c : CS) (sl cl fl : List ByteArray) (lg ln fr tg : Int) (imp : Bool) : Prop :=
  s.id = 5 ∧ c.from' = fr ∧ c.tgo = tg ∧ 0 ≤ ln ∧ (ln = s.num ∨ ln + 1 = s.num) ∧
  ((c.stage = 0 ∧ s.busy = false ∧ ln = s.num) ∨
   (s.busy = true ∧ s.cmd.num = s.num ∧ (ln = s.num → lg = s.group) ∧
     ((c.stage = 1 ∧ s.cmd.kind = 7 ∧ s.group = fr) ∨ (c.stage = 2 ∧ s.cmd.kind = 8 ∧ s.group = tg ∧ sl = fl ∧ cl = fl) ∨ (c.stage = 3 ∧ s.cmd.kind = 10 ∧ s.group = 0 ∧ s.cmd.tgo = tg ∧ imp = true) ∨ (c.stage = 4 ∧ s.cmd.kind = 8 ∧ s.group = fr ∧ sl = fl))))
/-- The last packet's box. -/
def LBox (w : World) (LB : Nat) (lg ln : Int) : Prop := ∃ LL : List Value, w.heap[LB]? = some (.cells LL.toArray 57 (0, 0)) ∧ LL.length = 40 ∧ LL[3]? = some (.int .i64 lg) ∧ LL[14]? = some (.int .i64 ln)
/-- What stands between the acts. -/
structure OR (w w' : World) (P M Q base LB : Nat) (i : Nat) (fr tg : Int) (imp : Bool) (v7 : Value) : Prop where
  bel : Below w.heap.size w w'
  hlow : w.heap.size ≤ P ∧ w.heap.size ≤ M ∧ w.heap.size ≤ Q ∧ base ≤ LB
  st : ∃ n s c sl cl fl lg ln, CJ w' P M Q base n s c sl cl ∧ n ≤ 3 * i ∧ s.num ≤ i ∧ Kd.R Kd.string 9 w' base (fun _ => True) v7 fl ∧ fl.length ≤ 1000 ∧ LBox w' LB lg ln ∧ OInv s c sl cl fl lg ln fr tg imp
theorem low3 {w w' : World} {P M Q base n : Nat} {s : AS} {c : CS} {sl cl : List ByteArray} (h : CJ w P M Q base n s c sl cl) : ∀ k ∈ [P, M, Q], k < base := fun k hk => by
  have h1 := h.hP
  have h2 := h.hM
  have h3 := h.hQ
  have : k = P ∨ k = M ∨ k = Q := (by simpa using hk)
  omega
theorem LBox.of {w w' : World} {LB : Nat} {lg ln : Int} {S : List Nat} (h : LBox w LB lg ln) (f : FC S w w') (hS : LB ∉ S) : LBox w' LB lg ln := by
  obtain ⟨LL, h1, h2⟩ := h
  exact ⟨LL, (f.block LB (Array.getElem?_eq_some_iff.1 h1).1 hS).trans h1, h2⟩
theorem below_fc {w a b : World} {S : List Nat} (h : Below w.heap.size w a) (f : FC S a b) (hS : ∀ k ∈ S, w.heap.size ≤ k) : Below w.heap.size w b := FC.below h f hS (Nat.le_refl _)
theorem OR.of0 {w a b : World} {P M Q base LB i : Nat} {fr tg : Int} {imp : Bool} {v7 : Value} (h : OR w a P M Q base LB i fr tg imp v7) (f : FC [] a b) : OR w b P M Q base LB i fr tg imp v7 := by
  obtain ⟨h1, h2, n, s, c, sl, cl, fl, lg, ln, hJ, hn, hm, hR, hfl, hL, hI⟩ := h
  exact ⟨below_fc h1 f (by simp), h2, n, s, c, sl, cl, fl, lg, ln, hJ.of_fc0 f, hn, hm, R_fcG hR f (by simp), hfl, hL.of f (by simp), hI⟩
theorem OR.mono {w a : World} {P M Q base LB i j : Nat} {fr tg : Int} {imp : Bool} {v7 : Value} (h : OR w a P M Q base LB i fr tg imp v7) (hj : i ≤ j) : OR w a P M Q base LB j fr tg imp v7 := by
  obtain ⟨h1, h2, n, s, c, sl, cl, fl, lg, ln, hJ, hn, hm, hR⟩ := h
  exact ⟨h1, h2, n, s, c, sl, cl, fl, lg, ln, hJ, by omega, by omega, hR⟩
/-- An act, where it lies. -/
theorem act_at {W : World} {A : Option Addr} {l : List ActT} (h : Kd.C actK W A l.length l) (i : Nat) (x : ActT) (hx : l[i]? = some x) : ∃ a Ad c, A = some a ∧ (∀ j u, (actV x.1 x.2.1 x.2.2.1 x.2.2.2.1 x.2.2.2.2.1 x.2.2.2.2.2.1.1 x.2.2.2.2.2.1.2 (.slice Ad x.2.2.2.2.2.2.length c))[j]? = some u → W.cell? ((a.add (i * 8)).add j) = some u) ∧ x.2.2.2.2.2.2.length ≤ c ∧ Kd.C Kd.string W Ad x.2.2.2.2.2.2.length x.2.2.2.2.2.2 := by
  obtain ⟨_, _, h3⟩ := h
  obtain ⟨a, rfl, h4⟩ := h3 (by have := (List.getElem?_eq_some_iff.1 hx).1; omega)
  obtain ⟨cs, hcl, hK, hcell⟩ := h4 i x hx
  obtain ⟨Ad, c, rfl, hl, hC⟩ := act_cells hK
  refine ⟨a, Ad, c, rfl, fun j u hu => ?_, hl, hC⟩
  have := hcell j u (by simpa using hu)
  rw [show actK.sz = 8 from rfl, ← Addr.add_add] at this
  exact this
/-- A text of a row of one's own. -/
theorem R_text {w : World} {base : Nat} {A : Option Addr} {n c : Nat} {l : List ByteArray} (h : Kd.R Kd.string 9 w base (fun _ => True) (.slice A n c) l) (j : Nat) (x : ByteArray) (hx : l[j]? = some x) : ∃ g, A = some ⟨g, 0, none⟩ ∧ w.cell? ⟨g, j, none⟩ = some (.string x) := by
  obtain ⟨_, _, hC⟩ := Kd.R_reads' h
  have hl := (List.getElem?_eq_some_iff.1 hx).1
  obtain ⟨ad, rfl, hcl⟩ := hC.2.2 (by omega)
  obtain ⟨g, rfl⟩ := Kd.R_head h
  refine ⟨g, rfl, ?_⟩
  obtain ⟨cs, _, h2, h3⟩ := hcl j x hx
  have h2 : cs = [.string x] := h2
  subst h2
  have := h3 0 _ rfl
  rw [show j * Kd.string.sz + 0 = j from Nat.mul_one j, Addr.add_mid, Nat.zero_add] at this
  exact this
theorem if_set (cs : Array Value) (o : Nat) (v : Value) (k : Nat) (ho : o < cs.size) : (if k = o then some v else cs[k]?) = (cs.setIfInBounds o v)[k]? := by
  by_cases h : k = o
  · subst h; rw [if_pos rfl, Array.getElem?_setIfInBounds_self_of_lt ho]
  · rw [if_neg h, Array.getElem?_setIfInBounds_ne (fun e => h e.symm)]
/-- Where a row of one's own lies, as a slice. -/
theorem R_away {α : Type} {dk : Kd α} {e base n cc P : Nat} {w : World} {A : Option Addr} {l : List α} (h : dk.R e w base (fun _ => True) (.slice A n cc) l) (hE : dk.E = []) (hP : P < base) : ∀ ad, A = some ad → ad.block ≠ P ∧ ad.block < w.heap.size := fun ad ha => by
  subst ha
  obtain ⟨g, rfl⟩ := Kd.R_head h
  obtain ⟨h1, cells, h2⟩ := R_typed h hE g rfl
  exact ⟨by show g ≠ P; omega, (Array.getElem?_eq_some_iff.1 h2).1⟩
set_option maxHeartbeats 40000000 in
set_option maxRecDepth 100000 in
theorem T.walk_order (nodes : Int) (A : Option Addr) (c : Nat) (l : List ActT) (w : World) (hC : Kd.C actK w A l.length l) (hc : l.length ≤ c) :
    Calls Try.prog 4 #[.int .i64 nodes, .slice A l.length c] w fun e w' => e = .returned (.bool true) ∧ Below w.heap.size w w' := by
  have HC := Aside.mk hC
  have hlm : l.length ≤ 9223372036854775807 := hC.2.1
  obtain ⟨N, hN⟩ : ∃ N, N = min l.length 60 := ⟨_, rfl⟩
  have HN := Aside.mk hN
  clear hC hN
  obtain ⟨r5, q5, hr5, hq5, b1, b2, b3, b4⟩ := mod_name nodes 5 (by decide) (by decide)
  go_enter Try.func4, Try.ntmps4
  go_wp2_with fail
  refine (T.New 5 (1 + q5) 1 w (by decide) (by omega) (by decide)).mono ?_
  rintro e w1 ⟨rfl, hJ1, hb1⟩
  have HJ1 := Aside.mk hJ1
  have HB1 := Aside.mk hb1
  clear hJ1 hb1 hr5 hq5 b1 b2 b3 b4
  go_wp2_with fail
  have hst : OR w (w1.alloc (.cells #[.int .i64 0, .int .i64 0, .int .i64 0, .int .i64 0, .int .i64 0, .int .i64 0, .int .i64 0, .int .i64 0, .int .i64 0, .int .i64 0, .slice none 0 0, .slice none 0 0, .int .i64 0, .int .i64 0, .int .i64 0, .int .i64 0, .int .i64 0, .string ⟨#[]⟩, .string ⟨#[]⟩, .string ⟨#[]⟩, .string ⟨#[]⟩, .int .i64 0, .int .i64 0, .int .i64 0, .string ⟨#[]⟩, .int .i64 0, .int .i64 0, .int .i64 0, .int .i64 0, .int .i64 0, .slice none 0 0, .int .i64 0, .int .i64 0, .int .i64 0, .slice none 0 0, .slice none 0 0, .slice none 0 0, .int .i64 0, .slice none 0 0, .slice none 0 0] 57)) (w.heap.size + 1) w.heap.size (w.heap.size + 2) (w.heap.size + 3) w1.heap.size 0 0 0 false (.slice none 0 0) := by
    have hb := HJ1.out.hbase
    refine ⟨HB1.out.alloc (by omega) _, ⟨by omega, by omega, by omega, hb⟩, 0, _, _, _, _, [], 0, 0, HJ1.out.of_fc0 ((FC.refl _ _).alloc _), by omega, by simp [AS.new], Kd.R_nil _ _ _ _ _, by simp, ⟨_, heap_alloc_new w1 _, rfl, rfl, rfl⟩, rfl, rfl, rfl, by decide, .inl rfl, .inl ⟨rfl, rfl, rfl⟩⟩
  generalize w1.alloc _ = w2 at hst ⊢
  generalize w1.heap.size = LB at hst ⊢
  generalize w.heap.size + 1 = P at hst ⊢
  generalize w.heap.size + 2 = Q at hst ⊢
  generalize hbs : w.heap.size + 3 = base at hst ⊢
  obtain ⟨M, hM⟩ : ∃ M, M = w.heap.size := ⟨_, rfl⟩
  rw [← hM] at hst
  clear HJ1 HB1 hbs hM
  go_loopg [7, 9, 10, 11, 12, 13] N (fun k v7 v9 v10 v11 v12 v13 wr => ∃ (i : Nat) (kind : Int) (imp : Bool) (fr tg : Int), k + i = N ∧ v9 = .int .i64 kind ∧ v10 = .bool imp ∧ v11 = .int .i64 fr ∧ v12 = .int .i64 tg ∧ v13 = .int .i64 i ∧ Aside (OR w wr P M Q base LB i fr tg imp v7))
  case atStart => exact ⟨0, 0, false, 0, 0, rfl, rfl, rfl, rfl, rfl, rfl, ⟨hst⟩⟩
  case round =>
    clear hst
    obtain ⟨i, kind, imp, fr, tg, hik, rfl, rfl, rfl, rfl, rfl, hR⟩ := hrel
    have HIK := Aside.mk hik
    by_cases hlt : i < N
    · have hil : i < l.length := by have := HN.out; omega
      have hi60 : i < 60 := by have := HN.out; omega
      obtain ⟨x, hx⟩ : ∃ x, l[i]? = some x := ⟨_, List.getElem?_eq_getElem hil⟩
      obtain ⟨a, Ad, cd, rfl, hcells, hcd, hCd⟩ := act_at (Kd.C_below HC.out hR.out.bel) i x hx
      obtain ⟨kd, af, at', er, own, ⟨lo, hi⟩, dl⟩ := x
      dsimp only at hcells hcd hCd
      have hdl : dl.length ≤ 9223372036854775807 := hCd.2.1
      have g0 : wr.cell? (a.add (i * 8)) = some (.int .i64 kd) := hcells 0 _ rfl
      have g1 : wr.cell? ⟨(a.add (i * 8)).block, (a.add (i * 8)).off + 1, none⟩ = some (.int .i64 af) := hcells 1 _ rfl
      have g2 : wr.cell? ⟨(a.add (i * 8)).block, (a.add (i * 8)).off + 2, none⟩ = some (.int .i64 at') := hcells 2 _ rfl
      have g3 : wr.cell? ⟨(a.add (i * 8)).block, (a.add (i * 8)).off + 3, none⟩ = some (.int .i64 er) := hcells 3 _ rfl
      have g4 : wr.cell? ⟨(a.add (i * 8)).block, (a.add (i * 8)).off + 4, none⟩ = some (.bool own) := hcells 4 _ rfl
      have g5 : wr.cell? ⟨(a.add (i * 8)).block, (a.add (i * 8)).off + 5, none⟩ = some (.int .i64 lo) := hcells 5 _ rfl
      have g6 : wr.cell? ⟨(a.add (i * 8)).block, (a.add (i * 8)).off + 6, none⟩ = some (.int .i64 hi) := hcells 6 _ rfl
      have g7 : wr.cell? ⟨(a.add (i * 8)).block, (a.add (i * 8)).off + 7, none⟩ = some (.slice Ad dl.length cd) := hcells 7 _ rfl
      have HCd := Aside.mk (And.intro hCd hcd)
      have HLT := Aside.mk hlt
      have HI60 := Aside.mk hi60
      clear hcells hcd hCd hx hlt
      go_wp2_with (with_reducible refine halt_at (.load 3 (.tmp 49)) rfl ?_)
      refine ⟨?_⟩
      have hAB := heap_alloc_new wr (.cells (actV kd af at' er own lo hi (.slice Ad dl.length cd)) 26)
      have hfa : FC [] wr (wr.alloc (.cells (actV kd af at' er own lo hi (.slice Ad dl.length cd)) 26)) := (FC.refl _ _).alloc _
      have hRa := hR.out.of0 hfa
      have hCa := Kd.C_below HCd.out.1 ((Below.refl wr.heap.size wr).alloc (Nat.le_refl _) (.cells (actV kd af at' er own lo hi (.slice Ad dl.length cd)) 26))
      have hbase : base ≤ wr.heap.size := by obtain ⟨n, s, c, sl, cl, fl, lg, ln, hJ, _⟩ := hR.out.st; exact hJ.hbase
      have hLBlt : LB < wr.heap.size := by
        obtain ⟨n, s, c, sl, cl, fl, lg, ln, hJ, _, _, _, _, ⟨LL, h1, _⟩, _⟩ := hR.out.st
        exact (Array.getElem?_eq_some_iff.1 h1).1
      simp only [actV] at hAB hfa hRa hCa
      generalize wr.alloc _ = wa at hAB hRa hCa ⊢
      obtain ⟨AB, hABe⟩ : ∃ AB, AB = wr.heap.size := ⟨_, rfl⟩
      rw [← hABe] at hAB hbase hLBlt
      rw [← hABe]
      have HAB := Aside.mk hAB
      have HRa := Aside.mk hRa
      have HCa := Aside.mk (And.intro hCa HCd.out.2)
      have HLB := Aside.mk (And.intro hbase hLBlt)
      have z0 : wa.cell? ⟨AB, 0, none⟩ = some (.int .i64 kd) := by rw [cell_of_row _ _ _ _ _ _ hAB]; rfl
      clear hAB hRa hCa hABe g0 g1 g2 g3 g4 g5 g6 g7 HCd hfa hR hbase hLBlt
      have hkd : kd = 0 ∨ kd = 1 ∨ (¬ kd = 0 ∧ ¬ kd = 1) := by omega
      rcases hkd with rfl | rfl | ⟨hk0, hk1⟩
      · skip
        obtain ⟨n, s, c, sl, cl, fl, lg, ln, hJ, hn, hm, hF, hfl, hL, hI⟩ := HRa.out.st
        have hcase : s.busy = false ∨ (s.busy = true ∧ s.sent = true ∧ s.waited < s.retry) ∨ (s.busy = true ∧ (s.sent = false ∨ s.retry ≤ s.waited)) := by
          cases h1 : s.busy
          · exact .inl rfl
          · cases h2 : s.sent
            · exact .inr (.inr ⟨rfl, .inl rfl⟩)
            · by_cases h3 : s.waited < s.retry
              · exact .inr (.inl ⟨rfl, rfl, h3⟩)
              · exact .inr (.inr ⟨rfl, .inr (by omega)⟩)
        rcases hcase with hb | ⟨hb, hs, hw⟩ | ⟨hb, hs⟩
        · go_wp2_with fail
          refine (T.TickIdleC P M Q base n s c sl cl wa hJ hb).mono ?_
          rintro e w' ⟨rfl, hw⟩
          subst w'
          have hR1 : Aside (OR w wa P M Q base LB (i + 1) fr tg imp u7) := ⟨HRa.out.mono (by omega)⟩
          clear hJ hF hL hI hn hm hfl hb
          go_wp2_with fail
          generalize gk = gko at *
          go_loopg [9, 69] 0 (fun k v9 v69 wr' => v9 = .int .i64 kind ∧ v69 = .int .i64 0 ∧ Aside (OR w wr' P M Q base LB (i + 1) fr tg imp u7))
          case atStart => exact ⟨rfl, rfl, hR1⟩
          case round =>
            clear hR1
            obtain ⟨rfl, rfl, hR2⟩ := hrel
            go_wp2_with fail
            go_roundg (gko - 1)
            case measure => have := HIK.out; have := HLT.out; omega
            case rel => exact ⟨i + 1, kind, imp, fr, tg, by have := HIK.out; have := HLT.out; omega, rfl, rfl, rfl, rfl, by go_num, hR2⟩
        · go_wp2_with fail
          refine (T.TickWaitC P M Q base n s c sl cl wa hJ hb hs hw).mono ?_
          rintro e w3 ⟨rfl, hJ3, hf3⟩
          have hlow := HRa.out.hlow
          have hR1 : Aside (OR w w3 P M Q base LB (i + 1) fr tg imp u7) := ⟨⟨below_fc HRa.out.bel hf3 (by simp; omega), hlow, n, _, c, sl, cl, fl, lg, ln, hJ3, by omega, by show s.num ≤ _; omega, R_fcG hF (hf3.sub (S' := [P, M, Q]) (by simp)) (low3 (w' := w3) hJ), hfl, hL.of hf3 (by have h1 := hJ.hP; have h2 := hJ.hM; simp; omega), hI⟩⟩
          clear hJ hF hL hI hn hm hfl hb hJ3 hf3 hlow hs hw
          go_wp2_with fail
          generalize gk = gko at *
          go_loopg [9, 69] 0 (fun k v9 v69 wr' => v9 = .int .i64 kind ∧ v69 = .int .i64 0 ∧ Aside (OR w wr' P M Q base LB (i + 1) fr tg imp u7))
          case atStart => exact ⟨rfl, rfl, hR1⟩
          case round =>
            clear hR1
            obtain ⟨rfl, rfl, hR2⟩ := hrel
            go_wp2_with fail
            go_roundg (gko - 1)
            case measure => have := HIK.out; have := HLT.out; omega
            case rel => exact ⟨i + 1, kind, imp, fr, tg, by have := HIK.out; have := HLT.out; omega, rfl, rfl, rfl, rfl, by go_num, hR2⟩
        · go_wp2_with fail
          refine (T.TickSendC P M Q base n s c sl cl wa hJ hb hs (by have := HI60.out; omega)).mono ?_
          rintro e w3 ⟨B, lv, d3, n3, rfl, hB3, hd3, hJ3, hn3, hf3, hbB⟩
          obtain ⟨LL, hLL⟩ : ∃ LL : List Value, LL = (s.pack lv d3).toList := ⟨_, rfl⟩
          have hB3' : w3.heap[B]? = some (.cells LL.toArray 57 (0, 0)) := by rw [hLL]; exact hB3
          obtain ⟨hid, hcf, hct, hln0, hlnn, hst⟩ := hI
          rcases hst with ⟨_, hx, _⟩ | ⟨_, hcn, hlg, hst⟩
          · rw [hb] at hx; cases hx
          have hl40 := Aside.mk (show LL.length = 40 by rw [hLL]; rfl)
          have HL1 := Aside.mk (show (LL.toArray.all (·.oneCell')) = true by
            obtain ⟨A3, c3, hd, _⟩ := Kd.R_reads hd3
            rw [hLL, hd]; simp [AS.pack, Value.oneCell'])
          have HL3 := Aside.mk (show LL[3]? = some (.int .i64 s.group) by rw [hLL]; rfl)
          have HL12 := Aside.mk (show LL[12]? = some (.int .i64 s.cmd.kind) by rw [hLL]; rfl)
          have HL14 := Aside.mk (show LL[14]? = some (.int .i64 s.num) by rw [hLL, ← hcn]; rfl)
          have HL29 := Aside.mk (show LL[29]? = some (.int .i64 s.cmd.tgo) by rw [hLL]; rfl)
          have HL30 := Aside.mk (show LL[30]? = some d3 by rw [hLL]; rfl)
          have hlow := HRa.out.hlow
          have hF3 : FC [P, M, Q] wa w3 := hf3.sub (by simp)
          have hR3 : Kd.R Kd.string 9 w3 base (fun _ => True) u7 fl := R_fcG hF hF3 (low3 (w' := w3) hJ)
          have hL3 : LBox w3 LB lg ln := hL.of hf3 (by have h1 := hJ.hP; have h2 := hJ.hM; have h3 := hlow.2.2.2; simp; omega)
          have hb3 := below_fc HRa.out.bel hf3 (by have h1 := hlow; simp; omega)
          have HB3 := Aside.mk hB3'
          have HD3 := Aside.mk hd3
          have HJ3 := Aside.mk hJ3
          have HR3 := Aside.mk hR3
          have HL3' := Aside.mk hL3
          have HBe3 := Aside.mk hb3
          have HNum := Aside.mk (And.intro hn (And.intro hm (And.intro hn3 hfl)))
          have HInv := Aside.mk (And.intro hid (And.intro hcf (And.intro hct (And.intro hln0 (And.intro hlnn (And.intro hb (And.intro hcn hlg)))))))
          have HLow := Aside.mk hlow
          clear hB3 hB3' hd3 hJ3 hf3 hbB hLL hF3 hR3 hL3 hb3 hF hL hJ hn hm hn3 hfl hid hcf hct hln0 hlnn hcn hlg hlow hs
          go_wp2_with fail
          generalize gk = gko at *
          go_loopg [9, 69] 1 (fun k v9 v69 wr' => (k = 1 ∧ v9 = .int .i64 kind ∧ v69 = .int .i64 0 ∧ wr' = w3) ∨ (k = 0 ∧ v9 = .int .i64 s.cmd.kind ∧ v69 = .int .i64 1 ∧ Aside (OR w wr' P M Q base LB (i + 1) fr tg imp u7)))
          case atStart => exact .inl ⟨rfl, rfl, rfl, rfl⟩
          case round =>
            rcases hrel with ⟨rfl, rfl, rfl, rfl⟩ | ⟨rfl, rfl, rfl, hR2⟩
            · go_wp2_with (with_reducible refine halt_at (.load 57 (.tmp 71)) rfl ?_)
              refine ⟨?_⟩
              refine wpList_load_mid rfl 57 (.tmp 71) rfl B 0 rfl LL _ (range_row HB3.out) Try.underlying57 rfl (by rw [hl40.out]; kernel_rfl) ?_
              go_wp2_with (with_reducible refine halt_at (.store 57 (.tmp 16) (.tmp 72)) rfl ?_)
              refine ⟨?_⟩
              have HBO := box_of wr 57 #[.int .i64 0, .int .i64 0, .int .i64 0, .int .i64 0, .int .i64 0, .int .i64 0, .int .i64 0, .int .i64 0, .int .i64 0, .int .i64 0, .slice none 0 0, .slice none 0 0, .int .i64 0, .int .i64 0, .int .i64 0, .int .i64 0, .int .i64 0, .string ⟨#[]⟩, .string ⟨#[]⟩, .string ⟨#[]⟩, .string ⟨#[]⟩, .int .i64 0, .int .i64 0, .int .i64 0, .string ⟨#[]⟩, .int .i64 0, .int .i64 0, .int .i64 0, .int .i64 0, .int .i64 0, .slice none 0 0, .int .i64 0, .int .i64 0, .int .i64 0, .slice none 0 0, .slice none 0 0, .slice none 0 0, .int .i64 0, .slice none 0 0, .slice none 0 0] LL (by rw [hl40.out]; rfl)
              refine wpList_store_mid rfl 57 (.tmp 16) (.tmp 72) rfl wr.heap.size 0 LL.toArray rfl rfl (by rw [List.size_toArray]; exact HBO.2.2.1) (by rw [List.size_toArray, hl40.out]; kernel_rfl) HL1.out ?_
              have hT4 : ((wr.alloc (.cells #[.int .i64 0, .int .i64 0, .int .i64 0, .int .i64 0, .int .i64 0, .int .i64 0, .int .i64 0, .int .i64 0, .int .i64 0, .int .i64 0, .slice none 0 0, .slice none 0 0, .int .i64 0, .int .i64 0, .int .i64 0, .int .i64 0, .int .i64 0, .string ⟨#[]⟩, .string ⟨#[]⟩, .string ⟨#[]⟩, .string ⟨#[]⟩, .int .i64 0, .int .i64 0, .int .i64 0, .string ⟨#[]⟩, .int .i64 0, .int .i64 0, .int .i64 0, .int .i64 0, .int .i64 0, .slice none 0 0, .int .i64 0, .int .i64 0, .int .i64 0, .slice none 0 0, .slice none 0 0, .slice none 0 0, .int .i64 0, .slice none 0 0, .slice none 0 0] 57)).setCells wr.heap.size 0 LL).heap[wr.heap.size]? = some (.cells LL.toArray 57 (0, 0)) := HBO.1
              have hf4 : FC [] wr ((wr.alloc (.cells #[.int .i64 0, .int .i64 0, .int .i64 0, .int .i64 0, .int .i64 0, .int .i64 0, .int .i64 0, .int .i64 0, .int .i64 0, .int .i64 0, .slice none 0 0, .slice none 0 0, .int .i64 0, .int .i64 0, .int .i64 0, .int .i64 0, .int .i64 0, .string ⟨#[]⟩, .string ⟨#[]⟩, .string ⟨#[]⟩, .string ⟨#[]⟩, .int .i64 0, .int .i64 0, .int .i64 0, .string ⟨#[]⟩, .int .i64 0, .int .i64 0, .int .i64 0, .int .i64 0, .int .i64 0, .slice none 0 0, .int .i64 0, .int .i64 0, .int .i64 0, .slice none 0 0, .slice none 0 0, .slice none 0 0, .int .i64 0, .slice none 0 0, .slice none 0 0] 57)).setCells wr.heap.size 0 LL) := HBO.2.1
              clear HBO
              dsimp only at hT4 hf4 ⊢
              obtain ⟨TB, hTB⟩ : ∃ TB, TB = wr.heap.size := ⟨_, rfl⟩
              rw [← hTB] at hT4 hf4 ⊢
              generalize World.setCells (World.alloc wr _) _ _ _ = w4 at hT4 hf4 ⊢
              have hJ4 := HJ3.out.of_fc0 hf4
              have hR4 := R_fcG HR3.out hf4 (by simp)
              have hD4 := R_fcG HD3.out hf4 (by simp)
              obtain ⟨LO, hLO, hLO40, ho3, ho14⟩ := HL3'.out.of hf4 (by simp)
              have hTL : TB ≠ LB := fun e => by have h1 := (Array.getElem?_eq_some_iff.1 hLO).1; obtain ⟨LO2, h2, _⟩ := HL3'.out; have h3 := (Array.getElem?_eq_some_iff.1 h2).1; omega
              have hTBlt : TB < w4.heap.size := (Array.getElem?_eq_some_iff.1 hT4).1
              have o14 : w4.cell? ⟨LB, 14, none⟩ = some (.int .i64 ln) := by rw [cell_of_row _ _ _ _ _ _ hLO]; simpa using ho14
              have t14 : w4.cell? ⟨TB, 14, none⟩ = some (.int .i64 s.num) := by rw [cell_of_row _ _ _ _ _ _ hT4]; simpa using HL14.out
              have t3 : w4.cell? ⟨TB, 3, none⟩ = some (.int .i64 s.group) := by rw [cell_of_row _ _ _ _ _ _ hT4]; simpa using HL3.out
              have t12 : w4.cell? ⟨TB, 12, none⟩ = some (.int .i64 s.cmd.kind) := by rw [cell_of_row _ _ _ _ _ _ hT4]; simpa using HL12.out
              have t29 : w4.cell? ⟨TB, 29, none⟩ = some (.int .i64 s.cmd.tgo) := by rw [cell_of_row _ _ _ _ _ _ hT4]; simpa using HL29.out
              have t30 : w4.cell? ⟨TB, 30, none⟩ = some d3 := by rw [cell_of_row _ _ _ _ _ _ hT4]; simpa using HL30.out
              have hlnn := HInv.out.2.2.2.2.1
              have hln0 := HInv.out.2.2.2.1
              have hsn := HNum.out.2.1
              have hi60 := HI60.out
              have hc1 : ¬ s.num < ln := by omega
              have hc2 : ¬ ln + 1 < s.num := by omega
              have hw1 : wrap64 (ln + 1) = ln + 1 := by unfold wrap64; omega
              have hIz : ∀ imp2 : Bool, ((c.stage = 1 ∧ s.cmd.kind = 7 ∧ s.group = fr) ∨ (c.stage = 2 ∧ s.cmd.kind = 8 ∧ s.group = tg ∧ sl = fl ∧ cl = fl) ∨ (c.stage = 3 ∧ s.cmd.kind = 10 ∧ s.group = 0 ∧ s.cmd.tgo = tg ∧ imp2 = true) ∨ (c.stage = 4 ∧ s.cmd.kind = 8 ∧ s.group = fr ∧ sl = fl)) → OInv { s with sent := true, waited := 0 } c sl cl fl s.group s.num fr tg imp2 := fun imp2 h => ⟨HInv.out.1, HInv.out.2.1, HInv.out.2.2.1, by show 0 ≤ s.num; omega, .inl rfl, .inr ⟨HInv.out.2.2.2.2.2.1, HInv.out.2.2.2.2.2.2.1, fun _ => rfl, h⟩⟩
              have HIz := Aside.mk (hIz imp hst)
              have HJ4 := Aside.mk hJ4
              have HR4 := Aside.mk hR4
              have HD4 := Aside.mk hD4
              have HT4 := Aside.mk hT4
              have HLO := Aside.mk (And.intro hLO (And.intro hLO40 (And.intro hTL hTBlt)))
              have HF4 := Aside.mk hf4
              clear hJ4 hR4 hD4 hT4 hLO hLO40 ho3 ho14 hTL hTBlt hf4 hlnn hln0 hsn hi60 hIz hTB
              rcases hst with ⟨hs1, hk, hg⟩ | ⟨hs1, hk, hg, hsl, hcl⟩ | ⟨hs1, hk, hg, hct, himp⟩ | ⟨hs1, hk, hg, hsl⟩
              · as_aux_lemma =>
                  rw [hk] at t12
                  rw [hg] at t3
                  go_wp2_with fail
                  clear o14 t14 t3 t12 t29 t30 hc1 hc2 hw1
                  have hfz : FC [] w4 w4 := FC.refl _ _
                  have hlow := HLow.out
                  obtain ⟨hLO, hLO40, hTL, hTBlt0⟩ := HLO.out
                  have hLz := (hfz.block LB (Array.getElem?_eq_some_iff.1 hLO).1 (by simp)).trans hLO
                  have hTz := (hfz.block TB hTBlt0 (by simp)).trans HT4.out
                  have hTBlt : TB < w4.heap.size := (Array.getElem?_eq_some_iff.1 hTz).1
                  have hJz := HJ4.out.of_fc0 hfz
                  have hFz := R_fcG HR4.out hfz (by simp)
                  have hbz := below_fc (below_fc HBe3.out HF4.out (by simp)) hfz (by simp)
                  have hIz := HIz.out
                  have hk12 : LL.toArray[12]? = some (.int .i64 7) := by rw [List.getElem?_toArray, HL12.out, hk]
                  obtain ⟨hn, hm, hn3, hfl⟩ := HNum.out
                  let W : Array Bool → World → Prop := fun listed w' => FC [LB] w4 w' ∧ w'.heap[LB]? = some (.cells (if listed.getD 4 false = true then LL else LO).toArray 57 (0, 0))
                  have hkeep : ∀ listed w' i, i < listed.size → i ≠ 4 → W listed w' → W (listed.setIfInBounds i true) w' := fun listed w' i hi hne hW => by
                    refine ⟨hW.1, ?_⟩
                    rw [getD_set _ _ _ _ _ hi, if_neg (Ne.symm hne)]
                    exact hW.2
                  refine wp_region_conf (by kernel_rfl) (fun i => ([(.agg LL.toArray), (.pointer (some ⟨TB, 12, none⟩)), (.pointer (some ⟨TB, 12, none⟩)), (.int .i64 7), undef, (.int .i64 7)] : List Value).getD i undef) W (by kernel_rfl) ?h0 ?hex ?hfin
                  case h0 => exact ⟨(FC.refl _ _).drew, by rw [if_neg (by simp)]; exact hLz⟩
                  case hex =>
                    intro i o listed a w' ho hs hn hp hd hW
                    have hi : i < 6 := (Array.getElem?_eq_some_iff.1 ho).1
                    have hs6 : listed.size = 6 := hs
                    have hil : i < listed.size := by omega
                    have hcase : i = 0 ∨ i = 1 ∨ i = 2 ∨ i = 3 ∨ i = 4 ∨ i = 5 := by omega
                    rcases hcase with rfl | rfl | rfl | rfl | rfl | rfl
                    all_goals
                      simp only [List.getElem?_toArray, List.getElem?_cons_succ, List.getElem?_cons_zero, Option.some.injEq] at ho
                      subst ho
                      refine ⟨rfl, ?_⟩
                    · have e16 := hd.base 16 (.pointer (some ⟨TB, 0, none⟩)) (by kernel_rfl) rfl
                      exact wp_load_mid 57 (.tmp 16) rfl TB 0 e16 LL _ (range_row ((hW.1.block TB hTBlt (by simpa using hTL)).trans hTz)) Try.underlying57 rfl (by rw [hl40.out]; kernel_rfl) ⟨rfl, hkeep listed w' 0 hil (by decide) hW⟩
                    · have e16 := hd.base 16 (.pointer (some ⟨TB, 0, none⟩)) (by kernel_rfl) rfl
                      exact wp_val ((.pointer (some ⟨TB, 12, none⟩))) (by simp only [execOp, e16]; simp [go_sem]) ⟨rfl, hkeep listed w' 1 hil (by decide) hW⟩
                    · have l1 := hp { on := 1, ground := Ground.data } (by simp) rfl
                      have e154 : a.eval (.tmp 154) = (.pointer (some ⟨TB, 12, none⟩)) := hd.ev 1 154 rfl l1
                      exact wp_val ((.pointer (some ⟨TB, 12, none⟩))) (by simp only [execOp, e154]; simp [go_sem]) ⟨rfl, hkeep listed w' 2 hil (by decide) hW⟩
                    · have l2 := hp { on := 2, ground := Ground.data } (by simp) rfl
                      have e155 : a.eval (.tmp 155) = (.pointer (some ⟨TB, 12, none⟩)) := hd.ev 2 155 rfl l2
                      have ht12 : w'.cell? ⟨TB, 12, none⟩ = some (.int .i64 7) := by rw [cell_of_row _ _ _ _ _ _ ((hW.1.block TB hTBlt (by simpa using hTL)).trans hTz)]; exact hk12
                      exact wp_val ((.int .i64 7)) (by simp only [execOp, e155]; simp [go_sem, ht12]) ⟨rfl, hkeep listed w' 3 hil (by decide) hW⟩
                    · have e8 := hd.base 8 (.pointer (some ⟨LB, 0, none⟩)) (by kernel_rfl) rfl
                      have l0 := hp { on := 0, ground := Ground.data } (by simp) rfl
                      have e153 : a.eval (.tmp 153) = (.agg LL.toArray) := hd.ev 0 153 rfl l0
                      have h0 := hW.2
                      rw [hn, if_neg (by simp)] at h0
                      refine wp_store_mid 57 (.tmp 8) (.tmp 153) rfl LB 0 LL.toArray e8 e153 (there_row h0 _ (by rw [List.size_toArray, List.size_toArray, hl40.out, hLO40])) (by rw [List.size_toArray, hl40.out]; kernel_rfl) HL1.out ⟨rfl, FC.setCells (.inl (by simp)) _ _ _ hW.1, ?_⟩
                      rw [getD_set _ _ _ _ _ hil, if_pos rfl, if_pos rfl]
                      exact fill_row h0 LL (by rw [List.size_toArray, hLO40, hl40.out])
                    · have l3 := hp { on := 3, ground := Ground.data } (by simp) rfl
                      have e156 : a.eval (.tmp 156) = (.int .i64 7) := hd.ev 3 156 rfl l3
                      have l4 := hp { on := 4, ground := Ground.chain } (by simp) rfl
                      exact wp_val ((.int .i64 7)) (by simp only [execOp, e156]; simp [go_sem]) ⟨rfl, hkeep listed w' 5 hil (by decide) hW⟩
                  case hfin =>
                    intro listed a w5 hs hall hd hW
                    have h4 := hW.2
                    rw [hall 4 (by decide), if_pos rfl] at h4
                    have hF5 := hW.1
                    rw [hd.full (md := .any) (fits_of (by kernel_rfl)) hall]
                    clear hd hall hs hW hkeep W
                    simp only [List.size_toArray, List.length_cons, List.length_nil, Nat.reduceAdd, fill, List.getElem?_toArray, List.getElem?_cons_succ, List.getElem?_cons_zero, Option.bind_some, List.setIfInBounds_toArray, List.set_cons_succ, List.set_cons_zero, List.getD_cons_succ, List.getD_cons_zero]
                    have hJ5 := hJz.of_typed hF5 hLz (by decide) hlow.2.2.2
                    have hR5 : Kd.R Kd.string 9 w5 base (fun _ => True) u7 fl := R_fcT hFz hF5 hLz (by intro q hq; have : q = 9 := (by simpa [Kd.string, Kd.scalar] using hq); omega)
                    have hO5 : Aside (OR w w5 P M Q base LB (i + 1) fr tg imp u7) := ⟨⟨below_fc hbz hF5 (by have h1 := hlow; have h2 := hJz.hP; have h3 : w.heap.size ≤ LB := (by omega); simpa using h3), hlow, n3, _, c, sl, cl, fl, s.group, s.num, hJ5, by omega, by show s.num ≤ _; omega, hR5, hfl, ⟨LL, h4, hl40.out, HL3.out, HL14.out⟩, hIz⟩⟩
                    clear h4 hF5 hJ5 hR5
                    go_wp2_with fail
                    go_roundg 0
                    case measure => omega
                    case rel => exact .inr ⟨rfl, by rw [hk], by go_num, hO5⟩
              · as_aux_lemma =>
                  obtain ⟨A3, c3, hd3v, hc3, hC3⟩ := Kd.R_reads HD4.out
                  obtain ⟨A7, c7, hu7, hc7, hC7⟩ := Kd.R_reads HR4.out
                  subst hd3v
                  subst hu7
                  subst hsl
                  have hlen : sl.length ≤ 1000 := HNum.out.2.2.2
                  clear hC3 hC7 hc3 hc7
                  rw [hk] at t12
                  rw [hg] at t3
                  obtain ⟨w4k, hw4k⟩ : ∃ x, x = w4 := ⟨_, rfl⟩
                  go_wp2_with fail
                  clear o14 t14 t3 t12 t29 hc1 hc2 hw1
                  generalize gk = gki at *
                  go_loopg [122] sl.length (fun k v122 wq => ∃ j : Nat, k + j = sl.length ∧ v122 = .int .i64 j ∧ Aside (FC [] w4 wq))
                  case atStart => exact ⟨0, rfl, rfl, ⟨FC.refl _ _⟩⟩
                  case round =>
                    obtain ⟨j, hj, rfl, hfq⟩ := hrel
                    by_cases hjl : j < sl.length
                    · have hRq := R_fcG HR4.out hfq.out (by simp)
                      have hDq := R_fcG HD4.out hfq.out (by simp)
                      have hTq := (hfq.out.block TB HLO.out.2.2.2 (by simp)).trans HT4.out
                      have q30 : wr.cell? ⟨TB, 30, none⟩ = some (.slice A3 sl.length c3) := by rw [cell_of_row _ _ _ _ _ _ hTq]; simpa using HL30.out
                      obtain ⟨x, hx⟩ : ∃ x, sl[j]? = some x := ⟨_, List.getElem?_eq_getElem hjl⟩
                      obtain ⟨g3, rfl, z3⟩ := R_text hDq j x hx
                      obtain ⟨g7, rfl, z7⟩ := R_text hRq j x hx
                      have HJL := Aside.mk hjl
                      have HJK := Aside.mk hj
                      clear hRq hDq hTq hx hj t30
                      go_wp2_with fail
                      go_quiet (fail)
                      have hfq2 : Aside (FC [] w4 (wr.drewN nq)) := ⟨hfq.out.trans (FC.of (pw_below_drewN (Below.refl _ _) nq))⟩
                      generalize wr.drewN nq = wr2 at *
                      clear q30 z3 z7
                      go_wp2_with fail
                      go_roundg (gk - 1)
                      case measure => have := HJL.out; have := HJK.out; omega
                      case rel => exact ⟨j + 1, by have := HJL.out; have := HJK.out; omega, by go_num, hfq2⟩
                    · have hje : j = sl.length := by omega
                      subst hje
                      clear hjl hj t30
                      go_wp2_with fail
                      have hfz := hfq.out
                      have hlow := HLow.out
                      obtain ⟨hLO, hLO40, hTL, hTBlt0⟩ := HLO.out
                      have hLz := (hfz.block LB (Array.getElem?_eq_some_iff.1 hLO).1 (by simp)).trans hLO
                      have hTz := (hfz.block TB hTBlt0 (by simp)).trans HT4.out
                      have hTBlt : TB < wr.heap.size := (Array.getElem?_eq_some_iff.1 hTz).1
                      have hJz := HJ4.out.of_fc0 hfz
                      have hFz := R_fcG HR4.out hfz (by simp)
                      have hbz := below_fc (below_fc HBe3.out HF4.out (by simp)) hfz (by simp)
                      have hIz := HIz.out
                      have hk12 : LL.toArray[12]? = some (.int .i64 8) := by rw [List.getElem?_toArray, HL12.out, hk]
                      obtain ⟨hn, hm, hn3, hfl⟩ := HNum.out
                      let W : Array Bool → World → Prop := fun listed w' => FC [LB] wr w' ∧ w'.heap[LB]? = some (.cells (if listed.getD 4 false = true then LL else LO).toArray 57 (0, 0))
                      have hkeep : ∀ listed w' i, i < listed.size → i ≠ 4 → W listed w' → W (listed.setIfInBounds i true) w' := fun listed w' i hi hne hW => by
                        refine ⟨hW.1, ?_⟩
                        rw [getD_set _ _ _ _ _ hi, if_neg (Ne.symm hne)]
                        exact hW.2
                      refine wp_region_conf (by kernel_rfl) (fun i => ([(.agg LL.toArray), (.pointer (some ⟨TB, 12, none⟩)), (.pointer (some ⟨TB, 12, none⟩)), (.int .i64 8), undef, (.int .i64 8)] : List Value).getD i undef) W (by kernel_rfl) ?h0 ?hex ?hfin
                      case h0 => exact ⟨(FC.refl _ _).drew, by rw [if_neg (by simp)]; exact hLz⟩
                      case hex =>
                        intro i o listed a w' ho hs hn hp hd hW
                        have hi : i < 6 := (Array.getElem?_eq_some_iff.1 ho).1
                        have hs6 : listed.size = 6 := hs
                        have hil : i < listed.size := by omega
                        have hcase : i = 0 ∨ i = 1 ∨ i = 2 ∨ i = 3 ∨ i = 4 ∨ i = 5 := by omega
                        rcases hcase with rfl | rfl | rfl | rfl | rfl | rfl
                        all_goals
                          simp only [List.getElem?_toArray, List.getElem?_cons_succ, List.getElem?_cons_zero, Option.some.injEq] at ho
                          subst ho
                          refine ⟨rfl, ?_⟩
                        · have e16 := hd.base 16 (.pointer (some ⟨TB, 0, none⟩)) (by kernel_rfl) rfl
                          exact wp_load_mid 57 (.tmp 16) rfl TB 0 e16 LL _ (range_row ((hW.1.block TB hTBlt (by simpa using hTL)).trans hTz)) Try.underlying57 rfl (by rw [hl40.out]; kernel_rfl) ⟨rfl, hkeep listed w' 0 hil (by decide) hW⟩
                        · have e16 := hd.base 16 (.pointer (some ⟨TB, 0, none⟩)) (by kernel_rfl) rfl
                          exact wp_val ((.pointer (some ⟨TB, 12, none⟩))) (by simp only [execOp, e16]; simp [go_sem]) ⟨rfl, hkeep listed w' 1 hil (by decide) hW⟩
                        · have l1 := hp { on := 1, ground := Ground.data } (by simp) rfl
                          have e154 : a.eval (.tmp 154) = (.pointer (some ⟨TB, 12, none⟩)) := hd.ev 1 154 rfl l1
                          exact wp_val ((.pointer (some ⟨TB, 12, none⟩))) (by simp only [execOp, e154]; simp [go_sem]) ⟨rfl, hkeep listed w' 2 hil (by decide) hW⟩
                        · have l2 := hp { on := 2, ground := Ground.data } (by simp) rfl
                          have e155 : a.eval (.tmp 155) = (.pointer (some ⟨TB, 12, none⟩)) := hd.ev 2 155 rfl l2
                          have ht12 : w'.cell? ⟨TB, 12, none⟩ = some (.int .i64 8) := by rw [cell_of_row _ _ _ _ _ _ ((hW.1.block TB hTBlt (by simpa using hTL)).trans hTz)]; exact hk12
                          exact wp_val ((.int .i64 8)) (by simp only [execOp, e155]; simp [go_sem, ht12]) ⟨rfl, hkeep listed w' 3 hil (by decide) hW⟩
                        · have e8 := hd.base 8 (.pointer (some ⟨LB, 0, none⟩)) (by kernel_rfl) rfl
                          have l0 := hp { on := 0, ground := Ground.data } (by simp) rfl
                          have e153 : a.eval (.tmp 153) = (.agg LL.toArray) := hd.ev 0 153 rfl l0
                          have h0 := hW.2
                          rw [hn, if_neg (by simp)] at h0
                          refine wp_store_mid 57 (.tmp 8) (.tmp 153) rfl LB 0 LL.toArray e8 e153 (there_row h0 _ (by rw [List.size_toArray, List.size_toArray, hl40.out, hLO40])) (by rw [List.size_toArray, hl40.out]; kernel_rfl) HL1.out ⟨rfl, FC.setCells (.inl (by simp)) _ _ _ hW.1, ?_⟩
                          rw [getD_set _ _ _ _ _ hil, if_pos rfl, if_pos rfl]
                          exact fill_row h0 LL (by rw [List.size_toArray, hLO40, hl40.out])
                        · have l3 := hp { on := 3, ground := Ground.data } (by simp) rfl
                          have e156 : a.eval (.tmp 156) = (.int .i64 8) := hd.ev 3 156 rfl l3
                          have l4 := hp { on := 4, ground := Ground.chain } (by simp) rfl
                          exact wp_val ((.int .i64 8)) (by simp only [execOp, e156]; simp [go_sem]) ⟨rfl, hkeep listed w' 5 hil (by decide) hW⟩
                      case hfin =>
                        intro listed a w5 hs hall hd hW
                        have h4 := hW.2
                        rw [hall 4 (by decide), if_pos rfl] at h4
                        have hF5 := hW.1
                        rw [hd.full (md := .any) (fits_of (by kernel_rfl)) hall]
                        clear hd hall hs hW hkeep W
                        simp only [List.size_toArray, List.length_cons, List.length_nil, Nat.reduceAdd, fill, List.getElem?_toArray, List.getElem?_cons_succ, List.getElem?_cons_zero, Option.bind_some, List.setIfInBounds_toArray, List.set_cons_succ, List.set_cons_zero, List.getD_cons_succ, List.getD_cons_zero]
                        have hJ5 := hJz.of_typed hF5 hLz (by decide) hlow.2.2.2
                        have hR5 : Kd.R Kd.string 9 w5 base (fun _ => True) (.slice A7 sl.length c7) sl := R_fcT hFz hF5 hLz (by intro q hq; have : q = 9 := (by simpa [Kd.string, Kd.scalar] using hq); omega)
                        have hO5 : Aside (OR w w5 P M Q base LB (i + 1) fr tg imp (.slice A7 sl.length c7)) := ⟨⟨below_fc hbz hF5 (by have h1 := hlow; have h2 := hJz.hP; have h3 : w.heap.size ≤ LB := (by omega); simpa using h3), hlow, n3, _, c, sl, cl, sl, s.group, s.num, hJ5, by omega, by show s.num ≤ _; omega, hR5, hfl, ⟨LL, h4, hl40.out, HL3.out, HL14.out⟩, hIz⟩⟩
                        clear h4 hF5 hJ5 hR5
                        go_wp2_with fail
                        go_roundg 0
                        case measure => omega
                        case rel => exact .inr ⟨rfl, by rw [hk], by go_num, hO5⟩
              · as_aux_lemma =>
                  rw [hk] at t12
                  rw [hg] at t3
                  rw [hct] at t29
                  subst himp
                  go_wp2_with fail
                  clear o14 t14 t3 t12 t29 t30 hc1 hc2 hw1
                  have hfz : FC [] w4 w4 := FC.refl _ _
                  have hlow := HLow.out
                  obtain ⟨hLO, hLO40, hTL, hTBlt0⟩ := HLO.out
                  have hLz := (hfz.block LB (Array.getElem?_eq_some_iff.1 hLO).1 (by simp)).trans hLO
                  have hTz := (hfz.block TB hTBlt0 (by simp)).trans HT4.out
                  have hTBlt : TB < w4.heap.size := (Array.getElem?_eq_some_iff.1 hTz).1
                  have hJz := HJ4.out.of_fc0 hfz
                  have hFz := R_fcG HR4.out hfz (by simp)
                  have hbz := below_fc (below_fc HBe3.out HF4.out (by simp)) hfz (by simp)
                  have hIz := HIz.out
                  have hk12 : LL.toArray[12]? = some (.int .i64 10) := by rw [List.getElem?_toArray, HL12.out, hk]
                  obtain ⟨hn, hm, hn3, hfl⟩ := HNum.out
                  let W : Array Bool → World → Prop := fun listed w' => FC [LB] w4 w' ∧ w'.heap[LB]? = some (.cells (if listed.getD 4 false = true then LL else LO).toArray 57 (0, 0))
                  have hkeep : ∀ listed w' i, i < listed.size → i ≠ 4 → W listed w' → W (listed.setIfInBounds i true) w' := fun listed w' i hi hne hW => by
                    refine ⟨hW.1, ?_⟩
                    rw [getD_set _ _ _ _ _ hi, if_neg (Ne.symm hne)]
                    exact hW.2
                  refine wp_region_conf (by kernel_rfl) (fun i => ([(.agg LL.toArray), (.pointer (some ⟨TB, 12, none⟩)), (.pointer (some ⟨TB, 12, none⟩)), (.int .i64 10), undef, (.int .i64 10)] : List Value).getD i undef) W (by kernel_rfl) ?h0 ?hex ?hfin
                  case h0 => exact ⟨(FC.refl _ _).drew, by rw [if_neg (by simp)]; exact hLz⟩
                  case hex =>
                    intro i o listed a w' ho hs hn hp hd hW
                    have hi : i < 6 := (Array.getElem?_eq_some_iff.1 ho).1
                    have hs6 : listed.size = 6 := hs
                    have hil : i < listed.size := by omega
                    have hcase : i = 0 ∨ i = 1 ∨ i = 2 ∨ i = 3 ∨ i = 4 ∨ i = 5 := by omega
                    rcases hcase with rfl | rfl | rfl | rfl | rfl | rfl
                    all_goals
                      simp only [List.getElem?_toArray, List.getElem?_cons_succ, List.getElem?_cons_zero, Option.some.injEq] at ho
                      subst ho
                      refine ⟨rfl, ?_⟩
                    · have e16 := hd.base 16 (.pointer (some ⟨TB, 0, none⟩)) (by kernel_rfl) rfl
                      exact wp_load_mid 57 (.tmp 16) rfl TB 0 e16 LL _ (range_row ((hW.1.block TB hTBlt (by simpa using hTL)).trans hTz)) Try.underlying57 rfl (by rw [hl40.out]; kernel_rfl) ⟨rfl, hkeep listed w' 0 hil (by decide) hW⟩
                    · have e16 := hd.base 16 (.pointer (some ⟨TB, 0, none⟩)) (by kernel_rfl) rfl
                      exact wp_val ((.pointer (some ⟨TB, 12, none⟩))) (by simp only [execOp, e16]; simp [go_sem]) ⟨rfl, hkeep listed w' 1 hil (by decide) hW⟩
                    · have l1 := hp { on := 1, ground := Ground.data } (by simp) rfl
                      have e154 : a.eval (.tmp 154) = (.pointer (some ⟨TB, 12, none⟩)) := hd.ev 1 154 rfl l1
                      exact wp_val ((.pointer (some ⟨TB, 12, none⟩))) (by simp only [execOp, e154]; simp [go_sem]) ⟨rfl, hkeep listed w' 2 hil (by decide) hW⟩
                    · have l2 := hp { on := 2, ground := Ground.data } (by simp) rfl
                      have e155 : a.eval (.tmp 155) = (.pointer (some ⟨TB, 12, none⟩)) := hd.ev 2 155 rfl l2
                      have ht12 : w'.cell? ⟨TB, 12, none⟩ = some (.int .i64 10) := by rw [cell_of_row _ _ _ _ _ _ ((hW.1.block TB hTBlt (by simpa using hTL)).trans hTz)]; exact hk12
                      exact wp_val ((.int .i64 10)) (by simp only [execOp, e155]; simp [go_sem, ht12]) ⟨rfl, hkeep listed w' 3 hil (by decide) hW⟩
                    · have e8 := hd.base 8 (.pointer (some ⟨LB, 0, none⟩)) (by kernel_rfl) rfl
                      have l0 := hp { on := 0, ground := Ground.data } (by simp) rfl
                      have e153 : a.eval (.tmp 153) = (.agg LL.toArray) := hd.ev 0 153 rfl l0
                      have h0 := hW.2
                      rw [hn, if_neg (by simp)] at h0
                      refine wp_store_mid 57 (.tmp 8) (.tmp 153) rfl LB 0 LL.toArray e8 e153 (there_row h0 _ (by rw [List.size_toArray, List.size_toArray, hl40.out, hLO40])) (by rw [List.size_toArray, hl40.out]; kernel_rfl) HL1.out ⟨rfl, FC.setCells (.inl (by simp)) _ _ _ hW.1, ?_⟩
                      rw [getD_set _ _ _ _ _ hil, if_pos rfl, if_pos rfl]
                      exact fill_row h0 LL (by rw [List.size_toArray, hLO40, hl40.out])
                    · have l3 := hp { on := 3, ground := Ground.data } (by simp) rfl
                      have e156 : a.eval (.tmp 156) = (.int .i64 10) := hd.ev 3 156 rfl l3
                      have l4 := hp { on := 4, ground := Ground.chain } (by simp) rfl
                      exact wp_val ((.int .i64 10)) (by simp only [execOp, e156]; simp [go_sem]) ⟨rfl, hkeep listed w' 5 hil (by decide) hW⟩
                  case hfin =>
                    intro listed a w5 hs hall hd hW
                    have h4 := hW.2
                    rw [hall 4 (by decide), if_pos rfl] at h4
                    have hF5 := hW.1
                    rw [hd.full (md := .any) (fits_of (by kernel_rfl)) hall]
                    clear hd hall hs hW hkeep W
                    simp only [List.size_toArray, List.length_cons, List.length_nil, Nat.reduceAdd, fill, List.getElem?_toArray, List.getElem?_cons_succ, List.getElem?_cons_zero, Option.bind_some, List.setIfInBounds_toArray, List.set_cons_succ, List.set_cons_zero, List.getD_cons_succ, List.getD_cons_zero]
                    have hJ5 := hJz.of_typed hF5 hLz (by decide) hlow.2.2.2
                    have hR5 : Kd.R Kd.string 9 w5 base (fun _ => True) u7 fl := R_fcT hFz hF5 hLz (by intro q hq; have : q = 9 := (by simpa [Kd.string, Kd.scalar] using hq); omega)
                    have hO5 : Aside (OR w w5 P M Q base LB (i + 1) fr tg true u7) := ⟨⟨below_fc hbz hF5 (by have h1 := hlow; have h2 := hJz.hP; have h3 : w.heap.size ≤ LB := (by omega); simpa using h3), hlow, n3, _, c, sl, cl, fl, s.group, s.num, hJ5, by omega, by show s.num ≤ _; omega, hR5, hfl, ⟨LL, h4, hl40.out, HL3.out, HL14.out⟩, hIz⟩⟩
                    clear h4 hF5 hJ5 hR5
                    go_wp2_with fail
                    go_roundg 0
                    case measure => omega
                    case rel => exact .inr ⟨rfl, by rw [hk], by go_num, hO5⟩
              · as_aux_lemma =>
                  obtain ⟨A3, c3, hd3v, hc3, hC3⟩ := Kd.R_reads HD4.out
                  obtain ⟨A7, c7, hu7, hc7, hC7⟩ := Kd.R_reads HR4.out
                  subst hd3v
                  subst hu7
                  subst hsl
                  have hlen : sl.length ≤ 1000 := HNum.out.2.2.2
                  clear hC3 hC7 hc3 hc7
                  rw [hk] at t12
                  rw [hg] at t3
                  by_cases hft : fr = tg
                  · subst hft
                    obtain ⟨w4k, hw4k⟩ : ∃ x, x = w4 := ⟨_, rfl⟩
                    go_wp2_with fail
                    clear o14 t14 t3 t12 t29 hc1 hc2 hw1
                    generalize gk = gki at *
                    go_loopg [122] sl.length (fun k v122 wq => ∃ j : Nat, k + j = sl.length ∧ v122 = .int .i64 j ∧ Aside (FC [] w4 wq))
                    case atStart => exact ⟨0, rfl, rfl, ⟨FC.refl _ _⟩⟩
                    case round =>
                      obtain ⟨j, hj, rfl, hfq⟩ := hrel
                      by_cases hjl : j < sl.length
                      · have hRq := R_fcG HR4.out hfq.out (by simp)
                        have hDq := R_fcG HD4.out hfq.out (by simp)
                        have hTq := (hfq.out.block TB HLO.out.2.2.2 (by simp)).trans HT4.out
                        have q30 : wr.cell? ⟨TB, 30, none⟩ = some (.slice A3 sl.length c3) := by rw [cell_of_row _ _ _ _ _ _ hTq]; simpa using HL30.out
                        obtain ⟨x, hx⟩ : ∃ x, sl[j]? = some x := ⟨_, List.getElem?_eq_getElem hjl⟩
                        obtain ⟨g3, rfl, z3⟩ := R_text hDq j x hx
                        obtain ⟨g7, rfl, z7⟩ := R_text hRq j x hx
                        have HJL := Aside.mk hjl
                        have HJK := Aside.mk hj
                        clear hRq hDq hTq hx hj t30
                        go_wp2_with fail
                        go_quiet (fail)
                        have hfq2 : Aside (FC [] w4 (wr.drewN nq)) := ⟨hfq.out.trans (FC.of (pw_below_drewN (Below.refl _ _) nq))⟩
                        generalize wr.drewN nq = wr2 at *
                        clear q30 z3 z7
                        go_wp2_with fail
                        go_roundg (gk - 1)
                        case measure => have := HJL.out; have := HJK.out; omega
                        case rel => exact ⟨j + 1, by have := HJL.out; have := HJK.out; omega, by go_num, hfq2⟩
                      · have hje : j = sl.length := by omega
                        subst hje
                        clear hjl hj t30
                        go_wp2_with fail
                        have hfz := hfq.out
                        have hlow := HLow.out
                        obtain ⟨hLO, hLO40, hTL, hTBlt0⟩ := HLO.out
                        have hLz := (hfz.block LB (Array.getElem?_eq_some_iff.1 hLO).1 (by simp)).trans hLO
                        have hTz := (hfz.block TB hTBlt0 (by simp)).trans HT4.out
                        have hTBlt : TB < wr.heap.size := (Array.getElem?_eq_some_iff.1 hTz).1
                        have hJz := HJ4.out.of_fc0 hfz
                        have hFz := R_fcG HR4.out hfz (by simp)
                        have hbz := below_fc (below_fc HBe3.out HF4.out (by simp)) hfz (by simp)
                        have hIz := HIz.out
                        have hk12 : LL.toArray[12]? = some (.int .i64 8) := by rw [List.getElem?_toArray, HL12.out, hk]
                        obtain ⟨hn, hm, hn3, hfl⟩ := HNum.out
                        let W : Array Bool → World → Prop := fun listed w' => FC [LB] wr w' ∧ w'.heap[LB]? = some (.cells (if listed.getD 4 false = true then LL else LO).toArray 57 (0, 0))
                        have hkeep : ∀ listed w' i, i < listed.size → i ≠ 4 → W listed w' → W (listed.setIfInBounds i true) w' := fun listed w' i hi hne hW => by
                          refine ⟨hW.1, ?_⟩
                          rw [getD_set _ _ _ _ _ hi, if_neg (Ne.symm hne)]
                          exact hW.2
                        refine wp_region_conf (by kernel_rfl) (fun i => ([(.agg LL.toArray), (.pointer (some ⟨TB, 12, none⟩)), (.pointer (some ⟨TB, 12, none⟩)), (.int .i64 8), undef, (.int .i64 8)] : List Value).getD i undef) W (by kernel_rfl) ?h0 ?hex ?hfin
                        case h0 => exact ⟨(FC.refl _ _).drew, by rw [if_neg (by simp)]; exact hLz⟩
                        case hex =>
                          intro i o listed a w' ho hs hn hp hd hW
                          have hi : i < 6 := (Array.getElem?_eq_some_iff.1 ho).1
                          have hs6 : listed.size = 6 := hs
                          have hil : i < listed.size := by omega
                          have hcase : i = 0 ∨ i = 1 ∨ i = 2 ∨ i = 3 ∨ i = 4 ∨ i = 5 := by omega
                          rcases hcase with rfl | rfl | rfl | rfl | rfl | rfl
                          all_goals
                            simp only [List.getElem?_toArray, List.getElem?_cons_succ, List.getElem?_cons_zero, Option.some.injEq] at ho
                            subst ho
                            refine ⟨rfl, ?_⟩
                          · have e16 := hd.base 16 (.pointer (some ⟨TB, 0, none⟩)) (by kernel_rfl) rfl
                            exact wp_load_mid 57 (.tmp 16) rfl TB 0 e16 LL _ (range_row ((hW.1.block TB hTBlt (by simpa using hTL)).trans hTz)) Try.underlying57 rfl (by rw [hl40.out]; kernel_rfl) ⟨rfl, hkeep listed w' 0 hil (by decide) hW⟩
                          · have e16 := hd.base 16 (.pointer (some ⟨TB, 0, none⟩)) (by kernel_rfl) rfl
                            exact wp_val ((.pointer (some ⟨TB, 12, none⟩))) (by simp only [execOp, e16]; simp [go_sem]) ⟨rfl, hkeep listed w' 1 hil (by decide) hW⟩
                          · have l1 := hp { on := 1, ground := Ground.data } (by simp) rfl
                            have e154 : a.eval (.tmp 154) = (.pointer (some ⟨TB, 12, none⟩)) := hd.ev 1 154 rfl l1
                            exact wp_val ((.pointer (some ⟨TB, 12, none⟩))) (by simp only [execOp, e154]; simp [go_sem]) ⟨rfl, hkeep listed w' 2 hil (by decide) hW⟩
                          · have l2 := hp { on := 2, ground := Ground.data } (by simp) rfl
                            have e155 : a.eval (.tmp 155) = (.pointer (some ⟨TB, 12, none⟩)) := hd.ev 2 155 rfl l2
                            have ht12 : w'.cell? ⟨TB, 12, none⟩ = some (.int .i64 8) := by rw [cell_of_row _ _ _ _ _ _ ((hW.1.block TB hTBlt (by simpa using hTL)).trans hTz)]; exact hk12
                            exact wp_val ((.int .i64 8)) (by simp only [execOp, e155]; simp [go_sem, ht12]) ⟨rfl, hkeep listed w' 3 hil (by decide) hW⟩
                          · have e8 := hd.base 8 (.pointer (some ⟨LB, 0, none⟩)) (by kernel_rfl) rfl
                            have l0 := hp { on := 0, ground := Ground.data } (by simp) rfl
                            have e153 : a.eval (.tmp 153) = (.agg LL.toArray) := hd.ev 0 153 rfl l0
                            have h0 := hW.2
                            rw [hn, if_neg (by simp)] at h0
                            refine wp_store_mid 57 (.tmp 8) (.tmp 153) rfl LB 0 LL.toArray e8 e153 (there_row h0 _ (by rw [List.size_toArray, List.size_toArray, hl40.out, hLO40])) (by rw [List.size_toArray, hl40.out]; kernel_rfl) HL1.out ⟨rfl, FC.setCells (.inl (by simp)) _ _ _ hW.1, ?_⟩
                            rw [getD_set _ _ _ _ _ hil, if_pos rfl, if_pos rfl]
                            exact fill_row h0 LL (by rw [List.size_toArray, hLO40, hl40.out])
                          · have l3 := hp { on := 3, ground := Ground.data } (by simp) rfl
                            have e156 : a.eval (.tmp 156) = (.int .i64 8) := hd.ev 3 156 rfl l3
                            have l4 := hp { on := 4, ground := Ground.chain } (by simp) rfl
                            exact wp_val ((.int .i64 8)) (by simp only [execOp, e156]; simp [go_sem]) ⟨rfl, hkeep listed w' 5 hil (by decide) hW⟩
                        case hfin =>
                          intro listed a w5 hs hall hd hW
                          have h4 := hW.2
                          rw [hall 4 (by decide), if_pos rfl] at h4
                          have hF5 := hW.1
                          rw [hd.full (md := .any) (fits_of (by kernel_rfl)) hall]
                          clear hd hall hs hW hkeep W
                          simp only [List.size_toArray, List.length_cons, List.length_nil, Nat.reduceAdd, fill, List.getElem?_toArray, List.getElem?_cons_succ, List.getElem?_cons_zero, Option.bind_some, List.setIfInBounds_toArray, List.set_cons_succ, List.set_cons_zero, List.getD_cons_succ, List.getD_cons_zero]
                          have hJ5 := hJz.of_typed hF5 hLz (by decide) hlow.2.2.2
                          have hR5 : Kd.R Kd.string 9 w5 base (fun _ => True) (.slice A7 sl.length c7) sl := R_fcT hFz hF5 hLz (by intro q hq; have : q = 9 := (by simpa [Kd.string, Kd.scalar] using hq); omega)
                          have hO5 : Aside (OR w w5 P M Q base LB (i + 1) fr fr imp (.slice A7 sl.length c7)) := ⟨⟨below_fc hbz hF5 (by have h1 := hlow; have h2 := hJz.hP; have h3 : w.heap.size ≤ LB := (by omega); simpa using h3), hlow, n3, _, c, sl, cl, sl, s.group, s.num, hJ5, by omega, by show s.num ≤ _; omega, hR5, hfl, ⟨LL, h4, hl40.out, HL3.out, HL14.out⟩, hIz⟩⟩
                          clear h4 hF5 hJ5 hR5
                          go_wp2_with fail
                          go_roundg 0
                          case measure => omega
                          case rel => exact .inr ⟨rfl, by rw [hk], by go_num, hO5⟩

                  · obtain ⟨w4k, hw4k⟩ : ∃ x, x = w4 := ⟨_, rfl⟩
                    go_wp2_with fail
                    clear o14 t14 t3 t12 t29 hc1 hc2 hw1
                    generalize gk = gki at *
                    go_loopg [122] sl.length (fun k v122 wq => ∃ j : Nat, k + j = sl.length ∧ v122 = .int .i64 j ∧ Aside (FC [] w4 wq))
                    case atStart => exact ⟨0, rfl, rfl, ⟨FC.refl _ _⟩⟩
                    case round =>
                      obtain ⟨j, hj, rfl, hfq⟩ := hrel
                      by_cases hjl : j < sl.length
                      · have hRq := R_fcG HR4.out hfq.out (by simp)
                        have hDq := R_fcG HD4.out hfq.out (by simp)
                        have hTq := (hfq.out.block TB HLO.out.2.2.2 (by simp)).trans HT4.out
                        have q30 : wr.cell? ⟨TB, 30, none⟩ = some (.slice A3 sl.length c3) := by rw [cell_of_row _ _ _ _ _ _ hTq]; simpa using HL30.out
                        obtain ⟨x, hx⟩ : ∃ x, sl[j]? = some x := ⟨_, List.getElem?_eq_getElem hjl⟩
                        obtain ⟨g3, rfl, z3⟩ := R_text hDq j x hx
                        obtain ⟨g7, rfl, z7⟩ := R_text hRq j x hx
                        have HJL := Aside.mk hjl
                        have HJK := Aside.mk hj
                        clear hRq hDq hTq hx hj t30
                        go_wp2_with fail
                        go_quiet (fail)
                        have hfq2 : Aside (FC [] w4 (wr.drewN nq)) := ⟨hfq.out.trans (FC.of (pw_below_drewN (Below.refl _ _) nq))⟩
                        generalize wr.drewN nq = wr2 at *
                        clear q30 z3 z7
                        go_wp2_with fail
                        go_roundg (gk - 1)
                        case measure => have := HJL.out; have := HJK.out; omega
                        case rel => exact ⟨j + 1, by have := HJL.out; have := HJK.out; omega, by go_num, hfq2⟩
                      · have hje : j = sl.length := by omega
                        subst hje
                        clear hjl hj t30
                        go_wp2_with fail
                        have hfz := hfq.out
                        have hlow := HLow.out
                        obtain ⟨hLO, hLO40, hTL, hTBlt0⟩ := HLO.out
                        have hLz := (hfz.block LB (Array.getElem?_eq_some_iff.1 hLO).1 (by simp)).trans hLO
                        have hTz := (hfz.block TB hTBlt0 (by simp)).trans HT4.out
                        have hTBlt : TB < wr.heap.size := (Array.getElem?_eq_some_iff.1 hTz).1
                        have hJz := HJ4.out.of_fc0 hfz
                        have hFz := R_fcG HR4.out hfz (by simp)
                        have hbz := below_fc (below_fc HBe3.out HF4.out (by simp)) hfz (by simp)
                        have hIz := HIz.out
                        have hk12 : LL.toArray[12]? = some (.int .i64 8) := by rw [List.getElem?_toArray, HL12.out, hk]
                        obtain ⟨hn, hm, hn3, hfl⟩ := HNum.out
                        let W : Array Bool → World → Prop := fun listed w' => FC [LB] wr w' ∧ w'.heap[LB]? = some (.cells (if listed.getD 4 false = true then LL else LO).toArray 57 (0, 0))
                        have hkeep : ∀ listed w' i, i < listed.size → i ≠ 4 → W listed w' → W (listed.setIfInBounds i true) w' := fun listed w' i hi hne hW => by
                          refine ⟨hW.1, ?_⟩
                          rw [getD_set _ _ _ _ _ hi, if_neg (Ne.symm hne)]
                          exact hW.2
                        refine wp_region_conf (by kernel_rfl) (fun i => ([(.agg LL.toArray), (.pointer (some ⟨TB, 12, none⟩)), (.pointer (some ⟨TB, 12, none⟩)), (.int .i64 8), undef, (.int .i64 8)] : List Value).getD i undef) W (by kernel_rfl) ?h0 ?hex ?hfin
                        case h0 => exact ⟨(FC.refl _ _).drew, by rw [if_neg (by simp)]; exact hLz⟩
                        case hex =>
                          intro i o listed a w' ho hs hn hp hd hW
                          have hi : i < 6 := (Array.getElem?_eq_some_iff.1 ho).1
                          have hs6 : listed.size = 6 := hs
                          have hil : i < listed.size := by omega
                          have hcase : i = 0 ∨ i = 1 ∨ i = 2 ∨ i = 3 ∨ i = 4 ∨ i = 5 := by omega
                          rcases hcase with rfl | rfl | rfl | rfl | rfl | rfl
                          all_goals
                            simp only [List.getElem?_toArray, List.getElem?_cons_succ, List.getElem?_cons_zero, Option.some.injEq] at ho
                            subst ho
                            refine ⟨rfl, ?_⟩
                          · have e16 := hd.base 16 (.pointer (some ⟨TB, 0, none⟩)) (by kernel_rfl) rfl
                            exact wp_load_mid 57 (.tmp 16) rfl TB 0 e16 LL _ (range_row ((hW.1.block TB hTBlt (by simpa using hTL)).trans hTz)) Try.underlying57 rfl (by rw [hl40.out]; kernel_rfl) ⟨rfl, hkeep listed w' 0 hil (by decide) hW⟩
                          · have e16 := hd.base 16 (.pointer (some ⟨TB, 0, none⟩)) (by kernel_rfl) rfl
                            exact wp_val ((.pointer (some ⟨TB, 12, none⟩))) (by simp only [execOp, e16]; simp [go_sem]) ⟨rfl, hkeep listed w' 1 hil (by decide) hW⟩
                          · have l1 := hp { on := 1, ground := Ground.data } (by simp) rfl
                            have e154 : a.eval (.tmp 154) = (.pointer (some ⟨TB, 12, none⟩)) := hd.ev 1 154 rfl l1
                            exact wp_val ((.pointer (some ⟨TB, 12, none⟩))) (by simp only [execOp, e154]; simp [go_sem]) ⟨rfl, hkeep listed w' 2 hil (by decide) hW⟩
                          · have l2 := hp { on := 2, ground := Ground.data } (by simp) rfl
                            have e155 : a.eval (.tmp 155) = (.pointer (some ⟨TB, 12, none⟩)) := hd.ev 2 155 rfl l2
                            have ht12 : w'.cell? ⟨TB, 12, none⟩ = some (.int .i64 8) := by rw [cell_of_row _ _ _ _ _ _ ((hW.1.block TB hTBlt (by simpa using hTL)).trans hTz)]; exact hk12
                            exact wp_val ((.int .i64 8)) (by simp only [execOp, e155]; simp [go_sem, ht12]) ⟨rfl, hkeep listed w' 3 hil (by decide) hW⟩
                          · have e8 := hd.base 8 (.pointer (some ⟨LB, 0, none⟩)) (by kernel_rfl) rfl
                            have l0 := hp { on := 0, ground := Ground.data } (by simp) rfl
                            have e153 : a.eval (.tmp 153) = (.agg LL.toArray) := hd.ev 0 153 rfl l0
                            have h0 := hW.2
                            rw [hn, if_neg (by simp)] at h0
                            refine wp_store_mid 57 (.tmp 8) (.tmp 153) rfl LB 0 LL.toArray e8 e153 (there_row h0 _ (by rw [List.size_toArray, List.size_toArray, hl40.out, hLO40])) (by rw [List.size_toArray, hl40.out]; kernel_rfl) HL1.out ⟨rfl, FC.setCells (.inl (by simp)) _ _ _ hW.1, ?_⟩
                            rw [getD_set _ _ _ _ _ hil, if_pos rfl, if_pos rfl]
                            exact fill_row h0 LL (by rw [List.size_toArray, hLO40, hl40.out])
                          · have l3 := hp { on := 3, ground := Ground.data } (by simp) rfl
                            have e156 : a.eval (.tmp 156) = (.int .i64 8) := hd.ev 3 156 rfl l3
                            have l4 := hp { on := 4, ground := Ground.chain } (by simp) rfl
                            exact wp_val ((.int .i64 8)) (by simp only [execOp, e156]; simp [go_sem]) ⟨rfl, hkeep listed w' 5 hil (by decide) hW⟩
                        case hfin =>
                          intro listed a w5 hs hall hd hW
                          have h4 := hW.2
                          rw [hall 4 (by decide), if_pos rfl] at h4
                          have hF5 := hW.1
                          rw [hd.full (md := .any) (fits_of (by kernel_rfl)) hall]
                          clear hd hall hs hW hkeep W
                          simp only [List.size_toArray, List.length_cons, List.length_nil, Nat.reduceAdd, fill, List.getElem?_toArray, List.getElem?_cons_succ, List.getElem?_cons_zero, Option.bind_some, List.setIfInBounds_toArray, List.set_cons_succ, List.set_cons_zero, List.getD_cons_succ, List.getD_cons_zero]
                          have hJ5 := hJz.of_typed hF5 hLz (by decide) hlow.2.2.2
                          have hR5 : Kd.R Kd.string 9 w5 base (fun _ => True) (.slice A7 sl.length c7) sl := R_fcT hFz hF5 hLz (by intro q hq; have : q = 9 := (by simpa [Kd.string, Kd.scalar] using hq); omega)
                          have hO5 : Aside (OR w w5 P M Q base LB (i + 1) fr tg imp (.slice A7 sl.length c7)) := ⟨⟨below_fc hbz hF5 (by have h1 := hlow; have h2 := hJz.hP; have h3 : w.heap.size ≤ LB := (by omega); simpa using h3), hlow, n3, _, c, sl, cl, sl, s.group, s.num, hJ5, by omega, by show s.num ≤ _; omega, hR5, hfl, ⟨LL, h4, hl40.out, HL3.out, HL14.out⟩, hIz⟩⟩
                          clear h4 hF5 hJ5 hR5
                          go_wp2_with fail
                          go_roundg 0
                          case measure => omega
                          case rel => exact .inr ⟨rfl, by rw [hk], by go_num, hO5⟩
            · go_wp2_with fail
              go_roundg (gko - 1)
              case measure => have := HIK.out; have := HLT.out; omega
              case rel => exact ⟨i + 1, s.cmd.kind, imp, fr, tg, by have := HIK.out; have := HLT.out; omega, rfl, rfl, rfl, rfl, by go_num, hR2⟩
      · skip
        generalize gk = gko at *
        obtain ⟨n, s, c, sl, cl, fl, lg, ln, hJ, hn, hm, hF, hfl, hL, hI⟩ := HRa.out.st
        have hSt := Aside.mk (T.Stage Q ⟨P, 0, none⟩ c wa hJ.ctl)
        by_cases hk : kind = 0
        · subst hk
          have hR6 : Aside (OR w wa P M Q base LB (i + 1) fr tg imp u7) := ⟨HRa.out.mono (by omega)⟩
          clear hJ hF hL hI hn hm hfl
          go_wp2_with fail
          go_roundg (gko - 1)
          case measure => have := HIK.out; have := HLT.out; omega
          case rel => exact ⟨i + 1, 0, imp, fr, tg, by have := HIK.out; have := HLT.out; omega, rfl, rfl, rfl, rfl, by go_num, hR6⟩
        · by_cases hs0 : c.stage = 0
          · rw [hs0] at hSt
            have hR6 : Aside (OR w wa P M Q base LB (i + 1) fr tg imp u7) := ⟨HRa.out.mono (by omega)⟩
            clear hJ hF hL hI hn hm hfl
            go_wp2_with (go_at_call 12; refine hSt.out.mono ?_; rintro e w' ⟨rfl, hw⟩; subst w')
            go_roundg (gko - 1)
            case measure => have := HIK.out; have := HLT.out; omega
            case rel => exact ⟨i + 1, kind, imp, fr, tg, by have := HIK.out; have := HLT.out; omega, rfl, rfl, rfl, rfl, by go_num, hR6⟩
          · obtain ⟨hid, hcf, hct, hln0, hlnn, hst⟩ := hI
            rcases hst with ⟨hx, _⟩ | ⟨hb, hcn, hlg, hst⟩
            · exact absurd hx hs0
            have y0 : World.cell? wa ⟨AB, 0, none⟩ = some (.int .i64 1) := by rw [cell_of_row _ _ _ _ _ _ HAB.out]; rfl
            have y1 : World.cell? wa ⟨AB, 1, none⟩ = some (.int .i64 af) := by rw [cell_of_row _ _ _ _ _ _ HAB.out]; rfl
            have y2 : World.cell? wa ⟨AB, 2, none⟩ = some (.int .i64 at') := by rw [cell_of_row _ _ _ _ _ _ HAB.out]; rfl
            have y3 : World.cell? wa ⟨AB, 3, none⟩ = some (.int .i64 er) := by rw [cell_of_row _ _ _ _ _ _ HAB.out]; rfl
            have y4 : World.cell? wa ⟨AB, 4, none⟩ = some (.bool own) := by rw [cell_of_row _ _ _ _ _ _ HAB.out]; rfl
            have y5 : World.cell? wa ⟨AB, 5, none⟩ = some (.int .i64 lo) := by rw [cell_of_row _ _ _ _ _ _ HAB.out]; rfl
            have y6 : World.cell? wa ⟨AB, 6, none⟩ = some (.int .i64 hi) := by rw [cell_of_row _ _ _ _ _ _ HAB.out]; rfl
            have y7 : World.cell? wa ⟨AB, 7, none⟩ = some (.slice Ad dl.length cd) := by rw [cell_of_row _ _ _ _ _ _ HAB.out]; rfl
            obtain ⟨LO, hLO, hLO40, ho3, ho14⟩ := hL
            have o3 : wa.cell? ⟨LB, 3, none⟩ = some (.int .i64 lg) := by rw [cell_of_row _ _ _ _ _ _ hLO]; simpa using ho3
            have o14 : wa.cell? ⟨LB, 14, none⟩ = some (.int .i64 ln) := by rw [cell_of_row _ _ _ _ _ _ hLO]; simpa using ho14
            have HJ := Aside.mk hJ
            have HNum := Aside.mk (And.intro hn (And.intro hm (And.intro hfl HRa.out.hlow)))
            have HF := Aside.mk hF
            have HLO := Aside.mk (And.intro hLO (And.intro hLO40 (And.intro ho3 ho14)))
            have HI := Aside.mk (And.intro hid (And.intro hcf (And.intro hct (And.intro hln0 (And.intro hlnn (And.intro hb (And.intro hcn (And.intro hlg hst))))))))
            clear hJ hn hm hF hfl hLO hLO40 ho3 ho14 hid hcf hct hln0 hlnn hb hcn hlg hst
            have hs0b : (c.stage == 0) = false := by simpa using hs0
            have hs0d : decide (c.stage = 0) = false := by simpa using hs0
            go_wp2_with (go_at_call 12; refine hSt.out.mono ?_; rintro e w' ⟨rfl, hw⟩; subst w')
            clear hs0b hs0d
            have hp := T.packet 1 af at' er lo hi 5 lg ln own Ad cd dl wa HCa.out.1 HCa.out.2
            simp only [actV] at hp
            refine hp.mono ?_
            rintro e w3 ⟨d, rfl, hrd, hb3⟩
            obtain ⟨dq, hdq⟩ : ∃ dq, dq = dl.take 8 := ⟨_, rfl⟩
            rw [← hdq] at hrd
            have hdq8 : dq.length ≤ 8 := by rw [hdq, List.length_take]; omega
            clear hdq
            obtain ⟨PL, hPL⟩ : ∃ PL : List Value, PL = (if own = true then packV (wrap64 (-5)) lg 5 ln er at' d else packV af at' af at' er at' d).toList := ⟨_, rfl⟩
            have hPLe : (if own = true then packV (wrap64 (-5)) lg 5 ln er at' d else packV af at' af at' er at' d) = PL.toArray := by rw [hPL]
            rw [hPLe]
            have HP40 := Aside.mk (show PL.length = 40 by rw [hPL]; cases own <;> rfl)
            have HPL1 := Aside.mk (show (PL.toArray.all (·.oneCell')) = true by
              obtain ⟨A3, c3, hd, _⟩ := Kd.R_reads hrd
              rw [hPL, hd]; cases own <;> simp [packV, Value.oneCell'])
            have HPL := Aside.mk hPL
            have hf3 : FC [] wa w3 := FC.of hb3
            have HF3 := Aside.mk hf3
            have HRd := Aside.mk hrd
            clear hPL hPLe hrd hb3 hp hf3 y0 y1 y2 y3 y4 y5 y6 y7 o3 o14
            go_wp2_with (with_reducible refine halt_at (.store 57 (.tmp 19) (.tmp 175)) rfl ?_)
            refine ⟨?_⟩
            have HBO := box_of w3 57 #[.int .i64 0, .int .i64 0, .int .i64 0, .int .i64 0, .int .i64 0, .int .i64 0, .int .i64 0, .int .i64 0, .int .i64 0, .int .i64 0, .slice none 0 0, .slice none 0 0, .int .i64 0, .int .i64 0, .int .i64 0, .int .i64 0, .int .i64 0, .string ⟨#[]⟩, .string ⟨#[]⟩, .string ⟨#[]⟩, .string ⟨#[]⟩, .int .i64 0, .int .i64 0, .int .i64 0, .string ⟨#[]⟩, .int .i64 0, .int .i64 0, .int .i64 0, .int .i64 0, .int .i64 0, .slice none 0 0, .int .i64 0, .int .i64 0, .int .i64 0, .slice none 0 0, .slice none 0 0, .slice none 0 0, .int .i64 0, .slice none 0 0, .slice none 0 0] PL (by rw [HP40.out]; rfl)
            refine wpList_store_mid rfl 57 (.tmp 19) (.tmp 175) rfl w3.heap.size 0 PL.toArray rfl rfl (by rw [List.size_toArray]; exact HBO.2.2.1) (by rw [List.size_toArray, HP40.out]; kernel_rfl) HPL1.out ?_
            have hT4 : ((w3.alloc (.cells #[.int .i64 0, .int .i64 0, .int .i64 0, .int .i64 0, .int .i64 0, .int .i64 0, .int .i64 0, .int .i64 0, .int .i64 0, .int .i64 0, .slice none 0 0, .slice none 0 0, .int .i64 0, .int .i64 0, .int .i64 0, .int .i64 0, .int .i64 0, .string ⟨#[]⟩, .string ⟨#[]⟩, .string ⟨#[]⟩, .string ⟨#[]⟩, .int .i64 0, .int .i64 0, .int .i64 0, .string ⟨#[]⟩, .int .i64 0, .int .i64 0, .int .i64 0, .int .i64 0, .int .i64 0, .slice none 0 0, .int .i64 0, .int .i64 0, .int .i64 0, .slice none 0 0, .slice none 0 0, .slice none 0 0, .int .i64 0, .slice none 0 0, .slice none 0 0] 57)).setCells w3.heap.size 0 PL).heap[w3.heap.size]? = some (.cells PL.toArray 57 (0, 0)) := HBO.1
            have hf4 : FC [] w3 ((w3.alloc (.cells #[.int .i64 0, .int .i64 0, .int .i64 0, .int .i64 0, .int .i64 0, .int .i64 0, .int .i64 0, .int .i64 0, .int .i64 0, .int .i64 0, .slice none 0 0, .slice none 0 0, .int .i64 0, .int .i64 0, .int .i64 0, .int .i64 0, .int .i64 0, .string ⟨#[]⟩, .string ⟨#[]⟩, .string ⟨#[]⟩, .string ⟨#[]⟩, .int .i64 0, .int .i64 0, .int .i64 0, .string ⟨#[]⟩, .int .i64 0, .int .i64 0, .int .i64 0, .int .i64 0, .int .i64 0, .slice none 0 0, .int .i64 0, .int .i64 0, .int .i64 0, .slice none 0 0, .slice none 0 0, .slice none 0 0, .int .i64 0, .slice none 0 0, .slice none 0 0] 57)).setCells w3.heap.size 0 PL) := HBO.2.1
            clear HBO
            dsimp only at hT4 hf4 ⊢
            obtain ⟨PB, hPB⟩ : ∃ PB, PB = w3.heap.size := ⟨_, rfl⟩
            rw [← hPB] at hT4 hf4 ⊢
            generalize World.setCells (World.alloc w3 _) _ _ _ = w4 at hT4 hf4 ⊢
            have hfa4 : FC [] wa w4 := HF3.out.trans hf4
            have hLO4 := (hfa4.block LB (Array.getElem?_eq_some_iff.1 HLO.out.1).1 (by simp)).trans HLO.out.1
            have HPBb := Aside.mk (show base ≤ PB ∧ LB ≠ PB ∧ wa.heap.size ≤ PB by have h1 := HF3.out.size; have h2 := HJ.out.hbase; have h3 := (Array.getElem?_eq_some_iff.1 HLO.out.1).1; omega)
            have hLc3 : ∀ w', FC [PB] w4 w' → w'.cell? ⟨LB, 3, none⟩ = some (.int .i64 lg) := fun w' hf => by
              rw [cell_of_row _ _ _ _ _ _ ((hf.block LB (Array.getElem?_eq_some_iff.1 hLO4).1 (by simpa using HPBb.out.2.1)).trans hLO4)]; simpa using HLO.out.2.2.1
            have hLc14 : ∀ w', FC [PB] w4 w' → w'.cell? ⟨LB, 14, none⟩ = some (.int .i64 ln) := fun w' hf => by
              rw [cell_of_row _ _ _ _ _ _ ((hf.block LB (Array.getElem?_eq_some_iff.1 hLO4).1 (by simpa using HPBb.out.2.1)).trans hLO4)]; simpa using HLO.out.2.2.2
            have HF4 := Aside.mk hf4
            have HFA := Aside.mk hfa4
            have HT4 := Aside.mk hT4
            clear hf4 hfa4 hLO4 hPB
            go_wp2_with fail
            obtain ⟨tab, htab⟩ : ∃ tab : List (Nat × Nat × Value), tab = [(6, 2, .int .i64 (-5)), (8, 3, .int .i64 lg), (11, 13, .int .i64 5), (14, 14, .int .i64 ln)] := ⟨_, rfl⟩
            let W : Array Bool → World → Prop := fun listed w' => FC [PB] w4 w' ∧ CellsF w' PB 57 (stF (fun k => PL.toArray[k]?) listed tab)
            have hkeep : ∀ listed w' i, i < listed.size → i ≠ 6 ∧ i ≠ 8 ∧ i ≠ 11 ∧ i ≠ 14 → W listed w' → W (listed.setIfInBounds i true) w' := fun listed w' i hi hne hW => by
              refine ⟨hW.1, hW.2.congr (fun k => (stF_keep hi tab (fun e he => ?_) k).symm)⟩
              rw [htab] at he
              simp at he
              rcases he with rfl | rfl | rfl | rfl
              · exact hne.1.symm
              · exact hne.2.1.symm
              · exact hne.2.2.1.symm
              · exact hne.2.2.2.symm
            refine wp_region_conf (by kernel_rfl) (fun i => ([(.pointer (some ⟨LB, 3, none⟩)), (.int .i64 lg), (.pointer (some ⟨LB, 12, none⟩)), (.pointer (some ⟨LB, 14, none⟩)), (.int .i64 ln), (.pointer (some ⟨PB, 2, none⟩)), undef, (.pointer (some ⟨PB, 3, none⟩)), undef, (.pointer (some ⟨PB, 12, none⟩)), (.pointer (some ⟨PB, 13, none⟩)), undef, (.pointer (some ⟨PB, 12, none⟩)), (.pointer (some ⟨PB, 14, none⟩)), undef] : List Value).getD i undef) W (by kernel_rfl) ?h0 ?hex ?hfin
            case h0 => exact ⟨(FC.refl _ _).drew, ((CellsF.of_row hT4).of_heap (w' := w4.drew) rfl).congr (fun k => (stF_start _ tab k).symm)⟩
            case hex =>
              intro i o listed a w' ho hs hn hp hd hW
              have hi : i < 15 := (Array.getElem?_eq_some_iff.1 ho).1
              have hs15 : listed.size = 15 := hs
              have hil : i < listed.size := by omega
              have hcase : i = 0 ∨ i = 1 ∨ i = 2 ∨ i = 3 ∨ i = 4 ∨ i = 5 ∨ i = 6 ∨ i = 7 ∨ i = 8 ∨ i = 9 ∨ i = 10 ∨ i = 11 ∨ i = 12 ∨ i = 13 ∨ i = 14 := by omega
              rcases hcase with rfl | rfl | rfl | rfl | rfl | rfl | rfl | rfl | rfl | rfl | rfl | rfl | rfl | rfl | rfl
              all_goals
                simp only [List.getElem?_toArray, List.getElem?_cons_succ, List.getElem?_cons_zero, Option.some.injEq] at ho
                subst ho
                refine ⟨rfl, ?_⟩
              · have e8 := hd.base 8 (.pointer (some ⟨LB, 0, none⟩)) (by kernel_rfl) rfl
                exact wp_val ((.pointer (some ⟨LB, 3, none⟩))) (by simp only [execOp, e8]; simp [go_sem]) ⟨rfl, hkeep listed w' 0 hil (by decide) hW⟩
              · have l0 := hp { on := 0, ground := Ground.data } (by simp) rfl
                have e176 : a.eval (.tmp 176) = (.pointer (some ⟨LB, 3, none⟩)) := hd.ev 0 176 rfl l0
                have hl3 := hLc3 w' hW.1
                exact wp_val ((.int .i64 lg)) (by simp only [execOp, e176]; simp [go_sem, hl3]) ⟨rfl, hkeep listed w' 1 hil (by decide) hW⟩
              · have e8 := hd.base 8 (.pointer (some ⟨LB, 0, none⟩)) (by kernel_rfl) rfl
                exact wp_val ((.pointer (some ⟨LB, 12, none⟩))) (by simp only [execOp, e8]; simp [go_sem]) ⟨rfl, hkeep listed w' 2 hil (by decide) hW⟩
              · have l2 := hp { on := 2, ground := Ground.data } (by simp) rfl
                have e178 : a.eval (.tmp 178) = (.pointer (some ⟨LB, 12, none⟩)) := hd.ev 2 178 rfl l2
                exact wp_val ((.pointer (some ⟨LB, 14, none⟩))) (by simp only [execOp, e178]; simp [go_sem]) ⟨rfl, hkeep listed w' 3 hil (by decide) hW⟩
              · have l3 := hp { on := 3, ground := Ground.data } (by simp) rfl
                have e179 : a.eval (.tmp 179) = (.pointer (some ⟨LB, 14, none⟩)) := hd.ev 3 179 rfl l3
                have hl14 := hLc14 w' hW.1
                exact wp_val ((.int .i64 ln)) (by simp only [execOp, e179]; simp [go_sem, hl14]) ⟨rfl, hkeep listed w' 4 hil (by decide) hW⟩
              · have e19 := hd.base 19 (.pointer (some ⟨PB, 0, none⟩)) (by kernel_rfl) rfl
                exact wp_val ((.pointer (some ⟨PB, 2, none⟩))) (by simp only [execOp, e19]; simp [go_sem]) ⟨rfl, hkeep listed w' 5 hil (by decide) hW⟩
              · have l5 := hp { on := 5, ground := Ground.data } (by simp) rfl
                have e181 : a.eval (.tmp 181) = (.pointer (some ⟨PB, 2, none⟩)) := hd.ev 5 181 rfl l5
                have hsome : (stF (fun k => PL.toArray[k]?) listed tab 2).isSome = true := stF_some (by rw [List.getElem?_toArray, List.getElem?_eq_getElem (show 2 < PL.length by rw [HP40.out]; decide)]; rfl) tab
                obtain ⟨x, hx⟩ := Option.isSome_iff_exists.1 hsome
                have hc := (hW.2.cell 2).trans hx
                have hf := hW.2.froz 2
                refine wp_skip (w2 := w'.setCell ⟨PB, 2, none⟩ (.int .i64 (-5))) (by simp only [execOp, e181]; simp [go_sem, hc, hf]) ⟨rfl, hW.1.setCell (p := ⟨PB, 2, none⟩) (.inl (by simp)) _, ?_⟩
                exact (hW.2.set 2 (.int .i64 (-5)) hsome).congr (fun k => (stF_at hil tab (by rw [htab]; simp) (by rw [htab]; simp) k).symm)
              · have e19 := hd.base 19 (.pointer (some ⟨PB, 0, none⟩)) (by kernel_rfl) rfl
                exact wp_val ((.pointer (some ⟨PB, 3, none⟩))) (by simp only [execOp, e19]; simp [go_sem]) ⟨rfl, hkeep listed w' 7 hil (by decide) hW⟩
              · have l7 := hp { on := 7, ground := Ground.data } (by simp) rfl
                have e182 : a.eval (.tmp 182) = (.pointer (some ⟨PB, 3, none⟩)) := hd.ev 7 182 rfl l7
                have l1 := hp { on := 1, ground := Ground.data } (by simp) rfl
                have e177 : a.eval (.tmp 177) = (.int .i64 lg) := hd.ev 1 177 rfl l1
                have l6 := hp { on := 6, ground := Ground.chain } (by simp) rfl
                have hsome : (stF (fun k => PL.toArray[k]?) listed tab 3).isSome = true := stF_some (by rw [List.getElem?_toArray, List.getElem?_eq_getElem (show 3 < PL.length by rw [HP40.out]; decide)]; rfl) tab
                obtain ⟨x, hx⟩ := Option.isSome_iff_exists.1 hsome
                have hc := (hW.2.cell 3).trans hx
                have hf := hW.2.froz 3
                refine wp_skip (w2 := w'.setCell ⟨PB, 3, none⟩ (.int .i64 lg)) (by simp only [execOp, e182, e177]; simp [go_sem, hc, hf]) ⟨rfl, hW.1.setCell (p := ⟨PB, 3, none⟩) (.inl (by simp)) _, ?_⟩
                exact (hW.2.set 3 (.int .i64 lg) hsome).congr (fun k => (stF_at hil tab (by rw [htab]; simp) (by rw [htab]; simp) k).symm)
              · have e19 := hd.base 19 (.pointer (some ⟨PB, 0, none⟩)) (by kernel_rfl) rfl
                exact wp_val ((.pointer (some ⟨PB, 12, none⟩))) (by simp only [execOp, e19]; simp [go_sem]) ⟨rfl, hkeep listed w' 9 hil (by decide) hW⟩
              · have l9 := hp { on := 9, ground := Ground.data } (by simp) rfl
                have e183 : a.eval (.tmp 183) = (.pointer (some ⟨PB, 12, none⟩)) := hd.ev 9 183 rfl l9
                exact wp_val ((.pointer (some ⟨PB, 13, none⟩))) (by simp only [execOp, e183]; simp [go_sem]) ⟨rfl, hkeep listed w' 10 hil (by decide) hW⟩
              · have l10 := hp { on := 10, ground := Ground.data } (by simp) rfl
                have e184 : a.eval (.tmp 184) = (.pointer (some ⟨PB, 13, none⟩)) := hd.ev 10 184 rfl l10
                have l8 := hp { on := 8, ground := Ground.chain } (by simp) rfl
                have hsome : (stF (fun k => PL.toArray[k]?) listed tab 13).isSome = true := stF_some (by rw [List.getElem?_toArray, List.getElem?_eq_getElem (show 13 < PL.length by rw [HP40.out]; decide)]; rfl) tab
                obtain ⟨x, hx⟩ := Option.isSome_iff_exists.1 hsome
                have hc := (hW.2.cell 13).trans hx
                have hf := hW.2.froz 13
                refine wp_skip (w2 := w'.setCell ⟨PB, 13, none⟩ (.int .i64 5)) (by simp only [execOp, e184]; simp [go_sem, hc, hf]) ⟨rfl, hW.1.setCell (p := ⟨PB, 13, none⟩) (.inl (by simp)) _, ?_⟩
                exact (hW.2.set 13 (.int .i64 5) hsome).congr (fun k => (stF_at hil tab (by rw [htab]; simp) (by rw [htab]; simp) k).symm)
              · have e19 := hd.base 19 (.pointer (some ⟨PB, 0, none⟩)) (by kernel_rfl) rfl
                exact wp_val ((.pointer (some ⟨PB, 12, none⟩))) (by simp only [execOp, e19]; simp [go_sem]) ⟨rfl, hkeep listed w' 12 hil (by decide) hW⟩
              · have l12 := hp { on := 12, ground := Ground.data } (by simp) rfl
                have e185 : a.eval (.tmp 185) = (.pointer (some ⟨PB, 12, none⟩)) := hd.ev 12 185 rfl l12
                exact wp_val ((.pointer (some ⟨PB, 14, none⟩))) (by simp only [execOp, e185]; simp [go_sem]) ⟨rfl, hkeep listed w' 13 hil (by decide) hW⟩
              · have l13 := hp { on := 13, ground := Ground.data } (by simp) rfl
                have e186 : a.eval (.tmp 186) = (.pointer (some ⟨PB, 14, none⟩)) := hd.ev 13 186 rfl l13
                have l4 := hp { on := 4, ground := Ground.data } (by simp) rfl
                have e180 : a.eval (.tmp 180) = (.int .i64 ln) := hd.ev 4 180 rfl l4
                have l11 := hp { on := 11, ground := Ground.chain } (by simp) rfl
                have hsome : (stF (fun k => PL.toArray[k]?) listed tab 14).isSome = true := stF_some (by rw [List.getElem?_toArray, List.getElem?_eq_getElem (show 14 < PL.length by rw [HP40.out]; decide)]; rfl) tab
                obtain ⟨x, hx⟩ := Option.isSome_iff_exists.1 hsome
                have hc := (hW.2.cell 14).trans hx
                have hf := hW.2.froz 14
                refine wp_skip (w2 := w'.setCell ⟨PB, 14, none⟩ (.int .i64 ln)) (by simp only [execOp, e186, e180]; simp [go_sem, hc, hf]) ⟨rfl, hW.1.setCell (p := ⟨PB, 14, none⟩) (.inl (by simp)) _, ?_⟩
                exact (hW.2.set 14 (.int .i64 ln) hsome).congr (fun k => (stF_at hil tab (by rw [htab]; simp) (by rw [htab]; simp) k).symm)
            case hfin =>
              intro listed a w5 hs hall hd hW
              have hrow5 : w5.heap[PB]? = some (.cells (packV (-5) lg 5 ln er at' d) 57 (0, 0)) := hW.2.row _ (fun k => by
                rw [stF_all tab (fun e he => by rw [htab] at he; simp at he; rcases he with rfl | rfl | rfl | rfl; exact hall 6 (by decide); exact hall 8 (by decide); exact hall 11 (by decide); exact hall 14 (by decide)), htab]
                simp only [List.foldr]
                rw [if_set _ 14 _ _ (by rw [List.size_toArray, HP40.out]; decide), if_set _ 13 _ _ (by rw [Array.size_setIfInBounds, List.size_toArray, HP40.out]; decide), if_set _ 3 _ _ (by rw [Array.size_setIfInBounds, Array.size_setIfInBounds, List.size_toArray, HP40.out]; decide), if_set _ 2 _ _ (by rw [Array.size_setIfInBounds, Array.size_setIfInBounds, Array.size_setIfInBounds, List.size_toArray, HP40.out]; decide), HPL.out]
                cases own <;> rfl)
              have hF5 := hW.1
              rw [hd.full (md := .any) (fits_of (by kernel_rfl)) hall]
              clear hd hall hs hW hkeep W htab tab hLc3 hLc14
              simp only [List.size_toArray, List.length_cons, List.length_nil, Nat.reduceAdd, fill, List.getElem?_toArray, List.getElem?_cons_succ, List.getElem?_cons_zero, Option.bind_some, List.setIfInBounds_toArray, List.set_cons_succ, List.set_cons_zero, List.getD_cons_succ, List.getD_cons_zero]
              have HRow5 := Aside.mk hrow5
              have hJ5 : CJ w5 P M Q base n s c sl cl := (HJ.out.of_fc0 HFA.out).of_typed hF5 HT4.out (by decide) HPBb.out.1
              have hns : ∀ q ∈ 9 :: Kd.string.E, q ≠ 57 := fun q hq => by have : q = 9 := (by simpa [Kd.string, Kd.scalar] using hq); omega
              have hR5d : Kd.R Kd.string 9 w5 base (fun _ => True) d dq := R_fcT (R_fcG (Kd.R_lower HRd.out HJ.out.hbase) HF4.out (by simp)) hF5 HT4.out hns
              have hFz : Kd.R Kd.string 9 w5 base (fun _ => True) u7 fl := R_fcT (R_fcG HF.out HFA.out (by simp)) hF5 HT4.out hns
              have hL5 : LBox w5 LB lg ln := ⟨LO, (hF5.block LB (Nat.lt_of_lt_of_le (Array.getElem?_eq_some_iff.1 HLO.out.1).1 HFA.out.size) (by simpa using HPBb.out.2.1)).trans ((HFA.out.block LB (Array.getElem?_eq_some_iff.1 HLO.out.1).1 (by simp)).trans HLO.out.1), HLO.out.2⟩
              have hb5 : Below w.heap.size w w5 := below_fc (below_fc HRa.out.bel HFA.out (by simp)) hF5 (by have h1 := HPBb.out; have h2 := HRa.out.bel.size; simp; omega)
              have HC5 := Aside.mk (And.intro hJ5 (And.intro hR5d (And.intro hFz (And.intro hL5 hb5))))
              clear hJ5 hR5d hFz hL5 hb5 hF5 hrow5 HRd HF4 HT4 HF HLO HFA hT4 hns
              go_wp2_with (with_reducible refine halt_at (.load 57 (.tmp 19)) rfl ?_)
              refine ⟨?_⟩
              refine wpList_load_mid rfl 57 (.tmp 19) rfl PB 0 rfl (packV (-5) lg 5 ln er at' d).toList _ (range_row HRow5.out) Try.underlying57 rfl (by kernel_rfl) ?_
              go_wp2_with fail
              obtain ⟨hJ5, hR5d, hF5, hL5, hb5⟩ := HC5.out
              obtain ⟨hn, hm, hfl, hlow⟩ := HNum.out
              obtain ⟨hid, hcf, hct, hln0, hlnn, hb, hcn, hlg, hst⟩ := HI.out
              have hrow5 := HRow5.out
              have hP := hJ5.hP
              have hM := hJ5.hM
              have hQ := hJ5.hQ
              obtain ⟨A9, c9, hd9, _, hCd5⟩ := Kd.R_reads hR5d
              subst hd9
              have hAP := R_away (P := P) hR5d rfl hP
              have hdl8 : dq.length ≤ 1000 := by omega
              have hF5' := hrow5
              have hI5 : OInv s c sl cl fl lg ln fr tg imp := ⟨hid, hcf, hct, hln0, hlnn, .inr ⟨hb, hcn, hlg, hst⟩⟩
              clear HC5 HJ hSt hs0
              obtain ⟨id, nodes2, retry2, num, group, ⟨k0, k1, k2, k3, k4, k5, k6⟩, busy, sent, waited⟩ := s
              obtain ⟨stg, lo2, hi2, frc, tgc, data, ce, en⟩ := c
              dsimp only at hid hcf hct hlnn hb hcn hlg hst hm
              clear HI HNum
              have hcn2 := hcn.symm
              have hcf2 := hcf.symm
              have hct2 := hct.symm
              clear hcn hcf hct
              subst hid hcf2 hct2 hb hcn2
              rcases hst with ⟨hs1, hk, hg⟩ | ⟨hs1, hk, hg, hsl, hclf⟩ | ⟨hs1, hk, hg, htg, himp⟩ | ⟨hs1, hk, hg, hsl⟩
              all_goals subst hs1
              · as_aux_lemma =>
                  by_cases hln : ln = num
                  · have hlgg := hlg hln
                    by_cases he15 : er = 15
                    · subst he15
                      have hRv := T.RecvNot P M Q base n _ _ sl cl lg ln 15 at' A9 c9 dq w5 hJ5 rfl (by have := HI60.out; omega) (.inr ⟨hlgg, hln, rfl⟩) hCd5 hdl8 hAP
                      refine hRv.mono ?_
                      rintro e w6 ⟨rfl, n6, s6, hn6, hs6, hJ6, hf6⟩
                      have hR6 : Aside (OR w w6 P M Q base LB (i + 1) fr tg imp u7) := ⟨⟨below_fc hb5 (hf6.sub (S' := [P, M, Q]) (by simp)) (by simp; omega), hlow, n6, s6, _, sl, cl, fl, lg, ln, hJ6, by omega, by rcases hs6 with rfl | rfl <;> (show num ≤ _; omega), R_fcG hF5 (hf6.sub (S' := [P, M, Q]) (by simp)) (low3 (w' := w6) hJ5), hfl, hL5.of hf6 (by simp; omega), by rcases hs6 with rfl | rfl <;> exact hI5⟩⟩
                      have hSt6 := Aside.mk (T.Stage Q ⟨P, 0, none⟩ _ w6 hJ6.ctl)
                      clear hJ6 hf6 hn6 hs6
                      clear hRv hJ5 hF5' hR5d hL5 hF5 hb5 hCd5 hI5 hAP hln0 hlnn hlow hn hm hfl hP hM hQ
                      cases imp
                      · go_wp2_with (go_at_call 12; refine hSt6.out.mono ?_; rintro e w' ⟨rfl, hw⟩; subst w')
                        go_roundg (gko - 1)
                        case measure => have := HIK.out; have := HLT.out; omega
                        case rel => exact ⟨i + 1, kind, false, fr, tg, by have := HIK.out; have := HLT.out; omega, rfl, rfl, rfl, rfl, by go_num, hR6⟩
                      · go_wp2_with (go_at_call 12; refine hSt6.out.mono ?_; rintro e w' ⟨rfl, hw⟩; subst w')
                        go_roundg (gko - 1)
                        case measure => have := HIK.out; have := HLT.out; omega
                        case rel => exact ⟨i + 1, kind, true, fr, tg, by have := HIK.out; have := HLT.out; omega, rfl, rfl, rfl, rfl, by go_num, hR6⟩
                    · subst hlgg
                      subst hln
                      have hRv := T.RecvAns P M Q base n _ _ sl cl er at' A9 c9 dq w5 hJ5 rfl (.inl rfl) (by dsimp only; omega) (by simpa using he15) hCd5 hdl8 hAP
                      refine hRv.mono ?_
                      rintro e w6 ⟨rfl, n6, s6, c6, sl6, cl6, hn6, hNx, hJ6, hf6⟩
                      rcases hNx with ⟨h1, h2, hx3, hx4, hx5, hx6⟩ | ⟨h1, h2, ⟨d5, hx3⟩, ⟨d6, hx4⟩, hx5, hx6⟩ | ⟨h1, h2, ⟨d5, hx3⟩, ⟨d6, hx4⟩, hx5, hx6⟩ | ⟨h1, h2, ⟨d5, hx3⟩, ⟨d6, hx4⟩, hx5, hx6⟩ | ⟨h1, hx3, hx4, hx5, hx6⟩ | ⟨h1, hx3, hx4, hx5, hx6⟩
                      · have hx5s := hx5.symm
                        have hx6s := hx6.symm
                        clear hx5 hx6
                        subst hx3 hx4 hx5s hx6s
                        have hSt6 := Aside.mk (T.Stage Q ⟨P, 0, none⟩ _ w6 hJ6.ctl)
                        have hb6 := below_fc hb5 hf6 (by simp; omega)
                        have hF6 := R_fcG hF5 hf6 (low3 (w' := w6) hJ5)
                        have hL6 := hL5.of hf6 (by simp; omega)
                        have HX6 := Aside.mk (And.intro hJ6 (And.intro hb6 (And.intro hF6 hL6)))
                        have HQ6 := Aside.mk (And.intro hlow (And.intro hn (And.intro hm (And.intro hn6 (And.intro hfl (And.intro hln0 hlnn))))))
                        clear hJ6 hf6 hn6 hb6 hF6 hL6
                        clear hJ5 hF5' hR5d hL5 hF5 hb5 hCd5 hI5 hAP hln0 hlnn hlow hn hm hfl hP hM hQ hRv
                        cases imp
                        · go_wp2_with (go_at_call 12; refine hSt6.out.mono ?_; rintro e w' ⟨rfl, hw⟩; subst w')
                          obtain ⟨hlow, hn, hm, hn6, hfl, hln0, hlnn⟩ := HQ6.out
                          obtain ⟨hJ6, hb6, hF6, hL6⟩ := HX6.out
                          have hR6 : Aside (OR w w6 P M Q base LB (i + 1) fr tg false u7) := ⟨⟨hb6, hlow, n6, _, _, _, _, fl, lg, ln, hJ6, by omega, by dsimp only; omega, hF6, hfl, hL6, ⟨rfl, rfl, rfl, hln0, .inl rfl, .inl ⟨rfl, rfl, rfl⟩⟩⟩⟩
                          clear hJ6 hb6 hF6 hL6
                          go_roundg (gko - 1)
                          case measure => have := HIK.out; have := HLT.out; omega
                          case rel => exact ⟨i + 1, kind, false, fr, tg, by have := HIK.out; have := HLT.out; omega, rfl, rfl, rfl, rfl, by go_num, hR6⟩
                        · go_wp2_with (go_at_call 12; refine hSt6.out.mono ?_; rintro e w' ⟨rfl, hw⟩; subst w')
                          obtain ⟨hlow, hn, hm, hn6, hfl, hln0, hlnn⟩ := HQ6.out
                          obtain ⟨hJ6, hb6, hF6, hL6⟩ := HX6.out
                          have hR6 : Aside (OR w w6 P M Q base LB (i + 1) fr tg true u7) := ⟨⟨hb6, hlow, n6, _, _, _, _, fl, lg, ln, hJ6, by omega, by dsimp only; omega, hF6, hfl, hL6, ⟨rfl, rfl, rfl, hln0, .inl rfl, .inl ⟨rfl, rfl, rfl⟩⟩⟩⟩
                          clear hJ6 hb6 hF6 hL6
                          go_roundg (gko - 1)
                          case measure => have := HIK.out; have := HLT.out; omega
                          case rel => exact ⟨i + 1, kind, true, fr, tg, by have := HIK.out; have := HLT.out; omega, rfl, rfl, rfl, rfl, by go_num, hR6⟩
                      · have hx5s := hx5.symm
                        have hx6s := hx6.symm
                        clear hx5 hx6
                        subst hx3 hx4 hx5s hx6s
                        have hSt6 := Aside.mk (T.Stage Q ⟨P, 0, none⟩ _ w6 hJ6.ctl)
                        have hb6 := below_fc hb5 hf6 (by simp; omega)
                        have hF6 := R_fcG hF5 hf6 (low3 (w' := w6) hJ5)
                        have hL6 := hL5.of hf6 (by simp; omega)
                        have hD6 := R_fcG hR5d hf6 (low3 (w' := w6) hJ5)
                        have hPB6 := (hf6.block PB (Array.getElem?_eq_some_iff.1 hrow5).1 (by have := HPBb.out; simp; omega)).trans hrow5
                        have HX6 := Aside.mk (And.intro hJ6 (And.intro hb6 (And.intro hF6 (And.intro hL6 (And.intro hD6 hPB6)))))
                        have HQ6 := Aside.mk (And.intro hlow (And.intro hn (And.intro hm (And.intro hn6 (And.intro hfl (And.intro hln0 hlnn))))))
                        clear hJ6 hf6 hn6 hb6 hF6 hL6 hD6 hPB6
                        clear hJ5 hF5' hR5d hL5 hF5 hb5 hCd5 hI5 hAP hln0 hlnn hlow hn hm hfl hP hM hQ hRv
                        cases imp
                        · have p35 : w6.cell? ⟨PB, 35, none⟩ = some (.slice A9 dq.length c9) := by rw [cell_of_row _ _ _ _ _ _ HX6.out.2.2.2.2.2]; rfl
                          have hPB6l : PB < w6.heap.size := (Array.getElem?_eq_some_iff.1 HX6.out.2.2.2.2.2).1
                          have hPB6n : ¬ PB = w6.heap.size := by omega
                          go_wp2_with (first | (go_at_call 12; refine hSt6.out.mono ?_; rintro e w' ⟨rfl, hw⟩; subst w') | (with_reducible refine halt_at (.call { callee := .builtin .append, args := #[.tmp 197, .tmp 200], argTypes := #[24, 24] }) rfl ?_))
                          refine ⟨?_⟩
                          obtain ⟨hlow, hn, hm, hn6, hfl, hln0, hlnn⟩ := HQ6.out
                          obtain ⟨hJ6, hb6, hF6, hL6, hD6, hPB6⟩ := HX6.out
                          have hba : Below w6.heap.size w6 (w6.alloc (.cells #[] 9)) := (Below.refl _ _).alloc (Nat.le_refl _) _
                          refine wpList_appendS rfl (.tmp 197) (.tmp 200) rfl w6.heap.size (.slice (some ⟨w6.heap.size, 0, none⟩) 0 0) [] dq A9 dq.length c9 rfl rfl (emptyS w6) (Kd.C_below (Kd.R_reads' hD6).2.2 hba) (Nat.le_of_lt (by simp)) (by simp only [List.length_nil]; omega) (fun v7 w7 h7 hg7 => ?_)
                          rw [List.nil_append] at h7
                          have hf7 : FC [] w6 w7 := by
                            have h1 : FC [w6.heap.size] (w6.alloc (.cells #[] 9)) w7 := FC.grown hg7
                            exact ⟨h1.os, h1.tape, h1.output, Nat.le_trans hba.size h1.size, fun k hk _ => (h1.block k (Nat.lt_of_lt_of_le hk hba.size) (by simp; omega)).trans (hba.block k hk)⟩
                          have hR6 : Aside (OR w w7 P M Q base LB (i + 1) fr tg false v7) := ⟨⟨below_fc hb6 hf7 (by simp), hlow, n6, _, _, _, _, dq, lg, ln, hJ6.of_fc0 hf7, by omega, by dsimp only; omega, Kd.R_lower h7 hJ6.hbase, by omega, hL6.of hf7 (by simp), ⟨rfl, rfl, rfl, hln0, .inr (by first | rfl | (dsimp only; omega)), .inr ⟨rfl, rfl, fun e => by exfalso; dsimp only at e; omega, .inr (.inl ⟨rfl, rfl, rfl, rfl, rfl⟩)⟩⟩⟩⟩
                          clear hJ6 hb6 hF6 hL6 hD6 hPB6 hba h7 hg7 hf7 p35 hPB6l hPB6n hSt6
                          go_wp2_with fail
                          go_roundg (gko - 1)
                          case measure => have := HIK.out; have := HLT.out; omega
                          case rel => exact ⟨i + 1, kind, false, fr, tg, by have := HIK.out; have := HLT.out; omega, rfl, rfl, rfl, rfl, by go_num, hR6⟩
                        · have p35 : w6.cell? ⟨PB, 35, none⟩ = some (.slice A9 dq.length c9) := by rw [cell_of_row _ _ _ _ _ _ HX6.out.2.2.2.2.2]; rfl
                          have hPB6l : PB < w6.heap.size := (Array.getElem?_eq_some_iff.1 HX6.out.2.2.2.2.2).1
                          have hPB6n : ¬ PB = w6.heap.size := by omega
                          go_wp2_with (first | (go_at_call 12; refine hSt6.out.mono ?_; rintro e w' ⟨rfl, hw⟩; subst w') | (with_reducible refine halt_at (.call { callee := .builtin .append, args := #[.tmp 197, .tmp 200], argTypes := #[24, 24] }) rfl ?_))
                          refine ⟨?_⟩
                          obtain ⟨hlow, hn, hm, hn6, hfl, hln0, hlnn⟩ := HQ6.out
                          obtain ⟨hJ6, hb6, hF6, hL6, hD6, hPB6⟩ := HX6.out
                          have hba : Below w6.heap.size w6 (w6.alloc (.cells #[] 9)) := (Below.refl _ _).alloc (Nat.le_refl _) _
                          refine wpList_appendS rfl (.tmp 197) (.tmp 200) rfl w6.heap.size (.slice (some ⟨w6.heap.size, 0, none⟩) 0 0) [] dq A9 dq.length c9 rfl rfl (emptyS w6) (Kd.C_below (Kd.R_reads' hD6).2.2 hba) (Nat.le_of_lt (by simp)) (by simp only [List.length_nil]; omega) (fun v7 w7 h7 hg7 => ?_)
                          rw [List.nil_append] at h7
                          have hf7 : FC [] w6 w7 := by
                            have h1 : FC [w6.heap.size] (w6.alloc (.cells #[] 9)) w7 := FC.grown hg7
                            exact ⟨h1.os, h1.tape, h1.output, Nat.le_trans hba.size h1.size, fun k hk _ => (h1.block k (Nat.lt_of_lt_of_le hk hba.size) (by simp; omega)).trans (hba.block k hk)⟩
                          have hR6 : Aside (OR w w7 P M Q base LB (i + 1) fr tg true v7) := ⟨⟨below_fc hb6 hf7 (by simp), hlow, n6, _, _, _, _, dq, lg, ln, hJ6.of_fc0 hf7, by omega, by dsimp only; omega, Kd.R_lower h7 hJ6.hbase, by omega, hL6.of hf7 (by simp), ⟨rfl, rfl, rfl, hln0, .inr (by first | rfl | (dsimp only; omega)), .inr ⟨rfl, rfl, fun e => by exfalso; dsimp only at e; omega, .inr (.inl ⟨rfl, rfl, rfl, rfl, rfl⟩)⟩⟩⟩⟩
                          clear hJ6 hb6 hF6 hL6 hD6 hPB6 hba h7 hg7 hf7 p35 hPB6l hPB6n hSt6
                          go_wp2_with fail
                          go_roundg (gko - 1)
                          case measure => have := HIK.out; have := HLT.out; omega
                          case rel => exact ⟨i + 1, kind, true, fr, tg, by have := HIK.out; have := HLT.out; omega, rfl, rfl, rfl, rfl, by go_num, hR6⟩
                      · exfalso; dsimp only at h1; omega
                      · exfalso; dsimp only at h1; omega
                      · exfalso; dsimp only at h1; omega
                      · exfalso; dsimp only at h1; omega
                  · have hRv := T.RecvNot P M Q base n _ _ sl cl lg ln er at' A9 c9 dq w5 hJ5 rfl (by have := HI60.out; omega) (.inl (by by_cases hgg : lg = group; exact .inr ⟨hgg, by simpa using hln⟩; exact .inl (by simpa using hgg))) hCd5 hdl8 hAP
                    refine hRv.mono ?_
                    rintro e w6 ⟨rfl, n6, s6, hn6, hs6, hJ6, hf6⟩
                    have hR6 : Aside (OR w w6 P M Q base LB (i + 1) fr tg imp u7) := ⟨⟨below_fc hb5 (hf6.sub (S' := [P, M, Q]) (by simp)) (by simp; omega), hlow, n6, s6, _, sl, cl, fl, lg, ln, hJ6, by omega, by rcases hs6 with rfl | rfl <;> (show num ≤ _; omega), R_fcG hF5 (hf6.sub (S' := [P, M, Q]) (by simp)) (low3 (w' := w6) hJ5), hfl, hL5.of hf6 (by simp; omega), by rcases hs6 with rfl | rfl <;> exact hI5⟩⟩
                    have hSt6 := Aside.mk (T.Stage Q ⟨P, 0, none⟩ _ w6 hJ6.ctl)
                    clear hJ6 hf6 hn6 hs6
                    clear hRv hJ5 hF5' hR5d hL5 hF5 hb5 hCd5 hI5 hAP hln0 hlnn hlow hn hm hfl hP hM hQ
                    cases imp
                    · go_wp2_with (go_at_call 12; refine hSt6.out.mono ?_; rintro e w' ⟨rfl, hw⟩; subst w')
                      go_roundg (gko - 1)
                      case measure => have := HIK.out; have := HLT.out; omega
                      case rel => exact ⟨i + 1, kind, false, fr, tg, by have := HIK.out; have := HLT.out; omega, rfl, rfl, rfl, rfl, by go_num, hR6⟩
                    · go_wp2_with (go_at_call 12; refine hSt6.out.mono ?_; rintro e w' ⟨rfl, hw⟩; subst w')
                      go_roundg (gko - 1)
                      case measure => have := HIK.out; have := HLT.out; omega
                      case rel => exact ⟨i + 1, kind, true, fr, tg, by have := HIK.out; have := HLT.out; omega, rfl, rfl, rfl, rfl, by go_num, hR6⟩
              · as_aux_lemma =>
                  by_cases hln : ln = num
                  · have hlgg := hlg hln
                    by_cases he15 : er = 15
                    · subst he15
                      have hRv := T.RecvNot P M Q base n _ _ sl cl lg ln 15 at' A9 c9 dq w5 hJ5 rfl (by have := HI60.out; omega) (.inr ⟨hlgg, hln, rfl⟩) hCd5 hdl8 hAP
                      refine hRv.mono ?_
                      rintro e w6 ⟨rfl, n6, s6, hn6, hs6, hJ6, hf6⟩
                      have hR6 : Aside (OR w w6 P M Q base LB (i + 1) fr tg imp u7) := ⟨⟨below_fc hb5 (hf6.sub (S' := [P, M, Q]) (by simp)) (by simp; omega), hlow, n6, s6, _, sl, cl, fl, lg, ln, hJ6, by omega, by rcases hs6 with rfl | rfl <;> (show num ≤ _; omega), R_fcG hF5 (hf6.sub (S' := [P, M, Q]) (by simp)) (low3 (w' := w6) hJ5), hfl, hL5.of hf6 (by simp; omega), by rcases hs6 with rfl | rfl <;> exact hI5⟩⟩
                      have hSt6 := Aside.mk (T.Stage Q ⟨P, 0, none⟩ _ w6 hJ6.ctl)
                      clear hJ6 hf6 hn6 hs6
                      clear hRv hJ5 hF5' hR5d hL5 hF5 hb5 hCd5 hI5 hAP hln0 hlnn hlow hn hm hfl hP hM hQ
                      cases imp
                      · go_wp2_with (go_at_call 12; refine hSt6.out.mono ?_; rintro e w' ⟨rfl, hw⟩; subst w')
                        go_roundg (gko - 1)
                        case measure => have := HIK.out; have := HLT.out; omega
                        case rel => exact ⟨i + 1, kind, false, fr, tg, by have := HIK.out; have := HLT.out; omega, rfl, rfl, rfl, rfl, by go_num, hR6⟩
                      · go_wp2_with (go_at_call 12; refine hSt6.out.mono ?_; rintro e w' ⟨rfl, hw⟩; subst w')
                        go_roundg (gko - 1)
                        case measure => have := HIK.out; have := HLT.out; omega
                        case rel => exact ⟨i + 1, kind, true, fr, tg, by have := HIK.out; have := HLT.out; omega, rfl, rfl, rfl, rfl, by go_num, hR6⟩
                    · subst hlgg
                      subst hln
                      have hRv := T.RecvAns P M Q base n _ _ sl cl er at' A9 c9 dq w5 hJ5 rfl (.inr (.inl rfl)) (by dsimp only; omega) (by simpa using he15) hCd5 hdl8 hAP
                      refine hRv.mono ?_
                      rintro e w6 ⟨rfl, n6, s6, c6, sl6, cl6, hn6, hNx, hJ6, hf6⟩
                      rcases hNx with ⟨h1, h2, hx3, hx4, hx5, hx6⟩ | ⟨h1, h2, ⟨d5, hx3⟩, ⟨d6, hx4⟩, hx5, hx6⟩ | ⟨h1, h2, ⟨d5, hx3⟩, ⟨d6, hx4⟩, hx5, hx6⟩ | ⟨h1, h2, ⟨d5, hx3⟩, ⟨d6, hx4⟩, hx5, hx6⟩ | ⟨h1, hx3, hx4, hx5, hx6⟩ | ⟨h1, hx3, hx4, hx5, hx6⟩
                      · exfalso; dsimp only at h1; omega
                      · exfalso; dsimp only at h1; omega
                      · have hx5s := hx5.symm
                        have hx6s := hx6.symm
                        clear hx5 hx6
                        subst hx3 hx4 hx5s hx6s
                        have hSt6 := Aside.mk (T.Stage Q ⟨P, 0, none⟩ _ w6 hJ6.ctl)
                        have hb6 := below_fc hb5 hf6 (by simp; omega)
                        have hF6 := R_fcG hF5 hf6 (low3 (w' := w6) hJ5)
                        have hL6 := hL5.of hf6 (by simp; omega)
                        have HX6 := Aside.mk (And.intro hJ6 (And.intro hb6 (And.intro hF6 hL6)))
                        have HQ6 := Aside.mk (And.intro hlow (And.intro hn (And.intro hm (And.intro hn6 (And.intro hfl (And.intro hln0 hlnn))))))
                        clear hJ6 hf6 hn6 hb6 hF6 hL6
                        clear hJ5 hF5' hR5d hL5 hF5 hb5 hCd5 hI5 hAP hln0 hlnn hlow hn hm hfl hP hM hQ hRv
                        cases imp
                        · go_wp2_with (go_at_call 12; refine hSt6.out.mono ?_; rintro e w' ⟨rfl, hw⟩; subst w')
                          obtain ⟨hlow, hn, hm, hn6, hfl, hln0, hlnn⟩ := HQ6.out
                          obtain ⟨hJ6, hb6, hF6, hL6⟩ := HX6.out
                          have hR6 : Aside (OR w w6 P M Q base LB (i + 1) fr tg false u7) := ⟨⟨hb6, hlow, n6, _, _, _, _, fl, lg, ln, hJ6, by omega, by dsimp only; omega, hF6, hfl, hL6, ⟨rfl, rfl, rfl, hln0, .inr (by first | rfl | (dsimp only; omega)), .inr ⟨rfl, rfl, fun e => by exfalso; dsimp only at e; omega, .inr (.inr (.inr ⟨rfl, rfl, rfl, hclf⟩))⟩⟩⟩⟩
                          clear hJ6 hb6 hF6 hL6
                          go_roundg (gko - 1)
                          case measure => have := HIK.out; have := HLT.out; omega
                          case rel => exact ⟨i + 1, kind, false, fr, tg, by have := HIK.out; have := HLT.out; omega, rfl, rfl, rfl, rfl, by go_num, hR6⟩
                        · go_wp2_with (go_at_call 12; refine hSt6.out.mono ?_; rintro e w' ⟨rfl, hw⟩; subst w')
                          obtain ⟨hlow, hn, hm, hn6, hfl, hln0, hlnn⟩ := HQ6.out
                          obtain ⟨hJ6, hb6, hF6, hL6⟩ := HX6.out
                          have hR6 : Aside (OR w w6 P M Q base LB (i + 1) fr tg true u7) := ⟨⟨hb6, hlow, n6, _, _, _, _, fl, lg, ln, hJ6, by omega, by dsimp only; omega, hF6, hfl, hL6, ⟨rfl, rfl, rfl, hln0, .inr (by first | rfl | (dsimp only; omega)), .inr ⟨rfl, rfl, fun e => by exfalso; dsimp only at e; omega, .inr (.inr (.inr ⟨rfl, rfl, rfl, hclf⟩))⟩⟩⟩⟩
                          clear hJ6 hb6 hF6 hL6
                          go_roundg (gko - 1)
                          case measure => have := HIK.out; have := HLT.out; omega
                          case rel => exact ⟨i + 1, kind, true, fr, tg, by have := HIK.out; have := HLT.out; omega, rfl, rfl, rfl, rfl, by go_num, hR6⟩
                      · have hx5s := hx5.symm
                        have hx6s := hx6.symm
                        clear hx5 hx6
                        subst hx3 hx4 hx5s hx6s
                        have hSt6 := Aside.mk (T.Stage Q ⟨P, 0, none⟩ _ w6 hJ6.ctl)
                        have hb6 := below_fc hb5 hf6 (by simp; omega)
                        have hF6 := R_fcG hF5 hf6 (low3 (w' := w6) hJ5)
                        have hL6 := hL5.of hf6 (by simp; omega)
                        have HX6 := Aside.mk (And.intro hJ6 (And.intro hb6 (And.intro hF6 hL6)))
                        have HQ6 := Aside.mk (And.intro hlow (And.intro hn (And.intro hm (And.intro hn6 (And.intro hfl (And.intro hln0 hlnn))))))
                        clear hJ6 hf6 hn6 hb6 hF6 hL6
                        clear hJ5 hF5' hR5d hL5 hF5 hb5 hCd5 hI5 hAP hln0 hlnn hlow hn hm hfl hP hM hQ hRv
                        cases imp
                        · go_wp2_with (go_at_call 12; refine hSt6.out.mono ?_; rintro e w' ⟨rfl, hw⟩; subst w')
                          obtain ⟨hlow, hn, hm, hn6, hfl, hln0, hlnn⟩ := HQ6.out
                          obtain ⟨hJ6, hb6, hF6, hL6⟩ := HX6.out
                          have hR6 : Aside (OR w w6 P M Q base LB (i + 1) fr tg true u7) := ⟨⟨hb6, hlow, n6, _, _, _, _, fl, lg, ln, hJ6, by omega, by dsimp only; omega, hF6, hfl, hL6, ⟨rfl, rfl, rfl, hln0, .inr (by first | rfl | (dsimp only; omega)), .inr ⟨rfl, rfl, fun e => by exfalso; dsimp only at e; omega, .inr (.inr (.inl ⟨rfl, rfl, rfl, rfl, rfl⟩))⟩⟩⟩⟩
                          clear hJ6 hb6 hF6 hL6
                          go_roundg (gko - 1)
                          case measure => have := HIK.out; have := HLT.out; omega
                          case rel => exact ⟨i + 1, kind, true, fr, tg, by have := HIK.out; have := HLT.out; omega, rfl, rfl, rfl, rfl, by go_num, hR6⟩
                        · go_wp2_with (go_at_call 12; refine hSt6.out.mono ?_; rintro e w' ⟨rfl, hw⟩; subst w')
                          obtain ⟨hlow, hn, hm, hn6, hfl, hln0, hlnn⟩ := HQ6.out
                          obtain ⟨hJ6, hb6, hF6, hL6⟩ := HX6.out
                          have hR6 : Aside (OR w w6 P M Q base LB (i + 1) fr tg true u7) := ⟨⟨hb6, hlow, n6, _, _, _, _, fl, lg, ln, hJ6, by omega, by dsimp only; omega, hF6, hfl, hL6, ⟨rfl, rfl, rfl, hln0, .inr (by first | rfl | (dsimp only; omega)), .inr ⟨rfl, rfl, fun e => by exfalso; dsimp only at e; omega, .inr (.inr (.inl ⟨rfl, rfl, rfl, rfl, rfl⟩))⟩⟩⟩⟩
                          clear hJ6 hb6 hF6 hL6
                          go_roundg (gko - 1)
                          case measure => have := HIK.out; have := HLT.out; omega
                          case rel => exact ⟨i + 1, kind, true, fr, tg, by have := HIK.out; have := HLT.out; omega, rfl, rfl, rfl, rfl, by go_num, hR6⟩
                      · exfalso; dsimp only at h1; omega
                      · exfalso; dsimp only at h1; omega
                  · have hRv := T.RecvNot P M Q base n _ _ sl cl lg ln er at' A9 c9 dq w5 hJ5 rfl (by have := HI60.out; omega) (.inl (by by_cases hgg : lg = group; exact .inr ⟨hgg, by simpa using hln⟩; exact .inl (by simpa using hgg))) hCd5 hdl8 hAP
                    refine hRv.mono ?_
                    rintro e w6 ⟨rfl, n6, s6, hn6, hs6, hJ6, hf6⟩
                    have hR6 : Aside (OR w w6 P M Q base LB (i + 1) fr tg imp u7) := ⟨⟨below_fc hb5 (hf6.sub (S' := [P, M, Q]) (by simp)) (by simp; omega), hlow, n6, s6, _, sl, cl, fl, lg, ln, hJ6, by omega, by rcases hs6 with rfl | rfl <;> (show num ≤ _; omega), R_fcG hF5 (hf6.sub (S' := [P, M, Q]) (by simp)) (low3 (w' := w6) hJ5), hfl, hL5.of hf6 (by simp; omega), by rcases hs6 with rfl | rfl <;> exact hI5⟩⟩
                    have hSt6 := Aside.mk (T.Stage Q ⟨P, 0, none⟩ _ w6 hJ6.ctl)
                    clear hJ6 hf6 hn6 hs6
                    clear hRv hJ5 hF5' hR5d hL5 hF5 hb5 hCd5 hI5 hAP hln0 hlnn hlow hn hm hfl hP hM hQ
                    cases imp
                    · go_wp2_with (go_at_call 12; refine hSt6.out.mono ?_; rintro e w' ⟨rfl, hw⟩; subst w')
                      go_roundg (gko - 1)
                      case measure => have := HIK.out; have := HLT.out; omega
                      case rel => exact ⟨i + 1, kind, false, fr, tg, by have := HIK.out; have := HLT.out; omega, rfl, rfl, rfl, rfl, by go_num, hR6⟩
                    · go_wp2_with (go_at_call 12; refine hSt6.out.mono ?_; rintro e w' ⟨rfl, hw⟩; subst w')
                      go_roundg (gko - 1)
                      case measure => have := HIK.out; have := HLT.out; omega
                      case rel => exact ⟨i + 1, kind, true, fr, tg, by have := HIK.out; have := HLT.out; omega, rfl, rfl, rfl, rfl, by go_num, hR6⟩
              · as_aux_lemma =>
                  subst himp
                  by_cases hln : ln = num
                  · have hlgg := hlg hln
                    by_cases he15 : er = 15
                    · subst he15
                      have hRv := T.RecvNot P M Q base n _ _ sl cl lg ln 15 at' A9 c9 dq w5 hJ5 rfl (by have := HI60.out; omega) (.inr ⟨hlgg, hln, rfl⟩) hCd5 hdl8 hAP
                      refine hRv.mono ?_
                      rintro e w6 ⟨rfl, n6, s6, hn6, hs6, hJ6, hf6⟩
                      have hR6 : Aside (OR w w6 P M Q base LB (i + 1) fr tg true u7) := ⟨⟨below_fc hb5 (hf6.sub (S' := [P, M, Q]) (by simp)) (by simp; omega), hlow, n6, s6, _, sl, cl, fl, lg, ln, hJ6, by omega, by rcases hs6 with rfl | rfl <;> (show num ≤ _; omega), R_fcG hF5 (hf6.sub (S' := [P, M, Q]) (by simp)) (low3 (w' := w6) hJ5), hfl, hL5.of hf6 (by simp; omega), by rcases hs6 with rfl | rfl <;> exact hI5⟩⟩
                      have hSt6 := Aside.mk (T.Stage Q ⟨P, 0, none⟩ _ w6 hJ6.ctl)
                      clear hJ6 hf6 hn6 hs6
                      clear hRv hJ5 hF5' hR5d hL5 hF5 hb5 hCd5 hI5 hAP hln0 hlnn hlow hn hm hfl hP hM hQ
                      go_wp2_with (go_at_call 12; refine hSt6.out.mono ?_; rintro e w' ⟨rfl, hw⟩; subst w')
                      go_roundg (gko - 1)
                      case measure => have := HIK.out; have := HLT.out; omega
                      case rel => exact ⟨i + 1, kind, true, fr, tg, by have := HIK.out; have := HLT.out; omega, rfl, rfl, rfl, rfl, by go_num, hR6⟩
                    · subst hlgg
                      subst hln
                      have hRv := T.RecvAns P M Q base n _ _ sl cl er at' A9 c9 dq w5 hJ5 rfl (.inr (.inr (.inl rfl))) (by dsimp only; omega) (by simpa using he15) hCd5 hdl8 hAP
                      refine hRv.mono ?_
                      rintro e w6 ⟨rfl, n6, s6, c6, sl6, cl6, hn6, hNx, hJ6, hf6⟩
                      rcases hNx with ⟨h1, h2, hx3, hx4, hx5, hx6⟩ | ⟨h1, h2, ⟨d5, hx3⟩, ⟨d6, hx4⟩, hx5, hx6⟩ | ⟨h1, h2, ⟨d5, hx3⟩, ⟨d6, hx4⟩, hx5, hx6⟩ | ⟨h1, h2, ⟨d5, hx3⟩, ⟨d6, hx4⟩, hx5, hx6⟩ | ⟨h1, hx3, hx4, hx5, hx6⟩ | ⟨h1, hx3, hx4, hx5, hx6⟩
                      · exfalso; dsimp only at h1; omega
                      · exfalso; dsimp only at h1; omega
                      · exfalso; dsimp only at h1; omega
                      · exfalso; dsimp only at h1; omega
                      · have hx5s := hx5.symm
                        have hx6s := hx6.symm
                        clear hx5 hx6
                        subst hx3 hx4 hx5s hx6s
                        have hSt6 := Aside.mk (T.Stage Q ⟨P, 0, none⟩ _ w6 hJ6.ctl)
                        have hb6 := below_fc hb5 hf6 (by simp; omega)
                        have hF6 := R_fcG hF5 hf6 (low3 (w' := w6) hJ5)
                        have hL6 := hL5.of hf6 (by simp; omega)
                        have HX6 := Aside.mk (And.intro hJ6 (And.intro hb6 (And.intro hF6 hL6)))
                        have HQ6 := Aside.mk (And.intro hlow (And.intro hn (And.intro hm (And.intro hn6 (And.intro hfl (And.intro hln0 hlnn))))))
                        clear hJ6 hf6 hn6 hb6 hF6 hL6
                        clear hJ5 hF5' hR5d hL5 hF5 hb5 hCd5 hI5 hAP hln0 hlnn hlow hn hm hfl hP hM hQ hRv
                        go_wp2_with (go_at_call 12; refine hSt6.out.mono ?_; rintro e w' ⟨rfl, hw⟩; subst w')
                        obtain ⟨hlow, hn, hm, hn6, hfl, hln0, hlnn⟩ := HQ6.out
                        obtain ⟨hJ6, hb6, hF6, hL6⟩ := HX6.out
                        have hR6 : Aside (OR w w6 P M Q base LB (i + 1) fr tg true u7) := ⟨⟨hb6, hlow, n6, _, _, _, _, fl, lg, ln, hJ6, by omega, by dsimp only; omega, hF6, hfl, hL6, ⟨rfl, rfl, rfl, hln0, .inl rfl, .inl ⟨rfl, rfl, rfl⟩⟩⟩⟩
                        clear hJ6 hb6 hF6 hL6
                        go_roundg (gko - 1)
                        case measure => have := HIK.out; have := HLT.out; omega
                        case rel => exact ⟨i + 1, kind, true, fr, tg, by have := HIK.out; have := HLT.out; omega, rfl, rfl, rfl, rfl, by go_num, hR6⟩
                      · exfalso; dsimp only at h1; omega
                  · have hRv := T.RecvNot P M Q base n _ _ sl cl lg ln er at' A9 c9 dq w5 hJ5 rfl (by have := HI60.out; omega) (.inl (by by_cases hgg : lg = group; exact .inr ⟨hgg, by simpa using hln⟩; exact .inl (by simpa using hgg))) hCd5 hdl8 hAP
                    refine hRv.mono ?_
                    rintro e w6 ⟨rfl, n6, s6, hn6, hs6, hJ6, hf6⟩
                    have hR6 : Aside (OR w w6 P M Q base LB (i + 1) fr tg true u7) := ⟨⟨below_fc hb5 (hf6.sub (S' := [P, M, Q]) (by simp)) (by simp; omega), hlow, n6, s6, _, sl, cl, fl, lg, ln, hJ6, by omega, by rcases hs6 with rfl | rfl <;> (show num ≤ _; omega), R_fcG hF5 (hf6.sub (S' := [P, M, Q]) (by simp)) (low3 (w' := w6) hJ5), hfl, hL5.of hf6 (by simp; omega), by rcases hs6 with rfl | rfl <;> exact hI5⟩⟩
                    have hSt6 := Aside.mk (T.Stage Q ⟨P, 0, none⟩ _ w6 hJ6.ctl)
                    clear hJ6 hf6 hn6 hs6
                    clear hRv hJ5 hF5' hR5d hL5 hF5 hb5 hCd5 hI5 hAP hln0 hlnn hlow hn hm hfl hP hM hQ
                    go_wp2_with (go_at_call 12; refine hSt6.out.mono ?_; rintro e w' ⟨rfl, hw⟩; subst w')
                    go_roundg (gko - 1)
                    case measure => have := HIK.out; have := HLT.out; omega
                    case rel => exact ⟨i + 1, kind, true, fr, tg, by have := HIK.out; have := HLT.out; omega, rfl, rfl, rfl, rfl, by go_num, hR6⟩
              · as_aux_lemma =>
                  by_cases hln : ln = num
                  · have hlgg := hlg hln
                    by_cases he15 : er = 15
                    · subst he15
                      have hRv := T.RecvNot P M Q base n _ _ sl cl lg ln 15 at' A9 c9 dq w5 hJ5 rfl (by have := HI60.out; omega) (.inr ⟨hlgg, hln, rfl⟩) hCd5 hdl8 hAP
                      refine hRv.mono ?_
                      rintro e w6 ⟨rfl, n6, s6, hn6, hs6, hJ6, hf6⟩
                      have hR6 : Aside (OR w w6 P M Q base LB (i + 1) fr tg imp u7) := ⟨⟨below_fc hb5 (hf6.sub (S' := [P, M, Q]) (by simp)) (by simp; omega), hlow, n6, s6, _, sl, cl, fl, lg, ln, hJ6, by omega, by rcases hs6 with rfl | rfl <;> (show num ≤ _; omega), R_fcG hF5 (hf6.sub (S' := [P, M, Q]) (by simp)) (low3 (w' := w6) hJ5), hfl, hL5.of hf6 (by simp; omega), by rcases hs6 with rfl | rfl <;> exact hI5⟩⟩
                      have hSt6 := Aside.mk (T.Stage Q ⟨P, 0, none⟩ _ w6 hJ6.ctl)
                      clear hJ6 hf6 hn6 hs6
                      clear hRv hJ5 hF5' hR5d hL5 hF5 hb5 hCd5 hI5 hAP hln0 hlnn hlow hn hm hfl hP hM hQ
                      cases imp
                      · go_wp2_with (go_at_call 12; refine hSt6.out.mono ?_; rintro e w' ⟨rfl, hw⟩; subst w')
                        go_roundg (gko - 1)
                        case measure => have := HIK.out; have := HLT.out; omega
                        case rel => exact ⟨i + 1, kind, false, fr, tg, by have := HIK.out; have := HLT.out; omega, rfl, rfl, rfl, rfl, by go_num, hR6⟩
                      · go_wp2_with (go_at_call 12; refine hSt6.out.mono ?_; rintro e w' ⟨rfl, hw⟩; subst w')
                        go_roundg (gko - 1)
                        case measure => have := HIK.out; have := HLT.out; omega
                        case rel => exact ⟨i + 1, kind, true, fr, tg, by have := HIK.out; have := HLT.out; omega, rfl, rfl, rfl, rfl, by go_num, hR6⟩
                    · subst hlgg
                      subst hln
                      have hRv := T.RecvAns P M Q base n _ _ sl cl er at' A9 c9 dq w5 hJ5 rfl (.inr (.inr (.inr rfl))) (by dsimp only; omega) (by simpa using he15) hCd5 hdl8 hAP
                      refine hRv.mono ?_
                      rintro e w6 ⟨rfl, n6, s6, c6, sl6, cl6, hn6, hNx, hJ6, hf6⟩
                      rcases hNx with ⟨h1, h2, hx3, hx4, hx5, hx6⟩ | ⟨h1, h2, ⟨d5, hx3⟩, ⟨d6, hx4⟩, hx5, hx6⟩ | ⟨h1, h2, ⟨d5, hx3⟩, ⟨d6, hx4⟩, hx5, hx6⟩ | ⟨h1, h2, ⟨d5, hx3⟩, ⟨d6, hx4⟩, hx5, hx6⟩ | ⟨h1, hx3, hx4, hx5, hx6⟩ | ⟨h1, hx3, hx4, hx5, hx6⟩
                      · exfalso; dsimp only at h1; omega
                      · exfalso; dsimp only at h1; omega
                      · exfalso; dsimp only at h1; omega
                      · exfalso; dsimp only at h1; omega
                      · exfalso; dsimp only at h1; omega
                      · have hx5s := hx5.symm
                        have hx6s := hx6.symm
                        clear hx5 hx6
                        subst hx3 hx4 hx5s hx6s
                        have hSt6 := Aside.mk (T.Stage Q ⟨P, 0, none⟩ _ w6 hJ6.ctl)
                        have hb6 := below_fc hb5 hf6 (by simp; omega)
                        have hF6 := R_fcG hF5 hf6 (low3 (w' := w6) hJ5)
                        have hL6 := hL5.of hf6 (by simp; omega)
                        have HX6 := Aside.mk (And.intro hJ6 (And.intro hb6 (And.intro hF6 hL6)))
                        have HQ6 := Aside.mk (And.intro hlow (And.intro hn (And.intro hm (And.intro hn6 (And.intro hfl (And.intro hln0 hlnn))))))
                        clear hJ6 hf6 hn6 hb6 hF6 hL6
                        clear hJ5 hF5' hR5d hL5 hF5 hb5 hCd5 hI5 hAP hln0 hlnn hlow hn hm hfl hP hM hQ hRv
                        cases imp
                        · go_wp2_with (go_at_call 12; refine hSt6.out.mono ?_; rintro e w' ⟨rfl, hw⟩; subst w')
                          obtain ⟨hlow, hn, hm, hn6, hfl, hln0, hlnn⟩ := HQ6.out
                          obtain ⟨hJ6, hb6, hF6, hL6⟩ := HX6.out
                          have hR6 : Aside (OR w w6 P M Q base LB (i + 1) fr tg false u7) := ⟨⟨hb6, hlow, n6, _, _, _, _, fl, lg, ln, hJ6, by omega, by dsimp only; omega, hF6, hfl, hL6, ⟨rfl, rfl, rfl, hln0, .inl rfl, .inl ⟨rfl, rfl, rfl⟩⟩⟩⟩
                          clear hJ6 hb6 hF6 hL6
                          go_roundg (gko - 1)
                          case measure => have := HIK.out; have := HLT.out; omega
                          case rel => exact ⟨i + 1, kind, false, fr, tg, by have := HIK.out; have := HLT.out; omega, rfl, rfl, rfl, rfl, by go_num, hR6⟩
                        · go_wp2_with (go_at_call 12; refine hSt6.out.mono ?_; rintro e w' ⟨rfl, hw⟩; subst w')
                          obtain ⟨hlow, hn, hm, hn6, hfl, hln0, hlnn⟩ := HQ6.out
                          obtain ⟨hJ6, hb6, hF6, hL6⟩ := HX6.out
                          have hR6 : Aside (OR w w6 P M Q base LB (i + 1) fr tg true u7) := ⟨⟨hb6, hlow, n6, _, _, _, _, fl, lg, ln, hJ6, by omega, by dsimp only; omega, hF6, hfl, hL6, ⟨rfl, rfl, rfl, hln0, .inl rfl, .inl ⟨rfl, rfl, rfl⟩⟩⟩⟩
                          clear hJ6 hb6 hF6 hL6
                          go_roundg (gko - 1)
                          case measure => have := HIK.out; have := HLT.out; omega
                          case rel => exact ⟨i + 1, kind, true, fr, tg, by have := HIK.out; have := HLT.out; omega, rfl, rfl, rfl, rfl, by go_num, hR6⟩
                  · have hRv := T.RecvNot P M Q base n _ _ sl cl lg ln er at' A9 c9 dq w5 hJ5 rfl (by have := HI60.out; omega) (.inl (by by_cases hgg : lg = group; exact .inr ⟨hgg, by simpa using hln⟩; exact .inl (by simpa using hgg))) hCd5 hdl8 hAP
                    refine hRv.mono ?_
                    rintro e w6 ⟨rfl, n6, s6, hn6, hs6, hJ6, hf6⟩
                    have hR6 : Aside (OR w w6 P M Q base LB (i + 1) fr tg imp u7) := ⟨⟨below_fc hb5 (hf6.sub (S' := [P, M, Q]) (by simp)) (by simp; omega), hlow, n6, s6, _, sl, cl, fl, lg, ln, hJ6, by omega, by rcases hs6 with rfl | rfl <;> (show num ≤ _; omega), R_fcG hF5 (hf6.sub (S' := [P, M, Q]) (by simp)) (low3 (w' := w6) hJ5), hfl, hL5.of hf6 (by simp; omega), by rcases hs6 with rfl | rfl <;> exact hI5⟩⟩
                    have hSt6 := Aside.mk (T.Stage Q ⟨P, 0, none⟩ _ w6 hJ6.ctl)
                    clear hJ6 hf6 hn6 hs6
                    clear hRv hJ5 hF5' hR5d hL5 hF5 hb5 hCd5 hI5 hAP hln0 hlnn hlow hn hm hfl hP hM hQ
                    cases imp
                    · go_wp2_with (go_at_call 12; refine hSt6.out.mono ?_; rintro e w' ⟨rfl, hw⟩; subst w')
                      go_roundg (gko - 1)
                      case measure => have := HIK.out; have := HLT.out; omega
                      case rel => exact ⟨i + 1, kind, false, fr, tg, by have := HIK.out; have := HLT.out; omega, rfl, rfl, rfl, rfl, by go_num, hR6⟩
                    · go_wp2_with (go_at_call 12; refine hSt6.out.mono ?_; rintro e w' ⟨rfl, hw⟩; subst w')
                      go_roundg (gko - 1)
                      case measure => have := HIK.out; have := HLT.out; omega
                      case rel => exact ⟨i + 1, kind, true, fr, tg, by have := HIK.out; have := HLT.out; omega, rfl, rfl, rfl, rfl, by go_num, hR6⟩
      · skip
        generalize gk = gko at *
        obtain ⟨n, s, c, sl, cl, fl, lg, ln, hJ, hn, hm, hF, hfl, hL, hI⟩ := HRa.out.st
        have y1 : World.cell? wa ⟨AB, 1, none⟩ = some (.int .i64 af) := by rw [cell_of_row _ _ _ _ _ _ HAB.out]; rfl
        have y2 : World.cell? wa ⟨AB, 2, none⟩ = some (.int .i64 at') := by rw [cell_of_row _ _ _ _ _ _ HAB.out]; rfl
        have y5 : World.cell? wa ⟨AB, 5, none⟩ = some (.int .i64 lo) := by rw [cell_of_row _ _ _ _ _ _ HAB.out]; rfl
        have y6 : World.cell? wa ⟨AB, 6, none⟩ = some (.int .i64 hi) := by rw [cell_of_row _ _ _ _ _ _ HAB.out]; rfl
        have hlow := HRa.out.hlow
        have HJ := Aside.mk hJ
        have HNum := Aside.mk (And.intro hn (And.intro hm (And.intro hfl hlow)))
        have HF := Aside.mk hF
        have HL := Aside.mk hL
        have HI := Aside.mk hI
        have HAB2 := Aside.mk (And.intro HLB.out.1 (show AB < wa.heap.size from (Array.getElem?_eq_some_iff.1 HAB.out).1))
        clear hJ hn hm hF hfl hL hI hlow
        go_wp2_with fail
        by_cases hok : c.stage = 0 ∧ (mayR lo hi && decide (1 ≤ af ∧ af ≤ 6) && decide (1 ≤ at' ∧ at' ≤ 6) && !(af == at')) = true
        · obtain ⟨hst, hall⟩ := hok
          simp only [Bool.and_eq_true, decide_eq_true_eq, Bool.not_eq_true'] at hall
          obtain ⟨⟨⟨hm1, hm2⟩, hm3⟩, hm4⟩ := hall
          obtain ⟨hid, hcf, hct, hln0, hlnn, hst2⟩ := HI.out
          have hbn : s.busy = false ∧ ln = s.num := by
            rcases hst2 with ⟨_, h1, h2⟩ | ⟨_, _, _, h⟩
            · exact ⟨h1, h2⟩
            · exfalso; omega
          obtain ⟨hn, hm, hfl, hlow⟩ := HNum.out
          refine (T.StartOk P M Q base n s c sl cl lo hi af at' wa HJ.out hbn.1 (by have := HI60.out; omega) hst hm1 hm2 hm3 hm4).mono ?_
          rintro e w3 ⟨rfl, d, hJ3, hf3⟩
          have hP := HJ.out.hP
          have hQ := HJ.out.hQ
          have hM := HJ.out.hM
          have hab := (hf3.block AB HAB2.out.2 (by have := HAB2.out.1; simp; omega)).trans HAB.out
          have x1 : w3.cell? ⟨AB, 1, none⟩ = some (.int .i64 af) := by rw [cell_of_row _ _ _ _ _ _ hab]; rfl
          have x2 : w3.cell? ⟨AB, 2, none⟩ = some (.int .i64 at') := by rw [cell_of_row _ _ _ _ _ _ hab]; rfl
          have hR3 : OR w w3 P M Q base LB (i + 1) af at' false u7 := ⟨below_fc HRa.out.bel hf3 (by simp; omega), hlow, n, _, _, [], [], fl, lg, ln, hJ3, by omega, by show s.num + 1 ≤ _; omega, R_fcG HF.out (hf3.sub (S' := [P, M, Q]) (by simp)) (low3 (w' := w3) HJ.out), hfl, HL.out.of hf3 (by simp; omega), ⟨hid, rfl, rfl, hln0, .inr (by show ln + 1 = s.num + 1; omega), .inr ⟨rfl, rfl, fun e => by exfalso; have : ln = s.num + 1 := e; omega, .inl ⟨rfl, rfl, rfl⟩⟩⟩⟩
          have HR3 := Aside.mk hR3
          clear hab hR3 hJ3 hf3 hst2 hlow
          clear y1 y2 y5 y6
          go_wp2_with fail
          go_quiet (fail)
          have hRq : Aside (OR w (w3.drewN nq) P M Q base LB (i + 1) af at' false u7) := ⟨HR3.out.of0 (FC.of (pw_below_drewN (Below.refl _ _) nq))⟩
          generalize w3.drewN nq = w4 at *
          clear x1 x2
          go_wp2_with fail
          go_roundg (gko - 1)
          case measure => have := HIK.out; have := HLT.out; omega
          case rel => exact ⟨i + 1, 0, false, af, at', by have := HIK.out; have := HLT.out; omega, rfl, rfl, rfl, rfl, by go_num, hRq⟩
        · have hbad : (c.stage == 0) = false ∨ (c.stage = 0 ∧ (mayR lo hi && decide (1 ≤ af ∧ af ≤ 6) && decide (1 ≤ at' ∧ at' ≤ 6) && !(af == at')) = false) := by
            by_cases h0 : c.stage = 0
            · refine .inr ⟨h0, ?_⟩
              cases hv : (mayR lo hi && decide (1 ≤ af ∧ af ≤ 6) && decide (1 ≤ at' ∧ at' ≤ 6) && !(af == at'))
              · rfl
              · exact absurd ⟨h0, hv⟩ hok
            · exact .inl (by simpa using h0)
          refine (T.StartBad P M Q base n s c sl cl lo hi af at' wa HJ.out hbad).mono ?_
          rintro e w3 ⟨⟨k, rfl, hk0'⟩, hJ3, hf3⟩
          have hRq : Aside (OR w w3 P M Q base LB (i + 1) fr tg imp u7) := ⟨(HRa.out.of0 hf3).mono (by omega)⟩
          clear hJ3 hf3 hbad hok y1 y2 y5 y6
          go_wp2_with fail
          go_roundg (gko - 1)
          case measure => have := HIK.out; have := HLT.out; omega
          case rel => exact ⟨i + 1, kind, imp, fr, tg, by have := HIK.out; have := HLT.out; omega, rfl, rfl, rfl, rfl, by go_num, hRq⟩
    · have hb := Aside.mk hR.out.bel
      have hcase : (i < l.length ∧ 60 ≤ i) ∨ l.length ≤ i := by have := HN.out; omega
      clear hR hlt
      rcases hcase with ⟨hc1, hc2⟩ | hc1
      all_goals
        go_wp2_with fail
        refine (T.works wr).mono ?_
        rintro e w2 ⟨rfl, hb2⟩
        have HB2 := Aside.mk hb2
        clear hb2
        go_wp2_with fail
        go_ret
        exact ⟨rfl, hb.out.trans (HB2.out.mono hb.out.size)⟩
end Go.Proofs.Ytmepeolejlpehaa

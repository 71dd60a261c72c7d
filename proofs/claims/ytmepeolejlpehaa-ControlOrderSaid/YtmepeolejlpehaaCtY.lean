/- The walk of ControlEnds. Conditions: none. -/
import Derived.Test.YtmepeolejlpehaaCtO
namespace Go.Proofs.Ytmepeolejlpehaa
open Go.RowKit Go.Maps Go.Proofs.YtmepeolejlpehaaW.PrintWords Go.Proofs.YtmepeolejlpehaaW.PrintLast Go.Proofs.YtmepeolejlpehaaW.PrintMore
theorem mod_name (e m : Int) (hm : 0 < m) (hm2 : m ≤ 100) : ∃ r f, e.tmod m = r ∧ (r + m).tmod m = f ∧ -m < r ∧ r < m ∧ 0 ≤ f ∧ f < m := by
  refine ⟨_, _, rfl, rfl, Int.lt_tmod_of_pos e hm, Int.tmod_lt_of_pos e hm, ?_, Int.tmod_lt_of_pos _ hm⟩
  have := Int.lt_tmod_of_pos e hm
  exact Int.tmod_nonneg _ (by omega)
def Live (s : AS) (c : CS) (st num g : Int) : Prop := s.busy = true ∧ s.sent = false ∧ s.num = num ∧ s.group = g ∧ s.cmd.num = num ∧ c.stage = st
def Over (c : CS) (e : Int) : Prop := c.stage = 0 ∧ c.e = e ∧ c.ended = true
/-- How far the move is. -/
def ES (f0 f1 f2 : Int) (i : Nat) (l : List Int) (want : Int) (s : AS) (c : CS) : Prop :=
  (i = 0 ∧ l = [] ∧ want = 0 ∧ Live s c 1 1 3) ∨
  (i = 1 ∧ f0 ≠ 0 ∧ l = [3] ∧ want = f0 ∧ Over c f0) ∨
  (i = 1 ∧ f0 = 0 ∧ l = [3] ∧ want = 0 ∧ Live s c 2 2 4) ∨
  (i = 2 ∧ f0 = 0 ∧ f1 ≠ 0 ∧ l = [3, 4] ∧ want = f1 ∧ c.e = f1 ∧ Live s c 4 3 3) ∨
  (i = 2 ∧ f0 = 0 ∧ f1 = 0 ∧ l = [3, 4] ∧ want = 0 ∧ Live s c 3 3 0) ∨
  (i = 3 ∧ f0 = 0 ∧ f1 ≠ 0 ∧ l = [3, 4, 3] ∧ want = f1 ∧ Over c f1) ∨
  (i = 3 ∧ f0 = 0 ∧ f1 = 0 ∧ l = [3, 4, 0] ∧ want = f2 ∧ Over c f2)
/-- What stands between the rounds. -/
structure ER (w w' : World) (X P M Q base : Nat) (e0 e1 e2 e3 f0 f1 f2 : Int) (i : Nat) (want : Int) (v : Value) : Prop where
  bel : Below w.heap.size w w'
  errs : w'.heap[X]? = some (.cells #[.int .i64 e0, .int .i64 e1, .int .i64 e2, .int .i64 e3] 64 (0, 0))
  hlow : w.heap.size ≤ X ∧ w.heap.size ≤ P ∧ w.heap.size ≤ M ∧ w.heap.size ≤ Q ∧ X ≠ P ∧ X ≠ M ∧ X ≠ Q ∧ X < base
  st : ∃ n s c sl cl l, CJ w' P M Q base n s c sl cl ∧ n ≤ 10 * i ∧ s.id = 5 ∧ c.from' = 3 ∧ c.tgo = 4 ∧ s.num ≤ 100 ∧ (Kd.int .i64).R 3 w' base (fun _ => True) v l ∧ ES f0 f1 f2 i l want s c
set_option maxHeartbeats 8000000 in
set_option maxRecDepth 100000 in
theorem T.walk_ends (e0 e1 e2 e3 retry : Int) (w : World) : Calls Try.prog 5 #[.agg #[.int .i64 e0, .int .i64 e1, .int .i64 e2, .int .i64 e3], .int .i64 retry] w fun e w' => e = .returned (.bool true) ∧ Below w.heap.size w w' := by
  obtain ⟨r5, q5, hr5, hq5, b1, b2, b3, b4⟩ := mod_name retry 5 (by decide) (by decide)
  go_enter Try.func5, Try.ntmps5
  go_wp2_with fail
  have hX0 := heap_alloc_new w (Obj.cells #[.int .i64 e0, .int .i64 e1, .int .i64 e2, .int .i64 e3] 64)
  have hb0 : Below w.heap.size w (w.alloc (Obj.cells #[.int .i64 e0, .int .i64 e1, .int .i64 e2, .int .i64 e3] 64)) := (Below.refl _ _).alloc (Nat.le_refl _) _
  have hs0 : (w.alloc (Obj.cells #[.int .i64 e0, .int .i64 e1, .int .i64 e2, .int .i64 e3] 64)).heap.size = w.heap.size + 1 := by simp
  generalize w.alloc _ = w0 at hX0 hb0 hs0 ⊢
  refine (T.New 5 2 (1 + q5) w0 (by decide) (by decide) (by omega)).mono ?_
  rintro e w1 ⟨rfl, hJ1, hb1⟩
  have HJ1 := Aside.mk hJ1
  have HB1 := Aside.mk (hb0.trans (hb1.mono hb0.size))
  have HX1 := Aside.mk ((hb1.block w.heap.size (by omega)).trans hX0)
  have HS0 := Aside.mk hs0
  clear hJ1 hb1 hX0 hb0 hs0 hr5 hq5
  go_wp2_with fail
  refine (T.StartOk _ _ _ _ _ _ _ _ _ 5 50 3 4 w1 HJ1.out rfl (by simp [AS.new]) rfl (by decide) (by decide) (by decide) (by decide)).mono ?_
  rintro e w2 ⟨rfl, d, hJ2, hf2⟩
  have HJ2 := Aside.mk hJ2
  have HF2 := Aside.mk hf2
  clear hJ2 hf2
  obtain ⟨r0, f0, hr0, hf0, c1, c2, c3, c4⟩ := mod_name e0 14 (by decide) (by decide)
  obtain ⟨r1, f1, hr1, hf1, d1, d2, d3, d4⟩ := mod_name e1 14 (by decide) (by decide)
  obtain ⟨r2, f2, hr2, hf2, g1, g2, g3, g4⟩ := mod_name e2 14 (by decide) (by decide)
  go_wp2_with fail
  have hst : ER w (w2.alloc (Obj.cells #[] 3)) w.heap.size (w0.heap.size + 1) w0.heap.size (w0.heap.size + 2) (w0.heap.size + 3) e0 e1 e2 e3 f0 f1 f2 0 0 (.slice (some ⟨w2.heap.size, 0, none⟩) 0 0) := by
    have hs0 := HS0.out
    have hb2 : Below w.heap.size w w2 := FC.below HB1.out HF2.out (fun x hx => by have : x = w0.heap.size + 1 ∨ x = w0.heap.size + 2 := (by simpa using hx); omega) (Nat.le_refl _)
    have hsz : w0.heap.size + 3 ≤ w2.heap.size := HJ2.out.hbase
    have hx2 := (HF2.out.block w.heap.size (by have := (Array.getElem?_eq_some_iff.1 HX1.out).1; omega) (by simp; omega)).trans HX1.out
    refine ⟨hb2.alloc (by omega) _, (Below.heap_alloc _ _ _ (by omega)).trans hx2, by omega, 0, _, _, _, _, [], HJ2.out.of_fc0 ((FC.refl _ _).alloc _), by omega, rfl, rfl, rfl, by simp [AS.new], Kd.R_lower (emptyI w2) hsz, .inl ⟨rfl, rfl, rfl, rfl, rfl, rfl, rfl, rfl, rfl⟩⟩
  generalize w2.alloc _ = w3 at hst ⊢
  generalize w2.heap.size = K at hst ⊢
  generalize w0.heap.size + 1 = P at hst ⊢
  generalize w0.heap.size + 2 = Q at hst ⊢
  generalize w0.heap.size + 3 = base at hst ⊢
  generalize w0.heap.size = M at hst ⊢
  obtain ⟨X, hX⟩ : ∃ X, X = w.heap.size := ⟨_, rfl⟩
  rw [← hX] at hst
  rw [← hX]
  clear HJ1 HB1 HX1 HS0 HJ2 HF2 hX b1 b2 b3 b4
  go_loopg [7, 8, 9] 4 (fun k v7 v8 v9 wr => ∃ (i : Nat) (want : Int), k + i = 4 ∧ v7 = .int .i64 want ∧ v9 = .int .i64 i ∧ Aside (ER w wr X P M Q base e0 e1 e2 e3 f0 f1 f2 i want v8))
  case atStart => exact ⟨0, 0, rfl, rfl, rfl, ⟨hst⟩⟩
  case round =>
    clear hst
    obtain ⟨i, want, hik, rfl, rfl, hR⟩ := hrel
    obtain ⟨n, s, c, sl, cl, l, hJ, hn, hid, hfr, htg, hnm, hrow, hES⟩ := hR.out.st
    have hbel := Aside.mk hR.out.bel
    have herrs := Aside.mk hR.out.errs
    have hlow := Aside.mk hR.out.hlow
    clear hR
    rcases hES with ⟨rfl, rfl, rfl, hL⟩ | ⟨rfl, h1, rfl, rfl, hO⟩ | ⟨rfl, rfl, rfl, rfl, hL⟩ | ⟨rfl, rfl, hf1n, rfl, rfl, he, hL⟩ | ⟨rfl, rfl, rfl, rfl, rfl, hL⟩ | ⟨rfl, rfl, h2, rfl, rfl, hO⟩ | ⟨rfl, rfl, rfl, rfl, rfl, hO⟩
    · obtain ⟨hb, hs, hnu, hgr, hcn, hst⟩ := hL
      have hTk := T.TickSendC P M Q base n s c sl cl wr hJ hb (.inl hs) (by omega)
      have hSt := T.Stage Q ⟨P, 0, none⟩ c wr hJ.ctl
      obtain ⟨id, nodes, retry2, num, group, ⟨k0, k1, k2, k3, k4, k5, k6⟩, busy, sent, waited⟩ := s
      obtain ⟨stage, lo, hi, fr, tgo, data, ce, en⟩ := c
      dsimp only at hb hs hnu hgr hcn hst hid hfr htg hnm
      subst hb hs hnu hgr hcn hst hid hfr htg
      obtain ⟨Av, cv, rfl, hcv, _⟩ := Kd.R_reads hrow
      have HTk := Aside.mk hTk
      have HSt := Aside.mk hSt
      have HJ := Aside.mk hJ
      have HNn := Aside.mk hn
      have HRow := Aside.mk hrow
      clear hTk hSt hJ hn hnm hrow hcv
      go_wp2_with (go_at_call 12; refine HSt.out.mono ?_; rintro e w' ⟨rfl, hw⟩; subst w')
      refine HTk.out.mono ?_
      rintro e w3 ⟨B, lv, d3, n3, rfl, hB3, hd3, hJ3, hn3, hf3, hbB⟩
      obtain ⟨LL, hLL⟩ : ∃ LL : List Value, LL = (AS.pack ⟨5, nodes, retry2, 1, 3, ⟨k0, k1, 1, k3, k4, k5, k6⟩, true, false, waited⟩ lv d3).toList := ⟨_, rfl⟩
      have hB3' : w3.heap[B]? = some (.cells LL.toArray 57 (0, 0)) := by rw [hLL]; exact hB3
      have HLL := Aside.mk hLL
      have hl40 := Aside.mk (show LL.length = 40 by rw [hLL]; rfl)
      have HL1 := Aside.mk (show (LL.toArray.all (·.oneCell')) = true by
        obtain ⟨A3, c3, hd, _⟩ := Kd.R_reads hd3
        rw [hLL, hd]; simp [AS.pack, Value.oneCell'])
      have HB3 := Aside.mk hB3'
      have HJ3 := Aside.mk hJ3
      have HF3 := Aside.mk hf3
      have HN3 := Aside.mk hn3
      have HR3 := Aside.mk (show (Kd.int .i64).R 3 w3 base (fun _ => True) (.slice Av 0 cv) [] from R_fcG HRow.out hf3 (fun k hk => by have h1 := HJ.out.hP; have h2 := HJ.out.hM; have : k = P ∨ k = M := (by simpa using hk); omega))
      have HX3 := Aside.mk ((hf3.block X (Array.getElem?_eq_some_iff.1 herrs.out).1 (by have := hlow.out; simp; omega)).trans herrs.out)
      clear hB3 hB3' hd3 hJ3 hn3 hf3 hbB hLL HTk HSt
      go_wp2_with (with_reducible refine halt_at (.load 57 (.tmp 54)) rfl ?_)
      refine ⟨?_⟩
      refine wpList_load_mid rfl 57 (.tmp 54) rfl B 0 rfl LL _ (range_row HB3.out) Try.underlying57 rfl (by rw [hl40.out]; kernel_rfl) ?_
      go_wp2_with (with_reducible refine halt_at (.store 57 (.tmp 11) (.tmp 55)) rfl ?_)
      refine ⟨?_⟩
      have HBO := box_of w3 57 #[.int .i64 0, .int .i64 0, .int .i64 0, .int .i64 0, .int .i64 0, .int .i64 0, .int .i64 0, .int .i64 0, .int .i64 0, .int .i64 0, .slice none 0 0, .slice none 0 0, .int .i64 0, .int .i64 0, .int .i64 0, .int .i64 0, .int .i64 0, .string ⟨#[]⟩, .string ⟨#[]⟩, .string ⟨#[]⟩, .string ⟨#[]⟩, .int .i64 0, .int .i64 0, .int .i64 0, .string ⟨#[]⟩, .int .i64 0, .int .i64 0, .int .i64 0, .int .i64 0, .int .i64 0, .slice none 0 0, .int .i64 0, .int .i64 0, .int .i64 0, .slice none 0 0, .slice none 0 0, .slice none 0 0, .int .i64 0, .slice none 0 0, .slice none 0 0] LL (by rw [hl40.out]; rfl)
      refine wpList_store_mid rfl 57 (.tmp 11) (.tmp 55) rfl w3.heap.size 0 LL.toArray rfl rfl (by rw [List.size_toArray]; exact HBO.2.2.1) (by rw [List.size_toArray, hl40.out]; kernel_rfl) HL1.out ?_
      have hT4 : ((w3.alloc (.cells #[.int .i64 0, .int .i64 0, .int .i64 0, .int .i64 0, .int .i64 0, .int .i64 0, .int .i64 0, .int .i64 0, .int .i64 0, .int .i64 0, .slice none 0 0, .slice none 0 0, .int .i64 0, .int .i64 0, .int .i64 0, .int .i64 0, .int .i64 0, .string ⟨#[]⟩, .string ⟨#[]⟩, .string ⟨#[]⟩, .string ⟨#[]⟩, .int .i64 0, .int .i64 0, .int .i64 0, .string ⟨#[]⟩, .int .i64 0, .int .i64 0, .int .i64 0, .int .i64 0, .int .i64 0, .slice none 0 0, .int .i64 0, .int .i64 0, .int .i64 0, .slice none 0 0, .slice none 0 0, .slice none 0 0, .int .i64 0, .slice none 0 0, .slice none 0 0] 57)).setCells w3.heap.size 0 LL).heap[w3.heap.size]? = some (.cells LL.toArray 57 (0, 0)) := HBO.1
      have hf4 : FC [] w3 ((w3.alloc (.cells #[.int .i64 0, .int .i64 0, .int .i64 0, .int .i64 0, .int .i64 0, .int .i64 0, .int .i64 0, .int .i64 0, .int .i64 0, .int .i64 0, .slice none 0 0, .slice none 0 0, .int .i64 0, .int .i64 0, .int .i64 0, .int .i64 0, .int .i64 0, .string ⟨#[]⟩, .string ⟨#[]⟩, .string ⟨#[]⟩, .string ⟨#[]⟩, .int .i64 0, .int .i64 0, .int .i64 0, .string ⟨#[]⟩, .int .i64 0, .int .i64 0, .int .i64 0, .int .i64 0, .int .i64 0, .slice none 0 0, .int .i64 0, .int .i64 0, .int .i64 0, .slice none 0 0, .slice none 0 0, .slice none 0 0, .int .i64 0, .slice none 0 0, .slice none 0 0] 57)).setCells w3.heap.size 0 LL) := HBO.2.1
      clear HBO
      dsimp only at hT4 hf4 ⊢
      obtain ⟨TB, hT⟩ : ∃ TB, TB = w3.heap.size := ⟨_, rfl⟩
      rw [← hT] at hT4 hf4 ⊢
      generalize World.setCells (World.alloc w3 _) _ _ _ = w4 at hT4 hf4 ⊢
      have HT := Aside.mk hT
      have HT4 := Aside.mk hT4
      have HF4 := Aside.mk hf4
      have HJ4 := Aside.mk (HJ3.out.of_fc0 hf4)
      have hx4 := (hf4.block X (Array.getElem?_eq_some_iff.1 HX3.out).1 (by simp)).trans HX3.out
      have HX4 := Aside.mk hx4
      have HR4 := Aside.mk (R_fcG HR3.out hf4 (fun k hk => by simp at hk))
      have x4 : w4.cell? ⟨X, 0, none⟩ = some (.int .i64 e0) := by rw [cell_of_row _ _ _ _ _ _ hx4]; rfl
      have t3 : w4.cell? ⟨TB, 3, none⟩ = some (.int .i64 3) := by rw [cell_of_row _ _ _ _ _ _ hT4, HLL.out]; rfl
      clear hT hT4 hf4 hx4 HJ3 HR3 HX3 HB3
      go_wp2_with (with_reducible refine halt_at (.call { callee := .builtin .append, args := #[.tmp 64, .tmp 67], argTypes := #[65, 65] }) rfl ?_)
      refine ⟨?_⟩
      have hf5 : FC [] w4 (w4.alloc (.cells #[.int .i64 3] 3)) := (FC.refl _ _).alloc _
      have hT5 := (hf5.block TB (Array.getElem?_eq_some_iff.1 HT4.out).1 (by simp)).trans HT4.out
      have hX5 := (hf5.block X (Array.getElem?_eq_some_iff.1 HX4.out).1 (by simp)).trans HX4.out
      have hJ5 := HJ4.out.of_fc0 hf5
      have hR5 := R_fcG HR4.out hf5 (fun k hk => by simp at hk)
      refine wpList_appendI rfl (.tmp 64) (.tmp 67) rfl base (.slice Av 0 cv) [] [3] (some ⟨w4.heap.size, 0, none⟩) 1 1 rfl rfl hR5 (C_oneI w4 3) hJ5.hbase (by decide) (fun v6 w6 hR6 hg6 => ?_)
      have key : CJ w6 P M Q base n3 ⟨5, nodes, retry2, 1, 3, ⟨k0, k1, 1, k3, k4, k5, k6⟩, true, true, 0⟩ ⟨1, lo, hi, 3, 4, data, ce, en⟩ sl cl ∧ w6.heap[TB]? = some (.cells LL.toArray 57 (0, 0)) ∧ w6.heap[X]? = some (.cells #[.int .i64 e0, .int .i64 e1, .int .i64 e2, .int .i64 e3] 64 (0, 0)) ∧ Below w.heap.size w4 w6 := by
        have hb4 : w.heap.size ≤ w4.heap.size := by have h1 := hbel.out.size; have h2 := HF3.out.size; have h3 := HF4.out.size; omega
        cases hob : (Value.slice Av 0 cv).ownBlock with
        | none =>
          have hf : FC [] _ w6 := FC.grown0 (hob ▸ hg6)
          have hf46 := hf5.trans hf
          exact ⟨hJ5.of_fc0 hf, (hf.block TB (Array.getElem?_eq_some_iff.1 hT5).1 (by simp)).trans hT5, (hf.block X (Array.getElem?_eq_some_iff.1 hX5).1 (by simp)).trans hX5, hf46.os, hf46.tape, hf46.output, hf46.size, fun k hk => hf46.block k (by omega) (by simp)⟩
        | some g =>
          obtain ⟨hbg, cells, hgc⟩ := R_typed hR5 rfl g hob
          have hf : FC [g] _ w6 := FC.grown (hob ▸ hg6)
          have hf46 := (hf5.sub (S' := [g]) (by simp)).trans hf
          have hTg : TB ≠ g := fun e => by
            subst e
            rw [hT5] at hgc
            have := Option.some.inj hgc
            injection this with h1 h2
            cases h2
          have hl := hlow.out
          exact ⟨hJ5.of_typed hf hgc (by decide) hbg, (hf.block TB (Array.getElem?_eq_some_iff.1 hT5).1 (by simpa using hTg)).trans hT5, (hf.block X (Array.getElem?_eq_some_iff.1 hX5).1 (by simp; omega)).trans hX5, hf46.os, hf46.tape, hf46.output, hf46.size, fun k hk => hf46.block k (by omega) (by have := hJ5.hP; simp; omega)⟩
      obtain ⟨hJ6, hT6, hX6, hb6⟩ := key
      obtain ⟨A6, c6, rfl, _, _⟩ := Kd.R_reads hR6
      have HJ6 := Aside.mk hJ6
      have HX6 := Aside.mk hX6
      have HR6 := Aside.mk hR6
      have HB6 := Aside.mk hb6
      have t3 : w6.cell? ⟨TB, 3, none⟩ = some (.int .i64 3) := by rw [cell_of_row _ _ _ _ _ _ hT6, HLL.out]; rfl
      have t14 : w6.cell? ⟨TB, 14, none⟩ = some (.int .i64 1) := by rw [cell_of_row _ _ _ _ _ _ hT6, HLL.out]; rfl
      clear hf5 hT5 hX5 hJ5 hR5 hJ6 hT6 hX6 hR6 hb6 hg6 x4 HT4 HX4 HR4
      go_wp2_with fail
      obtain ⟨w7, hw7⟩ : ∃ w7, w7 = w6.alloc (Obj.cells #[Value.string { data := #[100] }] 9) := ⟨_, rfl⟩
      have hf7 : FC [] w6 w7 := by rw [hw7]; exact FC.alloc (FC.refl _ _) _
      have hC7 : Kd.C Kd.string w7 (some ⟨w6.heap.size, 0, none⟩) 1 [⟨#[100]⟩] := by rw [hw7]; exact C_one w6 _
      have hs7 : w7.heap.size = w6.heap.size + 1 := by rw [hw7]; simp
      have hJ7 := HJ6.out.of_fc0 hf7
      have hRv := T.RecvAns P M Q base n3 _ _ _ _ f0 0 (some ⟨w6.heap.size, 0, none⟩) 1 [⟨#[100]⟩] w7 hJ7 rfl (.inl rfl) (by dsimp only; omega) (by simp; omega) hC7 (by simp) (fun ad e => by have h1 := hJ7.hP; have h2 := HJ6.out.hbase; cases e; exact ⟨by show w6.heap.size ≠ P; omega, by show w6.heap.size < w7.heap.size; omega⟩)
      rw [← hw7]
      refine hRv.mono ?_
      rintro e w8 ⟨rfl, n8, s8, c8, sl8, cl8, hn8, hNx, hJ8, hf8⟩
      have hlw := hlow.out
      have hb8 : Below w.heap.size w w8 := by
        have h4 : Below w.heap.size w w4 := FC.below hbel.out (HF3.out.trans (HF4.out.sub (by simp))) (fun x hx => by have : x = P ∨ x = M := (by simpa using hx); omega) (Nat.le_refl _)
        have h6 : Below w.heap.size w w6 := h4.trans HB6.out
        have h7 : Below w.heap.size w w7 := FC.below h6 hf7 (fun x hx => by simp at hx) (Nat.le_refl _)
        exact FC.below h7 hf8 (fun x hx => by have : x = P ∨ x = M ∨ x = Q := (by simpa using hx); omega) (Nat.le_refl _)
      have hX8 := (hf8.block X (by have := (Array.getElem?_eq_some_iff.1 HX6.out).1; omega) (by simp; omega)).trans ((hf7.block X (Array.getElem?_eq_some_iff.1 HX6.out).1 (by simp)).trans HX6.out)
      have hR8 := R_fcG (R_fcG HR6.out hf7 (fun k hk => by simp at hk)) hf8 (fun k hk => by have h1 := HJ.out.hP; have h2 := HJ.out.hM; have h3 := HJ.out.hQ; have : k = P ∨ k = M ∨ k = Q := (by simpa using hk); omega)
      rcases hNx with ⟨h1, h2, h3, h4, h5, h6⟩ | ⟨h1, h2, ⟨d5, h3⟩, ⟨d6, h4⟩, h5, h6⟩ | ⟨h1, h2, ⟨d5, h3⟩, ⟨d6, h4⟩, h5, h6⟩ | ⟨h1, h2, ⟨d5, h3⟩, ⟨d6, h4⟩, h5, h6⟩ | ⟨h1, h3, h4, h5, h6⟩ | ⟨h1, h3, h4, h5, h6⟩
      · subst h3 h4
        have hW : Aside (ER w w8 X P M Q base e0 e1 e2 e3 f0 f1 f2 (0 + 1) f0 (.slice A6 (0 + 1) c6)) := ⟨⟨hb8, hX8, hlw, n8, _, _, _, _, _, hJ8, by have := HN3.out; have := HNn.out; omega, rfl, rfl, rfl, by dsimp only; omega, hR8, .inr (.inl ⟨rfl, h2, rfl, rfl, ⟨rfl, rfl, rfl⟩⟩)⟩⟩
        clear hJ8 hn8 hf8 hw7 hf7 hC7 hs7 hJ7 hRv hlw hb8 hX8 hR8 h1
        go_wp2_with fail
        go_roundg (gk - 1)
        case measure => omega
        case rel => exact ⟨0 + 1, f0, by omega, rfl, by go_num, hW⟩
      · subst h3 h4
        have hW : Aside (ER w w8 X P M Q base e0 e1 e2 e3 f0 f1 f2 (0 + 1) 0 (.slice A6 (0 + 1) c6)) := ⟨⟨hb8, hX8, hlw, n8, _, _, _, _, _, hJ8, by have := HN3.out; have := HNn.out; omega, rfl, rfl, rfl, by dsimp only; omega, hR8, .inr (.inr (.inl ⟨rfl, h2, rfl, rfl, ⟨rfl, rfl, rfl, rfl, rfl, rfl⟩⟩))⟩⟩
        clear hJ8 hn8 hf8 hw7 hf7 hC7 hs7 hJ7 hRv hlw hb8 hX8 hR8 h1
        go_wp2_with fail
        go_roundg (gk - 1)
        case measure => omega
        case rel => exact ⟨0 + 1, 0, by omega, rfl, by go_num, hW⟩
      · exfalso; dsimp only at h1; omega
      · exfalso; dsimp only at h1; omega
      · exfalso; dsimp only at h1; omega
      · exfalso; dsimp only at h1; omega
    · obtain ⟨ho1, ho2, ho3⟩ := hO
      obtain ⟨stage, lo, hi, fr, tgo, data, ce, en⟩ := c
      dsimp only at ho1 ho2 ho3
      subst ho1 ho2 ho3
      obtain ⟨Av, cv, rfl, hcv, hC⟩ := Kd.R_reads hrow
      have HRes := Aside.mk (T.Result Q ⟨P, 0, none⟩ _ wr hJ.ctl)
      have HSt := Aside.mk (T.Stage Q ⟨P, 0, none⟩ _ wr hJ.ctl)
      clear hJ hn hnm hid hfr htg hcv
      obtain ⟨A2, hA2, hcl⟩ := hC.2.2 (by decide)
      subst hA2
      obtain ⟨gk2, rfl⟩ := Kd.R_head hrow
      have z0 : wr.cell? ⟨gk2, 0, none⟩ = some (.int .i64 3) := (by obtain ⟨cs, h1, h2, h3⟩ := hcl 0 3 rfl; have h2 : cs = [.int .i64 3] := h2; subst h2; exact h3 0 _ rfl)
      clear hC hcl hrow
      go_wp2_with (first | (go_at_call 7; refine HRes.out.mono ?_; rintro e w' ⟨rfl, hw⟩; subst w') | (go_at_call 12; refine HSt.out.mono ?_; rintro e w' ⟨rfl, hw⟩; subst w'))
      have x0 : wr.cell? ⟨X, 0, none⟩ = some (.int .i64 e0) := by rw [cell_of_row _ _ _ _ _ _ herrs.out]; rfl
      have x1 : wr.cell? ⟨X, 1, none⟩ = some (.int .i64 e1) := by rw [cell_of_row _ _ _ _ _ _ herrs.out]; rfl
      go_quiet (fail)
      go_wp2_with (go_at_call 13; refine (T.works _).mono ?_; rintro e w9 ⟨rfl, hb9⟩; have HB9 := Aside.mk hb9; clear hb9)
      go_ret
      exact ⟨rfl, (pw_below_drewN hbel.out nq).trans (HB9.out.mono (pw_below_drewN hbel.out nq).size)⟩
    · obtain ⟨hb, hs, hnu, hgr, hcn, hst⟩ := hL
      have hTk := T.TickSendC P M Q base n s c sl cl wr hJ hb (.inl hs) (by omega)
      have hSt := T.Stage Q ⟨P, 0, none⟩ c wr hJ.ctl
      obtain ⟨id, nodes, retry2, num, group, ⟨k0, k1, k2, k3, k4, k5, k6⟩, busy, sent, waited⟩ := s
      obtain ⟨stage, lo, hi, fr, tgo, data, ce, en⟩ := c
      dsimp only at hb hs hnu hgr hcn hst hid hfr htg hnm
      subst hb hs hnu hgr hcn hst hid hfr htg
      obtain ⟨Av, cv, rfl, hcv, _⟩ := Kd.R_reads hrow
      have HTk := Aside.mk hTk
      have HSt := Aside.mk hSt
      have HJ := Aside.mk hJ
      have HNn := Aside.mk hn
      have HRow := Aside.mk hrow
      clear hTk hSt hJ hn hnm hrow hcv
      go_wp2_with (go_at_call 12; refine HSt.out.mono ?_; rintro e w' ⟨rfl, hw⟩; subst w')
      refine HTk.out.mono ?_
      rintro e w3 ⟨B, lv, d3, n3, rfl, hB3, hd3, hJ3, hn3, hf3, hbB⟩
      obtain ⟨LL, hLL⟩ : ∃ LL : List Value, LL = (AS.pack ⟨5, nodes, retry2, 2, 4, ⟨k0, k1, 2, k3, k4, k5, k6⟩, true, false, waited⟩ lv d3).toList := ⟨_, rfl⟩
      have hB3' : w3.heap[B]? = some (.cells LL.toArray 57 (0, 0)) := by rw [hLL]; exact hB3
      have HLL := Aside.mk hLL
      have hl40 := Aside.mk (show LL.length = 40 by rw [hLL]; rfl)
      have HL1 := Aside.mk (show (LL.toArray.all (·.oneCell')) = true by
        obtain ⟨A3, c3, hd, _⟩ := Kd.R_reads hd3
        rw [hLL, hd]; simp [AS.pack, Value.oneCell'])
      have HB3 := Aside.mk hB3'
      have HJ3 := Aside.mk hJ3
      have HF3 := Aside.mk hf3
      have HN3 := Aside.mk hn3
      have HR3 := Aside.mk (show (Kd.int .i64).R 3 w3 base (fun _ => True) (.slice Av 1 cv) [3] from R_fcG HRow.out hf3 (fun k hk => by have h1 := HJ.out.hP; have h2 := HJ.out.hM; have : k = P ∨ k = M := (by simpa using hk); omega))
      have HX3 := Aside.mk ((hf3.block X (Array.getElem?_eq_some_iff.1 herrs.out).1 (by have := hlow.out; simp; omega)).trans herrs.out)
      clear hB3 hB3' hd3 hJ3 hn3 hf3 hbB hLL HTk HSt
      go_wp2_with (with_reducible refine halt_at (.load 57 (.tmp 54)) rfl ?_)
      refine ⟨?_⟩
      refine wpList_load_mid rfl 57 (.tmp 54) rfl B 0 rfl LL _ (range_row HB3.out) Try.underlying57 rfl (by rw [hl40.out]; kernel_rfl) ?_
      go_wp2_with (with_reducible refine halt_at (.store 57 (.tmp 11) (.tmp 55)) rfl ?_)
      refine ⟨?_⟩
      have HBO := box_of w3 57 #[.int .i64 0, .int .i64 0, .int .i64 0, .int .i64 0, .int .i64 0, .int .i64 0, .int .i64 0, .int .i64 0, .int .i64 0, .int .i64 0, .slice none 0 0, .slice none 0 0, .int .i64 0, .int .i64 0, .int .i64 0, .int .i64 0, .int .i64 0, .string ⟨#[]⟩, .string ⟨#[]⟩, .string ⟨#[]⟩, .string ⟨#[]⟩, .int .i64 0, .int .i64 0, .int .i64 0, .string ⟨#[]⟩, .int .i64 0, .int .i64 0, .int .i64 0, .int .i64 0, .int .i64 0, .slice none 0 0, .int .i64 0, .int .i64 0, .int .i64 0, .slice none 0 0, .slice none 0 0, .slice none 0 0, .int .i64 0, .slice none 0 0, .slice none 0 0] LL (by rw [hl40.out]; rfl)
      refine wpList_store_mid rfl 57 (.tmp 11) (.tmp 55) rfl w3.heap.size 0 LL.toArray rfl rfl (by rw [List.size_toArray]; exact HBO.2.2.1) (by rw [List.size_toArray, hl40.out]; kernel_rfl) HL1.out ?_
      have hT4 : ((w3.alloc (.cells #[.int .i64 0, .int .i64 0, .int .i64 0, .int .i64 0, .int .i64 0, .int .i64 0, .int .i64 0, .int .i64 0, .int .i64 0, .int .i64 0, .slice none 0 0, .slice none 0 0, .int .i64 0, .int .i64 0, .int .i64 0, .int .i64 0, .int .i64 0, .string ⟨#[]⟩, .string ⟨#[]⟩, .string ⟨#[]⟩, .string ⟨#[]⟩, .int .i64 0, .int .i64 0, .int .i64 0, .string ⟨#[]⟩, .int .i64 0, .int .i64 0, .int .i64 0, .int .i64 0, .int .i64 0, .slice none 0 0, .int .i64 0, .int .i64 0, .int .i64 0, .slice none 0 0, .slice none 0 0, .slice none 0 0, .int .i64 0, .slice none 0 0, .slice none 0 0] 57)).setCells w3.heap.size 0 LL).heap[w3.heap.size]? = some (.cells LL.toArray 57 (0, 0)) := HBO.1
      have hf4 : FC [] w3 ((w3.alloc (.cells #[.int .i64 0, .int .i64 0, .int .i64 0, .int .i64 0, .int .i64 0, .int .i64 0, .int .i64 0, .int .i64 0, .int .i64 0, .int .i64 0, .slice none 0 0, .slice none 0 0, .int .i64 0, .int .i64 0, .int .i64 0, .int .i64 0, .int .i64 0, .string ⟨#[]⟩, .string ⟨#[]⟩, .string ⟨#[]⟩, .string ⟨#[]⟩, .int .i64 0, .int .i64 0, .int .i64 0, .string ⟨#[]⟩, .int .i64 0, .int .i64 0, .int .i64 0, .int .i64 0, .int .i64 0, .slice none 0 0, .int .i64 0, .int .i64 0, .int .i64 0, .slice none 0 0, .slice none 0 0, .slice none 0 0, .int .i64 0, .slice none 0 0, .slice none 0 0] 57)).setCells w3.heap.size 0 LL) := HBO.2.1
      clear HBO
      dsimp only at hT4 hf4 ⊢
      obtain ⟨TB, hT⟩ : ∃ TB, TB = w3.heap.size := ⟨_, rfl⟩
      rw [← hT] at hT4 hf4 ⊢
      generalize World.setCells (World.alloc w3 _) _ _ _ = w4 at hT4 hf4 ⊢
      have HT := Aside.mk hT
      have HT4 := Aside.mk hT4
      have HF4 := Aside.mk hf4
      have HJ4 := Aside.mk (HJ3.out.of_fc0 hf4)
      have hx4 := (hf4.block X (Array.getElem?_eq_some_iff.1 HX3.out).1 (by simp)).trans HX3.out
      have HX4 := Aside.mk hx4
      have HR4 := Aside.mk (R_fcG HR3.out hf4 (fun k hk => by simp at hk))
      have x4 : w4.cell? ⟨X, 1, none⟩ = some (.int .i64 e1) := by rw [cell_of_row _ _ _ _ _ _ hx4]; rfl
      have t3 : w4.cell? ⟨TB, 3, none⟩ = some (.int .i64 4) := by rw [cell_of_row _ _ _ _ _ _ hT4, HLL.out]; rfl
      clear hT hT4 hf4 hx4 HJ3 HR3 HX3 HB3
      go_wp2_with (with_reducible refine halt_at (.call { callee := .builtin .append, args := #[.tmp 64, .tmp 67], argTypes := #[65, 65] }) rfl ?_)
      refine ⟨?_⟩
      have hf5 : FC [] w4 (w4.alloc (.cells #[.int .i64 4] 3)) := (FC.refl _ _).alloc _
      have hT5 := (hf5.block TB (Array.getElem?_eq_some_iff.1 HT4.out).1 (by simp)).trans HT4.out
      have hX5 := (hf5.block X (Array.getElem?_eq_some_iff.1 HX4.out).1 (by simp)).trans HX4.out
      have hJ5 := HJ4.out.of_fc0 hf5
      have hR5 := R_fcG HR4.out hf5 (fun k hk => by simp at hk)
      refine wpList_appendI rfl (.tmp 64) (.tmp 67) rfl base (.slice Av 1 cv) [3] [4] (some ⟨w4.heap.size, 0, none⟩) 1 1 rfl rfl hR5 (C_oneI w4 4) hJ5.hbase (by decide) (fun v6 w6 hR6 hg6 => ?_)
      have key : CJ w6 P M Q base n3 ⟨5, nodes, retry2, 2, 4, ⟨k0, k1, 2, k3, k4, k5, k6⟩, true, true, 0⟩ ⟨2, lo, hi, 3, 4, data, ce, en⟩ sl cl ∧ w6.heap[TB]? = some (.cells LL.toArray 57 (0, 0)) ∧ w6.heap[X]? = some (.cells #[.int .i64 e0, .int .i64 e1, .int .i64 e2, .int .i64 e3] 64 (0, 0)) ∧ Below w.heap.size w4 w6 := by
        have hb4 : w.heap.size ≤ w4.heap.size := by have h1 := hbel.out.size; have h2 := HF3.out.size; have h3 := HF4.out.size; omega
        cases hob : (Value.slice Av 1 cv).ownBlock with
        | none =>
          have hf : FC [] _ w6 := FC.grown0 (hob ▸ hg6)
          have hf46 := hf5.trans hf
          exact ⟨hJ5.of_fc0 hf, (hf.block TB (Array.getElem?_eq_some_iff.1 hT5).1 (by simp)).trans hT5, (hf.block X (Array.getElem?_eq_some_iff.1 hX5).1 (by simp)).trans hX5, hf46.os, hf46.tape, hf46.output, hf46.size, fun k hk => hf46.block k (by omega) (by simp)⟩
        | some g =>
          obtain ⟨hbg, cells, hgc⟩ := R_typed hR5 rfl g hob
          have hf : FC [g] _ w6 := FC.grown (hob ▸ hg6)
          have hf46 := (hf5.sub (S' := [g]) (by simp)).trans hf
          have hTg : TB ≠ g := fun e => by
            subst e
            rw [hT5] at hgc
            have := Option.some.inj hgc
            injection this with h1 h2
            cases h2
          have hl := hlow.out
          exact ⟨hJ5.of_typed hf hgc (by decide) hbg, (hf.block TB (Array.getElem?_eq_some_iff.1 hT5).1 (by simpa using hTg)).trans hT5, (hf.block X (Array.getElem?_eq_some_iff.1 hX5).1 (by simp; omega)).trans hX5, hf46.os, hf46.tape, hf46.output, hf46.size, fun k hk => hf46.block k (by omega) (by have := hJ5.hP; simp; omega)⟩
      obtain ⟨hJ6, hT6, hX6, hb6⟩ := key
      obtain ⟨A6, c6, rfl, _, _⟩ := Kd.R_reads hR6
      have HJ6 := Aside.mk hJ6
      have HX6 := Aside.mk hX6
      have HR6 := Aside.mk hR6
      have HB6 := Aside.mk hb6
      have t3 : w6.cell? ⟨TB, 3, none⟩ = some (.int .i64 4) := by rw [cell_of_row _ _ _ _ _ _ hT6, HLL.out]; rfl
      have t14 : w6.cell? ⟨TB, 14, none⟩ = some (.int .i64 2) := by rw [cell_of_row _ _ _ _ _ _ hT6, HLL.out]; rfl
      clear hf5 hT5 hX5 hJ5 hR5 hJ6 hT6 hX6 hR6 hb6 hg6 x4 HT4 HX4 HR4
      go_wp2_with fail
      obtain ⟨w7, hw7⟩ : ∃ w7, w7 = w6.alloc (Obj.cells #[Value.string { data := #[100] }] 9) := ⟨_, rfl⟩
      have hf7 : FC [] w6 w7 := by rw [hw7]; exact FC.alloc (FC.refl _ _) _
      have hC7 : Kd.C Kd.string w7 (some ⟨w6.heap.size, 0, none⟩) 1 [⟨#[100]⟩] := by rw [hw7]; exact C_one w6 _
      have hs7 : w7.heap.size = w6.heap.size + 1 := by rw [hw7]; simp
      have hJ7 := HJ6.out.of_fc0 hf7
      have hRv := T.RecvAns P M Q base n3 _ _ _ _ f1 0 (some ⟨w6.heap.size, 0, none⟩) 1 [⟨#[100]⟩] w7 hJ7 rfl (.inr (.inl rfl)) (by dsimp only; omega) (by simp; omega) hC7 (by simp) (fun ad e => by have h1 := hJ7.hP; have h2 := HJ6.out.hbase; cases e; exact ⟨by show w6.heap.size ≠ P; omega, by show w6.heap.size < w7.heap.size; omega⟩)
      rw [← hw7]
      refine hRv.mono ?_
      rintro e w8 ⟨rfl, n8, s8, c8, sl8, cl8, hn8, hNx, hJ8, hf8⟩
      have hlw := hlow.out
      have hb8 : Below w.heap.size w w8 := by
        have h4 : Below w.heap.size w w4 := FC.below hbel.out (HF3.out.trans (HF4.out.sub (by simp))) (fun x hx => by have : x = P ∨ x = M := (by simpa using hx); omega) (Nat.le_refl _)
        have h6 : Below w.heap.size w w6 := h4.trans HB6.out
        have h7 : Below w.heap.size w w7 := FC.below h6 hf7 (fun x hx => by simp at hx) (Nat.le_refl _)
        exact FC.below h7 hf8 (fun x hx => by have : x = P ∨ x = M ∨ x = Q := (by simpa using hx); omega) (Nat.le_refl _)
      have hX8 := (hf8.block X (by have := (Array.getElem?_eq_some_iff.1 HX6.out).1; omega) (by simp; omega)).trans ((hf7.block X (Array.getElem?_eq_some_iff.1 HX6.out).1 (by simp)).trans HX6.out)
      have hR8 := R_fcG (R_fcG HR6.out hf7 (fun k hk => by simp at hk)) hf8 (fun k hk => by have h1 := HJ.out.hP; have h2 := HJ.out.hM; have h3 := HJ.out.hQ; have : k = P ∨ k = M ∨ k = Q := (by simpa using hk); omega)
      rcases hNx with ⟨h1, h2, h3, h4, h5, h6⟩ | ⟨h1, h2, ⟨d5, h3⟩, ⟨d6, h4⟩, h5, h6⟩ | ⟨h1, h2, ⟨d5, h3⟩, ⟨d6, h4⟩, h5, h6⟩ | ⟨h1, h2, ⟨d5, h3⟩, ⟨d6, h4⟩, h5, h6⟩ | ⟨h1, h3, h4, h5, h6⟩ | ⟨h1, h3, h4, h5, h6⟩
      · exfalso; dsimp only at h1; omega
      · exfalso; dsimp only at h1; omega
      · subst h3 h4
        have hW : Aside (ER w w8 X P M Q base e0 e1 e2 e3 0 f1 f2 (1 + 1) f1 (.slice A6 (1 + 1) c6)) := ⟨⟨hb8, hX8, hlw, n8, _, _, _, _, _, hJ8, by have := HN3.out; have := HNn.out; omega, rfl, rfl, rfl, by dsimp only; omega, hR8, .inr (.inr (.inr (.inl ⟨rfl, rfl, h2, rfl, rfl, rfl, ⟨rfl, rfl, rfl, rfl, rfl, rfl⟩⟩)))⟩⟩
        clear hJ8 hn8 hf8 hw7 hf7 hC7 hs7 hJ7 hRv hlw hb8 hX8 hR8 h1
        go_wp2_with fail
        go_roundg (gk - 1)
        case measure => omega
        case rel => exact ⟨1 + 1, f1, by omega, rfl, by go_num, hW⟩
      · subst h3 h4
        have hW : Aside (ER w w8 X P M Q base e0 e1 e2 e3 0 f1 f2 (1 + 1) 0 (.slice A6 (1 + 1) c6)) := ⟨⟨hb8, hX8, hlw, n8, _, _, _, _, _, hJ8, by have := HN3.out; have := HNn.out; omega, rfl, rfl, rfl, by dsimp only; omega, hR8, .inr (.inr (.inr (.inr (.inl ⟨rfl, rfl, h2, rfl, rfl, ⟨rfl, rfl, rfl, rfl, rfl, rfl⟩⟩))))⟩⟩
        clear hJ8 hn8 hf8 hw7 hf7 hC7 hs7 hJ7 hRv hlw hb8 hX8 hR8 h1
        go_wp2_with fail
        go_roundg (gk - 1)
        case measure => omega
        case rel => exact ⟨1 + 1, 0, by omega, rfl, by go_num, hW⟩
      · exfalso; dsimp only at h1; omega
      · exfalso; dsimp only at h1; omega
    · obtain ⟨hb, hs, hnu, hgr, hcn, hst⟩ := hL
      have hTk := T.TickSendC P M Q base n s c sl cl wr hJ hb (.inl hs) (by omega)
      have hSt := T.Stage Q ⟨P, 0, none⟩ c wr hJ.ctl
      obtain ⟨id, nodes, retry2, num, group, ⟨k0, k1, k2, k3, k4, k5, k6⟩, busy, sent, waited⟩ := s
      obtain ⟨stage, lo, hi, fr, tgo, data, ce, en⟩ := c
      dsimp only at hb hs hnu hgr hcn hst hid hfr htg hnm he
      subst hb hs hnu hgr hcn hst hid hfr htg
      obtain ⟨Av, cv, rfl, hcv, _⟩ := Kd.R_reads hrow
      have HTk := Aside.mk hTk
      have HSt := Aside.mk hSt
      have HJ := Aside.mk hJ
      have HNn := Aside.mk hn
      have HRow := Aside.mk hrow
      clear hTk hSt hJ hn hnm hrow hcv
      go_wp2_with (go_at_call 12; refine HSt.out.mono ?_; rintro e w' ⟨rfl, hw⟩; subst w')
      refine HTk.out.mono ?_
      rintro e w3 ⟨B, lv, d3, n3, rfl, hB3, hd3, hJ3, hn3, hf3, hbB⟩
      obtain ⟨LL, hLL⟩ : ∃ LL : List Value, LL = (AS.pack ⟨5, nodes, retry2, 3, 3, ⟨k0, k1, 3, k3, k4, k5, k6⟩, true, false, waited⟩ lv d3).toList := ⟨_, rfl⟩
      have hB3' : w3.heap[B]? = some (.cells LL.toArray 57 (0, 0)) := by rw [hLL]; exact hB3
      have HLL := Aside.mk hLL
      have hl40 := Aside.mk (show LL.length = 40 by rw [hLL]; rfl)
      have HL1 := Aside.mk (show (LL.toArray.all (·.oneCell')) = true by
        obtain ⟨A3, c3, hd, _⟩ := Kd.R_reads hd3
        rw [hLL, hd]; simp [AS.pack, Value.oneCell'])
      have HB3 := Aside.mk hB3'
      have HJ3 := Aside.mk hJ3
      have HF3 := Aside.mk hf3
      have HN3 := Aside.mk hn3
      have HR3 := Aside.mk (show (Kd.int .i64).R 3 w3 base (fun _ => True) (.slice Av 2 cv) [3, 4] from R_fcG HRow.out hf3 (fun k hk => by have h1 := HJ.out.hP; have h2 := HJ.out.hM; have : k = P ∨ k = M := (by simpa using hk); omega))
      have HX3 := Aside.mk ((hf3.block X (Array.getElem?_eq_some_iff.1 herrs.out).1 (by have := hlow.out; simp; omega)).trans herrs.out)
      clear hB3 hB3' hd3 hJ3 hn3 hf3 hbB hLL HTk HSt
      go_wp2_with (with_reducible refine halt_at (.load 57 (.tmp 54)) rfl ?_)
      refine ⟨?_⟩
      refine wpList_load_mid rfl 57 (.tmp 54) rfl B 0 rfl LL _ (range_row HB3.out) Try.underlying57 rfl (by rw [hl40.out]; kernel_rfl) ?_
      go_wp2_with (with_reducible refine halt_at (.store 57 (.tmp 11) (.tmp 55)) rfl ?_)
      refine ⟨?_⟩
      have HBO := box_of w3 57 #[.int .i64 0, .int .i64 0, .int .i64 0, .int .i64 0, .int .i64 0, .int .i64 0, .int .i64 0, .int .i64 0, .int .i64 0, .int .i64 0, .slice none 0 0, .slice none 0 0, .int .i64 0, .int .i64 0, .int .i64 0, .int .i64 0, .int .i64 0, .string ⟨#[]⟩, .string ⟨#[]⟩, .string ⟨#[]⟩, .string ⟨#[]⟩, .int .i64 0, .int .i64 0, .int .i64 0, .string ⟨#[]⟩, .int .i64 0, .int .i64 0, .int .i64 0, .int .i64 0, .int .i64 0, .slice none 0 0, .int .i64 0, .int .i64 0, .int .i64 0, .slice none 0 0, .slice none 0 0, .slice none 0 0, .int .i64 0, .slice none 0 0, .slice none 0 0] LL (by rw [hl40.out]; rfl)
      refine wpList_store_mid rfl 57 (.tmp 11) (.tmp 55) rfl w3.heap.size 0 LL.toArray rfl rfl (by rw [List.size_toArray]; exact HBO.2.2.1) (by rw [List.size_toArray, hl40.out]; kernel_rfl) HL1.out ?_
      have hT4 : ((w3.alloc (.cells #[.int .i64 0, .int .i64 0, .int .i64 0, .int .i64 0, .int .i64 0, .int .i64 0, .int .i64 0, .int .i64 0, .int .i64 0, .int .i64 0, .slice none 0 0, .slice none 0 0, .int .i64 0, .int .i64 0, .int .i64 0, .int .i64 0, .int .i64 0, .string ⟨#[]⟩, .string ⟨#[]⟩, .string ⟨#[]⟩, .string ⟨#[]⟩, .int .i64 0, .int .i64 0, .int .i64 0, .string ⟨#[]⟩, .int .i64 0, .int .i64 0, .int .i64 0, .int .i64 0, .int .i64 0, .slice none 0 0, .int .i64 0, .int .i64 0, .int .i64 0, .slice none 0 0, .slice none 0 0, .slice none 0 0, .int .i64 0, .slice none 0 0, .slice none 0 0] 57)).setCells w3.heap.size 0 LL).heap[w3.heap.size]? = some (.cells LL.toArray 57 (0, 0)) := HBO.1
      have hf4 : FC [] w3 ((w3.alloc (.cells #[.int .i64 0, .int .i64 0, .int .i64 0, .int .i64 0, .int .i64 0, .int .i64 0, .int .i64 0, .int .i64 0, .int .i64 0, .int .i64 0, .slice none 0 0, .slice none 0 0, .int .i64 0, .int .i64 0, .int .i64 0, .int .i64 0, .int .i64 0, .string ⟨#[]⟩, .string ⟨#[]⟩, .string ⟨#[]⟩, .string ⟨#[]⟩, .int .i64 0, .int .i64 0, .int .i64 0, .string ⟨#[]⟩, .int .i64 0, .int .i64 0, .int .i64 0, .int .i64 0, .int .i64 0, .slice none 0 0, .int .i64 0, .int .i64 0, .int .i64 0, .slice none 0 0, .slice none 0 0, .slice none 0 0, .int .i64 0, .slice none 0 0, .slice none 0 0] 57)).setCells w3.heap.size 0 LL) := HBO.2.1
      clear HBO
      dsimp only at hT4 hf4 ⊢
      obtain ⟨TB, hT⟩ : ∃ TB, TB = w3.heap.size := ⟨_, rfl⟩
      rw [← hT] at hT4 hf4 ⊢
      generalize World.setCells (World.alloc w3 _) _ _ _ = w4 at hT4 hf4 ⊢
      have HT := Aside.mk hT
      have HT4 := Aside.mk hT4
      have HF4 := Aside.mk hf4
      have HJ4 := Aside.mk (HJ3.out.of_fc0 hf4)
      have hx4 := (hf4.block X (Array.getElem?_eq_some_iff.1 HX3.out).1 (by simp)).trans HX3.out
      have HX4 := Aside.mk hx4
      have HR4 := Aside.mk (R_fcG HR3.out hf4 (fun k hk => by simp at hk))
      have x4 : w4.cell? ⟨X, 2, none⟩ = some (.int .i64 e2) := by rw [cell_of_row _ _ _ _ _ _ hx4]; rfl
      have t3 : w4.cell? ⟨TB, 3, none⟩ = some (.int .i64 3) := by rw [cell_of_row _ _ _ _ _ _ hT4, HLL.out]; rfl
      clear hT hT4 hf4 hx4 HJ3 HR3 HX3 HB3
      go_wp2_with (with_reducible refine halt_at (.call { callee := .builtin .append, args := #[.tmp 64, .tmp 67], argTypes := #[65, 65] }) rfl ?_)
      refine ⟨?_⟩
      have hf5 : FC [] w4 (w4.alloc (.cells #[.int .i64 3] 3)) := (FC.refl _ _).alloc _
      have hT5 := (hf5.block TB (Array.getElem?_eq_some_iff.1 HT4.out).1 (by simp)).trans HT4.out
      have hX5 := (hf5.block X (Array.getElem?_eq_some_iff.1 HX4.out).1 (by simp)).trans HX4.out
      have hJ5 := HJ4.out.of_fc0 hf5
      have hR5 := R_fcG HR4.out hf5 (fun k hk => by simp at hk)
      refine wpList_appendI rfl (.tmp 64) (.tmp 67) rfl base (.slice Av 2 cv) [3, 4] [3] (some ⟨w4.heap.size, 0, none⟩) 1 1 rfl rfl hR5 (C_oneI w4 3) hJ5.hbase (by decide) (fun v6 w6 hR6 hg6 => ?_)
      have key : CJ w6 P M Q base n3 ⟨5, nodes, retry2, 3, 3, ⟨k0, k1, 3, k3, k4, k5, k6⟩, true, true, 0⟩ ⟨4, lo, hi, 3, 4, data, ce, en⟩ sl cl ∧ w6.heap[TB]? = some (.cells LL.toArray 57 (0, 0)) ∧ w6.heap[X]? = some (.cells #[.int .i64 e0, .int .i64 e1, .int .i64 e2, .int .i64 e3] 64 (0, 0)) ∧ Below w.heap.size w4 w6 := by
        have hb4 : w.heap.size ≤ w4.heap.size := by have h1 := hbel.out.size; have h2 := HF3.out.size; have h3 := HF4.out.size; omega
        cases hob : (Value.slice Av 2 cv).ownBlock with
        | none =>
          have hf : FC [] _ w6 := FC.grown0 (hob ▸ hg6)
          have hf46 := hf5.trans hf
          exact ⟨hJ5.of_fc0 hf, (hf.block TB (Array.getElem?_eq_some_iff.1 hT5).1 (by simp)).trans hT5, (hf.block X (Array.getElem?_eq_some_iff.1 hX5).1 (by simp)).trans hX5, hf46.os, hf46.tape, hf46.output, hf46.size, fun k hk => hf46.block k (by omega) (by simp)⟩
        | some g =>
          obtain ⟨hbg, cells, hgc⟩ := R_typed hR5 rfl g hob
          have hf : FC [g] _ w6 := FC.grown (hob ▸ hg6)
          have hf46 := (hf5.sub (S' := [g]) (by simp)).trans hf
          have hTg : TB ≠ g := fun e => by
            subst e
            rw [hT5] at hgc
            have := Option.some.inj hgc
            injection this with h1 h2
            cases h2
          have hl := hlow.out
          exact ⟨hJ5.of_typed hf hgc (by decide) hbg, (hf.block TB (Array.getElem?_eq_some_iff.1 hT5).1 (by simpa using hTg)).trans hT5, (hf.block X (Array.getElem?_eq_some_iff.1 hX5).1 (by simp; omega)).trans hX5, hf46.os, hf46.tape, hf46.output, hf46.size, fun k hk => hf46.block k (by omega) (by have := hJ5.hP; simp; omega)⟩
      obtain ⟨hJ6, hT6, hX6, hb6⟩ := key
      obtain ⟨A6, c6, rfl, _, _⟩ := Kd.R_reads hR6
      have HJ6 := Aside.mk hJ6
      have HX6 := Aside.mk hX6
      have HR6 := Aside.mk hR6
      have HB6 := Aside.mk hb6
      have t3 : w6.cell? ⟨TB, 3, none⟩ = some (.int .i64 3) := by rw [cell_of_row _ _ _ _ _ _ hT6, HLL.out]; rfl
      have t14 : w6.cell? ⟨TB, 14, none⟩ = some (.int .i64 3) := by rw [cell_of_row _ _ _ _ _ _ hT6, HLL.out]; rfl
      clear hf5 hT5 hX5 hJ5 hR5 hJ6 hT6 hX6 hR6 hb6 hg6 x4 HT4 HX4 HR4
      go_wp2_with fail
      obtain ⟨w7, hw7⟩ : ∃ w7, w7 = w6.alloc (Obj.cells #[Value.string { data := #[100] }] 9) := ⟨_, rfl⟩
      have hf7 : FC [] w6 w7 := by rw [hw7]; exact FC.alloc (FC.refl _ _) _
      have hC7 : Kd.C Kd.string w7 (some ⟨w6.heap.size, 0, none⟩) 1 [⟨#[100]⟩] := by rw [hw7]; exact C_one w6 _
      have hs7 : w7.heap.size = w6.heap.size + 1 := by rw [hw7]; simp
      have hJ7 := HJ6.out.of_fc0 hf7
      have hRv := T.RecvAns P M Q base n3 _ _ _ _ f2 0 (some ⟨w6.heap.size, 0, none⟩) 1 [⟨#[100]⟩] w7 hJ7 rfl (.inr (.inr (.inr rfl))) (by dsimp only; omega) (by simp; omega) hC7 (by simp) (fun ad e => by have h1 := hJ7.hP; have h2 := HJ6.out.hbase; cases e; exact ⟨by show w6.heap.size ≠ P; omega, by show w6.heap.size < w7.heap.size; omega⟩)
      rw [← hw7]
      refine hRv.mono ?_
      rintro e w8 ⟨rfl, n8, s8, c8, sl8, cl8, hn8, hNx, hJ8, hf8⟩
      have hlw := hlow.out
      have hb8 : Below w.heap.size w w8 := by
        have h4 : Below w.heap.size w w4 := FC.below hbel.out (HF3.out.trans (HF4.out.sub (by simp))) (fun x hx => by have : x = P ∨ x = M := (by simpa using hx); omega) (Nat.le_refl _)
        have h6 : Below w.heap.size w w6 := h4.trans HB6.out
        have h7 : Below w.heap.size w w7 := FC.below h6 hf7 (fun x hx => by simp at hx) (Nat.le_refl _)
        exact FC.below h7 hf8 (fun x hx => by have : x = P ∨ x = M ∨ x = Q := (by simpa using hx); omega) (Nat.le_refl _)
      have hX8 := (hf8.block X (by have := (Array.getElem?_eq_some_iff.1 HX6.out).1; omega) (by simp; omega)).trans ((hf7.block X (Array.getElem?_eq_some_iff.1 HX6.out).1 (by simp)).trans HX6.out)
      have hR8 := R_fcG (R_fcG HR6.out hf7 (fun k hk => by simp at hk)) hf8 (fun k hk => by have h1 := HJ.out.hP; have h2 := HJ.out.hM; have h3 := HJ.out.hQ; have : k = P ∨ k = M ∨ k = Q := (by simpa using hk); omega)
      rcases hNx with ⟨h1, h2, h3, h4, h5, h6⟩ | ⟨h1, h2, ⟨d5, h3⟩, ⟨d6, h4⟩, h5, h6⟩ | ⟨h1, h2, ⟨d5, h3⟩, ⟨d6, h4⟩, h5, h6⟩ | ⟨h1, h2, ⟨d5, h3⟩, ⟨d6, h4⟩, h5, h6⟩ | ⟨h1, h3, h4, h5, h6⟩ | ⟨h1, h3, h4, h5, h6⟩
      · exfalso; dsimp only at h1; omega
      · exfalso; dsimp only at h1; omega
      · exfalso; dsimp only at h1; omega
      · exfalso; dsimp only at h1; omega
      · exfalso; dsimp only at h1; omega
      · subst h3 h4
        have hW : Aside (ER w w8 X P M Q base e0 e1 e2 e3 0 want f2 (2 + 1) want (.slice A6 (2 + 1) c6)) := ⟨⟨hb8, hX8, hlw, n8, _, _, _, _, _, hJ8, by have := HN3.out; have := HNn.out; omega, rfl, rfl, rfl, by dsimp only; omega, hR8, .inr (.inr (.inr (.inr (.inr (.inl ⟨rfl, rfl, hf1n, rfl, rfl, ⟨rfl, he, rfl⟩⟩)))))⟩⟩
        clear hJ8 hn8 hf8 hw7 hf7 hC7 hs7 hJ7 hRv hlw hb8 hX8 hR8 h1
        go_wp2_with fail
        go_roundg (gk - 1)
        case measure => omega
        case rel => exact ⟨2 + 1, want, by omega, rfl, by go_num, hW⟩
    · obtain ⟨hb, hs, hnu, hgr, hcn, hst⟩ := hL
      have hTk := T.TickSendC P M Q base n s c sl cl wr hJ hb (.inl hs) (by omega)
      have hSt := T.Stage Q ⟨P, 0, none⟩ c wr hJ.ctl
      obtain ⟨id, nodes, retry2, num, group, ⟨k0, k1, k2, k3, k4, k5, k6⟩, busy, sent, waited⟩ := s
      obtain ⟨stage, lo, hi, fr, tgo, data, ce, en⟩ := c
      dsimp only at hb hs hnu hgr hcn hst hid hfr htg hnm
      subst hb hs hnu hgr hcn hst hid hfr htg
      obtain ⟨Av, cv, rfl, hcv, _⟩ := Kd.R_reads hrow
      have HTk := Aside.mk hTk
      have HSt := Aside.mk hSt
      have HJ := Aside.mk hJ
      have HNn := Aside.mk hn
      have HRow := Aside.mk hrow
      clear hTk hSt hJ hn hnm hrow hcv
      go_wp2_with (go_at_call 12; refine HSt.out.mono ?_; rintro e w' ⟨rfl, hw⟩; subst w')
      refine HTk.out.mono ?_
      rintro e w3 ⟨B, lv, d3, n3, rfl, hB3, hd3, hJ3, hn3, hf3, hbB⟩
      obtain ⟨LL, hLL⟩ : ∃ LL : List Value, LL = (AS.pack ⟨5, nodes, retry2, 3, 0, ⟨k0, k1, 3, k3, k4, k5, k6⟩, true, false, waited⟩ lv d3).toList := ⟨_, rfl⟩
      have hB3' : w3.heap[B]? = some (.cells LL.toArray 57 (0, 0)) := by rw [hLL]; exact hB3
      have HLL := Aside.mk hLL
      have hl40 := Aside.mk (show LL.length = 40 by rw [hLL]; rfl)
      have HL1 := Aside.mk (show (LL.toArray.all (·.oneCell')) = true by
        obtain ⟨A3, c3, hd, _⟩ := Kd.R_reads hd3
        rw [hLL, hd]; simp [AS.pack, Value.oneCell'])
      have HB3 := Aside.mk hB3'
      have HJ3 := Aside.mk hJ3
      have HF3 := Aside.mk hf3
      have HN3 := Aside.mk hn3
      have HR3 := Aside.mk (show (Kd.int .i64).R 3 w3 base (fun _ => True) (.slice Av 2 cv) [3, 4] from R_fcG HRow.out hf3 (fun k hk => by have h1 := HJ.out.hP; have h2 := HJ.out.hM; have : k = P ∨ k = M := (by simpa using hk); omega))
      have HX3 := Aside.mk ((hf3.block X (Array.getElem?_eq_some_iff.1 herrs.out).1 (by have := hlow.out; simp; omega)).trans herrs.out)
      clear hB3 hB3' hd3 hJ3 hn3 hf3 hbB hLL HTk HSt
      go_wp2_with (with_reducible refine halt_at (.load 57 (.tmp 54)) rfl ?_)
      refine ⟨?_⟩
      refine wpList_load_mid rfl 57 (.tmp 54) rfl B 0 rfl LL _ (range_row HB3.out) Try.underlying57 rfl (by rw [hl40.out]; kernel_rfl) ?_
      go_wp2_with (with_reducible refine halt_at (.store 57 (.tmp 11) (.tmp 55)) rfl ?_)
      refine ⟨?_⟩
      have HBO := box_of w3 57 #[.int .i64 0, .int .i64 0, .int .i64 0, .int .i64 0, .int .i64 0, .int .i64 0, .int .i64 0, .int .i64 0, .int .i64 0, .int .i64 0, .slice none 0 0, .slice none 0 0, .int .i64 0, .int .i64 0, .int .i64 0, .int .i64 0, .int .i64 0, .string ⟨#[]⟩, .string ⟨#[]⟩, .string ⟨#[]⟩, .string ⟨#[]⟩, .int .i64 0, .int .i64 0, .int .i64 0, .string ⟨#[]⟩, .int .i64 0, .int .i64 0, .int .i64 0, .int .i64 0, .int .i64 0, .slice none 0 0, .int .i64 0, .int .i64 0, .int .i64 0, .slice none 0 0, .slice none 0 0, .slice none 0 0, .int .i64 0, .slice none 0 0, .slice none 0 0] LL (by rw [hl40.out]; rfl)
      refine wpList_store_mid rfl 57 (.tmp 11) (.tmp 55) rfl w3.heap.size 0 LL.toArray rfl rfl (by rw [List.size_toArray]; exact HBO.2.2.1) (by rw [List.size_toArray, hl40.out]; kernel_rfl) HL1.out ?_
      have hT4 : ((w3.alloc (.cells #[.int .i64 0, .int .i64 0, .int .i64 0, .int .i64 0, .int .i64 0, .int .i64 0, .int .i64 0, .int .i64 0, .int .i64 0, .int .i64 0, .slice none 0 0, .slice none 0 0, .int .i64 0, .int .i64 0, .int .i64 0, .int .i64 0, .int .i64 0, .string ⟨#[]⟩, .string ⟨#[]⟩, .string ⟨#[]⟩, .string ⟨#[]⟩, .int .i64 0, .int .i64 0, .int .i64 0, .string ⟨#[]⟩, .int .i64 0, .int .i64 0, .int .i64 0, .int .i64 0, .int .i64 0, .slice none 0 0, .int .i64 0, .int .i64 0, .int .i64 0, .slice none 0 0, .slice none 0 0, .slice none 0 0, .int .i64 0, .slice none 0 0, .slice none 0 0] 57)).setCells w3.heap.size 0 LL).heap[w3.heap.size]? = some (.cells LL.toArray 57 (0, 0)) := HBO.1
      have hf4 : FC [] w3 ((w3.alloc (.cells #[.int .i64 0, .int .i64 0, .int .i64 0, .int .i64 0, .int .i64 0, .int .i64 0, .int .i64 0, .int .i64 0, .int .i64 0, .int .i64 0, .slice none 0 0, .slice none 0 0, .int .i64 0, .int .i64 0, .int .i64 0, .int .i64 0, .int .i64 0, .string ⟨#[]⟩, .string ⟨#[]⟩, .string ⟨#[]⟩, .string ⟨#[]⟩, .int .i64 0, .int .i64 0, .int .i64 0, .string ⟨#[]⟩, .int .i64 0, .int .i64 0, .int .i64 0, .int .i64 0, .int .i64 0, .slice none 0 0, .int .i64 0, .int .i64 0, .int .i64 0, .slice none 0 0, .slice none 0 0, .slice none 0 0, .int .i64 0, .slice none 0 0, .slice none 0 0] 57)).setCells w3.heap.size 0 LL) := HBO.2.1
      clear HBO
      dsimp only at hT4 hf4 ⊢
      obtain ⟨TB, hT⟩ : ∃ TB, TB = w3.heap.size := ⟨_, rfl⟩
      rw [← hT] at hT4 hf4 ⊢
      generalize World.setCells (World.alloc w3 _) _ _ _ = w4 at hT4 hf4 ⊢
      have HT := Aside.mk hT
      have HT4 := Aside.mk hT4
      have HF4 := Aside.mk hf4
      have HJ4 := Aside.mk (HJ3.out.of_fc0 hf4)
      have hx4 := (hf4.block X (Array.getElem?_eq_some_iff.1 HX3.out).1 (by simp)).trans HX3.out
      have HX4 := Aside.mk hx4
      have HR4 := Aside.mk (R_fcG HR3.out hf4 (fun k hk => by simp at hk))
      have x4 : w4.cell? ⟨X, 2, none⟩ = some (.int .i64 e2) := by rw [cell_of_row _ _ _ _ _ _ hx4]; rfl
      have t3 : w4.cell? ⟨TB, 3, none⟩ = some (.int .i64 0) := by rw [cell_of_row _ _ _ _ _ _ hT4, HLL.out]; rfl
      clear hT hT4 hf4 hx4 HJ3 HR3 HX3 HB3
      go_wp2_with (with_reducible refine halt_at (.call { callee := .builtin .append, args := #[.tmp 64, .tmp 67], argTypes := #[65, 65] }) rfl ?_)
      refine ⟨?_⟩
      have hf5 : FC [] w4 (w4.alloc (.cells #[.int .i64 0] 3)) := (FC.refl _ _).alloc _
      have hT5 := (hf5.block TB (Array.getElem?_eq_some_iff.1 HT4.out).1 (by simp)).trans HT4.out
      have hX5 := (hf5.block X (Array.getElem?_eq_some_iff.1 HX4.out).1 (by simp)).trans HX4.out
      have hJ5 := HJ4.out.of_fc0 hf5
      have hR5 := R_fcG HR4.out hf5 (fun k hk => by simp at hk)
      refine wpList_appendI rfl (.tmp 64) (.tmp 67) rfl base (.slice Av 2 cv) [3, 4] [0] (some ⟨w4.heap.size, 0, none⟩) 1 1 rfl rfl hR5 (C_oneI w4 0) hJ5.hbase (by decide) (fun v6 w6 hR6 hg6 => ?_)
      have key : CJ w6 P M Q base n3 ⟨5, nodes, retry2, 3, 0, ⟨k0, k1, 3, k3, k4, k5, k6⟩, true, true, 0⟩ ⟨3, lo, hi, 3, 4, data, ce, en⟩ sl cl ∧ w6.heap[TB]? = some (.cells LL.toArray 57 (0, 0)) ∧ w6.heap[X]? = some (.cells #[.int .i64 e0, .int .i64 e1, .int .i64 e2, .int .i64 e3] 64 (0, 0)) ∧ Below w.heap.size w4 w6 := by
        have hb4 : w.heap.size ≤ w4.heap.size := by have h1 := hbel.out.size; have h2 := HF3.out.size; have h3 := HF4.out.size; omega
        cases hob : (Value.slice Av 2 cv).ownBlock with
        | none =>
          have hf : FC [] _ w6 := FC.grown0 (hob ▸ hg6)
          have hf46 := hf5.trans hf
          exact ⟨hJ5.of_fc0 hf, (hf.block TB (Array.getElem?_eq_some_iff.1 hT5).1 (by simp)).trans hT5, (hf.block X (Array.getElem?_eq_some_iff.1 hX5).1 (by simp)).trans hX5, hf46.os, hf46.tape, hf46.output, hf46.size, fun k hk => hf46.block k (by omega) (by simp)⟩
        | some g =>
          obtain ⟨hbg, cells, hgc⟩ := R_typed hR5 rfl g hob
          have hf : FC [g] _ w6 := FC.grown (hob ▸ hg6)
          have hf46 := (hf5.sub (S' := [g]) (by simp)).trans hf
          have hTg : TB ≠ g := fun e => by
            subst e
            rw [hT5] at hgc
            have := Option.some.inj hgc
            injection this with h1 h2
            cases h2
          have hl := hlow.out
          exact ⟨hJ5.of_typed hf hgc (by decide) hbg, (hf.block TB (Array.getElem?_eq_some_iff.1 hT5).1 (by simpa using hTg)).trans hT5, (hf.block X (Array.getElem?_eq_some_iff.1 hX5).1 (by simp; omega)).trans hX5, hf46.os, hf46.tape, hf46.output, hf46.size, fun k hk => hf46.block k (by omega) (by have := hJ5.hP; simp; omega)⟩
      obtain ⟨hJ6, hT6, hX6, hb6⟩ := key
      obtain ⟨A6, c6, rfl, _, _⟩ := Kd.R_reads hR6
      have HJ6 := Aside.mk hJ6
      have HX6 := Aside.mk hX6
      have HR6 := Aside.mk hR6
      have HB6 := Aside.mk hb6
      have t3 : w6.cell? ⟨TB, 3, none⟩ = some (.int .i64 0) := by rw [cell_of_row _ _ _ _ _ _ hT6, HLL.out]; rfl
      have t14 : w6.cell? ⟨TB, 14, none⟩ = some (.int .i64 3) := by rw [cell_of_row _ _ _ _ _ _ hT6, HLL.out]; rfl
      clear hf5 hT5 hX5 hJ5 hR5 hJ6 hT6 hX6 hR6 hb6 hg6 x4 HT4 HX4 HR4
      go_wp2_with fail
      obtain ⟨w7, hw7⟩ : ∃ w7, w7 = w6.alloc (Obj.cells #[Value.string { data := #[100] }] 9) := ⟨_, rfl⟩
      have hf7 : FC [] w6 w7 := by rw [hw7]; exact FC.alloc (FC.refl _ _) _
      have hC7 : Kd.C Kd.string w7 (some ⟨w6.heap.size, 0, none⟩) 1 [⟨#[100]⟩] := by rw [hw7]; exact C_one w6 _
      have hs7 : w7.heap.size = w6.heap.size + 1 := by rw [hw7]; simp
      have hJ7 := HJ6.out.of_fc0 hf7
      have hRv := T.RecvAns P M Q base n3 _ _ _ _ f2 0 (some ⟨w6.heap.size, 0, none⟩) 1 [⟨#[100]⟩] w7 hJ7 rfl (.inr (.inr (.inl rfl))) (by dsimp only; omega) (by simp; omega) hC7 (by simp) (fun ad e => by have h1 := hJ7.hP; have h2 := HJ6.out.hbase; cases e; exact ⟨by show w6.heap.size ≠ P; omega, by show w6.heap.size < w7.heap.size; omega⟩)
      rw [← hw7]
      refine hRv.mono ?_
      rintro e w8 ⟨rfl, n8, s8, c8, sl8, cl8, hn8, hNx, hJ8, hf8⟩
      have hlw := hlow.out
      have hb8 : Below w.heap.size w w8 := by
        have h4 : Below w.heap.size w w4 := FC.below hbel.out (HF3.out.trans (HF4.out.sub (by simp))) (fun x hx => by have : x = P ∨ x = M := (by simpa using hx); omega) (Nat.le_refl _)
        have h6 : Below w.heap.size w w6 := h4.trans HB6.out
        have h7 : Below w.heap.size w w7 := FC.below h6 hf7 (fun x hx => by simp at hx) (Nat.le_refl _)
        exact FC.below h7 hf8 (fun x hx => by have : x = P ∨ x = M ∨ x = Q := (by simpa using hx); omega) (Nat.le_refl _)
      have hX8 := (hf8.block X (by have := (Array.getElem?_eq_some_iff.1 HX6.out).1; omega) (by simp; omega)).trans ((hf7.block X (Array.getElem?_eq_some_iff.1 HX6.out).1 (by simp)).trans HX6.out)
      have hR8 := R_fcG (R_fcG HR6.out hf7 (fun k hk => by simp at hk)) hf8 (fun k hk => by have h1 := HJ.out.hP; have h2 := HJ.out.hM; have h3 := HJ.out.hQ; have : k = P ∨ k = M ∨ k = Q := (by simpa using hk); omega)
      rcases hNx with ⟨h1, h2, h3, h4, h5, h6⟩ | ⟨h1, h2, ⟨d5, h3⟩, ⟨d6, h4⟩, h5, h6⟩ | ⟨h1, h2, ⟨d5, h3⟩, ⟨d6, h4⟩, h5, h6⟩ | ⟨h1, h2, ⟨d5, h3⟩, ⟨d6, h4⟩, h5, h6⟩ | ⟨h1, h3, h4, h5, h6⟩ | ⟨h1, h3, h4, h5, h6⟩
      · exfalso; dsimp only at h1; omega
      · exfalso; dsimp only at h1; omega
      · exfalso; dsimp only at h1; omega
      · exfalso; dsimp only at h1; omega
      · subst h3 h4
        have hW : Aside (ER w w8 X P M Q base e0 e1 e2 e3 0 0 f2 (2 + 1) f2 (.slice A6 (2 + 1) c6)) := ⟨⟨hb8, hX8, hlw, n8, _, _, _, _, _, hJ8, by have := HN3.out; have := HNn.out; omega, rfl, rfl, rfl, by dsimp only; omega, hR8, .inr (.inr (.inr (.inr (.inr (.inr ⟨rfl, rfl, rfl, rfl, rfl, ⟨rfl, rfl, rfl⟩⟩)))))⟩⟩
        clear hJ8 hn8 hf8 hw7 hf7 hC7 hs7 hJ7 hRv hlw hb8 hX8 hR8 h1
        go_wp2_with fail
        go_roundg (gk - 1)
        case measure => omega
        case rel => exact ⟨2 + 1, f2, by omega, rfl, by go_num, hW⟩
      · exfalso; dsimp only at h1; omega
    · obtain ⟨ho1, ho2, ho3⟩ := hO
      obtain ⟨stage, lo, hi, fr, tgo, data, ce, en⟩ := c
      dsimp only at ho1 ho2 ho3
      subst ho1 ho2 ho3
      obtain ⟨Av, cv, rfl, hcv, hC⟩ := Kd.R_reads hrow
      have HRes := Aside.mk (T.Result Q ⟨P, 0, none⟩ _ wr hJ.ctl)
      have HSt := Aside.mk (T.Stage Q ⟨P, 0, none⟩ _ wr hJ.ctl)
      clear hJ hn hnm hid hfr htg hcv
      obtain ⟨A2, hA2, hcl⟩ := hC.2.2 (by decide)
      subst hA2
      obtain ⟨gk2, rfl⟩ := Kd.R_head hrow
      have z0 : wr.cell? ⟨gk2, 0, none⟩ = some (.int .i64 3) := (by obtain ⟨cs, h1, h2, h3⟩ := hcl 0 3 rfl; have h2 : cs = [.int .i64 3] := h2; subst h2; exact h3 0 _ rfl)
      have z1 : wr.cell? ⟨gk2, 1, none⟩ = some (.int .i64 4) := (by obtain ⟨cs, h1, h2, h3⟩ := hcl 1 4 rfl; have h2 : cs = [.int .i64 4] := h2; subst h2; exact h3 0 _ rfl)
      have z2 : wr.cell? ⟨gk2, 2, none⟩ = some (.int .i64 3) := (by obtain ⟨cs, h1, h2, h3⟩ := hcl 2 3 rfl; have h2 : cs = [.int .i64 3] := h2; subst h2; exact h3 0 _ rfl)
      clear hC hcl hrow
      go_wp2_with (first | (go_at_call 7; refine HRes.out.mono ?_; rintro e w' ⟨rfl, hw⟩; subst w') | (go_at_call 12; refine HSt.out.mono ?_; rintro e w' ⟨rfl, hw⟩; subst w'))
      have x0 : wr.cell? ⟨X, 0, none⟩ = some (.int .i64 e0) := by rw [cell_of_row _ _ _ _ _ _ herrs.out]; rfl
      have x1 : wr.cell? ⟨X, 1, none⟩ = some (.int .i64 e1) := by rw [cell_of_row _ _ _ _ _ _ herrs.out]; rfl
      go_quiet (fail)
      go_wp2_with (go_at_call 13; refine (T.works _).mono ?_; rintro e w9 ⟨rfl, hb9⟩; have HB9 := Aside.mk hb9; clear hb9)
      go_ret
      exact ⟨rfl, (pw_below_drewN hbel.out nq).trans (HB9.out.mono (pw_below_drewN hbel.out nq).size)⟩
    · obtain ⟨ho1, ho2, ho3⟩ := hO
      obtain ⟨stage, lo, hi, fr, tgo, data, ce, en⟩ := c
      dsimp only at ho1 ho2 ho3
      subst ho1 ho2 ho3
      obtain ⟨Av, cv, rfl, hcv, hC⟩ := Kd.R_reads hrow
      have HRes := Aside.mk (T.Result Q ⟨P, 0, none⟩ _ wr hJ.ctl)
      have HSt := Aside.mk (T.Stage Q ⟨P, 0, none⟩ _ wr hJ.ctl)
      clear hJ hn hnm hid hfr htg hcv
      obtain ⟨A2, hA2, hcl⟩ := hC.2.2 (by decide)
      subst hA2
      obtain ⟨gk2, rfl⟩ := Kd.R_head hrow
      have z0 : wr.cell? ⟨gk2, 0, none⟩ = some (.int .i64 3) := (by obtain ⟨cs, h1, h2, h3⟩ := hcl 0 3 rfl; have h2 : cs = [.int .i64 3] := h2; subst h2; exact h3 0 _ rfl)
      have z1 : wr.cell? ⟨gk2, 1, none⟩ = some (.int .i64 4) := (by obtain ⟨cs, h1, h2, h3⟩ := hcl 1 4 rfl; have h2 : cs = [.int .i64 4] := h2; subst h2; exact h3 0 _ rfl)
      have z2 : wr.cell? ⟨gk2, 2, none⟩ = some (.int .i64 0) := (by obtain ⟨cs, h1, h2, h3⟩ := hcl 2 0 rfl; have h2 : cs = [.int .i64 0] := h2; subst h2; exact h3 0 _ rfl)
      clear hC hcl hrow
      go_wp2_with (first | (go_at_call 7; refine HRes.out.mono ?_; rintro e w' ⟨rfl, hw⟩; subst w') | (go_at_call 12; refine HSt.out.mono ?_; rintro e w' ⟨rfl, hw⟩; subst w'))
      have x0 : wr.cell? ⟨X, 0, none⟩ = some (.int .i64 e0) := by rw [cell_of_row _ _ _ _ _ _ herrs.out]; rfl
      have x1 : wr.cell? ⟨X, 1, none⟩ = some (.int .i64 e1) := by rw [cell_of_row _ _ _ _ _ _ herrs.out]; rfl
      go_quiet (fail)
      go_wp2_with (go_at_call 13; refine (T.works _).mono ?_; rintro e w9 ⟨rfl, hb9⟩; have HB9 := Aside.mk hb9; clear hb9)
      go_ret
      exact ⟨rfl, (pw_below_drewN hbel.out nq).trans (HB9.out.mono (pw_below_drewN hbel.out nq).size)⟩
end Go.Proofs.Ytmepeolejlpehaa

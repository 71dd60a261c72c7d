/- Send. Conditions: where the rows lie; the token of a message that names none. -/
import Derived.Test.YtekjkdpiiaocjaaDoorGrE
namespace Go.Proofs.YtekjkdpiiaocjaaDoor
open Go.RowKit Go.Maps Go.Proofs.YtekjkdpiiaocjaaDoorW.PrintWords Go.Proofs.YtekjkdpiiaocjaaDoorW.PrintLast Go.Proofs.YtekjkdpiiaocjaaDoorW.PrintMore
/-- A row of one type stands while one of another grows. -/
theorem R_grownT {α β : Type} {d : Kd α} {d' : Kd β} {e e' : Nat} {base base' : Nat} {ok ok' : Nat → Prop} {w w1 : World} {v v' : Value} {l : List α} {l' : List β} (h : d'.R e' w base' ok' v' l') (hv : d.R e w base ok v l) (hE : d.E = []) (hE' : d'.E = []) (hne : e ≠ e') (hg : w.grownBy w1 v.ownBlock) : d'.R e' w1 base' ok' v' l' := by
  refine Kd.R_mono (Kd.R_grown (Kd.R_bound h) hg (fun k hk e0 => ?_)) (fun _ hk => hk.1)
  obtain ⟨_, _, _, q, hq, cells, hc⟩ := hk
  obtain ⟨_, _, _, q', hq', cells', hc'⟩ := (Kd.R_bound hv).1 k e0.symm
  rw [hE'] at hq
  rw [hE] at hq'
  have h1 : q = e' := by simpa using hq
  have h2 : q' = e := by simpa using hq'
  rw [hc] at hc'
  have := Option.some.inj hc'
  injection this with h3 h4
  exact hne (by rw [← h1, ← h2]; exact h4.symm)
theorem GBox.grown {α : Type} {d : Kd α} {e base : Nat} {ok : Nat → Prop} {w w1 : World} {v : Value} {l : List α} {b : Nat} {next : Int} {vk vm : Value} {att : ByteArray} (h : GBox w b next vk vm att) (hv : d.R e w base ok v l) (hE : d.E = []) (hne : e ≠ 25) (hg : w.grownBy w1 v.ownBlock) : GBox w1 b next vk vm att := by
  refine (hg.block b h.lt (fun e0 => ?_)).trans h
  obtain ⟨_, _, _, q', hq', cells', hc'⟩ := (Kd.R_bound hv).1 b (by first | exact e0 | exact e0.symm)
  rw [hE] at hq'
  have h2 : q' = e := by simpa using hq'
  have h' := h
  unfold GBox at h'
  rw [h'] at hc'
  have := Option.some.inj hc'
  injection this with h3 h4
  exact hne (by rw [← h2]; exact h4.symm)
theorem wpList_storeG {w : World} {ops : Array Oper} {rest : List Oper} {o : Oper} {a : Act} {Q : Exit → Act → World → Prop} (hgd : o.guard = none) (x y : Operand) (ho : o.op = .store 25 x y) (b : Nat) {next : Int} {vk vm : Value} {att : ByteArray} (next' : Int) (vk' vm' : Value) (att' : ByteArray)
    (hx : a.eval x = .pointer (some ⟨b, 0, none⟩)) (hy : a.eval y = .agg #[.int .i64 next', vk', vm', .string att']) (G : GBox w b next vk vm att) (hk : vk'.oneCell' = true) (hm : vm'.oneCell' = true)
    (h : ∀ w', GBox w' b next' vk' vm' att' → FC [b] w w' → wpList Tryd.prog ops Q rest (a.put o.dst undef) w') : wpList Tryd.prog ops Q (o :: rest) a w := by
  refine wpList_store_mid hgd 25 x y ho b 0 #[.int .i64 next', vk', vm', .string att'] hx hy (there_row G _ rfl) (by kernel_rfl) (all_oneCell_toArray (cs := [.int .i64 next', vk', vm', .string att']) (fun v hv => by simp at hv; rcases hv with rfl | rfl | rfl | rfl; rfl; exact hk; exact hm; rfl)) ?_
  exact h _ (fill_row G [.int .i64 next', vk', vm', .string att'] rfl) (FC.setCells (.inl (by simp)) _ _ _ (FC.refl _ _))
theorem wpList_loadG {w : World} {ops : Array Oper} {rest : List Oper} {o : Oper} {a : Act} {Q : Exit → Act → World → Prop} (hgd : o.guard = none) (x : Operand) (ho : o.op = .load 25 x) (b : Nat) (next : Int) (vk vm : Value) (att : ByteArray)
    (hx : a.eval x = .pointer (some ⟨b, 0, none⟩)) (G : GBox w b next vk vm att)
    (h : wpList Tryd.prog ops Q rest (a.put o.dst (.agg #[.int .i64 next, vk, vm, .string att])) w) : wpList Tryd.prog ops Q (o :: rest) a w :=
  wpList_load_mid hgd 25 x ho b 0 hx [.int .i64 next, vk, vm, .string att] _ (range_row G) Tryd.underlying25 (by rfl) (by kernel_rfl) h
theorem toList_inj {a b : ByteArray} (h : a.toList = b.toList) : a = b := by
  rw [ByteArray.toList_eq, ByteArray.toList_eq] at h
  exact ByteArray.ext (Array.ext' h)
theorem beq_toList (a b : ByteArray) : (a.toList == b.toList) = decide (a = b) := by
  rw [Bool.eq_iff_iff, beq_iff_eq, decide_eq_true_iff]
  exact ⟨toList_inj, fun h => by rw [h]⟩
theorem toList_nil : (⟨#[]⟩ : ByteArray).toList = [] := by rw [ByteArray.toList_eq]
theorem Row.of_R' {α : Type} {d : Kd α} {e base : Nat} {ok : Nat → Prop} {w : World} {A : Option Addr} {n c : Nat} {l : List α} (h : d.R e w base ok (.slice A n c) l) : Row d w A l := by
  obtain ⟨A1, c1, e1, h1⟩ := Row.of_R h
  injection e1 with e2 e3 e4
  subst e2
  exact h1
theorem find_none {α : Type} {p : α → Bool} {l : List α} (h : ∀ x ∈ l, p x = false) : l.find? p = none := by
  rw [List.find?_eq_none]
  intro x hx; rw [h x hx]; simp
theorem find_at {α : Type} {p : α → Bool} {l : List α} {k : Nat} {x : α} (hk : l[k]? = some x) (hp : p x = true) (h : ∀ y ∈ l.take k, p y = false) : l.find? p = some x := by
  have e := List.take_append_drop k l
  have h1 : (l.drop k).find? p = some x := by
    have : l.drop k = x :: l.drop (k + 1) := by
      obtain ⟨hlt, hx⟩ := List.getElem?_eq_some_iff.1 hk
      rw [← hx]; exact List.drop_eq_getElem_cons hlt
    rw [this, List.find?_cons_of_pos hp]
  rw [← e, List.find?_append, find_none h, h1]; rfl
/-- What Send answers: number, error, and whether the message comes. -/
def sendF (next : Int) (ks : List Kept) (ms : List Mark) (tk : ByteArray) : Int × Int × Bool :=
  match ms.find? (fun m => decide (m.token = tk)) with
  | some m => (m.seq, 0, false)
  | none => if 12 ≤ ks.length ∨ 40 ≤ ms.length then (0, 7, false) else (next, 0, true)
def sendK (next : Int) (ks : List Kept) (ms : List Mark) (now frm : Int) (body tk : ByteArray) : List Kept := if (sendF next ks ms tk).2.2 then ks ++ [⟨next, now, 0, 0, frm, body⟩] else ks
def sendM (next : Int) (ks : List Kept) (ms : List Mark) (now : Int) (tk : ByteArray) : List Mark := if (sendF next ks ms tk).2.2 then ms ++ [⟨tk, next, now⟩] else ms
def sendN (next : Int) (ks : List Kept) (ms : List Mark) (tk : ByteArray) : Int := if (sendF next ks ms tk).2.2 then wrap64 (next + 1) else next
set_option maxHeartbeats 4000000 in
set_option maxRecDepth 100000 in
/-- Send. -/
theorem T.Send (next : Int) (A A' : Option Addr) (c c' : Nat) (att : ByteArray) (ks : List Kept) (ms : List Mark) (now frm : Int) (body token tk : ByteArray) (w : World) (hK : Row keptK w A ks) (hM : Row markK w A' ms) (hl : ks.length ≤ 100000) (hl' : ms.length ≤ 100000) (hbody : body.size ≤ 1000000)
    (htok : (token = ⟨#[]⟩ ∧ ∀ W : World, Below w.heap.size w W → Calls Tryd.prog 41 #[.slice (some ⟨W.heap.size, 0, none⟩) body.size (grownCap W body.size 0 5)] (Lib.bytesWorld W 5 body) fun e W' => e = .returned (.string tk) ∧ Below W.heap.size W W') ∨ (¬ token = ⟨#[]⟩ ∧ tk = token)) :
    Calls Tryd.prog 17 #[.agg (grV next (.slice A ks.length c) (.slice A' ms.length c') att), .int .i64 now, .int .i64 frm, .string body, .string token] w fun e w' => ∃ vk vm, e = .returned (.tuple #[.agg (grV (sendN next ks ms tk) vk vm att), .int .i64 (sendF next ks ms tk).1, .int .i64 (sendF next ks ms tk).2.1]) ∧ keptK.R 61 w' w.heap.size (fun _ => True) vk (sendK next ks ms now frm body tk) ∧ markK.R 67 w' w.heap.size (fun _ => True) vm (sendM next ks ms now tk) ∧ Below w.heap.size w w' := by
  simp only [grV]
  obtain ⟨hb, h1, h2⟩ := alloc2 w (.cells #[.int .i64 next, .slice A ks.length c, .slice A' ms.length c', .string att] 25) (.cells #[.int .i64 0, .slice none 0 0, .slice none 0 0, .string ⟨#[]⟩] 25)
  go_enter Tryd.func17, Tryd.ntmps17
  go_wp2_with fail
  generalize hw1 : World.alloc (World.alloc w _) _ = w1 at hb h1 h2 ⊢
  obtain ⟨X, hX⟩ : ∃ X, X = w.heap.size := ⟨_, rfl⟩
  have HX := Aside.mk hX
  rw [← hX] at h1 h2 ⊢
  have HB := Aside.mk hb
  have hcall := T.own next A A' ks.length ms.length c c' att ks ms w1 (hK.below hb).C (hM.below hb).C hl hl'
  simp only [grV] at hcall
  refine hcall.mono ?_
  clear hcall hw1 hb hX
  rintro e w2 ⟨vk, vm, rfl, hr1, hr2, hb2⟩
  have G1 : GBox w2 X next (.slice A ks.length c) (.slice A' ms.length c') att := (hb2.block X (Array.getElem?_eq_some_iff.1 h1).1).trans h1
  have G4 : GBox w2 (X + 1) 0 (.slice none 0 0) (.slice none 0 0) ⟨#[]⟩ := (hb2.block _ (Array.getElem?_eq_some_iff.1 h2).1).trans h2
  have hXX : X + 1 < w1.heap.size := (Array.getElem?_eq_some_iff.1 h2).1
  obtain ⟨Ak, ck, rfl, _⟩ := Row.of_R hr1
  obtain ⟨Am, cm, rfl, _⟩ := Row.of_R hr2
  have HG1 := Aside.mk G1
  have HG4 := Aside.mk G4
  have HR1' := Aside.mk hr1
  have HR2' := Aside.mk hr2
  have HB2 := Aside.mk hb2
  have HXX := Aside.mk hXX
  clear hb2 hr1 hr2 G1 G4 h1 h2 hXX
  go_wp2_with (with_reducible refine halt_at (.store 25 (.tmp 5) (.tmp 17)) rfl ?_)
  refine ⟨?_⟩
  refine wpList_storeG rfl (.tmp 5) (.tmp 17) rfl X next (.slice Ak ks.length ck) (.slice Am ms.length cm) att rfl rfl HG1.out rfl rfl (fun w3 hg3 hf3 => ?_)
  have HG3 := Aside.mk hg3
  have HG3' := Aside.mk (HG4.out.fc hf3 (by simp))
  have HR1 := Aside.mk (R_fcG HR1'.out hf3 (by have := HXX.out; simp; omega))
  have HR2 := Aside.mk (R_fcG HR2'.out hf3 (by have := HXX.out; simp; omega))
  have HB3 := Aside.mk (below_fc (HB.out.trans (HB2.out.mono HB.out.size)) hf3 (by simp [HX.out]))
  have HW3 := Aside.mk (show w1.heap.size ≤ w3.heap.size from Nat.le_trans HB2.out.size hf3.size)
  clear hg3 hf3 HR1' HR2' HG1 HG4 HB2
  obtain ⟨x0, x1, x2, x3, xf⟩ := HG3.out.cells
  have HTOK := Aside.mk htok
  clear htok
  refine HTOK.out.elim (fun hX2 => ?c1) (fun hX2 => ?c2)
  case' c1 =>
    obtain ⟨h0, hD⟩ := hX2
    have HD := Aside.mk (hD w3 HB3.out)
    have hcv := Lib.run_convert_string_bytes (P := Tryd.prog) w3 9 69 5 body Tryd.underlying9 Tryd.underlying69 Tryd.underlying5
    clear hD
    subst h0
    go_wp2_with fail
    refine HD.out.mono ?_
    clear hcv x0 x1 x2 x3 xf
    rintro e w4 ⟨rfl, hb4⟩
    have HB4 := Aside.mk hb4
    clear hb4
    obtain ⟨x0, x1, x2, x3, xf⟩ := (HG3.out.fc (FC.of (S := []) HB4.out) (by simp)).cells
    go_wp2_with fail
    clear x0 x1 x2 x3 xf
  case' c2 =>
    obtain ⟨h0, h00⟩ := hX2
    subst h00
    have ht0 : tk.toList.isEmpty = false := by rw [List.isEmpty_eq_false_iff]; exact fun h => h0 (toList_inj (h.trans toList_nil.symm))
    go_wp2_with fail
    clear x0 x1 x2 x3 xf h0 ht0
    generalize hw4 : w3 = w4
    have HB4 := Aside.mk (show Below w3.heap.size w3 w4 from hw4 ▸ Below.refl _ _)
    clear hw4
  all_goals
    have HRW := Aside.mk (Row.of_R' (Kd.R_below HR2.out HB4.out))
    obtain ⟨n, hn⟩ : ∃ n, n = ms.length := ⟨_, rfl⟩
    rw [← hn]
    have HN := Aside.mk hn
    have hn' : n ≤ 100000 := by omega
    clear hn
    go_loopg [14, 26] n (fun kq _ v26 wr => ∃ k : Nat, k + kq = n ∧ v26 = .int .i64 (k : Int) ∧ Aside (Below w4.heap.size w4 wr ∧ ∀ x ∈ ms.take k, decide (x.token = tk) = false))
    case atStart => exact ⟨0, by omega, rfl, ⟨Below.refl _ _, by simp⟩⟩
    case round =>
      obtain ⟨k, hk, rfl, hR⟩ := hrel
      have HK := Aside.mk hk
      by_cases hlt : k < n
      · obtain ⟨x, hx⟩ : ∃ x, ms[k]? = some x := ⟨_, List.getElem?_eq_getElem (by rw [← HN.out]; exact hlt)⟩
        have hlt' := Aside.mk hlt
        have HX1 := Aside.mk hx
        clear hx hk
        obtain ⟨g, rfl, hrg⟩ := (HRW.out.below hR.out.1).at k x HX1.out
        obtain ⟨m0, m1, m2⟩ := cellsM hrg
        clear hrg
        obtain ⟨token, seq, at'⟩ := x
        dsimp only at m0 m1 m2
        by_cases hq : token = tk
        · have HQ := Aside.mk hq
          subst hq
          have HFa := Aside.mk (show FC [] w4 (wr.alloc (.cells #[.string token, .int .i64 seq, .int .i64 at'] 67)) from FC.of (hR.out.1.alloc hR.out.1.size _))
          obtain ⟨x0, x1, x2, x3, xf⟩ := ((HG3.out.fc (FC.of (S := []) HB4.out) (by simp)).fc HFa.out (by simp)).cells
          have G' := (HG3'.out.fc (FC.of (S := []) HB4.out) (by simp)).fc HFa.out (by simp)
          obtain ⟨y0, y1, y2, y3, yf⟩ := G'.cells
          go_wp2_with fail
          have q0 : (wr.alloc (.cells #[.string token, .int .i64 seq, .int .i64 at'] 67)).cell? ⟨wr.heap.size, 1, none⟩ = some (.int .i64 seq) := by rw [cell_of_row _ _ _ _ _ _ (heap_alloc_new wr (.cells #[.string token, .int .i64 seq, .int .i64 at'] 67))]; rfl
          have hlX : X + 1 < wr.heap.size := Nat.lt_of_lt_of_le HG3'.out.lt (Nat.le_trans HB4.out.size hR.out.1.size)
          have HFb := Aside.mk (G'.put next (.slice Ak ks.length ck) (.slice (some ⟨g, 0, none⟩) ms.length cm) att)
          generalize wr.heap.size = B at q0 hlX ⊢
          generalize wr.alloc _ = wq at q0 x0 x1 x2 x3 xf y0 y1 y2 y3 yf HFa HFb ⊢
          have hn1 : ¬ B = X + 1 := by omega
          have hn2 : ¬ X + 1 = B := by omega
          have hR' := hR.out.2
          clear hlX m0 m1 m2 hR
          have HR := Aside.mk hR'
          clear hR'
          go_region
          go_wp2
          refine bodyPost_ret (v := .tuple #[.agg #[.int .i64 next, .slice Ak ks.length ck, .slice (some ⟨g, 0, none⟩) ms.length cm, .string att], .int .i64 seq, .int .i64 0]) (results_c2 _ _ 10 25 11 12 ⟨X + 1, 0, none⟩ _ _ _ _ (by kernel_rfl) (by rfl) (by rfl) (by rfl) (GBox.load (w := World.drew _) HFb.out.1)) (by rfl) ?_
          have hF : sendF next ks ms token = (seq, 0, false) := by unfold sendF; rw [find_at HX1.out (by simp) HR.out]
          have e1 : w.heap.size ≤ w1.heap.size := HB.out.size
          have hX1 : ∀ k ∈ [X + 1], k < w1.heap.size := by have := HXX.out; simp; omega
          have r1 := Kd.R_drew (R_fcG (R_fcG (Kd.R_below HR1.out HB4.out) HFa.out (by simp)) HFb.out.2 hX1)
          have r2 := Kd.R_drew (R_fcG (R_fcG (Kd.R_below HR2.out HB4.out) HFa.out (by simp)) HFb.out.2 hX1)
          have b1 := below_drew (below_fc (S := [X + 1]) (below_fc (S := []) (HB3.out.trans (HB4.out.mono HB3.out.size)) HFa.out (by simp)) HFb.out.2 (by simp [HX.out]))
          unfold sendN sendK sendM
          rw [hF]
          exact ⟨_, _, rfl, Kd.R_lower r1 e1, Kd.R_lower r2 e1, b1⟩
        · have HQ := Aside.mk hq
          have hq1 : ¬ token.toList = tk.toList := fun h => hq (toList_inj h)
          have hq2 : (token.toList == tk.toList) = false := by rw [beq_toList]; simpa using hq
          go_wp2
          go_roundg (gk - 1)
          case measure => have := HK.out; have := hlt'.out; omega
          case rel => exact ⟨k + 1, by have := HK.out; have := hlt'.out; omega, by go_num, ⟨hR.out.1.alloc hR.out.1.size _, fun y hy => by
            rw [List.take_add_one, HX1.out] at hy
            rcases List.mem_append.1 hy with h | h
            · exact hR.out.2 y h
            · obtain rfl : y = ⟨token, seq, at'⟩ := by simpa using h
              simpa using HQ.out⟩⟩
      · have hke : k = n := by omega
        clear hlt hk
        subst hke
        have HNF := Aside.mk (find_none (by have := hR.out.2; rwa [HN.out, List.take_length] at this : ∀ x ∈ ms, decide (x.token = tk) = false))
        have HFa := Aside.mk (show FC [] w4 wr from FC.of hR.out.1)
        have HG6 := Aside.mk ((HG3.out.fc (FC.of (S := []) HB4.out) (by simp)).fc HFa.out (by simp))
        have HG6' := Aside.mk ((HG3'.out.fc (FC.of (S := []) HB4.out) (by simp)).fc HFa.out (by simp))
        have HR6 := Aside.mk (R_fcG (Kd.R_below HR1.out HB4.out) HFa.out (by simp))
        have HM6 := Aside.mk (R_fcG (Kd.R_below HR2.out HB4.out) HFa.out (by simp))
        have HB6 := Aside.mk (below_fc (S := []) (HB3.out.trans (HB4.out.mono HB3.out.size)) HFa.out (by simp))
        have HW6 := Aside.mk (show w1.heap.size ≤ wr.heap.size from Nat.le_trans HW3.out (Nat.le_trans HB4.out.size hR.out.1.size))
        obtain ⟨x0, x1, x2, x3, xf⟩ := HG6.out.cells
        obtain ⟨y0, y1, y2, y3, yf⟩ := HG6'.out.cells
        clear hR
        have HP := Aside.mk (HG6'.out.put next (.slice Ak ks.length ck) (.slice Am ms.length cm) att)
        by_cases h12 : (12 : Int) ≤ (ks.length : Int)
        · go_wp2
          refine bodyPost_ret (v := .tuple #[.agg #[.int .i64 next, .slice Ak ks.length ck, .slice Am ms.length cm, .string att], .int .i64 0, .int .i64 7]) (results_c2 _ _ 10 25 11 12 ⟨X + 1, 0, none⟩ _ _ _ _ (by kernel_rfl) (by rfl) (by rfl) (by rfl) (GBox.load HP.out.1)) (by rfl) ?_
          have hF : sendF next ks ms tk = (0, 7, false) := by unfold sendF; rw [HNF.out]; exact if_pos (by omega)
          have e1 : w.heap.size ≤ w1.heap.size := HB.out.size
          have hX1 : ∀ k ∈ [X + 1], k < w1.heap.size := by have := HXX.out; simp; omega
          have r1 := R_fcG HR6.out HP.out.2 hX1
          have r2 := R_fcG HM6.out HP.out.2 hX1
          have b1 := below_fc (S := [X + 1]) HB6.out HP.out.2 (by simp [HX.out])
          unfold sendN sendK sendM
          rw [hF]
          exact ⟨_, _, rfl, Kd.R_lower r1 e1, Kd.R_lower r2 e1, b1⟩
        · by_cases h40 : (40 : Int) ≤ (ms.length : Int)
          · go_wp2
            refine bodyPost_ret (v := .tuple #[.agg #[.int .i64 next, .slice Ak ks.length ck, .slice Am ms.length cm, .string att], .int .i64 0, .int .i64 7]) (results_c2 _ _ 10 25 11 12 ⟨X + 1, 0, none⟩ _ _ _ _ (by kernel_rfl) (by rfl) (by rfl) (by rfl) (GBox.load HP.out.1)) (by rfl) ?_
            have hF : sendF next ks ms tk = (0, 7, false) := by unfold sendF; rw [HNF.out]; exact if_pos (by omega)
            have e1 : w.heap.size ≤ w1.heap.size := HB.out.size
            have hX1 : ∀ k ∈ [X + 1], k < w1.heap.size := by have := HXX.out; simp; omega
            have r1 := R_fcG HR6.out HP.out.2 hX1
            have r2 := R_fcG HM6.out HP.out.2 hX1
            have b1 := below_fc (S := [X + 1]) HB6.out HP.out.2 (by simp [HX.out])
            unfold sendN sendK sendM
            rw [hF]
            exact ⟨_, _, rfl, Kd.R_lower r1 e1, Kd.R_lower r2 e1, b1⟩
          · have hlk : ks.length ≤ 20 := by omega
            have hlm : ms.length ≤ 50 := by omega
            have HLK := Aside.mk hlk
            have HLM := Aside.mk hlm
            have HF := Aside.mk (show sendF next ks ms tk = (next, 0, true) by unfold sendF; rw [HNF.out]; exact if_neg (by omega))
            go_wp2_with (with_reducible refine halt_at (.call { callee := .builtin .append, args := #[.tmp 56, .tmp 62], argTypes := #[22, 22] }) rfl ?_)
            refine ⟨?_⟩
            obtain ⟨G7, hf7⟩ := HG6.out.put0 (wrap64 (next + 1))
            have hXw : ∀ k ∈ [X], k < w1.heap.size := by have := HXX.out; simp; omega
            have HG7' := Aside.mk (HG6'.out.fc hf7 (by simp))
            have HR7 := Aside.mk (R_fcG HR6.out hf7 hXw)
            have HM7 := Aside.mk (R_fcG HM6.out hf7 hXw)
            have HB7 := Aside.mk (below_fc HB6.out hf7 (by simp [HX.out]))
            have HW7 := Aside.mk (Nat.le_trans HW6.out hf7.size)
            have HG7 := Aside.mk G7
            have HXW := Aside.mk hXw
            clear G7 hf7 hXw x0 x1 x2 x3 xf y0 y1 y2 y3 yf
            have hsz7 := size_setCell wr ⟨X, 0, none⟩ (.int .i64 (wrap64 (next + 1)))
            generalize World.setCell wr _ _ = w7 at hsz7 HG7 HG7' HR7 HM7 HB7 HW7 ⊢
            refine wpList_append1K rfl (.tmp 56) (.tmp 62) rfl w1.heap.size (.slice Ak ks.length ck) ks ⟨next, now, 0, 0, frm, body⟩ rfl (by rw [hsz7]; rfl) HR7.out HW7.out (by have := HLK.out; omega) (fun v8 w8 h8 hg8 => ?_)
            generalize hks2 : ks ++ [(⟨next, now, 0, 0, frm, body⟩ : Kept)] = ks2 at h8
            have HKS2 := Aside.mk hks2
            clear hks2
            have HG8 := Aside.mk (HG7.out.grown HR7.out rfl (by decide) hg8)
            have HG8' := Aside.mk (HG7'.out.grown HR7.out rfl (by decide) hg8)
            have HM8 := Aside.mk (R_grownT HM7.out HR7.out rfl rfl (by decide) hg8)
            have HR8 := Aside.mk h8
            have HB8 := Aside.mk (HB7.out.grown hg8 HB7.out.size (fun j e => Nat.le_trans HB.out.size ((Kd.R_bound HR7.out).1 j e).2.1))
            have HW8 := Aside.mk (Nat.le_trans HW7.out hg8.size)
            obtain ⟨A8, c8, rfl, _⟩ := Row.of_R h8
            clear h8 hg8
            obtain ⟨x0, x1, x2, x3, xf⟩ := HG8.out.cells
            go_wp2_with (with_reducible refine halt_at (.call { callee := .builtin .append, args := #[.tmp 66, .tmp 71], argTypes := #[23, 23] }) rfl ?_)
            refine ⟨?_⟩
            obtain ⟨G9, hf9⟩ := HG8.out.put1 (.slice A8 ks2.length c8)
            have HG9' := Aside.mk (HG8'.out.fc hf9 (by simp))
            have HR9 := Aside.mk (R_fcG HR8.out hf9 HXW.out)
            have HM9 := Aside.mk (R_fcG HM8.out hf9 HXW.out)
            have HB9 := Aside.mk (below_fc HB8.out hf9 (by simp [HX.out]))
            have HW9 := Aside.mk (Nat.le_trans HW8.out hf9.size)
            have HG9 := Aside.mk G9
            clear G9 hf9 x0 x1 x2 x3 xf
            have hsz9 := size_setCell w8 ⟨X, 1, none⟩ (.slice A8 ks2.length c8)
            generalize World.setCell w8 _ _ = w9 at hsz9 HG9 HG9' HR9 HM9 HB9 HW9 ⊢
            refine wpList_append1M rfl (.tmp 66) (.tmp 71) rfl w1.heap.size (.slice Am ms.length cm) ms ⟨tk, next, now⟩ rfl (by rw [hsz9]; rfl) HM9.out HW9.out (by have := HLM.out; omega) (fun v10 w10 h10 hg10 => ?_)
            generalize hms2 : ms ++ [(⟨tk, next, now⟩ : Mark)] = ms2 at h10
            have HMS2 := Aside.mk hms2
            clear hms2
            have HG10 := Aside.mk (HG9.out.grown HM9.out rfl (by decide) hg10)
            have HG10' := Aside.mk (HG9'.out.grown HM9.out rfl (by decide) hg10)
            have HR10 := Aside.mk (R_grownT HR9.out HM9.out rfl rfl (by decide) hg10)
            have HM10 := Aside.mk h10
            have HB10 := Aside.mk (HB9.out.grown hg10 HB9.out.size (fun j e => Nat.le_trans HB.out.size ((Kd.R_bound HM9.out).1 j e).2.1))
            obtain ⟨A10, c10, rfl, _⟩ := Row.of_R h10
            clear h10 hg10
            obtain ⟨x0, x1, x2, x3, xf⟩ := HG10.out.cells
            obtain ⟨y0, y1, y2, y3, yf⟩ := HG10'.out.cells
            obtain ⟨G11, hf11⟩ := HG10.out.put2 (.slice A10 ms2.length c10)
            obtain ⟨G12, hf12⟩ := (HG10'.out.fc hf11 (by simp)).put (wrap64 (next + 1)) (.slice A8 ks2.length c8) (.slice A10 ms2.length c10) att
            have HFE := Aside.mk ((hf11.sub (S' := [X, X + 1]) (by simp)).trans (hf12.sub (S' := [X, X + 1]) (by simp)))
            have HG12 := Aside.mk G12
            clear G11 G12 hf11 hf12
            go_wp2
            refine bodyPost_ret (v := .tuple #[.agg #[.int .i64 (wrap64 (next + 1)), .slice A8 ks2.length c8, .slice A10 ms2.length c10, .string att], .int .i64 next, .int .i64 0]) (results_c2 _ _ 10 25 11 12 ⟨X + 1, 0, none⟩ _ _ _ _ (by kernel_rfl) (by rfl) (by rfl) (by rfl) (GBox.load HG12.out)) (by rfl) ?_
            have e1 : w.heap.size ≤ w1.heap.size := HB.out.size
            have hX1 : ∀ k ∈ [X, X + 1], k < w1.heap.size := by have := HXX.out; simp; omega
            have r1 := R_fcG HR10.out HFE.out hX1
            have r2 := R_fcG HM10.out HFE.out hX1
            have b1 := below_fc HB10.out HFE.out (by simp [HX.out])
            unfold sendN sendK sendM
            rw [HF.out]
            have hk2 := HKS2.out
            have hm2 := HMS2.out
            subst hk2 hm2
            exact ⟨_, _, rfl, Kd.R_lower r1 e1, Kd.R_lower r2 e1, b1⟩
end Go.Proofs.YtekjkdpiiaocjaaDoor

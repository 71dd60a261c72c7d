/- Receive. Conditions: where the rows lie. -/
import Derived.Test.YtekjkdpiiaocjaaDoorGrG
namespace Go.Proofs.YtekjkdpiiaocjaaDoor
open Go.RowKit Go.Maps Go.Proofs.YtekjkdpiiaocjaaDoorW.PrintWords Go.Proofs.YtekjkdpiiaocjaaDoorW.PrintLast Go.Proofs.YtekjkdpiiaocjaaDoorW.PrintMore
/-- Two rows in blocks of their own. -/
def Sep (v v' : Value) : Prop := ∀ k, v.ownBlock = some k → ¬ v'.ownBlock = some k
theorem Sep.symm {v v' : Value} (h : Sep v v') : Sep v' v := fun k e e' => h k e' e
theorem Sep.nil (v : Value) (n c : Nat) : Sep (.slice none n c) v := fun _ e => by cases e
theorem R_sep {w w1 : World} {base : Nat} {v v' : Value} {l' : List Kept} (h : keptK.R 61 w base (fun _ => True) v' l') (hs : Sep v v') (hg : w.grownBy w1 v.ownBlock) : keptK.R 61 w1 base (fun _ => True) v' l' := by
  obtain ⟨_, h2⟩ := h
  have h' : keptK.R 61 w base (fun k => v'.ownBlock = some k) v' l' := ⟨fun k hk => hk, h2⟩
  exact Kd.R_mono (Kd.R_grown h' hg (fun k hk e => hs k e.symm hk)) (fun _ _ => trivial)
theorem Sep.new {w : World} {base : Nat} {v v1 v' : Value} {l' : List Kept} (h : Sep v v') (h' : keptK.R 61 w base (fun _ => True) v' l') (hat : v1.ownBlock = v.ownBlock ∨ ∃ b, v1.ownBlock = some b ∧ w.heap.size ≤ b) : Sep v1 v' := fun k e e' => by
  rcases hat with h1 | ⟨b, h1, h2⟩
  · exact h k (h1 ▸ e) e'
  · have := (Kd.R_bound h').1 k e'
    rw [h1] at e
    injection e with e
    have := this.2.2.1
    omega
theorem wpList_append2K {W : World} {ops : Array Oper} {rest : List Oper} {o : Oper} {a : Act} {Q : Exit → Act → World → Prop} (hgd : o.guard = none) (s x : Operand)
    (ho : o.op = .call { callee := .builtin .append, args := #[s, x], argTypes := #[22, 22] }) (base : Nat) (v : Value) (l : List Kept) (m : Kept) (hs : a.eval s = v) (hx : a.eval x = .slice (some ⟨W.heap.size, 0, none⟩) 1 1)
    (HO : keptK.R 61 W base (fun _ => True) v l) (hbase : base ≤ W.heap.size) (hl : l.length + 1 ≤ 1000000)
    (h : ∀ v1 w1, keptK.R 61 w1 base (fun _ => True) v1 (l ++ [m]) → W.grownBy w1 v.ownBlock → (v1.ownBlock = v.ownBlock ∨ ∃ b, v1.ownBlock = some b ∧ W.heap.size ≤ b) → wpList Tryd.prog ops Q rest (a.put o.dst v1) w1) : wpList Tryd.prog ops Q (o :: rest) a (W.alloc (.cells m.cells.toArray 61)) :=
  Kd.R_append keptK (w0 := W) base hgd s x 22 61 (.agg #[.int .i64 0, .int .i64 0, .int .i64 0, .int .i64 0, .int .i64 0, .string ⟨#[]⟩]) 56 ho Tryd.underlying22 infoK rfl (by decide) (by decide) v l m m.cells (fun _ => True) (fun _ => False) hs hx rfl (fun _ h => h.elim) (fun _ _ => trivial) HO (Below.refl _ _) hbase (by omega) (fun v1 w1 h1 _ h3 h4 => h v1 w1 h1 h3 h4)
/-- What is handed out, what dies, what is left. -/
def bump (now secs : Int) (m : Kept) : Kept := { m with count := wrap64 (m.count + 1), till := wrap64 (now + secs) }
def recvL (now max secs most room : Int) : List Kept → List Kept → List Kept → List Kept × List Kept × List Kept
  | [], got, dead => ([], got, dead)
  | m :: t, got, dead => if (got.length : Int) < max then (if 0 < most ∧ most ≤ m.count then (if room ≤ (dead.length : Int) then (m :: t, got, dead) else recvL now max secs most room t got (dead ++ [m])) else recvL now max secs most room t (got ++ [bump now secs m]) dead) else (m :: t, got, dead)
/-- What Receive leaves, hands out, lets die. -/
def recvF (ks : List Kept) (now max secs most room : Int) : List Kept × List Kept × List Kept :=
  if ks.any (fun m => decide (now < m.till)) then (ks, [], []) else ((recvL now max secs most room ks [] []).2.1 ++ (recvL now max secs most room ks [] []).1, (recvL now max secs most room ks [] []).2)
/-- The rows as the loop goes on. -/
structure RJ (W : World) (base : Nat) (vk vg vd vl : Value) (ks got dead lft : List Kept) : Prop where
  rk : keptK.R 61 W base (fun _ => True) vk ks
  rg : keptK.R 61 W base (fun _ => True) vg got
  rd : keptK.R 61 W base (fun _ => True) vd dead
  rl : keptK.R 61 W base (fun _ => True) vl lft
  gd : Sep vg vd
  gl : Sep vg vl
  dl : Sep vd vl
  gk : Sep vg vk
  dk : Sep vd vk
  lk : Sep vl vk
section
variable {W W' : World} {base : Nat} {vk vg vd vl v1 : Value} {ks got dead lft l1 : List Kept}
theorem RJ.below (h : RJ W base vk vg vd vl ks got dead lft) (hb : Below W.heap.size W W') : RJ W' base vk vg vd vl ks got dead lft :=
  { h with rk := Kd.R_below h.rk hb, rg := Kd.R_below h.rg hb, rd := Kd.R_below h.rd hb, rl := Kd.R_below h.rl hb }
theorem RJ.putg (h : RJ W base vk vg vd vl ks got dead lft) (h1 : keptK.R 61 W' base (fun _ => True) v1 l1) (hg : W.grownBy W' vg.ownBlock) (hat : v1.ownBlock = vg.ownBlock ∨ ∃ b, v1.ownBlock = some b ∧ W.heap.size ≤ b) : RJ W' base vk v1 vd vl ks l1 dead lft :=
  ⟨R_sep h.rk h.gk hg, h1, R_sep h.rd h.gd hg, R_sep h.rl h.gl hg, Sep.new h.gd h.rd hat, Sep.new h.gl h.rl hat, h.dl, Sep.new h.gk h.rk hat, h.dk, h.lk⟩
theorem RJ.putd (h : RJ W base vk vg vd vl ks got dead lft) (h1 : keptK.R 61 W' base (fun _ => True) v1 l1) (hg : W.grownBy W' vd.ownBlock) (hat : v1.ownBlock = vd.ownBlock ∨ ∃ b, v1.ownBlock = some b ∧ W.heap.size ≤ b) : RJ W' base vk vg v1 vl ks got l1 lft :=
  ⟨R_sep h.rk h.dk hg, R_sep h.rg h.gd.symm hg, h1, R_sep h.rl h.dl hg, (Sep.new h.gd.symm h.rg hat).symm, h.gl, Sep.new h.dl h.rl hat, h.gk, Sep.new h.dk h.rk hat, h.lk⟩
theorem RJ.putl (h : RJ W base vk vg vd vl ks got dead lft) (h1 : keptK.R 61 W' base (fun _ => True) v1 l1) (hg : W.grownBy W' vl.ownBlock) (hat : v1.ownBlock = vl.ownBlock ∨ ∃ b, v1.ownBlock = some b ∧ W.heap.size ≤ b) : RJ W' base vk vg vd v1 ks got dead l1 :=
  ⟨R_sep h.rk h.lk hg, R_sep h.rg h.gl.symm hg, R_sep h.rd h.dl.symm hg, h1, h.gd, (Sep.new h.gl.symm h.rg hat).symm, (Sep.new h.dl.symm h.rd hat).symm, h.gk, h.dk, Sep.new h.lk h.rk hat⟩
end
/-- A row of one's own is nil, or lies at the head of a block. -/
theorem R_shape {base n c : Nat} {w : World} {A : Option Addr} {l : List Kept} (h : keptK.R 61 w base (fun _ => True) (.slice A n c) l) : n = l.length ∧ ((A = none ∧ n = 0 ∧ c = 0) ∨ ∃ g, A = some ⟨g, 0, none⟩ ∧ n ≤ c ∧ c ≤ 9223372036854775807 ∧ g < w.heap.size) := by
  obtain ⟨A1, c1, e1, _⟩ := Kd.R_reads h
  injection e1 with e2 e3 e4
  obtain ⟨inner, hown⟩ := Kd.R_own h
  rcases hown.2 with ⟨he, hn⟩ | ⟨g', cap, cur, he, hg, hh, hnn, hmx, hs, htake⟩
  · injection he with f1 f2 f3
    exact ⟨e3, .inl ⟨f1, f2, f3⟩⟩
  · injection he with f1 f2 f3
    exact ⟨e3, .inr ⟨g', f1, by omega, by rw [f3]; exact hmx, (Array.getElem?_eq_some_iff.1 hh).1⟩⟩
/-- All that stands at the head of a round. -/
structure RL (W w : World) (base X n k : Nat) (next : Int) (Ak : Option Addr) (ck : Nat) (vm : Value) (att : ByteArray) (vg vd vl : Value) (ks got dead : List Kept) (ms : List Mark) : Prop where
  j : RJ W base (.slice Ak n ck) vg vd vl ks got dead got
  g : GBox W (X + 1) next (.slice Ak n ck) vm att
  m : markK.R 67 W base (fun _ => True) vm ms
  b : Below w.heap.size w W
  s : base ≤ W.heap.size
  lg : got.length ≤ k
  ld : dead.length ≤ k
theorem RL.new {W W' w : World} {base X n k : Nat} {next : Int} {Ak : Option Addr} {ck : Nat} {vm : Value} {att : ByteArray} {vg vd vl : Value} {ks got dead : List Kept} {ms : List Mark} (h : RL W w base X n k next Ak ck vm att vg vd vl ks got dead ms) (hb : Below W.heap.size W W') : RL W' w base X n k next Ak ck vm att vg vd vl ks got dead ms :=
  ⟨h.j.below hb, h.g.fc (FC.of (S := []) hb) (by simp), Kd.R_below h.m hb, h.b.trans (hb.mono h.b.size), Nat.le_trans h.s hb.size, h.lg, h.ld⟩
theorem wnext {k n : Nat} (h : k < n) (hn : n ≤ 100000) : Value.int .i64 (wrap64 ((k : Int) + 1)) = .int .i64 ((k + 1 : Nat) : Int) := by
  congr 1
  unfold wrap64
  omega
set_option maxHeartbeats 8000000 in
set_option maxRecDepth 100000 in
/-- Receive. -/
theorem T.Receive (next : Int) (A A' : Option Addr) (c c' : Nat) (att : ByteArray) (ks : List Kept) (ms : List Mark) (now max secs most room : Int) (w : World) (hK : Row keptK w A ks) (hM : Row markK w A' ms) (hl : ks.length ≤ 100000) (hl' : ms.length ≤ 100000) :
    Calls Tryd.prog 24 #[.agg (grV next (.slice A ks.length c) (.slice A' ms.length c') att), .int .i64 now, .int .i64 max, .int .i64 secs, .int .i64 most, .int .i64 room] w fun e w' => ∃ vk vm vg vd, e = .returned (.tuple #[.agg (grV next vk vm att), vg, vd]) ∧ keptK.R 61 w' w.heap.size (fun _ => True) vk (recvF ks now max secs most room).1 ∧ markK.R 67 w' w.heap.size (fun _ => True) vm ms ∧ keptK.R 61 w' w.heap.size (fun _ => True) vg (recvF ks now max secs most room).2.1 ∧ keptK.R 61 w' w.heap.size (fun _ => True) vd (recvF ks now max secs most room).2.2 ∧ Below w.heap.size w w' := by
  simp only [grV]
  obtain ⟨hb, h1, h2⟩ := alloc2 w (.cells #[.int .i64 next, .slice A ks.length c, .slice A' ms.length c', .string att] 25) (.cells #[.int .i64 0, .slice none 0 0, .slice none 0 0, .string ⟨#[]⟩] 25)
  go_enter Tryd.func24, Tryd.ntmps24
  go_wp2_with fail
  generalize hw1 : World.alloc (World.alloc w _) _ = w1 at hb h1 h2 ⊢
  obtain ⟨X, hX⟩ : ∃ X, X = w.heap.size := ⟨_, rfl⟩
  have HX := Aside.mk hX
  rw [← hX] at h1 h2 ⊢
  have HB := Aside.mk hb
  have hcall := T.own next A A' ks.length ms.length c c' att ks ms w1 (hK.below hb).C (hM.below hb).C hl hl'
  simp only [grV] at hcall
  refine hcall.mono ?_
  clear hcall hw1 hb hX
  rintro e w2 ⟨vk, vm, rfl, hr1, hr2, hb2⟩
  have G1 : GBox w2 X next (.slice A ks.length c) (.slice A' ms.length c') att := (hb2.block X (Array.getElem?_eq_some_iff.1 h1).1).trans h1
  have G4 : GBox w2 (X + 1) 0 (.slice none 0 0) (.slice none 0 0) ⟨#[]⟩ := (hb2.block _ (Array.getElem?_eq_some_iff.1 h2).1).trans h2
  have HXX := Aside.mk (show X + 1 < w1.heap.size from (Array.getElem?_eq_some_iff.1 h2).1)
  obtain ⟨Ak, ck, rfl, _⟩ := Row.of_R hr1
  obtain ⟨Am, cm, rfl, _⟩ := Row.of_R hr2
  have HG1 := Aside.mk G1
  have HG4 := Aside.mk G4
  have HR1' := Aside.mk hr1
  have HR2' := Aside.mk hr2
  have HB2 := Aside.mk hb2
  clear hb2 hr1 hr2 G1 G4 h1 h2
  go_wp2_with (with_reducible refine halt_at (.store 25 (.tmp 12) (.tmp 19)) rfl ?_)
  refine ⟨?_⟩
  refine wpList_storeG rfl (.tmp 12) (.tmp 19) rfl (X + 1) next (.slice Ak ks.length ck) (.slice Am ms.length cm) att rfl rfl HG4.out rfl rfl (fun w3 hg3 hf3 => ?_)
  have hX1 : ∀ k ∈ [X + 1], k < w1.heap.size := by have := HXX.out; simp; omega
  have HG3' := Aside.mk hg3
  have HG3 := Aside.mk (HG1.out.fc hf3 (by simp))
  have HR1 := Aside.mk (R_fcG HR1'.out hf3 hX1)
  have HR2 := Aside.mk (R_fcG HR2'.out hf3 hX1)
  have hb3 := below_fc (HB.out.trans (HB2.out.mono HB.out.size)) hf3 (by simp [HX.out])
  have HB3 := Aside.mk hb3
  have HW3 := Aside.mk (show w1.heap.size ≤ w3.heap.size from Nat.le_trans HB2.out.size hf3.size)
  have HK3 := Aside.mk (hK.below hb3)
  clear hg3 hf3 hb3 HR1' HR2' HG1 HG4 HB2 hX1
  obtain ⟨x0, x1, x2, x3, xf⟩ := HG3.out.cells
  go_wp2_with fail
  have hcall := T.Flying next A c (.slice A' ms.length c') att ks now w3 HK3.out hl ⟨_, _, _, rfl⟩
  simp only [grV] at hcall
  refine hcall.mono ?_
  clear hcall x0 x1 x2 x3 xf
  rintro e w4 ⟨rfl, hb4⟩
  have HG4' := Aside.mk (HG3'.out.fc (FC.of (S := []) hb4) (by simp))
  have HR4 := Aside.mk (Kd.R_below HR1.out hb4)
  have HM4 := Aside.mk (Kd.R_below HR2.out hb4)
  have HB4 := Aside.mk (HB3.out.trans (hb4.mono HB3.out.size))
  have HW4 := Aside.mk (Nat.le_trans HW3.out hb4.size)
  clear hb4 HR1 HR2 HG3 HG3' HK3
  obtain ⟨y0, y1, y2, y3, yf⟩ := HG4'.out.cells
  generalize hfl : (ks.any fun m => decide (now < m.till)) = fl at *
  have HFL := Aside.mk hfl
  clear hfl
  cases fl
  case' true =>
    obtain ⟨G7, hf7⟩ := HG4'.out.put next (.slice Ak ks.length ck) (.slice Am ms.length cm) att
    have HFE := Aside.mk hf7
    have HG7 := Aside.mk G7
    clear G7 hf7
    go_wp2
    refine bodyPost_ret (v := .tuple #[.agg #[.int .i64 next, .slice Ak ks.length ck, .slice Am ms.length cm, .string att], .slice none 0 0, .slice none 0 0]) (results_c2 _ _ 12 25 13 14 ⟨X + 1, 0, none⟩ _ _ _ _ (by kernel_rfl) (by rfl) (by rfl) (by rfl) (GBox.load HG7.out)) (by rfl) ?_
    have e1 : w.heap.size ≤ w1.heap.size := HB.out.size
    have hX1 : ∀ k ∈ [X + 1], k < w1.heap.size := by have := HXX.out; simp; omega
    have r1 := R_fcG HR4.out HFE.out hX1
    have r2 := R_fcG HM4.out HFE.out hX1
    have b1 := below_fc (S := [X + 1]) HB4.out HFE.out (by simp [HX.out])
    unfold recvF
    rw [HFL.out]
    exact ⟨_, _, _, _, rfl, Kd.R_lower r1 e1, Kd.R_lower r2 e1, Kd.R_nil _ _ _ _ _, Kd.R_nil _ _ _ _ _, b1⟩
  clear y0 y1 y2 y3 yf
  have HL' := Aside.mk hl'
  clear hl'
  obtain ⟨n, hn⟩ : ∃ n, n = ks.length := ⟨_, rfl⟩
  have HN := Aside.mk hn
  have HNL := Aside.mk (show n ≤ 100000 by omega)
  have HI := Aside.mk (show RL w4 w w1.heap.size X n 0 next Ak ck (.slice Am ms.length cm) att (.slice none 0 0) (.slice none 0 0) (.slice none 0 0) ks [] [] ms from ⟨⟨hn ▸ HR4.out, Kd.R_nil _ _ _ _ _, Kd.R_nil _ _ _ _ _, Kd.R_nil _ _ _ _ _, Sep.nil _ _ _, Sep.nil _ _ _, Sep.nil _ _ _, Sep.nil _ _ _, Sep.nil _ _ _, Sep.nil _ _ _⟩, hn ▸ HG4'.out, HM4.out, HB4.out, HW4.out, Nat.le_refl _, Nat.le_refl _⟩)
  go_wp2_with fail
  rw [← hn]
  clear hn HR4 HG4' HM4 HB4 HW4
  go_loopg [13, 14, 15, 16, 17] n (fun kq v13 v14 v15 v16 _ wr => ∃ (k : Nat) (got dead : List Kept) (A1 : Option Addr) (c1 : Nat) (A2 : Option Addr) (c2 : Nat) (A3 : Option Addr) (c3 : Nat), k + kq = n ∧ v15 = .int .i64 (k : Int) ∧ v13 = .slice A1 got.length c1 ∧ v14 = .slice A2 dead.length c2 ∧ v16 = .slice A3 got.length c3 ∧ Aside (RL wr w w1.heap.size X n k next Ak ck (.slice Am ms.length cm) att (.slice A1 got.length c1) (.slice A2 dead.length c2) (.slice A3 got.length c3) ks got dead ms ∧ recvL now max secs most room ks [] [] = recvL now max secs most room (ks.drop k) got dead))
  case atStart => exact ⟨0, [], [], none, 0, none, 0, none, 0, by omega, rfl, rfl, rfl, rfl, ⟨HI.out, rfl⟩⟩
  case round =>
    obtain ⟨k, got, dead, A1, c1, A2, c2, A3, c3, hk, rfl, rfl, rfl, rfl, hR⟩ := hrel
    have HK := Aside.mk hk
    have HR := Aside.mk hR.out.1
    have HREC := Aside.mk hR.out.2
    have HSH := Aside.mk (R_shape HR.out.j.rk)
    clear hR
    obtain ⟨y0, y1, y2, y3, yf⟩ := HR.out.g.cells
    by_cases hlt : k < n
    · obtain ⟨x, hx⟩ : ∃ x, ks[k]? = some x := ⟨_, List.getElem?_eq_getElem (by rw [← HN.out]; exact hlt)⟩
      have hlt' := Aside.mk hlt
      have HX1 := Aside.mk hx
      have HDR := Aside.mk (show ks.drop k = x :: ks.drop (k + 1) by
        obtain ⟨h1, h2⟩ := List.getElem?_eq_some_iff.1 hx
        rw [← h2]; exact List.drop_eq_getElem_cons h1)
      clear hx hk
      obtain ⟨g, rfl, hrg⟩ := (Row.of_R' HR.out.j.rk).at k x HX1.out
      by_cases hmx : (got.length : Int) < max
      · have HMX := Aside.mk hmx
        obtain ⟨m0, m1, m2, m3, m4, m5⟩ := cellsK hrg
        clear hrg
        obtain ⟨seq, sent, count, till, home, body⟩ := x
        dsimp only at m0 m1 m2 m3 m4 m5
        by_cases hmo : 0 < most ∧ most ≤ count
        · have HMO := Aside.mk hmo
          obtain ⟨hm1, hm2⟩ := hmo
          by_cases hro : room ≤ (dead.length : Int)
          · have HRO := Aside.mk hro
            have HEND := Aside.mk (show recvL now max secs most room (ks.drop k) got dead = (ks.drop k, got, dead) by rw [HDR.out, recvL, if_pos HMX.out, if_pos HMO.out, if_pos HRO.out])
            have HQ := Aside.mk (HR.out.new ((Below.refl wr.heap.size wr).alloc (Nat.le_refl _) (.cells #[.int .i64 seq, .int .i64 sent, .int .i64 count, .int .i64 till, .int .i64 home, .string body] 61)))
            obtain ⟨q0, q1, q2, q3, qf⟩ := HQ.out.g.cells
            rcases HSH.out.2 with ⟨hz, _, _⟩ | ⟨g1, hz, hc1, hc2, _⟩
            · cases hz
            · clear hz
              have h8 : (0 : Int) ≤ (k : Int) := by omega
              have h9 : (k : Int) ≤ (n : Int) := by have := HK.out; omega
              have h10 : (n : Int) ≤ (ck : Int) := by omega
              have HC := Aside.mk (show keptK.C (wr.alloc (.cells #[.int .i64 seq, .int .i64 sent, .int .i64 count, .int .i64 till, .int .i64 home, .string body] 61)) (some ⟨g, k * 6, none⟩) (n - k) (ks.drop k) by
                have hc := Kd.C_drop (m := k) (c := n) (Row.of_R' HQ.out.j.rk).C (by have := HN.out; have := HK.out; omega) (by have := HN.out; omega)
                have e2 : (if n = k then some (⟨g, 0, none⟩ : Addr) else (some (⟨g, 0, none⟩ : Addr)).map (·.add (k * keptK.sz))) = some ⟨g, k * 6, none⟩ := by
                  rw [if_neg (by omega), Option.map_some, add_plain]; rfl
                rw [e2, List.length_drop, ← HN.out] at hc
                exact hc)
              go_wp2_with (with_reducible refine halt_at (.call { callee := .builtin .append, args := #[.tmp 74, .tmp 84], argTypes := #[22, 22] }) rfl ?_)
              refine ⟨?_⟩
              refine wpList_appendK rfl (.tmp 74) (.tmp 84) rfl w1.heap.size (.slice A3 got.length c3) got _ _ _ _ rfl rfl HQ.out.j.rl HC.out HQ.out.s (by have := HQ.out.lg; have := HNL.out; have := HK.out; omega) (fun v8 w8 h8 hg8 => ?_)
              obtain ⟨L8, hL8⟩ : ∃ L8, L8 = (got ++ ks.drop k) := ⟨_, rfl⟩
              rw [← hL8] at h8
              have HL8 := Aside.mk hL8
              clear hL8
              obtain ⟨A8, c8, rfl, _⟩ := Row.of_R h8
              have G8 := HQ.out.g.grown HQ.out.j.rl rfl (by decide) hg8
              have HB8 := Aside.mk (HQ.out.b.grown hg8 HQ.out.b.size (fun j e => Nat.le_trans HB.out.size ((Kd.R_bound HQ.out.j.rl).1 j e).2.1))
              have HM8 := Aside.mk (R_grownT HQ.out.m HQ.out.j.rl rfl rfl (by decide) hg8)
              have HG8 := Aside.mk (R_sep HQ.out.j.rg HQ.out.j.gl.symm hg8)
              have HD8 := Aside.mk (R_sep HQ.out.j.rd HQ.out.j.dl.symm hg8)
              have HR8 := Aside.mk h8
              obtain ⟨u0, u1, u2, u3, uf⟩ := G8.cells
              obtain ⟨G9, hf9⟩ := G8.put1 (.slice A8 L8.length c8)
              obtain ⟨G10, hf10⟩ := G9.put next (.slice A8 L8.length c8) (.slice Am ms.length cm) att
              have HFE := Aside.mk (hf9.trans hf10)
              have HG10 := Aside.mk G10
              clear h8 hg8 G8 G9 G10 hf9 hf10
              go_wp2
              refine bodyPost_ret (v := .tuple #[.agg #[.int .i64 next, .slice A8 L8.length c8, .slice Am ms.length cm, .string att], .slice A1 got.length c1, .slice A2 dead.length c2]) (results_c2 _ _ 12 25 13 14 ⟨X + 1, 0, none⟩ _ _ _ _ (by kernel_rfl) (by rfl) (by rfl) (by rfl) (GBox.load HG10.out)) (by rfl) ?_
              have e1 : w.heap.size ≤ w1.heap.size := HB.out.size
              have hX1 : ∀ k ∈ [X + 1], k < w1.heap.size := by have := HXX.out; simp; omega
              have r1 := R_fcG HR8.out HFE.out hX1
              have r2 := R_fcG HM8.out HFE.out hX1
              have r3 := R_fcG HG8.out HFE.out hX1
              have r4 := R_fcG HD8.out HFE.out hX1
              have b1 := below_fc (S := [X + 1]) HB8.out HFE.out (by simp [HX.out])
              have hF : recvF ks now max secs most room = (L8, got, dead) := by unfold recvF; rw [HFL.out, HREC.out, HEND.out, HL8.out]; rfl
              rw [hF]
              exact ⟨_, _, _, _, rfl, Kd.R_lower r1 e1, Kd.R_lower r2 e1, Kd.R_lower r3 e1, Kd.R_lower r4 e1, b1⟩
          · have HRO := Aside.mk hro
            have HSTEP := Aside.mk (show recvL now max secs most room (ks.drop k) got dead = recvL now max secs most room (ks.drop (k + 1)) got (dead ++ [⟨seq, sent, count, till, home, body⟩]) by rw [HDR.out, recvL, if_pos HMX.out, if_pos HMO.out, if_neg HRO.out])
            have HR5 := Aside.mk (HR.out.new ((Below.refl wr.heap.size wr).alloc (Nat.le_refl _) (.cells #[.int .i64 seq, .int .i64 sent, .int .i64 count, .int .i64 till, .int .i64 home, .string body] 61)))
            have HSZ5 := Aside.mk (show (wr.alloc (.cells #[.int .i64 seq, .int .i64 sent, .int .i64 count, .int .i64 till, .int .i64 home, .string body] 61)).heap.size = wr.heap.size + 1 by simp)
            go_wp2_with (with_reducible refine halt_at (.call { callee := .builtin .append, args := #[.tmp 54, .tmp 56], argTypes := #[22, 22] }) rfl ?_)
            refine ⟨?_⟩
            generalize World.alloc wr _ = w5 at HR5 HSZ5 ⊢
            clear m0 m1 m2 m3 m4 m5 y0 y1 y2 y3 yf
            refine wpList_append2K rfl (.tmp 54) (.tmp 56) rfl w1.heap.size (.slice A2 dead.length c2) dead ⟨seq, sent, count, till, home, body⟩ rfl (by rw [HSZ5.out]; rfl) HR5.out.j.rd HR5.out.s (by have := HR5.out.ld; have := HNL.out; have := hlt'.out; omega) (fun v6 w6 h6 hg6 hat6 => ?_)
            obtain ⟨dead2, hdead2⟩ : ∃ dead2, dead2 = dead ++ [(⟨seq, sent, count, till, home, body⟩ : Kept)] := ⟨_, rfl⟩
            rw [← hdead2] at h6
            have HDEAD2 := Aside.mk hdead2
            clear hdead2
            obtain ⟨A6, c6, rfl, _⟩ := Row.of_R h6
            have HJ7 := Aside.mk (HR5.out.j.putd h6 hg6 hat6)
            have HG7 := Aside.mk (HR5.out.g.grown HR5.out.j.rd rfl (by decide) hg6)
            have HM7 := Aside.mk (R_grownT HR5.out.m HR5.out.j.rd rfl rfl (by decide) hg6)
            have HB7 := Aside.mk (HR5.out.b.grown hg6 HR5.out.b.size (fun j e => Nat.le_trans HB.out.size ((Kd.R_bound HR5.out.j.rd).1 j e).2.1))
            have HS7 := Aside.mk (Nat.le_trans HR5.out.s hg6.size)
            clear h6 hg6 hat6
            go_wp2
            go_roundg (gk - 1)
            case measure => have := HK.out; have := hlt'.out; omega
            case rel => exact ⟨k + 1, got, dead2, A1, c1, A6, c6, A3, c3, by have := HK.out; have := hlt'.out; omega, wnext hlt'.out HNL.out, rfl, rfl, rfl, ⟨⟨HJ7.out, HG7.out, HM7.out, HB7.out, HS7.out, by have := HR.out.lg; omega, by rw [HDEAD2.out, List.length_append]; have := HR.out.ld; simpa using this⟩, by rw [HREC.out, HSTEP.out, HDEAD2.out]⟩⟩
        · have HMO := Aside.mk hmo
          by_cases hm1 : 0 < most
          · have hm2 : ¬ most ≤ count := fun h => hmo ⟨hm1, h⟩
            clear hmo
            have H5 := Aside.mk (heap_alloc_new wr (.cells #[.int .i64 seq, .int .i64 sent, .int .i64 (wrap64 (count + 1)), .int .i64 (wrap64 (now + secs)), .int .i64 home, .string body] 61))
            have HB5 := Aside.mk ((Below.refl wr.heap.size wr).alloc (Nat.le_refl _) (.cells #[.int .i64 seq, .int .i64 sent, .int .i64 (wrap64 (count + 1)), .int .i64 (wrap64 (now + secs)), .int .i64 home, .string body] 61))
            have HSZ5 := Aside.mk (show (wr.alloc (.cells #[.int .i64 seq, .int .i64 sent, .int .i64 (wrap64 (count + 1)), .int .i64 (wrap64 (now + secs)), .int .i64 home, .string body] 61)).heap.size = wr.heap.size + 1 by simp)
            have HSTEP := Aside.mk (show recvL now max secs most room (ks.drop k) got dead = recvL now max secs most room (ks.drop (k + 1)) (got ++ [⟨seq, sent, wrap64 (count + 1), wrap64 (now + secs), home, body⟩]) dead by rw [HDR.out, recvL, if_pos HMX.out, if_neg HMO.out]; rfl)
            go_wp2_with (with_reducible refine halt_at (.call { callee := .builtin .append, args := #[.tmp 66, .tmp 68], argTypes := #[22, 22] }) rfl ?_)
            refine ⟨?_⟩
            generalize World.alloc wr _ = w5 at H5 HB5 HSZ5 ⊢
            have HR5 := Aside.mk (HR.out.new HB5.out)
            clear m0 m1 m2 m3 m4 m5 y0 y1 y2 y3 yf
            refine wpList_append2K rfl (.tmp 66) (.tmp 68) rfl w1.heap.size (.slice A1 got.length c1) got ⟨seq, sent, wrap64 (count + 1), wrap64 (now + secs), home, body⟩ rfl (by rw [HSZ5.out]; rfl) HR5.out.j.rg HR5.out.s (by have := HR5.out.lg; have := HNL.out; have := hlt'.out; omega) (fun v6 w6 h6 hg6 hat6 => ?_)
            obtain ⟨got2, hgot2⟩ : ∃ got2, got2 = got ++ [(⟨seq, sent, wrap64 (count + 1), wrap64 (now + secs), home, body⟩ : Kept)] := ⟨_, rfl⟩
            rw [← hgot2] at h6
            have HGOT2 := Aside.mk hgot2
            clear hgot2
            obtain ⟨A6, c6, rfl, _⟩ := Row.of_R h6
            have HJ6 := Aside.mk (HR5.out.j.putg h6 hg6 hat6)
            have HG6 := Aside.mk (HR5.out.g.grown HR5.out.j.rg rfl (by decide) hg6)
            have HM6 := Aside.mk (R_grownT HR5.out.m HR5.out.j.rg rfl rfl (by decide) hg6)
            have HB6 := Aside.mk (HR5.out.b.grown hg6 HR5.out.b.size (fun j e => Nat.le_trans HB.out.size ((Kd.R_bound HR5.out.j.rg).1 j e).2.1))
            have HS6 := Aside.mk (Nat.le_trans HR5.out.s hg6.size)
            have hM6 := (hg6.block wr.heap.size (by have := HSZ5.out; omega) (fun e => by have := ((Kd.R_bound HR.out.j.rg).1 wr.heap.size (by first | exact e | exact e.symm)).2.2.1; omega)).trans H5.out
            have hcx := fun i => cell_of_row w6 wr.heap.size i _ _ _ hM6
            have z0 : w6.cell? ⟨wr.heap.size, 0, none⟩ = some (.int .i64 seq) := hcx 0
            have z1 : w6.cell? ⟨wr.heap.size, 1, none⟩ = some (.int .i64 sent) := hcx 1
            have z2 : w6.cell? ⟨wr.heap.size, 2, none⟩ = some (.int .i64 (wrap64 (count + 1))) := hcx 2
            have z3 : w6.cell? ⟨wr.heap.size, 3, none⟩ = some (.int .i64 (wrap64 (now + secs))) := hcx 3
            have z4 : w6.cell? ⟨wr.heap.size, 4, none⟩ = some (.int .i64 home) := hcx 4
            have z5 : w6.cell? ⟨wr.heap.size, 5, none⟩ = some (.string body) := hcx 5
            clear h6 hg6 hat6 hM6 hcx
            go_wp2_with (with_reducible refine halt_at (.call { callee := .builtin .append, args := #[.tmp 70, .tmp 72], argTypes := #[22, 22] }) rfl ?_)
            refine ⟨?_⟩
            refine wpList_append2K rfl (.tmp 70) (.tmp 72) rfl w1.heap.size (.slice A3 got.length c3) got ⟨seq, sent, wrap64 (count + 1), wrap64 (now + secs), home, body⟩ rfl rfl HJ6.out.rl HS6.out (by have := HR5.out.lg; have := HNL.out; have := hlt'.out; omega) (fun v7 w7 h7 hg7 hat7 => ?_)
            rw [← HGOT2.out] at h7
            obtain ⟨A7, c7, rfl, _⟩ := Row.of_R h7
            have HJ7 := Aside.mk (HJ6.out.putl h7 hg7 hat7)
            have HG7 := Aside.mk (HG6.out.grown HJ6.out.rl rfl (by decide) hg7)
            have HM7 := Aside.mk (R_grownT HM6.out HJ6.out.rl rfl rfl (by decide) hg7)
            have HB7 := Aside.mk (HB6.out.grown hg7 HB6.out.size (fun j e => Nat.le_trans HB.out.size ((Kd.R_bound HJ6.out.rl).1 j e).2.1))
            have HS7 := Aside.mk (Nat.le_trans HS6.out hg7.size)
            clear h7 hg7 hat7 z0 z1 z2 z3 z4 z5
            go_wp2
            go_roundg (gk - 1)
            case measure => have := HK.out; have := hlt'.out; omega
            case rel => exact ⟨k + 1, got2, dead, A6, c6, A2, c2, A7, c7, by have := HK.out; have := hlt'.out; omega, wnext hlt'.out HNL.out, rfl, rfl, rfl, ⟨⟨HJ7.out, HG7.out, HM7.out, HB7.out, HS7.out, by rw [HGOT2.out, List.length_append]; have := HR.out.lg; simpa using this, by have := HR.out.ld; omega⟩, by rw [HREC.out, HSTEP.out, HGOT2.out]⟩⟩
          · clear hmo
            have H5 := Aside.mk (heap_alloc_new wr (.cells #[.int .i64 seq, .int .i64 sent, .int .i64 (wrap64 (count + 1)), .int .i64 (wrap64 (now + secs)), .int .i64 home, .string body] 61))
            have HB5 := Aside.mk ((Below.refl wr.heap.size wr).alloc (Nat.le_refl _) (.cells #[.int .i64 seq, .int .i64 sent, .int .i64 (wrap64 (count + 1)), .int .i64 (wrap64 (now + secs)), .int .i64 home, .string body] 61))
            have HSZ5 := Aside.mk (show (wr.alloc (.cells #[.int .i64 seq, .int .i64 sent, .int .i64 (wrap64 (count + 1)), .int .i64 (wrap64 (now + secs)), .int .i64 home, .string body] 61)).heap.size = wr.heap.size + 1 by simp)
            have HSTEP := Aside.mk (show recvL now max secs most room (ks.drop k) got dead = recvL now max secs most room (ks.drop (k + 1)) (got ++ [⟨seq, sent, wrap64 (count + 1), wrap64 (now + secs), home, body⟩]) dead by rw [HDR.out, recvL, if_pos HMX.out, if_neg HMO.out]; rfl)
            go_wp2_with (with_reducible refine halt_at (.call { callee := .builtin .append, args := #[.tmp 66, .tmp 68], argTypes := #[22, 22] }) rfl ?_)
            refine ⟨?_⟩
            generalize World.alloc wr _ = w5 at H5 HB5 HSZ5 ⊢
            have HR5 := Aside.mk (HR.out.new HB5.out)
            clear m0 m1 m2 m3 m4 m5 y0 y1 y2 y3 yf
            refine wpList_append2K rfl (.tmp 66) (.tmp 68) rfl w1.heap.size (.slice A1 got.length c1) got ⟨seq, sent, wrap64 (count + 1), wrap64 (now + secs), home, body⟩ rfl (by rw [HSZ5.out]; rfl) HR5.out.j.rg HR5.out.s (by have := HR5.out.lg; have := HNL.out; have := hlt'.out; omega) (fun v6 w6 h6 hg6 hat6 => ?_)
            obtain ⟨got2, hgot2⟩ : ∃ got2, got2 = got ++ [(⟨seq, sent, wrap64 (count + 1), wrap64 (now + secs), home, body⟩ : Kept)] := ⟨_, rfl⟩
            rw [← hgot2] at h6
            have HGOT2 := Aside.mk hgot2
            clear hgot2
            obtain ⟨A6, c6, rfl, _⟩ := Row.of_R h6
            have HJ6 := Aside.mk (HR5.out.j.putg h6 hg6 hat6)
            have HG6 := Aside.mk (HR5.out.g.grown HR5.out.j.rg rfl (by decide) hg6)
            have HM6 := Aside.mk (R_grownT HR5.out.m HR5.out.j.rg rfl rfl (by decide) hg6)
            have HB6 := Aside.mk (HR5.out.b.grown hg6 HR5.out.b.size (fun j e => Nat.le_trans HB.out.size ((Kd.R_bound HR5.out.j.rg).1 j e).2.1))
            have HS6 := Aside.mk (Nat.le_trans HR5.out.s hg6.size)
            have hM6 := (hg6.block wr.heap.size (by have := HSZ5.out; omega) (fun e => by have := ((Kd.R_bound HR.out.j.rg).1 wr.heap.size (by first | exact e | exact e.symm)).2.2.1; omega)).trans H5.out
            have hcx := fun i => cell_of_row w6 wr.heap.size i _ _ _ hM6
            have z0 : w6.cell? ⟨wr.heap.size, 0, none⟩ = some (.int .i64 seq) := hcx 0
            have z1 : w6.cell? ⟨wr.heap.size, 1, none⟩ = some (.int .i64 sent) := hcx 1
            have z2 : w6.cell? ⟨wr.heap.size, 2, none⟩ = some (.int .i64 (wrap64 (count + 1))) := hcx 2
            have z3 : w6.cell? ⟨wr.heap.size, 3, none⟩ = some (.int .i64 (wrap64 (now + secs))) := hcx 3
            have z4 : w6.cell? ⟨wr.heap.size, 4, none⟩ = some (.int .i64 home) := hcx 4
            have z5 : w6.cell? ⟨wr.heap.size, 5, none⟩ = some (.string body) := hcx 5
            clear h6 hg6 hat6 hM6 hcx
            go_wp2_with (with_reducible refine halt_at (.call { callee := .builtin .append, args := #[.tmp 70, .tmp 72], argTypes := #[22, 22] }) rfl ?_)
            refine ⟨?_⟩
            refine wpList_append2K rfl (.tmp 70) (.tmp 72) rfl w1.heap.size (.slice A3 got.length c3) got ⟨seq, sent, wrap64 (count + 1), wrap64 (now + secs), home, body⟩ rfl rfl HJ6.out.rl HS6.out (by have := HR5.out.lg; have := HNL.out; have := hlt'.out; omega) (fun v7 w7 h7 hg7 hat7 => ?_)
            rw [← HGOT2.out] at h7
            obtain ⟨A7, c7, rfl, _⟩ := Row.of_R h7
            have HJ7 := Aside.mk (HJ6.out.putl h7 hg7 hat7)
            have HG7 := Aside.mk (HG6.out.grown HJ6.out.rl rfl (by decide) hg7)
            have HM7 := Aside.mk (R_grownT HM6.out HJ6.out.rl rfl rfl (by decide) hg7)
            have HB7 := Aside.mk (HB6.out.grown hg7 HB6.out.size (fun j e => Nat.le_trans HB.out.size ((Kd.R_bound HJ6.out.rl).1 j e).2.1))
            have HS7 := Aside.mk (Nat.le_trans HS6.out hg7.size)
            clear h7 hg7 hat7 z0 z1 z2 z3 z4 z5
            go_wp2
            go_roundg (gk - 1)
            case measure => have := HK.out; have := hlt'.out; omega
            case rel => exact ⟨k + 1, got2, dead, A6, c6, A2, c2, A7, c7, by have := HK.out; have := hlt'.out; omega, wnext hlt'.out HNL.out, rfl, rfl, rfl, ⟨⟨HJ7.out, HG7.out, HM7.out, HB7.out, HS7.out, by rw [HGOT2.out, List.length_append]; have := HR.out.lg; simpa using this, by have := HR.out.ld; omega⟩, by rw [HREC.out, HSTEP.out, HGOT2.out]⟩⟩
      · have HQ := HR
        have HEND := Aside.mk (show recvL now max secs most room (ks.drop k) got dead = (ks.drop k, got, dead) by rw [HDR.out, recvL, if_neg hmx])
        clear hrg
        rcases HSH.out.2 with ⟨hz, _, _⟩ | ⟨g1, hz, hc1, hc2, _⟩
        · cases hz
        · clear hz
          have h8 : (0 : Int) ≤ (k : Int) := by omega
          have h9 : (k : Int) ≤ (n : Int) := by have := HK.out; omega
          have h10 : (n : Int) ≤ (ck : Int) := by omega
          have HC := Aside.mk (show keptK.C wr (some ⟨g, k * 6, none⟩) (n - k) (ks.drop k) by
            have hc := Kd.C_drop (m := k) (c := n) (Row.of_R' HQ.out.j.rk).C (by have := HN.out; have := HK.out; omega) (by have := HN.out; omega)
            have e2 : (if n = k then some (⟨g, 0, none⟩ : Addr) else (some (⟨g, 0, none⟩ : Addr)).map (·.add (k * keptK.sz))) = some ⟨g, k * 6, none⟩ := by
              rw [if_neg (by omega), Option.map_some, add_plain]; rfl
            rw [e2, List.length_drop, ← HN.out] at hc
            exact hc)
          go_wp2_with (with_reducible refine halt_at (.call { callee := .builtin .append, args := #[.tmp 74, .tmp 84], argTypes := #[22, 22] }) rfl ?_)
          refine ⟨?_⟩
          refine wpList_appendK rfl (.tmp 74) (.tmp 84) rfl w1.heap.size (.slice A3 got.length c3) got _ _ _ _ rfl rfl HQ.out.j.rl HC.out HQ.out.s (by have := HQ.out.lg; have := HNL.out; have := HK.out; omega) (fun v8 w8 h8 hg8 => ?_)
          obtain ⟨L8, hL8⟩ : ∃ L8, L8 = (got ++ ks.drop k) := ⟨_, rfl⟩
          rw [← hL8] at h8
          have HL8 := Aside.mk hL8
          clear hL8
          obtain ⟨A8, c8, rfl, _⟩ := Row.of_R h8
          have G8 := HQ.out.g.grown HQ.out.j.rl rfl (by decide) hg8
          have HB8 := Aside.mk (HQ.out.b.grown hg8 HQ.out.b.size (fun j e => Nat.le_trans HB.out.size ((Kd.R_bound HQ.out.j.rl).1 j e).2.1))
          have HM8 := Aside.mk (R_grownT HQ.out.m HQ.out.j.rl rfl rfl (by decide) hg8)
          have HG8 := Aside.mk (R_sep HQ.out.j.rg HQ.out.j.gl.symm hg8)
          have HD8 := Aside.mk (R_sep HQ.out.j.rd HQ.out.j.dl.symm hg8)
          have HR8 := Aside.mk h8
          obtain ⟨u0, u1, u2, u3, uf⟩ := G8.cells
          obtain ⟨G9, hf9⟩ := G8.put1 (.slice A8 L8.length c8)
          obtain ⟨G10, hf10⟩ := G9.put next (.slice A8 L8.length c8) (.slice Am ms.length cm) att
          have HFE := Aside.mk (hf9.trans hf10)
          have HG10 := Aside.mk G10
          clear h8 hg8 G8 G9 G10 hf9 hf10
          go_wp2
          refine bodyPost_ret (v := .tuple #[.agg #[.int .i64 next, .slice A8 L8.length c8, .slice Am ms.length cm, .string att], .slice A1 got.length c1, .slice A2 dead.length c2]) (results_c2 _ _ 12 25 13 14 ⟨X + 1, 0, none⟩ _ _ _ _ (by kernel_rfl) (by rfl) (by rfl) (by rfl) (GBox.load HG10.out)) (by rfl) ?_
          have e1 : w.heap.size ≤ w1.heap.size := HB.out.size
          have hX1 : ∀ k ∈ [X + 1], k < w1.heap.size := by have := HXX.out; simp; omega
          have r1 := R_fcG HR8.out HFE.out hX1
          have r2 := R_fcG HM8.out HFE.out hX1
          have r3 := R_fcG HG8.out HFE.out hX1
          have r4 := R_fcG HD8.out HFE.out hX1
          have b1 := below_fc (S := [X + 1]) HB8.out HFE.out (by simp [HX.out])
          have hF : recvF ks now max secs most room = (L8, got, dead) := by unfold recvF; rw [HFL.out, HREC.out, HEND.out, HL8.out]; rfl
          rw [hF]
          exact ⟨_, _, _, _, rfl, Kd.R_lower r1 e1, Kd.R_lower r2 e1, Kd.R_lower r3 e1, Kd.R_lower r4 e1, b1⟩
    · have HQ := HR
      have HEND := Aside.mk (show recvL now max secs most room (ks.drop k) got dead = (ks.drop k, got, dead) by rw [List.drop_of_length_le (by have := HN.out; omega)]; rfl)
      have hnl : ¬ (k : Int) < (n : Int) := by omega
      rcases HSH.out.2 with ⟨hz, hn0, hz2⟩ | ⟨g, hz, hc1, hc2, _⟩
      · subst hz hz2
        have hk0 : k = 0 := by have := HK.out; omega
        have hks : ks = [] := by cases ks with | nil => rfl | cons x t => (have := HN.out; simp at this; omega)
        have HC := Aside.mk (show keptK.C wr none 0 (ks.drop k) by rw [hks]; exact ⟨by simp, by omega, fun h => by omega⟩)
        have h8 : (0 : Int) ≤ (k : Int) := by omega
        have h9 : (k : Int) ≤ (n : Int) := by omega
        have h10 : (n : Int) ≤ ((0 : Nat) : Int) := by omega
        go_wp2_with (with_reducible refine halt_at (.call { callee := .builtin .append, args := #[.tmp 74, .tmp 84], argTypes := #[22, 22] }) rfl ?_)
        refine ⟨?_⟩
        refine wpList_appendK rfl (.tmp 74) (.tmp 84) rfl w1.heap.size (.slice A3 got.length c3) got _ _ _ _ rfl rfl HQ.out.j.rl HC.out HQ.out.s (by have := HQ.out.lg; have := HNL.out; have := HK.out; omega) (fun v8 w8 h8 hg8 => ?_)
        obtain ⟨L8, hL8⟩ : ∃ L8, L8 = (got ++ ks.drop k) := ⟨_, rfl⟩
        rw [← hL8] at h8
        have HL8 := Aside.mk hL8
        clear hL8
        obtain ⟨A8, c8, rfl, _⟩ := Row.of_R h8
        have G8 := HQ.out.g.grown HQ.out.j.rl rfl (by decide) hg8
        have HB8 := Aside.mk (HQ.out.b.grown hg8 HQ.out.b.size (fun j e => Nat.le_trans HB.out.size ((Kd.R_bound HQ.out.j.rl).1 j e).2.1))
        have HM8 := Aside.mk (R_grownT HQ.out.m HQ.out.j.rl rfl rfl (by decide) hg8)
        have HG8 := Aside.mk (R_sep HQ.out.j.rg HQ.out.j.gl.symm hg8)
        have HD8 := Aside.mk (R_sep HQ.out.j.rd HQ.out.j.dl.symm hg8)
        have HR8 := Aside.mk h8
        obtain ⟨u0, u1, u2, u3, uf⟩ := G8.cells
        obtain ⟨G9, hf9⟩ := G8.put1 (.slice A8 L8.length c8)
        obtain ⟨G10, hf10⟩ := G9.put next (.slice A8 L8.length c8) (.slice Am ms.length cm) att
        have HFE := Aside.mk (hf9.trans hf10)
        have HG10 := Aside.mk G10
        clear h8 hg8 G8 G9 G10 hf9 hf10
        go_wp2
        refine bodyPost_ret (v := .tuple #[.agg #[.int .i64 next, .slice A8 L8.length c8, .slice Am ms.length cm, .string att], .slice A1 got.length c1, .slice A2 dead.length c2]) (results_c2 _ _ 12 25 13 14 ⟨X + 1, 0, none⟩ _ _ _ _ (by kernel_rfl) (by rfl) (by rfl) (by rfl) (GBox.load HG10.out)) (by rfl) ?_
        have e1 : w.heap.size ≤ w1.heap.size := HB.out.size
        have hX1 : ∀ k ∈ [X + 1], k < w1.heap.size := by have := HXX.out; simp; omega
        have r1 := R_fcG HR8.out HFE.out hX1
        have r2 := R_fcG HM8.out HFE.out hX1
        have r3 := R_fcG HG8.out HFE.out hX1
        have r4 := R_fcG HD8.out HFE.out hX1
        have b1 := below_fc (S := [X + 1]) HB8.out HFE.out (by simp [HX.out])
        have hF : recvF ks now max secs most room = (L8, got, dead) := by unfold recvF; rw [HFL.out, HREC.out, HEND.out, HL8.out]; rfl
        rw [hF]
        exact ⟨_, _, _, _, rfl, Kd.R_lower r1 e1, Kd.R_lower r2 e1, Kd.R_lower r3 e1, Kd.R_lower r4 e1, b1⟩
      · subst hz
        have h8 : (0 : Int) ≤ (k : Int) := by omega
        have h9 : (k : Int) ≤ (n : Int) := by have := HK.out; omega
        have h10 : (n : Int) ≤ (ck : Int) := by omega
        have hnk : n = k := by have := HK.out; omega
        have HC := Aside.mk (show keptK.C wr (some ⟨g, 0, none⟩) 0 (ks.drop k) by
          have hc := Kd.C_drop (m := k) (c := n) (Row.of_R' HQ.out.j.rk).C (by have := HN.out; have := HK.out; omega) (by have := HN.out; omega)
          have e2 : (if n = k then some (⟨g, 0, none⟩ : Addr) else (some (⟨g, 0, none⟩ : Addr)).map (·.add (k * keptK.sz))) = some ⟨g, 0, none⟩ := by
            rw [if_pos hnk]
          rw [e2, List.length_drop, ← HN.out, show n - k = 0 from by omega] at hc
          exact hc)
        go_wp2_with (with_reducible refine halt_at (.call { callee := .builtin .append, args := #[.tmp 74, .tmp 84], argTypes := #[22, 22] }) rfl ?_)
        refine ⟨?_⟩
        refine wpList_appendK rfl (.tmp 74) (.tmp 84) rfl w1.heap.size (.slice A3 got.length c3) got _ _ _ _ rfl rfl HQ.out.j.rl HC.out HQ.out.s (by have := HQ.out.lg; have := HNL.out; have := HK.out; omega) (fun v8 w8 h8 hg8 => ?_)
        obtain ⟨L8, hL8⟩ : ∃ L8, L8 = (got ++ ks.drop k) := ⟨_, rfl⟩
        rw [← hL8] at h8
        have HL8 := Aside.mk hL8
        clear hL8
        obtain ⟨A8, c8, rfl, _⟩ := Row.of_R h8
        have G8 := HQ.out.g.grown HQ.out.j.rl rfl (by decide) hg8
        have HB8 := Aside.mk (HQ.out.b.grown hg8 HQ.out.b.size (fun j e => Nat.le_trans HB.out.size ((Kd.R_bound HQ.out.j.rl).1 j e).2.1))
        have HM8 := Aside.mk (R_grownT HQ.out.m HQ.out.j.rl rfl rfl (by decide) hg8)
        have HG8 := Aside.mk (R_sep HQ.out.j.rg HQ.out.j.gl.symm hg8)
        have HD8 := Aside.mk (R_sep HQ.out.j.rd HQ.out.j.dl.symm hg8)
        have HR8 := Aside.mk h8
        obtain ⟨u0, u1, u2, u3, uf⟩ := G8.cells
        obtain ⟨G9, hf9⟩ := G8.put1 (.slice A8 L8.length c8)
        obtain ⟨G10, hf10⟩ := G9.put next (.slice A8 L8.length c8) (.slice Am ms.length cm) att
        have HFE := Aside.mk (hf9.trans hf10)
        have HG10 := Aside.mk G10
        clear h8 hg8 G8 G9 G10 hf9 hf10
        go_wp2
        refine bodyPost_ret (v := .tuple #[.agg #[.int .i64 next, .slice A8 L8.length c8, .slice Am ms.length cm, .string att], .slice A1 got.length c1, .slice A2 dead.length c2]) (results_c2 _ _ 12 25 13 14 ⟨X + 1, 0, none⟩ _ _ _ _ (by kernel_rfl) (by rfl) (by rfl) (by rfl) (GBox.load HG10.out)) (by rfl) ?_
        have e1 : w.heap.size ≤ w1.heap.size := HB.out.size
        have hX1 : ∀ k ∈ [X + 1], k < w1.heap.size := by have := HXX.out; simp; omega
        have r1 := R_fcG HR8.out HFE.out hX1
        have r2 := R_fcG HM8.out HFE.out hX1
        have r3 := R_fcG HG8.out HFE.out hX1
        have r4 := R_fcG HD8.out HFE.out hX1
        have b1 := below_fc (S := [X + 1]) HB8.out HFE.out (by simp [HX.out])
        have hF : recvF ks now max secs most room = (L8, got, dead) := by unfold recvF; rw [HFL.out, HREC.out, HEND.out, HL8.out]; rfl
        rw [hF]
        exact ⟨_, _, _, _, rfl, Kd.R_lower r1 e1, Kd.R_lower r2 e1, Kd.R_lower r3 e1, Kd.R_lower r4 e1, b1⟩
end Go.Proofs.YtekjkdpiiaocjaaDoor

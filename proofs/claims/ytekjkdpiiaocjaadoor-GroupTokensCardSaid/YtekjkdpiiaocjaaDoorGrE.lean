/- IndexFunc, ContainsFunc, Flying, Expire, Purge, Fresh. Conditions: where the rows lie. -/
import Derived.Test.YtekjkdpiiaocjaaDoorGrD
namespace Go.Proofs.YtekjkdpiiaocjaaDoor
open Go.RowKit Go.Maps Go.Proofs.YtekjkdpiiaocjaaDoorW.PrintWords Go.Proofs.YtekjkdpiiaocjaaDoorW.PrintLast Go.Proofs.YtekjkdpiiaocjaaDoorW.PrintMore
/-- Where the first lies that p takes. -/
def firstP {α : Type} (p : α → Bool) (l : List α) (r : Int) : Prop := (r = -1 ∧ ∀ x ∈ l, p x = false) ∨ ∃ i : Nat, r = (i : Int) ∧ i < l.length ∧ (∀ x ∈ l.take i, p x = false) ∧ ∃ x, l[i]? = some x ∧ p x = true
theorem firstP.any {α : Type} {p : α → Bool} {l : List α} {r : Int} (h : firstP p l r) : decide (r ≥ 0) = l.any p := by
  rcases h with ⟨rfl, h⟩ | ⟨i, rfl, h1, _, x, hx, hp⟩
  · have : l.any p = false := by simpa using h
    rw [this]; rfl
  · have : l.any p = true := List.any_eq_true.2 ⟨x, List.mem_of_getElem? hx, hp⟩
    rw [this]; simp
set_option maxHeartbeats 4000000 in
set_option maxRecDepth 100000 in
theorem T.IndexK (fn : Nat) (caps : Array Value) (p : Kept → Bool) (eg : ∀ args w, (callFunc fn args).run Tryd.prog w = .ok (.enter fn args) w)
    (A : Option Addr) (c : Nat) (l : List Kept) (w : World) (hl : l.length ≤ 100000) (hS : Row keptK w A l)
    (hY : ∀ m W, Below w.heap.size w W → Calls Tryd.prog fn (#[.agg m.cells.toArray] ++ caps) W fun e W' => e = .returned (.bool (p m)) ∧ Below W.heap.size W W') :
    Calls Tryd.prog 56 #[.slice A l.length c, .func (.func fn) #[] caps] w fun e w' => ∃ r, e = .returned (.int .i64 r) ∧ firstP p l r ∧ Below w.heap.size w w' := by
  obtain ⟨n, hn⟩ : ∃ n, n = l.length := ⟨_, rfl⟩
  rw [← hn] at hl ⊢
  have HN := Aside.mk hn
  have HS := Aside.mk hS
  have HY := Aside.mk hY
  clear hn hS hY
  go_enter Tryd.func56, Tryd.ntmps56
  go_wp2
  go_loopg [5, 8] n (fun kq _ v8 wr => ∃ k : Nat, k + kq = n ∧ v8 = .int .i64 (k : Int) ∧ Aside (Below w.heap.size w wr ∧ ∀ x ∈ l.take k, p x = false))
  case atStart => exact ⟨0, by omega, rfl, ⟨Below.refl _ _, by simp⟩⟩
  case round =>
    obtain ⟨k, hk, rfl, hR⟩ := hrel
    have HK := Aside.mk hk
    by_cases hlt : k < n
    · obtain ⟨x, hx⟩ : ∃ x, l[k]? = some x := ⟨_, List.getElem?_eq_getElem (by rw [← HN.out]; exact hlt)⟩
      have hlt' := Aside.mk hlt
      have HX := Aside.mk hx
      clear hx hk
      obtain ⟨g, rfl, hrg⟩ := (HS.out.below hR.out.1).at k x HX.out
      obtain ⟨x0, x1, x2, x3, x4, x5⟩ := cellsK hrg
      have HRG := Aside.mk hrg
      clear hrg
      obtain ⟨seq, sent, count, till, home, body⟩ := x
      dsimp only at x0 x1 x2 x3 x4 x5
      have HY1 := Aside.mk (HY.out ⟨seq, sent, count, till, home, body⟩ wr hR.out.1)
      go_wp2_with fail
      refine HY1.out.mono ?_
      clear x0 x1 x2 x3 x4 x5
      rintro e W3 ⟨rfl, hb3⟩
      have HB3 := Aside.mk (hR.out.1.trans (hb3.mono hR.out.1.size))
      clear hb3
      cases hpx : p ⟨seq, sent, count, till, home, body⟩
      · have HP := Aside.mk hpx
        clear hpx
        go_wp2
        go_roundg (gk - 1)
        case measure => have := HK.out; have := hlt'.out; omega
        case rel => exact ⟨k + 1, by have := HK.out; have := hlt'.out; omega, by go_num, ⟨HB3.out, fun y hy => by
          rw [List.take_add_one, HX.out] at hy
          rcases List.mem_append.1 hy with h | h
          · exact hR.out.2 y h
          · obtain rfl : y = ⟨seq, sent, count, till, home, body⟩ := by simpa using h
            exact HP.out⟩⟩
      · have HP := Aside.mk hpx
        clear hpx
        go_wp2
        go_ret
        exact ⟨(k : Int), rfl, .inr ⟨k, rfl, by rw [← HN.out]; exact hlt'.out, hR.out.2, _, HX.out, HP.out⟩, HB3.out⟩
    · have hke : k = n := by omega
      clear hlt hk
      subst hke
      go_wp2
      go_ret
      exact ⟨-1, rfl, .inl ⟨rfl, by have := hR.out.2; rwa [HN.out, List.take_length] at this⟩, hR.out.1⟩
set_option maxHeartbeats 4000000 in
set_option maxRecDepth 100000 in
theorem T.ContainsK (fn : Nat) (caps : Array Value) (p : Kept → Bool) (eg : ∀ args w, (callFunc fn args).run Tryd.prog w = .ok (.enter fn args) w)
    (A : Option Addr) (c : Nat) (l : List Kept) (w : World) (hl : l.length ≤ 100000) (hS : Row keptK w A l)
    (hY : ∀ m W, Below w.heap.size w W → Calls Tryd.prog fn (#[.agg m.cells.toArray] ++ caps) W fun e W' => e = .returned (.bool (p m)) ∧ Below W.heap.size W W') :
    Calls Tryd.prog 44 #[.slice A l.length c, .func (.func fn) #[] caps] w fun e w' => e = .returned (.bool (l.any p)) ∧ Below w.heap.size w w' := by
  have HI := Aside.mk (T.IndexK fn caps p eg A c l w hl hS hY)
  clear hS hY
  go_enter Tryd.func44, Tryd.ntmps44
  go_wp2_with fail
  refine HI.out.mono ?_
  rintro e w' ⟨r, rfl, hf, hb⟩
  have HF := Aside.mk hf
  have HB := Aside.mk hb
  clear hf hb
  go_wp2
  go_ret
  exact ⟨by rw [← HF.out.any]; rfl, HB.out⟩
/-- A group in a box. -/
def GBox (w : World) (b : Nat) (next : Int) (vk vm : Value) (att : ByteArray) : Prop := w.heap[b]? = some (.cells #[.int .i64 next, vk, vm, .string att] 25 (0, 0))
theorem GBox.lt {w : World} {b : Nat} {next : Int} {vk vm : Value} {att : ByteArray} (h : GBox w b next vk vm att) : b < w.heap.size := (Array.getElem?_eq_some_iff.1 h).1
theorem GBox.cells {w : World} {b : Nat} {next : Int} {vk vm : Value} {att : ByteArray} (h : GBox w b next vk vm att) : w.cell? ⟨b, 0, none⟩ = some (.int .i64 next) ∧ w.cell? ⟨b, 1, none⟩ = some vk ∧ w.cell? ⟨b, 2, none⟩ = some vm ∧ w.cell? ⟨b, 3, none⟩ = some (.string att) ∧ ∀ k, w.frozen? ⟨b, k, none⟩ = false :=
  ⟨by rw [cell_of_row _ _ _ _ _ _ h]; rfl, by rw [cell_of_row _ _ _ _ _ _ h]; rfl, by rw [cell_of_row _ _ _ _ _ _ h]; rfl, by rw [cell_of_row _ _ _ _ _ _ h]; rfl, fun k => frozen_of_row w b k _ _ h⟩
theorem GBox.fc {S : List Nat} {w w' : World} {b : Nat} {next : Int} {vk vm : Value} {att : ByteArray} (h : GBox w b next vk vm att) (f : FC S w w') (hb : b ∉ S) : GBox w' b next vk vm att := (f.block b h.lt hb).trans h
/-- The whole group is stored. -/
theorem GBox.put {w : World} {b : Nat} {next : Int} {vk vm : Value} {att : ByteArray} (h : GBox w b next vk vm att) (next' : Int) (vk' vm' : Value) (att' : ByteArray) :
    GBox ((((w.setCell ⟨b, 0, none⟩ (.int .i64 next')).setCell ⟨b, 1, none⟩ vk').setCell ⟨b, 2, none⟩ vm').setCell ⟨b, 3, none⟩ (.string att')) b next' vk' vm' att' ∧ FC [b] w ((((w.setCell ⟨b, 0, none⟩ (.int .i64 next')).setCell ⟨b, 1, none⟩ vk').setCell ⟨b, 2, none⟩ vm').setCell ⟨b, 3, none⟩ (.string att')) := by
  have h4 := heap_setCell_same _ b 3 _ _ (.string att') (heap_setCell_same _ b 2 _ _ vm' (heap_setCell_same _ b 1 _ _ vk' (heap_setCell_same w b 0 _ _ (.int .i64 next') h)))
  simp only [List.setIfInBounds_toArray, List.set_cons_succ, List.set_cons_zero] at h4
  exact ⟨h4, ((((FC.refl [b] w).setCell (p := ⟨b, 0, none⟩) (.inl (by simp)) (.int .i64 next')).setCell (p := ⟨b, 1, none⟩) (.inl (by simp)) vk').setCell (p := ⟨b, 2, none⟩) (.inl (by simp)) vm').setCell (p := ⟨b, 3, none⟩) (.inl (by simp)) (.string att')⟩
theorem GBox.put0 {w : World} {b : Nat} {next : Int} {vk vm : Value} {att : ByteArray} (h : GBox w b next vk vm att) (x : Int) : GBox (w.setCell ⟨b, 0, none⟩ (.int .i64 x)) b x vk vm att ∧ FC [b] w (w.setCell ⟨b, 0, none⟩ (.int .i64 x)) := by
  have h4 := heap_setCell_same w b 0 _ _ (.int .i64 x) h
  simp only [List.setIfInBounds_toArray, List.set_cons_zero] at h4
  exact ⟨h4, (FC.refl [b] w).setCell (p := ⟨b, 0, none⟩) (.inl (by simp)) _⟩
theorem GBox.put1 {w : World} {b : Nat} {next : Int} {vk vm : Value} {att : ByteArray} (h : GBox w b next vk vm att) (x : Value) : GBox (w.setCell ⟨b, 1, none⟩ x) b next x vm att ∧ FC [b] w (w.setCell ⟨b, 1, none⟩ x) := by
  have h4 := heap_setCell_same w b 1 _ _ x h
  simp only [List.setIfInBounds_toArray, List.set_cons_succ, List.set_cons_zero] at h4
  exact ⟨h4, (FC.refl [b] w).setCell (p := ⟨b, 1, none⟩) (.inl (by simp)) _⟩
theorem GBox.put2 {w : World} {b : Nat} {next : Int} {vk vm : Value} {att : ByteArray} (h : GBox w b next vk vm att) (x : Value) : GBox (w.setCell ⟨b, 2, none⟩ x) b next vk x att ∧ FC [b] w (w.setCell ⟨b, 2, none⟩ x) := by
  have h4 := heap_setCell_same w b 2 _ _ x h
  simp only [List.setIfInBounds_toArray, List.set_cons_succ, List.set_cons_zero] at h4
  exact ⟨h4, (FC.refl [b] w).setCell (p := ⟨b, 2, none⟩) (.inl (by simp)) _⟩
/-- The result cell holds a group. -/
theorem GBox.load {w : World} {b : Nat} {next : Int} {vk vm : Value} {att : ByteArray} (h : GBox w b next vk vm att) : (loadVar 25 ⟨b, 0, none⟩).run Tryd.prog w = .ok (.agg #[.int .i64 next, vk, vm, .string att]) w :=
  run_loadVar_mid w b 0 25 [.int .i64 next, vk, vm, .string att] _ (range_row h) Tryd.underlying25 (by rfl) (by kernel_rfl)
theorem Row.fc {n : Nat} {α : Type} {f : α → List Value} {hn : ∀ x, (f x).length = n} {h1 : ∀ x, ∀ u ∈ f x, u.oneCell' = true} {S : List Nat} {w w' : World} {A : Option Addr} {l : List α} (h : Row (plainK n f hn h1) w A l) (k : FC S w w') (hS : ∀ x ∈ S, w.heap.size ≤ x) : Row (plainK n f hn h1) w' A l :=
  ⟨C_fresh (fun h => h) h.C k hS, h.head⟩

/-- Four new blocks. -/
theorem alloc4 (w : World) (o1 o2 o3 o4 : Obj) : Below w.heap.size w ((((w.alloc o1).alloc o2).alloc o3).alloc o4) ∧ ((((w.alloc o1).alloc o2).alloc o3).alloc o4).heap[w.heap.size]? = some o1 ∧ ((((w.alloc o1).alloc o2).alloc o3).alloc o4).heap[w.heap.size + 1]? = some o2 ∧ ((((w.alloc o1).alloc o2).alloc o3).alloc o4).heap[w.heap.size + 1 + 1]? = some o3 ∧ ((((w.alloc o1).alloc o2).alloc o3).alloc o4).heap[w.heap.size + 1 + 1 + 1]? = some o4 := by
  have s1 : (w.alloc o1).heap.size = w.heap.size + 1 := by simp
  have s2 : ((w.alloc o1).alloc o2).heap.size = w.heap.size + 1 + 1 := by simp
  have s3 : (((w.alloc o1).alloc o2).alloc o3).heap.size = w.heap.size + 1 + 1 + 1 := by simp
  refine ⟨((((Below.refl _ _).alloc (Nat.le_refl _) _).alloc (by simp) _).alloc (by simp; omega) _).alloc (by simp; omega) _, ?_, ?_, ?_, ?_⟩
  · rw [Below.heap_alloc _ _ _ (by omega), Below.heap_alloc _ _ _ (by omega), Below.heap_alloc _ _ _ (by omega)]; exact heap_alloc_new w _
  · rw [Below.heap_alloc _ _ _ (by omega), Below.heap_alloc _ _ _ (by omega), ← s1]; exact heap_alloc_new _ _
  · rw [Below.heap_alloc _ _ _ (by omega), ← s2]; exact heap_alloc_new _ _
  · rw [← s3]; exact heap_alloc_new _ _
theorem alloc2 (w : World) (o1 o2 : Obj) : Below w.heap.size w ((w.alloc o1).alloc o2) ∧ ((w.alloc o1).alloc o2).heap[w.heap.size]? = some o1 ∧ ((w.alloc o1).alloc o2).heap[w.heap.size + 1]? = some o2 := by
  have s1 : (w.alloc o1).heap.size = w.heap.size + 1 := by simp
  refine ⟨((Below.refl _ _).alloc (Nat.le_refl _) _).alloc (by simp) _, ?_, ?_⟩
  · rw [Below.heap_alloc _ _ _ (by omega)]; exact heap_alloc_new w _
  · rw [← s1]; exact heap_alloc_new _ _
theorem results_c1 {P : Program} (fn : Func) (tmps : Array Value) (slot : Tmp) (t : TypeId) (s2 : Tmp) (a : Addr) (v v2 : Value) (w : World) (hr : fn.results = #[.cell slot t, .tmp s2]) (ha : tmps.getD slot undef = .pointer (some a)) (h2 : tmps.getD s2 undef = v2) (hl : (loadVar t a).run P w = .ok v w) : (results fn tmps).run P w = .ok (.tuple #[v, v2]) w := by
  unfold results
  rw [hr]
  rw [Array.getD_eq_getD_getElem?] at ha h2
  simp [ha, h2, asAddr, Sem.run_bind, Sem.run_pure, hl]
theorem results_c2 {P : Program} (fn : Func) (tmps : Array Value) (slot : Tmp) (t : TypeId) (s2 s3 : Tmp) (a : Addr) (v v2 v3 : Value) (w : World) (hr : fn.results = #[.cell slot t, .tmp s2, .tmp s3]) (ha : tmps.getD slot undef = .pointer (some a)) (h2 : tmps.getD s2 undef = v2) (h3 : tmps.getD s3 undef = v3) (hl : (loadVar t a).run P w = .ok v w) : (results fn tmps).run P w = .ok (.tuple #[v, v2, v3]) w := by
  unfold results
  rw [hr]
  rw [Array.getD_eq_getD_getElem?] at ha h2 h3
  simp [ha, h2, h3, asAddr, Sem.run_bind, Sem.run_pure, hl]
set_option maxHeartbeats 4000000 in
set_option maxRecDepth 100000 in
/-- Flying: is one in flight? -/
theorem T.Flying (next : Int) (A : Option Addr) (c : Nat) (vm : Value) (att : ByteArray) (ks : List Kept) (now : Int) (w : World) (hK : Row keptK w A ks) (hl : ks.length ≤ 100000) (hvm : ∃ A' n' c', vm = .slice A' n' c') :
    Calls Tryd.prog 21 #[.agg (grV next (.slice A ks.length c) vm att), .int .i64 now] w fun e w' => e = .returned (.bool (ks.any fun m => decide (now < m.till))) ∧ Below w.heap.size w w' := by
  obtain ⟨A', n', c', rfl⟩ := hvm
  simp only [grV]
  obtain ⟨hb, h1, h2⟩ := alloc2 w (.cells #[.int .i64 next, .slice A ks.length c, .slice A' n' c', .string att] 25) (.cells #[.int .i64 now] 3)
  go_enter Tryd.func21, Tryd.ntmps21
  go_wp2_with fail
  generalize hw1 : World.alloc (World.alloc w _) _ = w1 at hb h1 h2 ⊢
  have HB := Aside.mk hb
  have hcall := T.ContainsK 45 #[.pointer (some ⟨w.heap.size + 1, 0, none⟩)] (fun m => decide (now < m.till)) (enters_of Tryd.func45 (by kernel_rfl) rfl) A c ks w1 hl (hK.below hb) (fun m W hW => T.flying1 m (w.heap.size + 1) now W (IBox.of h2 hW))
  refine hcall.mono ?_
  clear hcall hw1 hb h1 h2
  rintro e w' ⟨rfl, hb'⟩
  have HB' := Aside.mk hb'
  clear hb'
  go_wp2
  go_ret
  exact ⟨rfl, HB.out.trans (HB'.out.mono HB.out.size)⟩
set_option maxHeartbeats 4000000 in
set_option maxRecDepth 100000 in
/-- Expire: what is too old goes. -/
theorem T.Expire (next : Int) (A A' : Option Addr) (c c' : Nat) (att : ByteArray) (ks : List Kept) (ms : List Mark) (now keep : Int) (w : World) (hK : Row keptK w A ks) (hM : Row markK w A' ms) (hl : ks.length ≤ 100000) (hl' : ms.length ≤ 100000) :
    Calls Tryd.prog 15 #[.agg (grV next (.slice A ks.length c) (.slice A' ms.length c') att), .int .i64 now, .int .i64 keep] w fun e w' => ∃ vk vm, e = .returned (.agg (grV next vk vm att)) ∧ keptK.R 61 w' w.heap.size (fun _ => True) vk (ks.filter fun m => decide (wrap64 (now - m.sent) < keep)) ∧ markK.R 67 w' w.heap.size (fun _ => True) vm (ms.filter fun m => decide (wrap64 (now - m.at') < 300)) ∧ Below w.heap.size w w' := by
  simp only [grV]
  obtain ⟨hb, h1, h2, h3, h4⟩ := alloc4 w (.cells #[.int .i64 next, .slice A ks.length c, .slice A' ms.length c', .string att] 25) (.cells #[.int .i64 now] 3) (.cells #[.int .i64 keep] 3) (.cells #[.int .i64 0, .slice none 0 0, .slice none 0 0, .string ⟨#[]⟩] 25)
  go_enter Tryd.func15, Tryd.ntmps15
  go_wp2_with fail
  generalize hw1 : World.alloc (World.alloc (World.alloc (World.alloc w _) _) _) _ = w1 at hb h1 h2 h3 h4 ⊢
  obtain ⟨X, hX⟩ : ∃ X, X = w.heap.size := ⟨_, rfl⟩
  have HX := Aside.mk hX
  rw [← hX] at h1 h2 h3 h4 ⊢
  have HB := Aside.mk hb
  have hcall := T.ThoseK 37 #[.pointer (some ⟨X + 1, 0, none⟩), .pointer (some ⟨X + 1 + 1, 0, none⟩)] (fun m => decide (wrap64 (now - m.sent) < keep)) (enters_of Tryd.func37 (by kernel_rfl) rfl) A c ks w1 hl (hK.below hb) (fun m W hW => T.expire1 m (X + 1) (X + 1 + 1) now keep W (IBox.of h2 hW) (IBox.of h3 hW))
  refine hcall.mono ?_
  clear hcall hw1 hb hX
  rintro e w2 ⟨v, rfl, hr2, hb2⟩
  have G1 : GBox w2 X next (.slice A ks.length c) (.slice A' ms.length c') att := (hb2.block X (Array.getElem?_eq_some_iff.1 h1).1).trans h1
  have G4 : GBox w2 (X + 1 + 1 + 1) 0 (.slice none 0 0) (.slice none 0 0) ⟨#[]⟩ := (hb2.block _ (Array.getElem?_eq_some_iff.1 h4).1).trans h4
  have hN : IBox w2 (X + 1) now := IBox.of h2 hb2
  obtain ⟨Ak, ck, rfl, _⟩ := Row.of_R hr2
  generalize hks : (ks.filter fun m => decide (wrap64 (now - m.sent) < keep)) = ks' at hr2 ⊢
  obtain ⟨x0, x1, x2, x3, xf⟩ := G1.cells
  obtain ⟨G1', hf1⟩ := G1.put1 (.slice Ak ks'.length ck)
  have HR2 := Aside.mk hr2
  have HB2 := Aside.mk hb2
  have HF1 := Aside.mk hf1
  have HG1' := Aside.mk G1'
  have HG4 := Aside.mk G4
  have HN := Aside.mk hN
  have HW1 := Aside.mk (show X + 1 + 1 + 1 < w1.heap.size from (Array.getElem?_eq_some_iff.1 h4).1)
  clear hr2 hb2 hf1 G1 G1' G4 hN h1 h2 h3 h4
  go_wp2_with fail
  generalize hw3 : w2.setCell ⟨X, 1, none⟩ _ = w3 at HF1 HG1' ⊢
  have hb3 : Below w.heap.size w w3 := below_fc (S := [X]) (HB.out.trans (HB2.out.mono HB.out.size)) HF1.out (by simp [HX.out])
  have HB3 := Aside.mk hb3
  have hN3 : IBox w3 (X + 1) now := (HF1.out.block _ (Array.getElem?_eq_some_iff.1 HN.out).1 (by simp)).trans HN.out
  have hG4 : GBox w3 (X + 1 + 1 + 1) 0 (.slice none 0 0) (.slice none 0 0) ⟨#[]⟩ := HG4.out.fc HF1.out (by simp; omega)
  have HR3 := Aside.mk (R_fcG HR2.out HF1.out (by have := HW1.out; simp; omega))
  have hcall := T.ThoseM 39 #[.pointer (some ⟨X + 1, 0, none⟩)] (fun m => decide (wrap64 (now - m.at') < 300)) (enters_of Tryd.func39 (by kernel_rfl) rfl) A' c' ms w3 hl' (hM.below hb3) (fun m W hW => T.expire2 m (X + 1) now W (IBox.of hN3 hW))
  refine hcall.mono ?_
  clear hcall hw3 hb3 hN3 x0 x1 x2 x3 xf
  rintro e w4 ⟨v, rfl, hr4, hb4⟩
  have G1 : GBox w4 X next (.slice Ak ks'.length ck) (.slice A' ms.length c') att := (hb4.block X HG1'.out.lt).trans HG1'.out
  have G4 : GBox w4 (X + 1 + 1 + 1) 0 (.slice none 0 0) (.slice none 0 0) ⟨#[]⟩ := (hb4.block _ hG4.lt).trans hG4
  obtain ⟨Am, cm, rfl, _⟩ := Row.of_R hr4
  generalize hms : (ms.filter fun m => decide (wrap64 (now - m.at') < 300)) = ms' at hr4 ⊢
  obtain ⟨x0, x1, x2, x3, xf⟩ := G1.cells
  obtain ⟨y0, y1, y2, y3, yf⟩ := G4.cells
  obtain ⟨G5, hf5⟩ := G1.put2 (.slice Am ms'.length cm)
  have G6 := G4.fc hf5 (by simp; omega)
  obtain ⟨G7, hf7⟩ := G6.put next (.slice Ak ks'.length ck) (.slice Am ms'.length cm) att
  have HB4 := Aside.mk hb4
  have HR4 := Aside.mk hr4
  have HF7 := Aside.mk (hf5.sub (S' := [X, X + 1 + 1 + 1]) (by simp) |>.trans (hf7.sub (by simp)))
  have HG7 := Aside.mk G7
  have HL := Aside.mk (And.intro HG1'.out.lt hG4.lt)
  clear hb4 hr4 hf5 hf7 G1 G4 G5 G6 G7 hG4
  go_wp2
  refine bodyPost_ret (v := .agg #[.int .i64 next, .slice Ak ks'.length ck, .slice Am ms'.length cm, .string att]) (results_cell _ _ 6 25 ⟨X + 1 + 1 + 1, 0, none⟩ _ _ (by kernel_rfl) (by rfl) HG7.out.load) (by rfl) ?_
  have hs1 := HX.out
  have hs2 := HB.out.size
  have hs3 := HB2.out.size
  have hs4 := HF1.out.size
  have hs5 := HW1.out
  have hs6 := HL.out
  have e1 : w.heap.size ≤ w1.heap.size := HB.out.size
  have e2 : w.heap.size ≤ w3.heap.size := HB3.out.size
  have r1 := R_fcG (Kd.R_below HR3.out HB4.out) HF7.out (by simp; omega)
  have r2 := R_fcG HR4.out HF7.out (by simp; omega)
  have b1 := below_fc (HB3.out.trans (HB4.out.mono HB3.out.size)) HF7.out (by simp; omega)
  subst hks hms
  exact ⟨_, _, rfl, Kd.R_lower r1 e1, Kd.R_lower r2 e2, b1⟩
set_option maxHeartbeats 4000000 in
set_option maxRecDepth 100000 in
/-- Purge: no message is left. -/
theorem T.Purge (next : Int) (A A' : Option Addr) (c c' : Nat) (att : ByteArray) (ks : List Kept) (ms : List Mark) (w : World) (hK : Row keptK w A ks) (hM : Row markK w A' ms) (hl : ks.length ≤ 100000) (hl' : ms.length ≤ 100000) :
    Calls Tryd.prog 16 #[.agg (grV next (.slice A ks.length c) (.slice A' ms.length c') att)] w fun e w' => ∃ vm, e = .returned (.tuple #[.agg (grV next (.slice none 0 0) vm att), .int .i64 ks.length]) ∧ markK.R 67 w' w.heap.size (fun _ => True) vm ms ∧ Below w.heap.size w w' := by
  simp only [grV]
  obtain ⟨hb, h1, h2⟩ := alloc2 w (.cells #[.int .i64 next, .slice A ks.length c, .slice A' ms.length c', .string att] 25) (.cells #[.int .i64 0, .slice none 0 0, .slice none 0 0, .string ⟨#[]⟩] 25)
  go_enter Tryd.func16, Tryd.ntmps16
  go_wp2_with fail
  generalize hw1 : World.alloc (World.alloc w _) _ = w1 at hb h1 h2 ⊢
  obtain ⟨X, hX⟩ : ∃ X, X = w.heap.size := ⟨_, rfl⟩
  have HX := Aside.mk hX
  rw [← hX] at h1 h2 ⊢
  have HB := Aside.mk hb
  have hcall := T.own next A A' ks.length ms.length c c' att ks ms w1 (hK.below hb).C (hM.below hb).C hl hl'
  simp only [grV] at hcall
  refine hcall.mono ?_
  clear hcall hw1 hb hX
  rintro e w2 ⟨vk, vm, rfl, hr1, hr2, hb2⟩
  have G1 : GBox w2 X next (.slice A ks.length c) (.slice A' ms.length c') att := (hb2.block X (Array.getElem?_eq_some_iff.1 h1).1).trans h1
  have G4 : GBox w2 (X + 1) 0 (.slice none 0 0) (.slice none 0 0) ⟨#[]⟩ := (hb2.block _ (Array.getElem?_eq_some_iff.1 h2).1).trans h2
  obtain ⟨Ak, ck, rfl, _⟩ := Row.of_R hr1
  obtain ⟨Am, cm, rfl, _⟩ := Row.of_R hr2
  obtain ⟨x0, x1, x2, x3, xf⟩ := G1.cells
  obtain ⟨G5, hf5⟩ := G1.put next (.slice Ak ks.length ck) (.slice Am ms.length cm) att
  have G5' := G4.fc hf5 (by simp)
  have HB2 := Aside.mk hb2
  have HR2 := Aside.mk hr2
  have HF5 := Aside.mk hf5
  have HG5 := Aside.mk G5
  have HG5' := Aside.mk G5'
  have HL := Aside.mk (Array.getElem?_eq_some_iff.1 h2).1
  clear hb2 hr1 hr2 hf5 G1 G4 G5 G5' h1 h2
  go_wp2_with (with_reducible refine halt_at (.fieldAddr 25 (.tmp 1) 1) rfl ?_)
  generalize World.setCell (World.setCell (World.setCell (World.setCell w2 _ _) _ _) _ _) _ _ = w3 at HF5 HG5 HG5' ⊢
  refine ⟨?_⟩
  clear x0 x1 x2 x3 xf
  obtain ⟨x0, x1, x2, x3, xf⟩ := HG5.out.cells
  obtain ⟨y0, y1, y2, y3, yf⟩ := HG5'.out.cells
  obtain ⟨G6, hf6⟩ := HG5.out.put1 (.slice none 0 0)
  have G7 := HG5'.out.fc hf6 (by simp)
  obtain ⟨G8, hf8⟩ := G7.put next (.slice none 0 0) (.slice Am ms.length cm) att
  have HF8 := Aside.mk ((HF5.out.sub (S' := [X, X + 1]) (by simp)).trans ((hf6.sub (S' := [X, X + 1]) (by simp)).trans (hf8.sub (by simp))))
  have HG8 := Aside.mk G8
  clear hf6 hf8 G6 G7 G8
  go_wp2
  refine bodyPost_ret (v := .tuple #[.agg #[.int .i64 next, .slice none 0 0, .slice Am ms.length cm, .string att], .int .i64 ks.length]) (results_c1 _ _ 2 25 3 ⟨X + 1, 0, none⟩ _ _ _ (by kernel_rfl) (by rfl) (by rfl) HG8.out.load) (by rfl) ?_
  have hs1 := HX.out
  have hs2 := HB.out.size
  have hs5 := HL.out
  refine ⟨_, rfl, Kd.R_lower (R_fcG HR2.out HF8.out (by simp; omega)) (by omega), below_fc (HB.out.trans (HB2.out.mono HB.out.size)) HF8.out (by simp; omega)⟩
end Go.Proofs.YtekjkdpiiaocjaaDoor

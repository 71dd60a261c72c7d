/- The chapter's example. Conditions: none. -/
import Derived.Test.YtekjkdpiiaocjaaDoorGrH
namespace Go.Proofs.YtekjkdpiiaocjaaDoor
open Go.RowKit Go.Maps Go.Proofs.YtekjkdpiiaocjaaDoorW.PrintWords Go.Proofs.YtekjkdpiiaocjaaDoorW.PrintLast Go.Proofs.YtekjkdpiiaocjaaDoorW.PrintMore
set_option maxHeartbeats 4000000 in
set_option maxRecDepth 100000 in
theorem T.Fresh (w : World) : Calls Tryd.prog 23 #[] w fun e w' => e = .returned (.agg (grV 1 (.slice none 0 0) (.slice none 0 0) ⟨#[]⟩)) ∧ Below w.heap.size w w' := by
  simp only [grV]
  have hn : GBox (w.alloc (.cells #[.int .i64 0, .slice none 0 0, .slice none 0 0, .string ⟨#[]⟩] 25)) w.heap.size 0 (.slice none 0 0) (.slice none 0 0) ⟨#[]⟩ := heap_alloc_new w _
  obtain ⟨G, hf⟩ := hn.put 1 (.slice none 0 0) (.slice none 0 0) ⟨#[]⟩
  have HB := Aside.mk (below_fc ((Below.refl w.heap.size w).alloc (Nat.le_refl _) _) hf (by simp))
  have HG := Aside.mk (heap_alloc_new w (.cells #[.int .i64 1, .slice none 0 0, .slice none 0 0, .string ⟨#[]⟩] 25))
  have HB' := Aside.mk ((Below.refl w.heap.size w).alloc (Nat.le_refl _) (.cells #[.int .i64 1, .slice none 0 0, .slice none 0 0, .string ⟨#[]⟩] 25))
  clear hn G hf
  go_enter Tryd.func23, Tryd.ntmps23
  go_wp2
  refine bodyPost_ret (v := .agg #[.int .i64 1, .slice none 0 0, .slice none 0 0, .string ⟨#[]⟩]) (results_cell _ _ 0 25 ⟨w.heap.size, 0, none⟩ _ _ (by kernel_rfl) (by rfl) (GBox.load HG.out)) (by rfl) ?_
  exact ⟨rfl, HB'.out⟩
theorem small_law (n m : Int) (hm : 0 < m) (hm2 : m ≤ 100000) : (wrap64 (n.tmod m + m)).tmod m = Int.emod n m := by
  have h1 : -m < n.tmod m := Int.lt_tmod_of_pos n hm
  have h2 : n.tmod m < m := Int.tmod_lt_of_pos n hm
  have hw : wrap64 (n.tmod m + m) = n.tmod m + m := by unfold wrap64; omega
  rw [hw, Int.tmod_eq_emod_of_nonneg (by omega)]
  show (n.tmod m + m) % m = n % m
  have hm' : (m.natAbs : Int) = m := by omega
  rw [Int.tmod_eq_emod]
  split
  · simp
  · rw [hm']; simp
set_option maxHeartbeats 4000000 in
set_option maxRecDepth 100000 in
theorem T.small (n m : Int) (w : World) (hm : 0 < m) (hm2 : m ≤ 100000) : Calls Tryd.prog 14 #[.int .i64 n, .int .i64 m] w fun e w' => e = .returned (.int .i64 (Int.emod n m)) ∧ w' = w := by
  have h0 : ¬ m = 0 := by omega
  have h1 : ¬ m = -1 := by omega
  have HE := Aside.mk (small_law n m hm hm2)
  go_enter Tryd.func14, Tryd.ntmps14
  go_wp2
  go_ret
  exact ⟨by rw [← HE.out]; rfl, rfl⟩
set_option maxHeartbeats 4000000 in
set_option maxRecDepth 100000 in
/-- The chapter's example holds. -/
theorem T.works (w : World) : Calls Tryd.prog 9 #[] w fun e w' => e = .returned (.bool true) ∧ Below w.heap.size w w' := by
  go_enter Tryd.func9, Tryd.ntmps9
  go_wp2_with fail
  have hcall := T.Fresh w
  simp only [grV] at hcall
  refine hcall.mono ?_
  clear hcall
  rintro e w1 ⟨rfl, hb1⟩
  have HB1 := Aside.mk hb1
  clear hb1
  go_wp2_with fail
  have hcall := T.Send 1 none none 0 0 ⟨#[]⟩ [] [] 5 0 ⟨#[98]⟩ ⟨#[116]⟩ ⟨#[116]⟩ w1 (Row.nil _ _) (Row.nil _ _) (by decide) (by decide) (by decide) (.inr ⟨by decide, rfl⟩)
  simp only [grV] at hcall
  refine hcall.mono ?_
  clear hcall
  rintro e w2 ⟨vk, vm, rfl, hr1, hr2, hb2⟩
  have e2 : sendF 1 [] [] ⟨#[116]⟩ = (1, 0, true) := by unfold sendF; rfl
  have e1 : sendN 1 [] [] ⟨#[116]⟩ = 2 := by unfold sendN; rw [e2]; show wrap64 (1 + 1) = 2; unfold wrap64; omega
  have e3 : sendK 1 [] [] 5 0 ⟨#[98]⟩ ⟨#[116]⟩ = [⟨1, 5, 0, 0, 0, ⟨#[98]⟩⟩] := by unfold sendK; rw [e2]; rfl
  have e4 : sendM 1 [] [] 5 ⟨#[116]⟩ = [⟨⟨#[116]⟩, 1, 5⟩] := by unfold sendM; rw [e2]; rfl
  rw [e3] at hr1
  rw [e4] at hr2
  rw [e1, e2]
  clear e1 e2 e3 e4
  obtain ⟨Ak, ck, rfl, hk1⟩ := Row.of_R hr1
  obtain ⟨Am, cm, rfl, hm1⟩ := Row.of_R hr2
  have hbn := (Below.refl w2.heap.size w2).alloc (Nat.le_refl _) (.cells #[.int .i64 2, .slice Ak 1 ck, .slice Am 1 cm, .string ⟨#[]⟩] 25)
  have HB2 := Aside.mk ((HB1.out.trans (hb2.mono HB1.out.size)).trans (hbn.mono (Nat.le_trans HB1.out.size hb2.size)))
  have HR1 := Aside.mk (hk1.below hbn)
  have HM1 := Aside.mk (hm1.below hbn)
  clear hr1 hr2 hb2 hk1 hm1 hbn
  go_wp2_with fail
  generalize World.alloc w2 _ = w3 at HB2 HR1 HM1 ⊢
  have hcall := T.Send 2 Ak Am ck cm ⟨#[]⟩ [⟨1, 5, 0, 0, 0, ⟨#[98]⟩⟩] [⟨⟨#[116]⟩, 1, 5⟩] 6 0 ⟨#[99]⟩ ⟨#[116]⟩ ⟨#[116]⟩ w3 HR1.out HM1.out (by decide) (by decide) (by decide) (.inr ⟨by decide, rfl⟩)
  simp only [grV] at hcall
  refine hcall.mono ?_
  clear hcall HR1 HM1
  rintro e w4 ⟨vk, vm, rfl, hr1, hr2, hb2⟩
  have e2 : sendF 2 [⟨1, 5, 0, 0, 0, ⟨#[98]⟩⟩] [⟨⟨#[116]⟩, 1, 5⟩] ⟨#[116]⟩ = (1, 0, false) := by unfold sendF; rw [List.find?_cons_of_pos (by decide)]
  have e1 : sendN 2 [⟨1, 5, 0, 0, 0, ⟨#[98]⟩⟩] [⟨⟨#[116]⟩, 1, 5⟩] ⟨#[116]⟩ = 2 := by unfold sendN; rw [e2]; rfl
  have e3 : sendK 2 [⟨1, 5, 0, 0, 0, ⟨#[98]⟩⟩] [⟨⟨#[116]⟩, 1, 5⟩] 6 0 ⟨#[99]⟩ ⟨#[116]⟩ = [⟨1, 5, 0, 0, 0, ⟨#[98]⟩⟩] := by unfold sendK; rw [e2]; rfl
  have e4 : sendM 2 [⟨1, 5, 0, 0, 0, ⟨#[98]⟩⟩] [⟨⟨#[116]⟩, 1, 5⟩] 6 ⟨#[116]⟩ = [⟨⟨#[116]⟩, 1, 5⟩] := by unfold sendM; rw [e2]; rfl
  rw [e3] at hr1
  rw [e4] at hr2
  rw [e1, e2]
  clear e1 e2 e3 e4
  obtain ⟨Ak, ck, rfl, hk1⟩ := Row.of_R hr1
  obtain ⟨Am, cm, rfl, hm1⟩ := Row.of_R hr2
  have hbn := (Below.refl w4.heap.size w4).alloc (Nat.le_refl _) (.cells #[.int .i64 2, .slice Ak 1 ck, .slice Am 1 cm, .string ⟨#[]⟩] 25)
  have HB4 := Aside.mk ((HB2.out.trans (hb2.mono HB2.out.size)).trans (hbn.mono (Nat.le_trans HB2.out.size hb2.size)))
  have HR1 := Aside.mk (hk1.below hbn)
  have HM1 := Aside.mk (hm1.below hbn)
  clear hr1 hr2 hb2 hk1 hm1 hbn
  go_wp2_with fail
  generalize World.alloc w4 _ = w5 at HB4 HR1 HM1 ⊢
  have hcall := T.Receive 2 Ak Am ck cm ⟨#[]⟩ [⟨1, 5, 0, 0, 0, ⟨#[98]⟩⟩] [⟨⟨#[116]⟩, 1, 5⟩] 6 1 10 0 0 w5 HR1.out HM1.out (by decide) (by decide)
  simp only [grV] at hcall
  refine hcall.mono ?_
  clear hcall HR1 HM1
  rintro e w6 ⟨vk, vm, vg, vd, rfl, hr1, hr2, hr3, hr4, hb2⟩
  have e2 : recvF [⟨1, 5, 0, 0, 0, ⟨#[98]⟩⟩] 6 1 10 0 0 = ([⟨1, 5, 1, 16, 0, ⟨#[98]⟩⟩], [⟨1, 5, 1, 16, 0, ⟨#[98]⟩⟩], []) := by
    have h1 : wrap64 1 = 1 := by unfold wrap64; omega
    have h2 : wrap64 16 = 16 := by unfold wrap64; omega
    simp [recvF, recvL, bump, h1, h2]
  rw [e2] at hr1 hr3 hr4
  clear e2
  obtain ⟨Ak, ck, rfl, hk1⟩ := Row.of_R hr1
  obtain ⟨Am, cm, rfl, hm1⟩ := Row.of_R hr2
  obtain ⟨Ag, cg, rfl, hg1⟩ := Row.of_R hr3
  obtain ⟨Ad, cd, rfl, _⟩ := Row.of_R hr4
  obtain ⟨gg, hgg, hrg⟩ := hg1.at 0 _ rfl
  have hcg := (cellsK hrg).2.2.2.1
  dsimp only at hcg
  subst hgg
  have hbn := (Below.refl w6.heap.size w6).alloc (Nat.le_refl _) (.cells #[.int .i64 2, .slice Ak 1 ck, .slice Am 1 cm, .string ⟨#[]⟩] 25)
  have HB6 := Aside.mk ((HB4.out.trans (hb2.mono HB4.out.size)).trans (hbn.mono (Nat.le_trans HB4.out.size hb2.size)))
  have HR1 := Aside.mk (hk1.below hbn)
  have HM1 := Aside.mk (hm1.below hbn)
  have HCG := Aside.mk (pw_cell_below hbn hcg)
  have HK := Aside.mk (show GBox _ w6.heap.size 2 (.slice Ak 1 ck) (.slice Am 1 cm) ⟨#[]⟩ from heap_alloc_new w6 (.cells #[.int .i64 2, .slice Ak 1 ck, .slice Am 1 cm, .string ⟨#[]⟩] 25))
  clear hr1 hr2 hr3 hr4 hb2 hk1 hm1 hg1 hrg hcg hbn
  go_wp2_with fail
  generalize hK : w6.heap.size = K at HK ⊢
  generalize World.alloc w6 _ = w7 at HB6 HR1 HM1 HCG HK ⊢
  clear hK
  have hcall := T.Receive 2 Ak Am ck cm ⟨#[]⟩ [⟨1, 5, 1, 16, 0, ⟨#[98]⟩⟩] [⟨⟨#[116]⟩, 1, 5⟩] 7 1 10 0 0 w7 HR1.out HM1.out (by decide) (by decide)
  simp only [grV] at hcall
  refine hcall.mono ?_
  clear hcall
  rintro e w8 ⟨vk, vm, vg, vd, rfl, hr1, hr2, hr3, hr4, hb2⟩
  have e2 : recvF [⟨1, 5, 1, 16, 0, ⟨#[98]⟩⟩] 7 1 10 0 0 = ([⟨1, 5, 1, 16, 0, ⟨#[98]⟩⟩], [], []) := by
    simp [recvF]
  rw [e2] at hr1 hr3 hr4
  clear e2
  obtain ⟨Ak2, ck2, rfl, _⟩ := Row.of_R hr1
  obtain ⟨Am2, cm2, rfl, _⟩ := Row.of_R hr2
  obtain ⟨Ag2, cg2, rfl, _⟩ := Row.of_R hr3
  obtain ⟨Ad2, cd2, rfl, _⟩ := Row.of_R hr4
  have hbn := (Below.refl w8.heap.size w8).alloc (Nat.le_refl _) (.cells #[.int .i64 2, .slice Ak2 1 ck2, .slice Am2 1 cm2, .string ⟨#[]⟩] 25)
  have hbb := (hb2.trans (hbn.mono hb2.size))
  have HB8 := Aside.mk (HB6.out.trans (hbb.mono HB6.out.size))
  have HR2 := Aside.mk (HR1.out.below hbb)
  have HM2 := Aside.mk (HM1.out.below hbb)
  have HCG2 := Aside.mk (pw_cell_below hbb HCG.out)
  have HK2 := HK.out.fc (FC.of (S := []) hbb) (by simp)
  have HK3 := Aside.mk HK2
  have HK4 := HK.out.fc (FC.of (S := []) hb2) (by simp)
  obtain ⟨x0, x1, x2, x3, xf⟩ := HK4.cells
  obtain ⟨y0, y1, y2, y3, yf⟩ := HK2.cells
  clear hr1 hr2 hr3 hr4 hb2 hbn hbb HR1 HM1 HK2 HK4 HCG
  go_wp2_with fail
  generalize World.alloc w8 _ = w9 at *
  have hcall := T.Delete 2 Ak Am ck cm ⟨#[]⟩ [⟨1, 5, 1, 16, 0, ⟨#[98]⟩⟩] [⟨⟨#[116]⟩, 1, 5⟩] 7 1 1 w9 HR2.out HM2.out (by decide) (by decide)
  simp only [grV] at hcall
  refine hcall.mono ?_
  clear hcall x0 x1 x2 x3 xf y0 y1 y2 y3 yf
  rintro e w10 ⟨vk, vm, rfl, hr1, hr2, hb2⟩
  have e1 : aboutF [⟨1, 5, 1, 16, 0, ⟨#[98]⟩⟩] 7 1 1 = (0, 0) := by simp [aboutF, List.findIdx?_cons]
  have e2 : delF [⟨1, 5, 1, 16, 0, ⟨#[98]⟩⟩] 7 1 1 = [] := by unfold delF; rw [e1]; rfl
  have e3 : delE [⟨1, 5, 1, 16, 0, ⟨#[98]⟩⟩] 7 1 1 = 0 := by unfold delE; rw [e1]; rfl
  rw [e2] at hr1
  rw [e3]
  clear e1 e2 e3
  obtain ⟨Ak3, ck3, rfl, _⟩ := Row.of_R hr1
  obtain ⟨Am3, cm3, rfl, _⟩ := Row.of_R hr2
  have hbn := (Below.refl w10.heap.size w10).alloc (Nat.le_refl _) (.cells #[.int .i64 2, .slice Ak3 0 ck3, .slice Am3 1 cm3, .string ⟨#[]⟩] 25)
  have z1 := pw_cell_below hb2 HCG2.out
  have z2 := pw_cell_below hbn z1
  have HB10 := Aside.mk ((HB8.out.trans (hb2.mono HB8.out.size)).trans (hbn.mono (Nat.le_trans HB8.out.size hb2.size)))
  clear hr1 hr2 hb2 hbn
  go_wp2
  go_ret
  exact ⟨rfl, HB10.out⟩
end Go.Proofs.YtekjkdpiiaocjaaDoor

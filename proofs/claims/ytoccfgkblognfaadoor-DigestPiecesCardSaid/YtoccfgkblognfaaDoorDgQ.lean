/- The contract of the reference's Of: it answers with the same digest, in a row of its own. Conditions: bytes from 0 to 255, where they lie, sizes. -/
import Derived.Test.YtoccfgkblognfaaDoorDgP
import Derived.Test.YtoccfgkblognfaaDoorDgCopies
namespace Go.Proofs.YtoccfgkblognfaaDoor
open Go.RowKit Go.Proofs.YtoccfgkblognfaaDoorW.PrintWords Go.Proofs.YtoccfgkblognfaaDoorW.PrintLast Go.Proofs.YtoccfgkblognfaaDoorW.PrintMore
set_option maxHeartbeats 2000000 in
set_option maxRecDepth 100000 in
theorem T.turn (x : Int) (k : Nat) (w : World) (h0 : 0 < k) (h1 : k < 32) : Calls Tryd.prog 23 #[.int .u32 x, .int .i64 k] w fun e w' => e = .returned (.int .u32 (rotl x (32 - k))) ∧ w' = w.drew := by
  obtain ⟨s, hs⟩ : ∃ s : Nat, s = 32 - k := ⟨_, rfl⟩
  have hs64 : s < 64 := by omega
  have hw : IntKind.i64.wrap ((32 : Int) - (k : Int)) = (s : Int) := by rw [wrap64_in (by omega) (by omega)]; omega
  have e2 := Aside.mk (show bits .or .u32 (x / 2 ^ k) (IntKind.u32.wrap (x * 2 ^ min s 32)) = rotl x (32 - k) from by
    rw [bits_or_comm, Nat.min_eq_left (by omega), IntKind.wrap_u32]; unfold rotl; rw [← hs, show 32 - s = k from by omega])
  clear hs
  go_enter Tryd.func23, Tryd.ntmps23
  go_wp2
  refine still_lit (by kernel_rfl) (by kernel_rfl) ?_
  repeat still_step
  refine wpStill_nil ?_
  go_wp2
  go_ret
  exact ⟨by rw [← e2.out]; rfl, rfl⟩
/-- These words are a row that was made from block 'base' on. -/
def WordsR (w : World) (base : Nat) (v : Value) (l : List Int) : Prop := w.ownsRow base 39 1 v l.length (l.map (Value.int .u32))
theorem WordsR.at {w : World} {base : Nat} {v : Value} {l : List Int} (h : WordsR w base v l) (h0 : 0 < l.length) : ∃ g c, v = .slice (some ⟨g, 0, none⟩) l.length c ∧ l.length ≤ c ∧ base ≤ g ∧ g < w.heap.size ∧ (∀ i, i < l.length → w.cell? ⟨g, i, none⟩ = some (.int .u32 (l.getD i 0))) := by
  rcases h.2 with ⟨_, h2⟩ | ⟨g, cap, cur, hv, hg, hh, hn, _⟩
  · omega
  · refine ⟨g, cap, hv, hn, hg, (Array.getElem?_eq_some_iff.1 hh).1, fun i hi => ?_⟩
    have := h.cells (g := g) (by rw [hv]; rfl) i (.int .u32 (l.getD i 0)) (by rw [List.getElem?_map, List.getElem?_eq_getElem hi, List.getD_eq_getElem?_getD, List.getElem?_eq_getElem hi]; rfl)
    rwa [Addr.add_mid, Nat.zero_add] at this
theorem T.rounds (w : World) : Calls Tryd.prog 20 #[] w fun e w' => ∃ v, e = .returned v ∧ WordsR w' w.heap.size v ksL ∧ Below w.heap.size w w' := by
  refine (PA.racewayref03_rounds.calls ksL w rfl).mono ?_
  rintro e w' ⟨v, rfl, hR, hB⟩
  exact ⟨v, rfl, Kd.own_of_R hR, hB⟩
theorem Src.toC {w : World} {A : Option Addr} {l : List Int} (h : Src w A l) (hl : l.length ≤ 9223372036854775807) : Kd.C (Kd.int .u8) w A l.length l := by
  refine ⟨rfl, hl, fun h0 => ?_⟩
  obtain ⟨b, o, hA, _⟩ := h 0 _ (List.getElem?_eq_getElem h0)
  subst hA
  refine ⟨_, rfl, fun j p hp => ⟨[.int .u8 p], rfl, rfl, fun i u hu => ?_⟩⟩
  obtain ⟨b', o', hA, hc⟩ := h j p hp
  simp only [Option.some.injEq, Addr.mk.injEq] at hA
  obtain ⟨rfl, rfl, _⟩ := hA
  match i, hu with
  | 0, hu =>
    simp at hu; subst hu
    rw [Addr.add_mid, ← hc]
    show w.cell? ⟨b, o + (j * 1 + 0), none⟩ = _
    rw [Nat.mul_one]; rfl
theorem T.padded (bs : List Int) (A : Option Addr) (c : Nat) (w : World) (hC : Src w A bs) (hc : bs.length ≤ c) (hl : bs.length ≤ 100000) :
    Calls Tryd.prog 21 #[.slice A bs.length c] w fun e w' => ∃ v, e = .returned v ∧ Bytes w' w.heap.size v (padL bs) ∧ Below w.heap.size w w' := by
  obtain ⟨k, hk⟩ : ∃ k : Nat, 100 < k := ⟨101, by decide⟩
  have hp := padded_eq bs hl k hk
  generalize padL bs = r at *
  refine (PA.racewayref03_padded.calls k A c bs r w (hC.toC (by omega)) hc hp).mono ?_
  rintro e w' ⟨v, rfl, hR, hB⟩
  exact ⟨v, rfl, Kd.own_of_R hR, hB⟩
theorem T.schedule (bl : List Int) (A : Option Addr) (c : Nat) (w : World) (hC : Src w A bl) (hl : bl.length = 64) (hc : 64 ≤ c) (hr : ∀ x ∈ bl, 0 ≤ x ∧ x < 256) :
    Calls Tryd.prog 22 #[.slice A 64 c] w fun e w' => ∃ v, e = .returned v ∧ WordsR w' w.heap.size v (schedN bl 64) ∧ Below w.heap.size w w' := by
  obtain ⟨k, hk⟩ : ∃ k : Nat, 100 < k := ⟨101, by decide⟩
  have hp := schedule_eq bl hl hr k hk
  generalize schedN bl 64 = r at *
  have h := PA.racewayref03_schedule.calls k A c bl r w (hC.toC (by omega)) (by omega) hp
  rw [hl] at h
  refine h.mono ?_
  rintro e w' ⟨v, rfl, hR, hB⟩
  exact ⟨v, rfl, Kd.own_of_R hR, hB⟩
theorem padL_length (bs : List Int) : (padL bs).length = 64 * ((bs.length + 72) / 64) := by
  unfold padL sizeB zerosN
  simp
  omega
end Go.Proofs.YtoccfgkblognfaaDoor

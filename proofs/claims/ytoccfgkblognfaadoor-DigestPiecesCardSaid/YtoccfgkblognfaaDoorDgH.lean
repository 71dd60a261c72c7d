/- Bytes in a row of the call's own; the contracts of few and of works (the chapter's example). Conditions: where the bytes lie, the table of rounds. -/
import Derived.Test.YtoccfgkblognfaaDoorDgG
import Derived.Test.YtoccfgkblognfaaDoorPAx1
import Derived.Lib.SlBytesConst
namespace Go.Proofs.YtoccfgkblognfaaDoor
open Go.RowKit Go.Proofs.YtoccfgkblognfaaDoorW.PrintWords Go.Proofs.YtoccfgkblognfaaDoorW.PrintLast Go.Proofs.YtoccfgkblognfaaDoorW.PrintMore
/-- These bytes are a row that was made from block 'base' on. -/
def Bytes (w : World) (base : Nat) (v : Value) (l : List Int) : Prop := w.ownsRow base 5 1 v l.length (l.map (Value.int .u8))
theorem Bytes.slice {w : World} {base : Nat} {v : Value} {l : List Int} (h : Bytes w base v l) : ∃ A c, v = .slice A l.length c ∧ l.length ≤ c ∧ Src w A l ∧ (∀ a, A = some a → base ≤ a.block ∧ a.block < w.heap.size) := by
  rcases h.2 with ⟨h1, h2⟩ | ⟨g, cap, cur, hv, hg, hh, hn, _⟩
  · refine ⟨none, 0, by rw [h1, h2], by omega, fun i x hx => ?_, fun a ha => by cases ha⟩
    have : i < l.length := (List.getElem?_eq_some_iff.1 hx).1
    omega
  · refine ⟨some ⟨g, 0, none⟩, cap, hv, hn, fun i x hx => ⟨g, 0, rfl, ?_⟩, fun a ha => ?_⟩
    · have := h.cells (g := g) (by rw [hv]; rfl) i (.int .u8 x) (by rw [List.getElem?_map, hx]; rfl)
      rwa [Addr.add_mid] at this
    · obtain rfl := Option.some.inj ha
      exact ⟨hg, (Array.getElem?_eq_some_iff.1 hh).1⟩
theorem Bytes.below {w w' : World} {base : Nat} {v : Value} {l : List Int} (h : Bytes w base v l) (hb : Below w.heap.size w w') : Bytes w' base v l :=
  World.ownsRow.kept h (row := none) ⟨hb.os, hb.tape, hb.output, hb.size, fun k hk _ => hb.block k hk⟩ (by cases hv : v.ownBlock <;> simp)
theorem Bytes.far {w w' : World} {base : Nat} {v : Value} {l : List Int} {row : Option Nat} (h : Bytes w base v l) (hg : w.grownBy w' row) (hr : ∀ k, row = some k → k < base) : Bytes w' base v l := by
  refine World.ownsRow.kept h hg ?_
  cases hv : v.ownBlock with
  | none => exact .inl rfl
  | some k =>
    refine .inr fun e => ?_
    have := hr k e.symm
    have := (h.lt k hv).1
    omega
theorem few_eq (l : List Int) : PA.racewaylaw03_few.f l = some (l.take 2000) := by
  unfold PA.racewaylaw03_few.f
  simp only [Option.bind_some, List.nil_append, List.length_nil]
  have h1 : mn (l.length : Int) 2000 = ((min l.length 2000 : Nat) : Int) := by unfold mn; split <;> omega
  rw [h1, if_pos (by omega), if_pos (by omega), Int.toNat_natCast, if_pos (by rw [List.length_take]; omega)]
  congr 1
  rcases Nat.le_total l.length 2000 with h | h
  · rw [Nat.min_eq_left h, List.take_of_length_le (Nat.le_refl _), List.take_of_length_le h]
  · rw [Nat.min_eq_right h]
theorem T.few (A : Option Addr) (cap : Nat) (l : List Int) (w : World) (hC : Kd.C (Kd.int .u8) w A l.length l) (hcap : l.length ≤ cap) :
    Calls Tryd.prog 9 #[.slice A l.length cap] w fun e w' => ∃ v, e = .returned v ∧ Bytes w' w.heap.size v (l.take 2000) ∧ Below w.heap.size w w' := by
  refine (PA.racewaylaw03_few.calls A cap l _ w hC hcap (few_eq l)).mono ?_
  rintro e w' ⟨v, rfl, hR, hB⟩
  exact ⟨v, rfl, Kd.own_of_R hR, hB⟩
theorem token_abc : strOfNums (tokenL [97, 98, 99]) = ⟨#[98, 97, 55, 56, 49, 54, 98, 102, 56, 102, 48, 49, 99, 102, 101, 97, 52, 49, 52, 49, 52, 48, 100, 101, 53, 100, 97, 101, 50, 50, 50, 51]⟩ := by decide +kernel
set_option maxHeartbeats 2000000 in
set_option maxRecDepth 100000 in
theorem T.works (w : World) (hk : K64 w) : Calls Tryd.prog 14 #[] w fun e w' => e = .returned (.bool true) ∧ Below w.heap.size w w' := by
  have h0 : 0 < w.heap.size := block_lt_of_cell (hk 0 (by decide))
  have hB : Below w.heap.size w (w.alloc (.cells #[.int .u8 97, .int .u8 98, .int .u8 99] 5 (3, 4))) := (Below.refl _ _).alloc (Nat.le_refl _) _
  have hT := T.Token [97, 98, 99] (some ⟨w.heap.size, 0, none⟩) 3 (w.alloc (.cells #[.int .u8 97, .int .u8 98, .int .u8 99] 5 (3, 4))) (fun i x hx => ⟨w.heap.size, 0, rfl, by
      rw [cell_of_row _ _ _ _ _ _ (heap_alloc_new w _), Nat.zero_add]
      match i, hx with
      | 0, hx => simp at hx; subst hx; rfl
      | 1, hx => simp at hx; subst hx; rfl
      | 2, hx => simp at hx; subst hx; rfl⟩) (fun a ha => by obtain rfl := Option.some.inj ha; simp) (by simp) (by simp) (hk.of_block (hB.block 0 h0))
  rw [token_abc] at hT
  have HT := Aside.mk hT
  have HB := Aside.mk hB
  clear hT hB hk
  have kc := fun (W : World) (C : Array Value) (n c : Nat) => Lib.run_convert_bytes_const (P := Tryd.prog) W 22 5 C n c Tryd.underlying22 Tryd.underlying5
  go_enter Tryd.func14, Tryd.ntmps14
  go_wp2_with (go_at_call 12; refine HT.out.mono ?_; rintro e w1 ⟨rfl, h1⟩; have H1 := Aside.mk h1; clear h1)
  go_ret
  exact ⟨rfl, HB.out.trans (H1.out.mono (by simp))⟩
end Go.Proofs.YtoccfgkblognfaaDoor

/- The reference's Of and Hex, and the program's, at rows of bytes. Conditions: the bytes lie. -/
import Derived.Test.YticpbhpehoolfaaDoorFgP
import Derived.Test.YticpbhpehoolfaaDoorPAx5
namespace Go.Proofs.YticpbhpehoolfaaDoor
open Go.RowKit Go.Proofs.YticpbhpehoolfaaDoor.PA Go.Proofs.YticpbhpehoolfaaDoorW.PrintWords Go.Proofs.YticpbhpehoolfaaDoorW.PrintLast Go.Proofs.YticpbhpehoolfaaDoorW.PrintMore
theorem refOfS {w : World} {c : Nat} {A : Option Addr} {bs : List Int} (h : Src w A bs) (hc : bs.length ≤ c) (hl : bs.length ≤ 100000) (hr : ∀ x ∈ bs, 0 ≤ x ∧ x < 256) :
    Calls Tryd.prog 10 #[.slice A bs.length c] w fun e w' => ∃ v, e = .returned v ∧ Bytes w' w.heap.size v (digestL bs) ∧ Below w.heap.size w w' := by
  obtain ⟨k, hk⟩ := Of_some bs hl hr
  refine (racewayref23_Of.calls k A c bs _ w (h.C (by omega)) hc hk).mono ?_
  rintro e w' ⟨v, rfl, hR, hB⟩
  exact ⟨v, rfl, Kd.own_of_R hR, hB⟩
theorem refOfB {w : World} {base c : Nat} {A : Option Addr} {bs : List Int} (h : Bytes w base (.slice A bs.length c) bs) (hl : bs.length ≤ 100000) (hr : ∀ x ∈ bs, 0 ≤ x ∧ x < 256) :
    Calls Tryd.prog 10 #[.slice A bs.length c] w fun e w' => ∃ v, e = .returned v ∧ Bytes w' w.heap.size v (digestL bs) ∧ Below w.heap.size w w' := by
  obtain ⟨_, h1, h2, _⟩ := h.src
  exact refOfS h2 h1 hl hr
theorem refHex_some (bs : List Int) (hb : bs.length ≤ 100000) (hr : ∀ x ∈ bs, 0 ≤ x ∧ x < 256) : ∃ k, racewayref23_Hex.f k bs = some (strOfNums (hexL (digestL bs))) := by
  have h : Ev (fun k => racewayref23_Hex.f k bs) (strOfNums (hexL (digestL bs))) := by
    unfold racewayref23_Hex.f
    refine Ev.bind (Of_ev bs hb hr) ?_
    refine Ev.bind (refHex_ev (digestL_byts bs) (by rw [digestL_length]; omega)) (Ev.now _)
  obtain ⟨K, h⟩ := h
  exact ⟨K, h K (Nat.le_refl _)⟩
theorem refHexB {w : World} {base c : Nat} {A : Option Addr} {bs : List Int} (h : Bytes w base (.slice A bs.length c) bs) (hl : bs.length ≤ 100000) (hr : ∀ x ∈ bs, 0 ≤ x ∧ x < 256) :
    Calls Tryd.prog 12 #[.slice A bs.length c] w fun e w' => e = .returned (.string (strOfNums (hexL (digestL bs)))) ∧ Below w.heap.size w w' := by
  obtain ⟨_, h1, h2, _⟩ := h.src
  obtain ⟨k, hk⟩ := refHex_some bs hl hr
  exact racewayref23_Hex.calls k A c bs _ w (h2.C (by omega)) h1 hk
theorem OfB {w : World} {base c : Nat} {A : Option Addr} {bs : List Int} (h : Bytes w base (.slice A bs.length c) bs) (hl : bs.length ≤ 100000) (hk : Tabs w) :
    Calls Tryd.prog 9 #[.slice A bs.length c] w fun e w' => e = .returned (.agg (T.bs (digestL bs))) ∧ Below w.heap.size w w' := by
  obtain ⟨_, _, h2, h3⟩ := h.src
  exact T.Of bs A c w h2 (fun a ha => (h3 a ha).2) (by omega) hk
theorem HexB {w : World} {base c : Nat} {A : Option Addr} {bs : List Int} (h : Bytes w base (.slice A bs.length c) bs) (hl : bs.length ≤ 100000) (hk : Tabs w) :
    Calls Tryd.prog 11 #[.slice A bs.length c] w fun e w' => e = .returned (.string (strOfNums (hexL (digestL bs)))) ∧ Below w.heap.size w w' := by
  obtain ⟨_, _, h2, h3⟩ := h.src
  exact T.Hex bs A c w h2 (fun a ha => (h3 a ha).2) (by omega) hk
end Go.Proofs.YticpbhpehoolfaaDoor

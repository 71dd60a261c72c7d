/- The reference's Of and Token at rows of bytes; the text of an array's bytes. Conditions: the bytes lie. -/
import Derived.Test.YtoccfgkblognfaaDoorDgR
import Derived.Test.YtoccfgkblognfaaDoorDgS
namespace Go.Proofs.YtoccfgkblognfaaDoor
open Go.RowKit Go.Proofs.YtoccfgkblognfaaDoorW.PrintWords Go.Proofs.YtoccfgkblognfaaDoorW.PrintLast Go.Proofs.YtoccfgkblognfaaDoorW.PrintMore
theorem refOfB {w : World} {base c : Nat} {A : Option Addr} {bs : List Int} (h : Bytes w base (.slice A bs.length c) bs) (hl : bs.length ≤ 100000) (hr : ∀ x ∈ bs, 0 ≤ x ∧ x < 256) :
    Calls Tryd.prog 11 #[.slice A bs.length c] w fun e w' => ∃ v, e = .returned v ∧ Bytes w' w.heap.size v (digestL bs) ∧ Below w.heap.size w w' := by
  obtain ⟨_, h1, h2, h3⟩ := h.src
  exact T.refOf bs A c w h2 (fun a ha => (h3 a ha).2) h1 hr hl
theorem refTokenB {w : World} {base c : Nat} {A : Option Addr} {bs : List Int} (h : Bytes w base (.slice A bs.length c) bs) (hl : bs.length ≤ 100000) (hr : ∀ x ∈ bs, 0 ≤ x ∧ x < 256) :
    Calls Tryd.prog 13 #[.slice A bs.length c] w fun e w' => e = .returned (.string (strOfNums (tokenL bs))) ∧ Below w.heap.size w w' :=
  T.refToken bs A c w (refOfB h hl hr)
theorem conv_row {W : World} {B t : Nat} {l : List Int} (h : W.heap[B]? = some (.cells (T.bs l) t (0, 0))) (hl : l.length = 32) : (convert 22 9 (.slice (some ⟨B, 0, none⟩) 32 32)).run Tryd.prog W = .ok (.string (strOfNums l)) W :=
  run_convert_bytes_arg W 22 5 Tryd.underlying22 Tryd.underlying5 B 0 32 32 l hl (fun i hi => by rw [Nat.zero_add]; exact T.bs_cell h i (by omega)) 9 Tryd.underlying9
theorem keepC {w0 W W' : World} {B : Nat} {d : List Int} (hd : d.length = 32) (h : (convert 22 9 (.slice (some ⟨B, 0, none⟩) 32 32)).run Tryd.prog W = .ok (.string (strOfNums d)) W ∧ W.heap[B]? = some (.cells (T.bs d) 24 (0, 0)) ∧ Kp w0 W) (hb : Below W.heap.size W W') :
    (convert 22 9 (.slice (some ⟨B, 0, none⟩) 32 32)).run Tryd.prog W' = .ok (.string (strOfNums d)) W' ∧ W'.heap[B]? = some (.cells (T.bs d) 24 (0, 0)) ∧ Kp w0 W' := by
  have h1 : W'.heap[B]? = some (.cells (T.bs d) 24 (0, 0)) := (hb.block _ (Array.getElem?_eq_some_iff.1 h.2.1).1).trans h.2.1
  exact ⟨conv_row h1 hd, h1, h.2.2.step hb⟩
end Go.Proofs.YtoccfgkblognfaaDoor

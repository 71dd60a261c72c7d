/-
  No cell of these rows narrows 'for every input' (looked for: loops, veiled, ifaces, maps, wideKeys, modest, calm, conditions, laid).
  DERIVED. THE GIVEN ROWS OF THIS SEAT. 3 by the template 'for every input the law returns true; each argument reads behind the call as it read before'; 0 by the template 'total and deterministic' (their statements: YtmepeolejlpehaaTotals.lean).
  GIVEN WITH THE SEED: the statements are not yours to turn. If you find one false, say at which input.
  Laid BY PROGRAM, IN A SANDBOX (cutbox-rows.mjs): the forced cells as the released guide's own fill.sh prints them over the translation 7f0a51b9d31b8700… (all of the seat's roots in one cut). By AI agents, Wed Nov 11 2026. No macro, syntax, notation, axiom, sorry.
-/
import Derived.Test.YtmepeolejlpehaaChecked
import GoSem.Claim
import GoSem.ClaimJoined
import GoSem.ClaimMapViews
import Derived.JoinedTies
import Derived.KernelRfl
namespace Go.Proofs.Ytmepeolejlpehaa
/- THE CELL 'sum', in the pinned program and in every row, IS THE sha256 OF THE DUMP (.gsa) THAT YtmepeolejlpehaaProg.lean LOADS. Nothing in Lean hashes anything: it is a label: what it is worth is what the hold of that sum in a sandbox is worth. -/
noncomputable def Try.pinned : Pinned := { name := "ytmepeolejlpehaa", sum := "7f0a51b9d31b87000e7d77ec25d3ab1757385e01479b8e4742aad95c1d81bfc4", checked := Try.checked }
namespace Rows
def none {H : Type} : Left H := { results := [], args := [] }

/-- 'racewaylaw19.ControlNobody': WHATEVER THE INPUT: true; the input reads as it did. -/
def controlNobodySpec : ChangeSpec := { name := "controlNobody", fn := fun _ => fun
  | [d] => { results := [.lit (.bool true)], args := [d] }
  | _ => none }
def controlNobodyRow : OpenClaim := { program := "ytmepeolejlpehaa", sum := "7f0a51b9d31b87000e7d77ec25d3ab1757385e01479b8e4742aad95c1d81bfc4", func := "raceway/racewaylaw19.ControlNobody", spec := "controlNobody", apart := false }
def ControlNobodySaid : Prop := controlNobodyRow.holds Try.pinned (OpenSpec.ofChange controlNobodySpec)

/-- ITS FALSE NEIGHBOUR: 'it returns false'. Refute it at one input. -/
def controlNobodyWrong : ChangeSpec := { name := "controlNobody", fn := fun _ => fun
  | [d] => { results := [.lit (.bool false)], args := [d] }
  | _ => none }
def ControlNobodyWrongFalsely : Prop := controlNobodyRow.holds Try.pinned (OpenSpec.ofChange controlNobodyWrong)

/-- 'racewaylaw19.ControlOrder': WHATEVER THE INPUT: true; the input reads as it did. -/
def controlOrderSpec : ChangeSpec := { name := "controlOrder", fn := fun _ => fun
  | [d1, d2] => { results := [.lit (.bool true)], args := [d1, d2] }
  | _ => none }
def controlOrderRow : OpenClaim := { program := "ytmepeolejlpehaa", sum := "7f0a51b9d31b87000e7d77ec25d3ab1757385e01479b8e4742aad95c1d81bfc4", func := "raceway/racewaylaw19.ControlOrder", spec := "controlOrder", apart := false }
def ControlOrderSaid : Prop := controlOrderRow.holds Try.pinned (OpenSpec.ofChange controlOrderSpec)

/-- ITS FALSE NEIGHBOUR: 'it returns false'. Refute it at one input. -/
def controlOrderWrong : ChangeSpec := { name := "controlOrder", fn := fun _ => fun
  | [d1, d2] => { results := [.lit (.bool false)], args := [d1, d2] }
  | _ => none }
def ControlOrderWrongFalsely : Prop := controlOrderRow.holds Try.pinned (OpenSpec.ofChange controlOrderWrong)

/-- 'racewaylaw19.ControlEnds': WHATEVER THE INPUT: true; the input reads as it did. -/
def controlEndsSpec : ChangeSpec := { name := "controlEnds", fn := fun _ => fun
  | [d1, d2] => { results := [.lit (.bool true)], args := [d1, d2] }
  | _ => none }
def controlEndsRow : OpenClaim := { program := "ytmepeolejlpehaa", sum := "7f0a51b9d31b87000e7d77ec25d3ab1757385e01479b8e4742aad95c1d81bfc4", func := "raceway/racewaylaw19.ControlEnds", spec := "controlEnds", apart := false }
def ControlEndsSaid : Prop := controlEndsRow.holds Try.pinned (OpenSpec.ofChange controlEndsSpec)

/-- ITS FALSE NEIGHBOUR: 'it returns false'. Refute it at one input. -/
def controlEndsWrong : ChangeSpec := { name := "controlEnds", fn := fun _ => fun
  | [d1, d2] => { results := [.lit (.bool false)], args := [d1, d2] }
  | _ => none }
def ControlEndsWrongFalsely : Prop := controlEndsRow.holds Try.pinned (OpenSpec.ofChange controlEndsWrong)

/- THE SECOND FORM. 'bulk': how many values and letters a reading holds, each counted each time it is reached (what is shared counts as often as it is met; a slice's spare places count too). A statement '..UptoSaid' is the law's where the arguments, and the package variables that the reading takes, are together of bulk at most 1048576: NARROWER than '..Said'. Prove '..Said' where nothing that the law and all that it calls make is longer than what came in: it says more and counts as full. Else prove '..UptoSaid'. A law counts once. -/
mutual
def uptoBulk {H : Type} : DataW H → Nat
  | .lit (.string bytes) => bytes.length + 1
  | .lit _ => 1
  | .nil => 1
  | .ptr d => uptoBulk d + 1
  | .slice elems spare => uptoBulkAll elems + uptoBulkAll spare + 1
  | .agg parts => uptoBulkAll parts + 1
  | .iface _ d => uptoBulk d + 1
  | .map entries => uptoBulkEntries entries + 1
  | .held _ => 1
def uptoBulkAll {H : Type} : List (DataW H) → Nat
  | [] => 0
  | d :: r => uptoBulk d + uptoBulkAll r
def uptoBulkEntries {H : Type} : List (Lit × DataW H) → Nat
  | [] => 0
  | x :: r => uptoBulkEntry x + uptoBulkEntries r
def uptoBulkEntry {H : Type} : Lit × DataW H → Nat
  | (.string bytes, d) => bytes.length + uptoBulk d + 1
  | (_, d) => uptoBulk d + 1
 end
def uptoSmall : (H : Type) → List (DataW H) → Bool := fun _ ds => decide (uptoBulkAll ds ≤ 1048576)
def OpenSpec.upto (s : _root_.Go.ChangeSpec) : _root_.Go.OpenSpec := { _root_.Go.OpenSpec.ofChange s with cond := some uptoSmall }

/-- 'racewaylaw19.ControlNobody', WHERE WHAT IT READS IS OF BULK AT MOST 1048576: true; the input reads as it did. -/
def controlNobodyUptoRow : OpenClaim := { program := "ytmepeolejlpehaa", sum := "7f0a51b9d31b87000e7d77ec25d3ab1757385e01479b8e4742aad95c1d81bfc4", func := "raceway/racewaylaw19.ControlNobody", spec := "controlNobody", apart := false, narrowed := true }
def ControlNobodyUptoSaid : Prop := controlNobodyUptoRow.holds Try.pinned (OpenSpec.upto controlNobodySpec)

/-- 'racewaylaw19.ControlOrder', WHERE WHAT IT READS IS OF BULK AT MOST 1048576: true; the input reads as it did. -/
def controlOrderUptoRow : OpenClaim := { program := "ytmepeolejlpehaa", sum := "7f0a51b9d31b87000e7d77ec25d3ab1757385e01479b8e4742aad95c1d81bfc4", func := "raceway/racewaylaw19.ControlOrder", spec := "controlOrder", apart := false, narrowed := true }
def ControlOrderUptoSaid : Prop := controlOrderUptoRow.holds Try.pinned (OpenSpec.upto controlOrderSpec)

/-- 'racewaylaw19.ControlEnds', WHERE WHAT IT READS IS OF BULK AT MOST 1048576: true; the input reads as it did. -/
def controlEndsUptoRow : OpenClaim := { program := "ytmepeolejlpehaa", sum := "7f0a51b9d31b87000e7d77ec25d3ab1757385e01479b8e4742aad95c1d81bfc4", func := "raceway/racewaylaw19.ControlEnds", spec := "controlEnds", apart := false, narrowed := true }
def ControlEndsUptoSaid : Prop := controlEndsUptoRow.holds Try.pinned (OpenSpec.upto controlEndsSpec)

end Rows
end Go.Proofs.Ytmepeolejlpehaa

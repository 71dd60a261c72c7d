/-
  No cell of these rows narrows 'for every input' (looked for: loops, veiled, ifaces, maps, wideKeys, modest, calm, conditions, laid).
  DERIVED. THE GIVEN ROWS OF THIS SEAT. 8 by the template 'for every input the law returns true; each argument reads behind the call as it read before'; 0 by the template 'total and deterministic' (their statements: YtgopfelmhlgglaaTotals.lean).
  GIVEN WITH THE SEED: the statements are not yours to turn. If you find one false, say at which input.
  Laid BY PROGRAM, IN A SANDBOX (cutbox-rows.mjs): the forced cells as the released guide's own fill.sh prints them over the translation 9ee7349590ed2b2c… (all of the seat's roots in one cut). By AI agents, Wed Nov 11 2026. No macro, syntax, notation, axiom, sorry.
-/
import Derived.Test.YtgopfelmhlgglaaChecked
import GoSem.Claim
import GoSem.ClaimJoined
import GoSem.ClaimMapViews
import Derived.JoinedTies
import Derived.KernelRfl
namespace Go.Proofs.Ytgopfelmhlgglaa
/- THE CELL 'sum', in the pinned program and in every row, IS THE sha256 OF THE DUMP (.gsa) THAT YtgopfelmhlgglaaProg.lean LOADS. Nothing in Lean hashes anything: it is a label: what it is worth is what the hold of that sum in a sandbox is worth. -/
noncomputable def Try.pinned : Pinned := { name := "ytgopfelmhlgglaa", sum := "9ee7349590ed2b2cbc884eaa2e8c746f5d39a3acf1c50c6cf4be3dc663ab3b22", checked := Try.checked }
namespace Rows
def none {H : Type} : Left H := { results := [], args := [] }

/-- 'racewaylaw22.BasicWrites': WHATEVER THE INPUT: true; the input reads as it did. -/
def basicWritesSpec : ChangeSpec := { name := "basicWrites", fn := fun _ => fun
  | [d] => { results := [.lit (.bool true)], args := [d] }
  | _ => none }
def basicWritesRow : OpenClaim := { program := "ytgopfelmhlgglaa", sum := "9ee7349590ed2b2cbc884eaa2e8c746f5d39a3acf1c50c6cf4be3dc663ab3b22", func := "raceway/racewaylaw22.BasicWrites", spec := "basicWrites", inPlace := ["internal/abi.NoEscape", "internal/bytealg.MakeNoZero"], unfollowed := true, recurses := true, apart := false }
def BasicWritesSaid : Prop := basicWritesRow.holds Try.pinned (OpenSpec.ofChange basicWritesSpec)

/-- ITS FALSE NEIGHBOUR: 'it returns false'. Refute it at one input. -/
def basicWritesWrong : ChangeSpec := { name := "basicWrites", fn := fun _ => fun
  | [d] => { results := [.lit (.bool false)], args := [d] }
  | _ => none }
def BasicWritesWrongFalsely : Prop := basicWritesRow.holds Try.pinned (OpenSpec.ofChange basicWritesWrong)

/-- 'racewaylaw22.BasicNumbers': WHATEVER THE INPUT: true; the input reads as it did. -/
def basicNumbersSpec : ChangeSpec := { name := "basicNumbers", fn := fun _ => fun
  | [d1, d2] => { results := [.lit (.bool true)], args := [d1, d2] }
  | _ => none }
def basicNumbersRow : OpenClaim := { program := "ytgopfelmhlgglaa", sum := "9ee7349590ed2b2cbc884eaa2e8c746f5d39a3acf1c50c6cf4be3dc663ab3b22", func := "raceway/racewaylaw22.BasicNumbers", spec := "basicNumbers", inPlace := ["internal/abi.NoEscape", "internal/bytealg.MakeNoZero"], unfollowed := true, recurses := true, apart := false }
def BasicNumbersSaid : Prop := basicNumbersRow.holds Try.pinned (OpenSpec.ofChange basicNumbersSpec)

/-- ITS FALSE NEIGHBOUR: 'it returns false'. Refute it at one input. -/
def basicNumbersWrong : ChangeSpec := { name := "basicNumbers", fn := fun _ => fun
  | [d1, d2] => { results := [.lit (.bool false)], args := [d1, d2] }
  | _ => none }
def BasicNumbersWrongFalsely : Prop := basicNumbersRow.holds Try.pinned (OpenSpec.ofChange basicNumbersWrong)

/-- 'racewaylaw22.BasicParses': WHATEVER THE INPUT: true; the input reads as it did. -/
def basicParsesSpec : ChangeSpec := { name := "basicParses", fn := fun _ => fun
  | [d] => { results := [.lit (.bool true)], args := [d] }
  | _ => none }
def basicParsesRow : OpenClaim := { program := "ytgopfelmhlgglaa", sum := "9ee7349590ed2b2cbc884eaa2e8c746f5d39a3acf1c50c6cf4be3dc663ab3b22", func := "raceway/racewaylaw22.BasicParses", spec := "basicParses", inPlace := ["internal/abi.NoEscape", "internal/bytealg.MakeNoZero"], unfollowed := true, recurses := true, apart := false }
def BasicParsesSaid : Prop := basicParsesRow.holds Try.pinned (OpenSpec.ofChange basicParsesSpec)

/-- ITS FALSE NEIGHBOUR: 'it returns false'. Refute it at one input. -/
def basicParsesWrong : ChangeSpec := { name := "basicParses", fn := fun _ => fun
  | [d] => { results := [.lit (.bool false)], args := [d] }
  | _ => none }
def BasicParsesWrongFalsely : Prop := basicParsesRow.holds Try.pinned (OpenSpec.ofChange basicParsesWrong)

/-- 'racewaylaw22.BasicPads': WHATEVER THE INPUT: true; the input reads as it did. -/
def basicPadsSpec : ChangeSpec := { name := "basicPads", fn := fun _ => fun
  | [d1, d2] => { results := [.lit (.bool true)], args := [d1, d2] }
  | _ => none }
def basicPadsRow : OpenClaim := { program := "ytgopfelmhlgglaa", sum := "9ee7349590ed2b2cbc884eaa2e8c746f5d39a3acf1c50c6cf4be3dc663ab3b22", func := "raceway/racewaylaw22.BasicPads", spec := "basicPads", inPlace := ["internal/abi.NoEscape", "internal/bytealg.MakeNoZero"], unfollowed := true, recurses := true, apart := false }
def BasicPadsSaid : Prop := basicPadsRow.holds Try.pinned (OpenSpec.ofChange basicPadsSpec)

/-- ITS FALSE NEIGHBOUR: 'it returns false'. Refute it at one input. -/
def basicPadsWrong : ChangeSpec := { name := "basicPads", fn := fun _ => fun
  | [d1, d2] => { results := [.lit (.bool false)], args := [d1, d2] }
  | _ => none }
def BasicPadsWrongFalsely : Prop := basicPadsRow.holds Try.pinned (OpenSpec.ofChange basicPadsWrong)

/-- 'racewaylaw22.BasicReads': WHATEVER THE INPUT: true; the input reads as it did. -/
def basicReadsSpec : ChangeSpec := { name := "basicReads", fn := fun _ => fun
  | [d] => { results := [.lit (.bool true)], args := [d] }
  | _ => none }
def basicReadsRow : OpenClaim := { program := "ytgopfelmhlgglaa", sum := "9ee7349590ed2b2cbc884eaa2e8c746f5d39a3acf1c50c6cf4be3dc663ab3b22", func := "raceway/racewaylaw22.BasicReads", spec := "basicReads", inPlace := ["internal/bytealg.IndexByteString", "internal/abi.NoEscape", "internal/bytealg.MakeNoZero"], unfollowed := true, recurses := true, apart := false }
def BasicReadsSaid : Prop := basicReadsRow.holds Try.pinned (OpenSpec.ofChange basicReadsSpec)

/-- ITS FALSE NEIGHBOUR: 'it returns false'. Refute it at one input. -/
def basicReadsWrong : ChangeSpec := { name := "basicReads", fn := fun _ => fun
  | [d] => { results := [.lit (.bool false)], args := [d] }
  | _ => none }
def BasicReadsWrongFalsely : Prop := basicReadsRow.holds Try.pinned (OpenSpec.ofChange basicReadsWrong)

/-- 'racewaylaw22.BasicBack': WHATEVER THE INPUT: true; the input reads as it did. -/
def basicBackSpec : ChangeSpec := { name := "basicBack", fn := fun _ => fun
  | [d1, d2] => { results := [.lit (.bool true)], args := [d1, d2] }
  | _ => none }
def basicBackRow : OpenClaim := { program := "ytgopfelmhlgglaa", sum := "9ee7349590ed2b2cbc884eaa2e8c746f5d39a3acf1c50c6cf4be3dc663ab3b22", func := "raceway/racewaylaw22.BasicBack", spec := "basicBack", inPlace := ["internal/abi.NoEscape", "internal/bytealg.IndexByteString", "internal/bytealg.MakeNoZero"], unfollowed := true, recurses := true, apart := false }
def BasicBackSaid : Prop := basicBackRow.holds Try.pinned (OpenSpec.ofChange basicBackSpec)

/-- ITS FALSE NEIGHBOUR: 'it returns false'. Refute it at one input. -/
def basicBackWrong : ChangeSpec := { name := "basicBack", fn := fun _ => fun
  | [d1, d2] => { results := [.lit (.bool false)], args := [d1, d2] }
  | _ => none }
def BasicBackWrongFalsely : Prop := basicBackRow.holds Try.pinned (OpenSpec.ofChange basicBackWrong)

/-- 'racewaylaw22.BasicOnce': WHATEVER THE INPUT: true; the input reads as it did. -/
def basicOnceSpec : ChangeSpec := { name := "basicOnce", fn := fun _ => fun
  | [d] => { results := [.lit (.bool true)], args := [d] }
  | _ => none }
def basicOnceRow : OpenClaim := { program := "ytgopfelmhlgglaa", sum := "9ee7349590ed2b2cbc884eaa2e8c746f5d39a3acf1c50c6cf4be3dc663ab3b22", func := "raceway/racewaylaw22.BasicOnce", spec := "basicOnce", inPlace := ["internal/abi.NoEscape", "internal/bytealg.IndexByteString", "internal/bytealg.MakeNoZero"], unfollowed := true, recurses := true, apart := false }
def BasicOnceSaid : Prop := basicOnceRow.holds Try.pinned (OpenSpec.ofChange basicOnceSpec)

/-- ITS FALSE NEIGHBOUR: 'it returns false'. Refute it at one input. -/
def basicOnceWrong : ChangeSpec := { name := "basicOnce", fn := fun _ => fun
  | [d] => { results := [.lit (.bool false)], args := [d] }
  | _ => none }
def BasicOnceWrongFalsely : Prop := basicOnceRow.holds Try.pinned (OpenSpec.ofChange basicOnceWrong)

/-- 'racewaylaw22.BasicLong': WHATEVER THE INPUT: true; the input reads as it did. -/
def basicLongSpec : ChangeSpec := { name := "basicLong", fn := fun _ => fun
  | [d] => { results := [.lit (.bool true)], args := [d] }
  | _ => none }
def basicLongRow : OpenClaim := { program := "ytgopfelmhlgglaa", sum := "9ee7349590ed2b2cbc884eaa2e8c746f5d39a3acf1c50c6cf4be3dc663ab3b22", func := "raceway/racewaylaw22.BasicLong", spec := "basicLong", inPlace := ["internal/bytealg.IndexByteString", "internal/abi.NoEscape", "internal/bytealg.MakeNoZero"], unfollowed := true, recurses := true, apart := false }
def BasicLongSaid : Prop := basicLongRow.holds Try.pinned (OpenSpec.ofChange basicLongSpec)

/-- ITS FALSE NEIGHBOUR: 'it returns false'. Refute it at one input. -/
def basicLongWrong : ChangeSpec := { name := "basicLong", fn := fun _ => fun
  | [d] => { results := [.lit (.bool false)], args := [d] }
  | _ => none }
def BasicLongWrongFalsely : Prop := basicLongRow.holds Try.pinned (OpenSpec.ofChange basicLongWrong)

/- THE SECOND FORM. 'bulk': how many values and letters a reading holds, each counted each time it is reached (what is shared counts as often as it is met; a slice's spare places count too). A statement '..UptoSaid' is the law's where the arguments, and the package variables that the reading takes, are together of bulk at most 1048576: NARROWER than '..Said'. Prove '..Said' where nothing that the law and all that it calls make is longer than what came in: it says more and counts as full. Else prove '..UptoSaid'. A law counts once. -/
mutual
def uptoBulk {H : Type} : DataW H → Nat
  | .lit (.string bytes) => bytes.length + 1
  | .lit _ => 1
  | .nil => 1
  | .ptr d => uptoBulk d + 1
  | .slice elems spare => uptoBulkAll elems + uptoBulkAll spare + 1
  | .agg parts => uptoBulkAll parts + 1
  | .iface _ d => uptoBulk d + 1
  | .map entries => uptoBulkEntries entries + 1
  | .held _ => 1
def uptoBulkAll {H : Type} : List (DataW H) → Nat
  | [] => 0
  | d :: r => uptoBulk d + uptoBulkAll r
def uptoBulkEntries {H : Type} : List (Lit × DataW H) → Nat
  | [] => 0
  | x :: r => uptoBulkEntry x + uptoBulkEntries r
def uptoBulkEntry {H : Type} : Lit × DataW H → Nat
  | (.string bytes, d) => bytes.length + uptoBulk d + 1
  | (_, d) => uptoBulk d + 1
 end
def uptoSmall : (H : Type) → List (DataW H) → Bool := fun _ ds => decide (uptoBulkAll ds ≤ 1048576)
def OpenSpec.upto (s : _root_.Go.ChangeSpec) : _root_.Go.OpenSpec := { _root_.Go.OpenSpec.ofChange s with cond := some uptoSmall }

/-- 'racewaylaw22.BasicWrites', WHERE WHAT IT READS IS OF BULK AT MOST 1048576: true; the input reads as it did. -/
def basicWritesUptoRow : OpenClaim := { program := "ytgopfelmhlgglaa", sum := "9ee7349590ed2b2cbc884eaa2e8c746f5d39a3acf1c50c6cf4be3dc663ab3b22", func := "raceway/racewaylaw22.BasicWrites", spec := "basicWrites", inPlace := ["internal/abi.NoEscape", "internal/bytealg.MakeNoZero"], unfollowed := true, recurses := true, apart := false, narrowed := true }
def BasicWritesUptoSaid : Prop := basicWritesUptoRow.holds Try.pinned (OpenSpec.upto basicWritesSpec)

/-- 'racewaylaw22.BasicNumbers', WHERE WHAT IT READS IS OF BULK AT MOST 1048576: true; the input reads as it did. -/
def basicNumbersUptoRow : OpenClaim := { program := "ytgopfelmhlgglaa", sum := "9ee7349590ed2b2cbc884eaa2e8c746f5d39a3acf1c50c6cf4be3dc663ab3b22", func := "raceway/racewaylaw22.BasicNumbers", spec := "basicNumbers", inPlace := ["internal/abi.NoEscape", "internal/bytealg.MakeNoZero"], unfollowed := true, recurses := true, apart := false, narrowed := true }
def BasicNumbersUptoSaid : Prop := basicNumbersUptoRow.holds Try.pinned (OpenSpec.upto basicNumbersSpec)

/-- 'racewaylaw22.BasicParses', WHERE WHAT IT READS IS OF BULK AT MOST 1048576: true; the input reads as it did. -/
def basicParsesUptoRow : OpenClaim := { program := "ytgopfelmhlgglaa", sum := "9ee7349590ed2b2cbc884eaa2e8c746f5d39a3acf1c50c6cf4be3dc663ab3b22", func := "raceway/racewaylaw22.BasicParses", spec := "basicParses", inPlace := ["internal/abi.NoEscape", "internal/bytealg.MakeNoZero"], unfollowed := true, recurses := true, apart := false, narrowed := true }
def BasicParsesUptoSaid : Prop := basicParsesUptoRow.holds Try.pinned (OpenSpec.upto basicParsesSpec)

/-- 'racewaylaw22.BasicPads', WHERE WHAT IT READS IS OF BULK AT MOST 1048576: true; the input reads as it did. -/
def basicPadsUptoRow : OpenClaim := { program := "ytgopfelmhlgglaa", sum := "9ee7349590ed2b2cbc884eaa2e8c746f5d39a3acf1c50c6cf4be3dc663ab3b22", func := "raceway/racewaylaw22.BasicPads", spec := "basicPads", inPlace := ["internal/abi.NoEscape", "internal/bytealg.MakeNoZero"], unfollowed := true, recurses := true, apart := false, narrowed := true }
def BasicPadsUptoSaid : Prop := basicPadsUptoRow.holds Try.pinned (OpenSpec.upto basicPadsSpec)

/-- 'racewaylaw22.BasicReads', WHERE WHAT IT READS IS OF BULK AT MOST 1048576: true; the input reads as it did. -/
def basicReadsUptoRow : OpenClaim := { program := "ytgopfelmhlgglaa", sum := "9ee7349590ed2b2cbc884eaa2e8c746f5d39a3acf1c50c6cf4be3dc663ab3b22", func := "raceway/racewaylaw22.BasicReads", spec := "basicReads", inPlace := ["internal/bytealg.IndexByteString", "internal/abi.NoEscape", "internal/bytealg.MakeNoZero"], unfollowed := true, recurses := true, apart := false, narrowed := true }
def BasicReadsUptoSaid : Prop := basicReadsUptoRow.holds Try.pinned (OpenSpec.upto basicReadsSpec)

/-- 'racewaylaw22.BasicBack', WHERE WHAT IT READS IS OF BULK AT MOST 1048576: true; the input reads as it did. -/
def basicBackUptoRow : OpenClaim := { program := "ytgopfelmhlgglaa", sum := "9ee7349590ed2b2cbc884eaa2e8c746f5d39a3acf1c50c6cf4be3dc663ab3b22", func := "raceway/racewaylaw22.BasicBack", spec := "basicBack", inPlace := ["internal/abi.NoEscape", "internal/bytealg.IndexByteString", "internal/bytealg.MakeNoZero"], unfollowed := true, recurses := true, apart := false, narrowed := true }
def BasicBackUptoSaid : Prop := basicBackUptoRow.holds Try.pinned (OpenSpec.upto basicBackSpec)

/-- 'racewaylaw22.BasicOnce', WHERE WHAT IT READS IS OF BULK AT MOST 1048576: true; the input reads as it did. -/
def basicOnceUptoRow : OpenClaim := { program := "ytgopfelmhlgglaa", sum := "9ee7349590ed2b2cbc884eaa2e8c746f5d39a3acf1c50c6cf4be3dc663ab3b22", func := "raceway/racewaylaw22.BasicOnce", spec := "basicOnce", inPlace := ["internal/abi.NoEscape", "internal/bytealg.IndexByteString", "internal/bytealg.MakeNoZero"], unfollowed := true, recurses := true, apart := false, narrowed := true }
def BasicOnceUptoSaid : Prop := basicOnceUptoRow.holds Try.pinned (OpenSpec.upto basicOnceSpec)

/-- 'racewaylaw22.BasicLong', WHERE WHAT IT READS IS OF BULK AT MOST 1048576: true; the input reads as it did. -/
def basicLongUptoRow : OpenClaim := { program := "ytgopfelmhlgglaa", sum := "9ee7349590ed2b2cbc884eaa2e8c746f5d39a3acf1c50c6cf4be3dc663ab3b22", func := "raceway/racewaylaw22.BasicLong", spec := "basicLong", inPlace := ["internal/bytealg.IndexByteString", "internal/abi.NoEscape", "internal/bytealg.MakeNoZero"], unfollowed := true, recurses := true, apart := false, narrowed := true }
def BasicLongUptoSaid : Prop := basicLongUptoRow.holds Try.pinned (OpenSpec.upto basicLongSpec)

end Rows
end Go.Proofs.Ytgopfelmhlgglaa

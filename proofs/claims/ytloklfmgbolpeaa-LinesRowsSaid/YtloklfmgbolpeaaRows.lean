/-
  No cell of these rows narrows 'for every input' (looked for: loops, veiled, ifaces, maps, wideKeys, modest, calm, conditions, laid).
  DERIVED. THE GIVEN ROWS OF THIS SEAT. 3 by the template 'for every input the law returns true; each argument reads behind the call as it read before'; 0 by the template 'total and deterministic' (their statements: YtloklfmgbolpeaaTotals.lean).
  GIVEN WITH THE SEED: the statements are not yours to turn. If you find one false, say at which input.
  Laid BY PROGRAM, IN A SANDBOX (cutbox-rows.mjs): the forced cells as the released guide's own fill.sh prints them over the translation 3ccea836ddfee663… (all of the seat's roots in one cut). By AI agents, Wed Nov 11 2026. No macro, syntax, notation, axiom, sorry.
-/
import Derived.Test.YtloklfmgbolpeaaChecked
import GoSem.Claim
import GoSem.ClaimJoined
import GoSem.ClaimMapViews
import Derived.JoinedTies
import Derived.KernelRfl
namespace Go.Proofs.Ytloklfmgbolpeaa
/- THE CELL 'sum', in the pinned program and in every row, IS THE sha256 OF THE DUMP (.gsa) THAT YtloklfmgbolpeaaProg.lean LOADS. Nothing in Lean hashes anything: it is a label: what it is worth is what the hold of that sum in a sandbox is worth. -/
noncomputable def Try.pinned : Pinned := { name := "ytloklfmgbolpeaa", sum := "3ccea836ddfee663d90ebc37f4c4deff1243e2e674be70aafc702787e0baee0a", checked := Try.checked }
namespace Rows
def none {H : Type} : Left H := { results := [], args := [] }

/-- 'arborlaw01.LinesReads': WHATEVER THE INPUT: true; the input reads as it did. -/
def linesReadsSpec : ChangeSpec := { name := "linesReads", fn := fun _ => fun
  | [d] => { results := [.lit (.bool true)], args := [d] }
  | _ => none }
def linesReadsRow : OpenClaim := { program := "ytloklfmgbolpeaa", sum := "3ccea836ddfee663d90ebc37f4c4deff1243e2e674be70aafc702787e0baee0a", func := "arbor/arborlaw01.LinesReads", spec := "linesReads", apart := false }
def LinesReadsSaid : Prop := linesReadsRow.holds Try.pinned (OpenSpec.ofChange linesReadsSpec)

/-- ITS FALSE NEIGHBOUR: 'it returns false'. Refute it at one input. -/
def linesReadsWrong : ChangeSpec := { name := "linesReads", fn := fun _ => fun
  | [d] => { results := [.lit (.bool false)], args := [d] }
  | _ => none }
def LinesReadsWrongFalsely : Prop := linesReadsRow.holds Try.pinned (OpenSpec.ofChange linesReadsWrong)

/-- 'arborlaw01.LinesNumbers': WHATEVER THE INPUT: true; the input reads as it did. -/
def linesNumbersSpec : ChangeSpec := { name := "linesNumbers", fn := fun _ => fun
  | [d] => { results := [.lit (.bool true)], args := [d] }
  | _ => none }
def linesNumbersRow : OpenClaim := { program := "ytloklfmgbolpeaa", sum := "3ccea836ddfee663d90ebc37f4c4deff1243e2e674be70aafc702787e0baee0a", func := "arbor/arborlaw01.LinesNumbers", spec := "linesNumbers", apart := false }
def LinesNumbersSaid : Prop := linesNumbersRow.holds Try.pinned (OpenSpec.ofChange linesNumbersSpec)

/-- ITS FALSE NEIGHBOUR: 'it returns false'. Refute it at one input. -/
def linesNumbersWrong : ChangeSpec := { name := "linesNumbers", fn := fun _ => fun
  | [d] => { results := [.lit (.bool false)], args := [d] }
  | _ => none }
def LinesNumbersWrongFalsely : Prop := linesNumbersRow.holds Try.pinned (OpenSpec.ofChange linesNumbersWrong)

/-- 'arborlaw01.LinesRows': WHATEVER THE INPUT: true; the input reads as it did. -/
def linesRowsSpec : ChangeSpec := { name := "linesRows", fn := fun _ => fun
  | [d] => { results := [.lit (.bool true)], args := [d] }
  | _ => none }
def linesRowsRow : OpenClaim := { program := "ytloklfmgbolpeaa", sum := "3ccea836ddfee663d90ebc37f4c4deff1243e2e674be70aafc702787e0baee0a", func := "arbor/arborlaw01.LinesRows", spec := "linesRows", apart := false }
def LinesRowsSaid : Prop := linesRowsRow.holds Try.pinned (OpenSpec.ofChange linesRowsSpec)

/-- ITS FALSE NEIGHBOUR: 'it returns false'. Refute it at one input. -/
def linesRowsWrong : ChangeSpec := { name := "linesRows", fn := fun _ => fun
  | [d] => { results := [.lit (.bool false)], args := [d] }
  | _ => none }
def LinesRowsWrongFalsely : Prop := linesRowsRow.holds Try.pinned (OpenSpec.ofChange linesRowsWrong)

/- THE SECOND FORM. 'bulk': how many values and letters a reading holds, each counted each time it is reached (what is shared counts as often as it is met; a slice's spare places count too). A statement '..UptoSaid' is the law's where the arguments, and the package variables that the reading takes, are together of bulk at most 1048576: NARROWER than '..Said'. Prove '..Said' where nothing that the law and all that it calls make is longer than what came in: it says more and counts as full. Else prove '..UptoSaid'. A law counts once. -/
mutual
def uptoBulk {H : Type} : DataW H → Nat
  | .lit (.string bytes) => bytes.length + 1
  | .lit _ => 1
  | .nil => 1
  | .ptr d => uptoBulk d + 1
  | .slice elems spare => uptoBulkAll elems + uptoBulkAll spare + 1
  | .agg parts => uptoBulkAll parts + 1
  | .iface _ d => uptoBulk d + 1
  | .map entries => uptoBulkEntries entries + 1
  | .held _ => 1
def uptoBulkAll {H : Type} : List (DataW H) → Nat
  | [] => 0
  | d :: r => uptoBulk d + uptoBulkAll r
def uptoBulkEntries {H : Type} : List (Lit × DataW H) → Nat
  | [] => 0
  | x :: r => uptoBulkEntry x + uptoBulkEntries r
def uptoBulkEntry {H : Type} : Lit × DataW H → Nat
  | (.string bytes, d) => bytes.length + uptoBulk d + 1
  | (_, d) => uptoBulk d + 1
 end
def uptoSmall : (H : Type) → List (DataW H) → Bool := fun _ ds => decide (uptoBulkAll ds ≤ 1048576)
def OpenSpec.upto (s : _root_.Go.ChangeSpec) : _root_.Go.OpenSpec := { _root_.Go.OpenSpec.ofChange s with cond := some uptoSmall }

/-- 'arborlaw01.LinesReads', WHERE WHAT IT READS IS OF BULK AT MOST 1048576: true; the input reads as it did. -/
def linesReadsUptoRow : OpenClaim := { program := "ytloklfmgbolpeaa", sum := "3ccea836ddfee663d90ebc37f4c4deff1243e2e674be70aafc702787e0baee0a", func := "arbor/arborlaw01.LinesReads", spec := "linesReads", apart := false, narrowed := true }
def LinesReadsUptoSaid : Prop := linesReadsUptoRow.holds Try.pinned (OpenSpec.upto linesReadsSpec)

/-- 'arborlaw01.LinesNumbers', WHERE WHAT IT READS IS OF BULK AT MOST 1048576: true; the input reads as it did. -/
def linesNumbersUptoRow : OpenClaim := { program := "ytloklfmgbolpeaa", sum := "3ccea836ddfee663d90ebc37f4c4deff1243e2e674be70aafc702787e0baee0a", func := "arbor/arborlaw01.LinesNumbers", spec := "linesNumbers", apart := false, narrowed := true }
def LinesNumbersUptoSaid : Prop := linesNumbersUptoRow.holds Try.pinned (OpenSpec.upto linesNumbersSpec)

/-- 'arborlaw01.LinesRows', WHERE WHAT IT READS IS OF BULK AT MOST 1048576: true; the input reads as it did. -/
def linesRowsUptoRow : OpenClaim := { program := "ytloklfmgbolpeaa", sum := "3ccea836ddfee663d90ebc37f4c4deff1243e2e674be70aafc702787e0baee0a", func := "arbor/arborlaw01.LinesRows", spec := "linesRows", apart := false, narrowed := true }
def LinesRowsUptoSaid : Prop := linesRowsUptoRow.holds Try.pinned (OpenSpec.upto linesRowsSpec)

end Rows
end Go.Proofs.Ytloklfmgbolpeaa

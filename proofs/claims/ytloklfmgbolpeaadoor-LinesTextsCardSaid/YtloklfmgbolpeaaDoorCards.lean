/-
  DERIVED. GIVEN WITH THE SEED: THE CARDS: each row of YtloklfmgbolpeaaDoorRows.lean that lists a variable, with what it lists TIED to the program's text (the seventh form; the later family's looks); each row that meets fmt, with fmt's text TOLD by the authors' own Lean function (tested against real Go, not proved from fmt's source: count such statements apart). THE CARD IS WHAT COUNTS. Prove the row's statement (the work); the ties are given (YtloklfmgbolpeaaDoorTie.lean); close each card by the builder's one call (the guide's Derived/Test/ToyasCard.lean, 'card_holds'). Laid BY PROGRAM, IN A SANDBOX (cutbox-door.mjs). By AI agents, Wed Nov 11 2026. No macro, syntax, notation, axiom, sorry.
-/
import Derived.Test.YtloklfmgbolpeaaDoorRows
import GoSem.ClaimSeven
namespace Go.Proofs.YtloklfmgbolpeaaDoor
namespace Rows

/-- THE TIED CARD OF 'arborlaw01.LinesTexts'. -/
def linesTextsCard : Claim7 := { stood := { row := linesTextsRow, standIns := [], harness := (true, "e76e3614dd4a18b99966259d6cc3575f3f4215e6672c38e0243abe8400f9c5e2"), looks := false }, kinds := [], alts := [], laidByText := true, laidKinds := [.data, .data, .data], laidTests := true, laidLooks := .later }
def LinesTextsCardSaid : Prop := Claim7.holds Tryd.pinned (.plain (OpenSpec.ofChange linesTextsSpec)) linesTextsCard

/-- THE TIED CARD OF 'arborlaw01.LinesCut'. -/
def linesCutCard : Claim7 := { stood := { row := linesCutRow, standIns := [], harness := (true, "e76e3614dd4a18b99966259d6cc3575f3f4215e6672c38e0243abe8400f9c5e2"), looks := false }, kinds := [], alts := [], laidByText := true, laidKinds := [.data, .data, .data], laidTests := true, laidLooks := .later }
def LinesCutCardSaid : Prop := Claim7.holds Tryd.pinned (.plain (OpenSpec.ofChange linesCutSpec)) linesCutCard

/-- THE SECOND FORM's CARD OF 'arborlaw01.LinesTexts'. -/
def linesTextsUptoCard : Claim7 := { stood := { row := linesTextsUptoRow, standIns := [], harness := (true, "e76e3614dd4a18b99966259d6cc3575f3f4215e6672c38e0243abe8400f9c5e2"), looks := false }, kinds := [], alts := [], laidByText := true, laidKinds := [.data, .data, .data], laidTests := true, laidLooks := .later }
def LinesTextsUptoCardSaid : Prop := Claim7.holds Tryd.pinned (.plain (OpenSpec.upto linesTextsSpec)) linesTextsUptoCard

/-- THE SECOND FORM's CARD OF 'arborlaw01.LinesCut'. -/
def linesCutUptoCard : Claim7 := { stood := { row := linesCutUptoRow, standIns := [], harness := (true, "e76e3614dd4a18b99966259d6cc3575f3f4215e6672c38e0243abe8400f9c5e2"), looks := false }, kinds := [], alts := [], laidByText := true, laidKinds := [.data, .data, .data], laidTests := true, laidLooks := .later }
def LinesCutUptoCardSaid : Prop := Claim7.holds Tryd.pinned (.plain (OpenSpec.upto linesCutSpec)) linesCutUptoCard
end Rows
end Go.Proofs.YtloklfmgbolpeaaDoor

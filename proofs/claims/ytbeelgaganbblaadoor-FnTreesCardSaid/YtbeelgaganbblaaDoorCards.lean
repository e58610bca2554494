/-
  DERIVED. GIVEN WITH THE SEED: THE CARDS: each row of YtbeelgaganbblaaDoorRows.lean that lists a variable, with what it lists TIED to the program's text (the seventh form; the later family's looks); each row that meets fmt, with fmt's text TOLD by the authors' own Lean function (tested against real Go, not proved from fmt's source: count such statements apart). THE CARD IS WHAT COUNTS. Prove the row's statement (the work); the ties are given (YtbeelgaganbblaaDoorTie.lean); close each card by the builder's one call (the guide's Derived/Test/ToyasCard.lean, 'card_holds'). Laid BY PROGRAM, IN A SANDBOX (cutbox-door.mjs). By AI agents, Wed Nov 11 2026. No macro, syntax, notation, axiom, sorry.
-/
import Derived.Test.YtbeelgaganbblaaDoorRows
import GoSem.ClaimSeven
namespace Go.Proofs.YtbeelgaganbblaaDoor
namespace Rows

/-- THE TIED CARD OF 'laws.FnExactGoodTree'. -/
def fnExactGoodTreeCard : Claim7 := { stood := { row := fnExactGoodTreeRow, standIns := [], harness := (true, "547a888c6531178390a3e52b68e995872302d9132279381f1517d06a21eed505"), looks := false }, kinds := [], alts := [], laidByText := true, laidKinds := [.data, .pinned], laidTests := true, laidLooks := .later }
def FnExactGoodTreeCardSaid : Prop := Claim7.holds Tryd.pinned (.plain (OpenSpec.ofChange fnExactGoodTreeSpec)) fnExactGoodTreeCard

/-- THE TIED CARD OF 'laws.FnExactWriteTree'. -/
def fnExactWriteTreeCard : Claim7 := { stood := { row := fnExactWriteTreeRow, standIns := [], harness := (true, "547a888c6531178390a3e52b68e995872302d9132279381f1517d06a21eed505"), looks := false }, kinds := [], alts := [], laidByText := true, laidKinds := [.data, .pinned], laidTests := true, laidLooks := .later }
def FnExactWriteTreeCardSaid : Prop := Claim7.holds Tryd.pinned (.plain (OpenSpec.ofChange fnExactWriteTreeSpec)) fnExactWriteTreeCard

/-- THE TIED CARD OF 'laws.FnExactProofText'. -/
def fnExactProofTextCard : Claim7 := { stood := { row := fnExactProofTextRow, standIns := [], harness := (true, "547a888c6531178390a3e52b68e995872302d9132279381f1517d06a21eed505"), looks := false }, kinds := [], alts := [], laidByText := true, laidKinds := [.data, .data, .data], laidTests := true, laidLooks := .later }
def FnExactProofTextCardSaid : Prop := Claim7.holds Tryd.pinned (.plain (OpenSpec.ofChange fnExactProofTextSpec)) fnExactProofTextCard

/-- THE TIED CARD OF 'laws.FnTrees'. -/
def fnTreesCard : Claim7 := { stood := { row := fnTreesRow, standIns := [], harness := (true, "547a888c6531178390a3e52b68e995872302d9132279381f1517d06a21eed505"), looks := false }, kinds := [], alts := [], laidByText := true, laidKinds := [.data, .pinned], laidTests := true, laidLooks := .later }
def FnTreesCardSaid : Prop := Claim7.holds Tryd.pinned (.plain (OpenSpec.ofChange fnTreesSpec)) fnTreesCard

/-- THE SECOND FORM's CARD OF 'laws.FnExactGoodTree'. -/
def fnExactGoodTreeUptoCard : Claim7 := { stood := { row := fnExactGoodTreeUptoRow, standIns := [], harness := (true, "547a888c6531178390a3e52b68e995872302d9132279381f1517d06a21eed505"), looks := false }, kinds := [], alts := [], laidByText := true, laidKinds := [.data, .pinned], laidTests := true, laidLooks := .later }
def FnExactGoodTreeUptoCardSaid : Prop := Claim7.holds Tryd.pinned (.plain (OpenSpec.upto fnExactGoodTreeSpec)) fnExactGoodTreeUptoCard

/-- THE SECOND FORM's CARD OF 'laws.FnExactWriteTree'. -/
def fnExactWriteTreeUptoCard : Claim7 := { stood := { row := fnExactWriteTreeUptoRow, standIns := [], harness := (true, "547a888c6531178390a3e52b68e995872302d9132279381f1517d06a21eed505"), looks := false }, kinds := [], alts := [], laidByText := true, laidKinds := [.data, .pinned], laidTests := true, laidLooks := .later }
def FnExactWriteTreeUptoCardSaid : Prop := Claim7.holds Tryd.pinned (.plain (OpenSpec.upto fnExactWriteTreeSpec)) fnExactWriteTreeUptoCard

/-- THE SECOND FORM's CARD OF 'laws.FnExactProofText'. -/
def fnExactProofTextUptoCard : Claim7 := { stood := { row := fnExactProofTextUptoRow, standIns := [], harness := (true, "547a888c6531178390a3e52b68e995872302d9132279381f1517d06a21eed505"), looks := false }, kinds := [], alts := [], laidByText := true, laidKinds := [.data, .data, .data], laidTests := true, laidLooks := .later }
def FnExactProofTextUptoCardSaid : Prop := Claim7.holds Tryd.pinned (.plain (OpenSpec.upto fnExactProofTextSpec)) fnExactProofTextUptoCard

/-- THE SECOND FORM's CARD OF 'laws.FnTrees'. -/
def fnTreesUptoCard : Claim7 := { stood := { row := fnTreesUptoRow, standIns := [], harness := (true, "547a888c6531178390a3e52b68e995872302d9132279381f1517d06a21eed505"), looks := false }, kinds := [], alts := [], laidByText := true, laidKinds := [.data, .pinned], laidTests := true, laidLooks := .later }
def FnTreesUptoCardSaid : Prop := Claim7.holds Tryd.pinned (.plain (OpenSpec.upto fnTreesSpec)) fnTreesUptoCard
end Rows
end Go.Proofs.YtbeelgaganbblaaDoor

/-
  DERIVED. GIVEN WITH THE SEED: THE CARDS: each row of YthfjiaodhladmaaDoorRows.lean that lists a variable, with what it lists TIED to the program's text (the seventh form; the later family's looks); each row that meets fmt, with fmt's text TOLD by the authors' own Lean function (tested against real Go, not proved from fmt's source: count such statements apart). THE CARD IS WHAT COUNTS. Prove the row's statement (the work); the ties are given (YthfjiaodhladmaaDoorTie.lean); close each card by the builder's one call (the guide's Derived/Test/ToyasCard.lean, 'card_holds'). Laid BY PROGRAM, IN A SANDBOX (cutbox-door.mjs). By AI agents, Wed Nov 11 2026. No macro, syntax, notation, axiom, sorry.
-/
import Derived.Test.YthfjiaodhladmaaDoorRows
import GoSem.ClaimSeven
namespace Go.Proofs.YthfjiaodhladmaaDoor
namespace Rows

/-- THE TIED CARD OF 'laws.FnExactReadSort'. -/
def fnExactReadSortCard : Claim7 := { stood := { row := fnExactReadSortRow, standIns := [], harness := (true, "927685b7231e12aef89f1e21c81019f9902701205c0e0c08830fde1502de0eb8"), looks := true }, kinds := [], alts := [], laidByText := true, laidKinds := [.data, .data, .data, .sentinel, .sentinel], laidTests := true, laidLooks := .later }
def FnExactReadSortCardSaid : Prop := Claim7.holds Tryd.pinned (.plain (OpenSpec.ofChange fnExactReadSortSpec)) fnExactReadSortCard

/-- THE TIED CARD OF 'laws.FnExactFirstValue'. -/
def fnExactFirstValueCard : Claim7 := { stood := { row := fnExactFirstValueRow, standIns := [], harness := (true, "927685b7231e12aef89f1e21c81019f9902701205c0e0c08830fde1502de0eb8"), looks := true }, kinds := [], alts := [], laidByText := true, laidKinds := [.data, .data, .data, .sentinel, .sentinel], laidTests := true, laidLooks := .later }
def FnExactFirstValueCardSaid : Prop := Claim7.holds Tryd.pinned (.plain (OpenSpec.ofChange fnExactFirstValueSpec)) fnExactFirstValueCard

/-- THE SECOND FORM's CARD OF 'laws.FnExactReadSort'. -/
def fnExactReadSortUptoCard : Claim7 := { stood := { row := fnExactReadSortUptoRow, standIns := [], harness := (true, "927685b7231e12aef89f1e21c81019f9902701205c0e0c08830fde1502de0eb8"), looks := true }, kinds := [], alts := [], laidByText := true, laidKinds := [.data, .data, .data, .sentinel, .sentinel], laidTests := true, laidLooks := .later }
def FnExactReadSortUptoCardSaid : Prop := Claim7.holds Tryd.pinned (.plain (OpenSpec.upto fnExactReadSortSpec)) fnExactReadSortUptoCard

/-- THE SECOND FORM's CARD OF 'laws.FnExactFirstValue'. -/
def fnExactFirstValueUptoCard : Claim7 := { stood := { row := fnExactFirstValueUptoRow, standIns := [], harness := (true, "927685b7231e12aef89f1e21c81019f9902701205c0e0c08830fde1502de0eb8"), looks := true }, kinds := [], alts := [], laidByText := true, laidKinds := [.data, .data, .data, .sentinel, .sentinel], laidTests := true, laidLooks := .later }
def FnExactFirstValueUptoCardSaid : Prop := Claim7.holds Tryd.pinned (.plain (OpenSpec.upto fnExactFirstValueSpec)) fnExactFirstValueUptoCard
end Rows
end Go.Proofs.YthfjiaodhladmaaDoor

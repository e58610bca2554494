/-
  DERIVED. GIVEN WITH THE SEED: THE CARDS: each row of YtljjenkaofcppaaDoorRows.lean that lists a variable, with what it lists TIED to the program's text (the seventh form; the later family's looks); each row that meets fmt, with fmt's text TOLD by the authors' own Lean function (tested against real Go, not proved from fmt's source: count such statements apart). THE CARD IS WHAT COUNTS. Prove the row's statement (the work); the ties are given (YtljjenkaofcppaaDoorTie.lean); close each card by the builder's one call (the guide's Derived/Test/ToyasCard.lean, 'card_holds'). Laid BY PROGRAM, IN A SANDBOX (cutbox-door.mjs). By AI agents, Wed Nov 11 2026. No macro, syntax, notation, axiom, sorry.
-/
import Derived.Test.YtljjenkaofcppaaDoorRows
import GoSem.ClaimSeven
namespace Go.Proofs.YtljjenkaofcppaaDoor
namespace Rows

/-- THE TIED CARD OF 'laws.FnExactIntOf'. -/
def fnExactIntOfCard : Claim7 := { stood := { row := fnExactIntOfRow, standIns := [], harness := (true, "0003140f27900a03ebb95b777a906df66be19af47f93ba67fd1dfd028162e0f8"), looks := false }, kinds := [], alts := [], laidByText := true, laidKinds := [.data, .data, .data], laidTests := true, laidLooks := .later }
def FnExactIntOfCardSaid : Prop := Claim7.holds Tryd.pinned (.plain (OpenSpec.ofChange fnExactIntOfSpec)) fnExactIntOfCard

/-- THE SECOND FORM's CARD OF 'laws.FnExactIntOf'. -/
def fnExactIntOfUptoCard : Claim7 := { stood := { row := fnExactIntOfUptoRow, standIns := [], harness := (true, "0003140f27900a03ebb95b777a906df66be19af47f93ba67fd1dfd028162e0f8"), looks := false }, kinds := [], alts := [], laidByText := true, laidKinds := [.data, .data, .data], laidTests := true, laidLooks := .later }
def FnExactIntOfUptoCardSaid : Prop := Claim7.holds Tryd.pinned (.plain (OpenSpec.upto fnExactIntOfSpec)) fnExactIntOfUptoCard
end Rows
end Go.Proofs.YtljjenkaofcppaaDoor

/- What the tree laws' rows tell a walk (the cell of MaxLen), and a world for the witness: utf8's two tables laid. -/
import Derived.Test.YtbeelgaganbblaaDoorGoodN
import Derived.Test.YtbeelgaganbblaaDoorRows
import Derived.ProofKit
import Derived.OpenShut
import Derived.LaidSub
import Derived.LaidLaws
import Derived.Lib.LaidTab
import Derived.Shelf.Vars
import GoSem.PinnedTables
namespace Go.Proofs.YtbeelgaganbblaaDoor.Lt
open Go.ChangeShapes Go.WideShapes Go.ChangeAt Go.RowKit Go.Proofs.YtbeelgaganbblaaDoor
set_option linter.unusedVariables false
set_option linter.unusedSimpArgs false
set_option maxRecDepth 100000
theorem tabs {W : World} (hs : W.ShapedOpen Tryd.prog) : Gn.Tab W :=
  Go.Proofs.cell_of_shapedOpen_int (g := 0) (t := 3) (zero := #[.int .i64 0]) hs (of_decide_eq_true (by kernel_rfl)) (by kernel_rfl) rfl (by kernel_rfl) (by kernel_rfl) Tryd.underlying3
/-- a world for the witness: the settled one, the tables as their initialisers lay them -/
noncomputable def row (W : World) (g : Nat) (l : List Int) (k : IntKind) : World :=
  { W with heap := W.heap.modify g fun
      | .cells _ t frozen => .cells (l.map fun z => Value.int k z).toArray t frozen
      | o => o }
def ranges : List Int := [128, 191, 160, 191, 128, 159, 144, 191, 128, 143, 0, 0, 0, 0, 0, 0, 0, 0, 0, 0, 0, 0, 0, 0, 0, 0, 0, 0, 0, 0, 0, 0]
noncomputable def laidWorld (os : Os) : World :=
  row (row (World.holding Tryd.prog os ⟨#[], #[], []⟩) 2 ranges .u8) 1 (Go.Pinned.utf8FirstZ.map fun (n : Nat) => (n : Int)) .u8
end Go.Proofs.YtbeelgaganbblaaDoor.Lt

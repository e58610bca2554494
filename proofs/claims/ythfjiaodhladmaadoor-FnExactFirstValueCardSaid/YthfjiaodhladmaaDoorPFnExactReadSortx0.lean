-- Printed by wip/print2/make.py (the kit's print, told of contracts that are proved by hand). Lean checks it.
import Derived.Test.YthfjiaodhladmaaDoorProg
import Derived.Below
import Derived.Deep.Draws
import Derived.Deep.AppendLies
import Derived.Maps.AppendAt
import Derived.OwnWalk
import Derived.Laws.BytesArg
import Derived.Laws.MakeOwn
import Derived.Laws.OwnMore
import Derived.Deep.OwnRows
import Derived.Tactics
import Derived.Lib.ConvBytes
import Derived.Laws.Slices
import Derived.WalkKit
import Derived.KernelRfl
import Derived.RowKit3
import Derived.Deep.LoopGhost
import Derived.Deep.QuietTactic
import Derived.BigQuiet
import Derived.WideLaws
import Derived.Deep.DeepCutAuto
import Derived.Deep.CutBlock
import Derived.Deep.RegionHeld3
import Derived.Laws.Rows
import Derived.Lib.AppendStr
import Derived.ArgAppend
import Derived.Laws.IdiomCopy
import Derived.OrdersHeld
import Derived.Laws.BitsLemmas
import Derived.RowKit
import Derived.Test.YthfjiaodhladmaaDoorTokA
import Derived.Test.YthfjiaodhladmaaDoorWWords
import Derived.Test.YthfjiaodhladmaaDoorWLast
import Derived.Test.YthfjiaodhladmaaDoorWTab
import Derived.Test.YthfjiaodhladmaaDoorWFour
import Derived.Test.YthfjiaodhladmaaDoorWQPut
import Derived.Test.YthfjiaodhladmaaDoorWApart
import Derived.Test.YthfjiaodhladmaaDoorWArr
import Derived.Test.YthfjiaodhladmaaDoorWZeros
import Derived.Test.YthfjiaodhladmaaDoorWFoot
import Derived.Test.YthfjiaodhladmaaDoorWKept
import Derived.Test.YthfjiaodhladmaaDoorWShare
import Derived.Test.YthfjiaodhladmaaDoorWN
import Derived.Test.YthfjiaodhladmaaDoorWFootNe
import Derived.Test.YthfjiaodhladmaaDoorWAt
import Derived.Test.YthfjiaodhladmaaDoorWEqStruct
import Derived.Test.YthfjiaodhladmaaDoorWRepsOne
import Derived.Test.YthfjiaodhladmaaDoorWInv
import Derived.Test.YthfjiaodhladmaaDoorWInvWords
import Derived.Test.YthfjiaodhladmaaDoorWGuard
import Derived.Test.YthfjiaodhladmaaDoorWNEv
import Derived.Test.YthfjiaodhladmaaDoorWMore
namespace Go.Proofs.YthfjiaodhladmaaDoor.PFnExactReadSort
open Go.RowKit Go.Proofs.YthfjiaodhladmaaDoorW.PrintWords Go.Proofs.YthfjiaodhladmaaDoorW.PrintLast Go.Proofs.YthfjiaodhladmaaDoorW.PrintMore
attribute [local go_sem] max2_int min2_int max_two min_two max_three min_three max_four min_four   -- for this text's walks alone
set_option linter.unusedVariables false
set_option linter.unusedSimpArgs false



def errW : Option Int → Value
  | none => .nilIface
  | some c => .iface 64 (.int .i64 c)
theorem errW_none : errW none = .nilIface := rfl
theorem errW_some (c : Int) : errW (some c) = .iface 64 (.int .i64 c) := rfl

theorem info9 : (Tryd.prog.info? 9).map (fun i => (i.zero, i.size, i.bytes)) = some (some (.string ⟨#[]⟩), 1, 16) := by kernel_rfl
-- the values' own types

end Go.Proofs.YthfjiaodhladmaaDoor.PFnExactReadSort

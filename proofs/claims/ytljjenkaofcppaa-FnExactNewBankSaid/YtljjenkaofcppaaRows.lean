/-
  No cell of these rows narrows 'for every input' (looked for: loops, veiled, ifaces, maps, wideKeys, modest, calm, conditions, laid).
  DERIVED. THE GIVEN ROWS OF THIS SEAT. 5 by the template 'for every input the law returns true; each argument reads behind the call as it read before'; 0 by the template 'total and deterministic' (their statements: YtljjenkaofcppaaTotals.lean).
  GIVEN WITH THE SEED: the statements are not yours to turn. If you find one false, say at which input.
  Laid BY PROGRAM, IN A SANDBOX (cutbox-rows.mjs): the forced cells as the released guide's own fill.sh prints them over the translation ba0025d010a85016… (all of the seat's roots in one cut). By AI agents, Wed Nov 11 2026. No macro, syntax, notation, axiom, sorry.
-/
import Derived.Test.YtljjenkaofcppaaChecked
import GoSem.Claim
import GoSem.ClaimJoined
import GoSem.ClaimMapViews
import Derived.JoinedTies
import Derived.KernelRfl
namespace Go.Proofs.Ytljjenkaofcppaa
/- THE CELL 'sum', in the pinned program and in every row, IS THE sha256 OF THE DUMP (.gsa) THAT YtljjenkaofcppaaProg.lean LOADS. Nothing in Lean hashes anything: it is a label: what it is worth is what the hold of that sum in a sandbox is worth. -/
noncomputable def Try.pinned : Pinned := { name := "ytljjenkaofcppaa", sum := "ba0025d010a85016ec06d6df9a22e66489fbcdc6568b271c957ecb5db646960d", checked := Try.checked }
namespace Rows
def none {H : Type} : Left H := { results := [], args := [] }

/-- 'laws.FnExactConstants': WHATEVER THE INPUT: true; the input reads as it did. -/
def fnExactConstantsSpec : ChangeSpec := { name := "fnExactConstants", fn := fun _ => fun
  | [] => { results := [.lit (.bool true)], args := [] }
  | _ => none }
def fnExactConstantsRow : OpenClaim := { program := "ytljjenkaofcppaa", sum := "ba0025d010a85016ec06d6df9a22e66489fbcdc6568b271c957ecb5db646960d", func := "loop.example/g00007/laws.FnExactConstants", spec := "fnExactConstants", apart := false }
def FnExactConstantsSaid : Prop := fnExactConstantsRow.holds Try.pinned (OpenSpec.ofChange fnExactConstantsSpec)

/-- ITS FALSE NEIGHBOUR: 'it returns false'. Refute it at one input. -/
def fnExactConstantsWrong : ChangeSpec := { name := "fnExactConstants", fn := fun _ => fun
  | [] => { results := [.lit (.bool false)], args := [] }
  | _ => none }
def FnExactConstantsWrongFalsely : Prop := fnExactConstantsRow.holds Try.pinned (OpenSpec.ofChange fnExactConstantsWrong)

/-- 'laws.FnExactIsInt': WHATEVER THE INPUT: true; the input reads as it did. -/
def fnExactIsIntSpec : ChangeSpec := { name := "fnExactIsInt", fn := fun _ => fun
  | [d] => { results := [.lit (.bool true)], args := [d] }
  | _ => none }
def fnExactIsIntRow : OpenClaim := { program := "ytljjenkaofcppaa", sum := "ba0025d010a85016ec06d6df9a22e66489fbcdc6568b271c957ecb5db646960d", func := "loop.example/g00007/laws.FnExactIsInt", spec := "fnExactIsInt", apart := false }
def FnExactIsIntSaid : Prop := fnExactIsIntRow.holds Try.pinned (OpenSpec.ofChange fnExactIsIntSpec)

/-- ITS FALSE NEIGHBOUR: 'it returns false'. Refute it at one input. -/
def fnExactIsIntWrong : ChangeSpec := { name := "fnExactIsInt", fn := fun _ => fun
  | [d] => { results := [.lit (.bool false)], args := [d] }
  | _ => none }
def FnExactIsIntWrongFalsely : Prop := fnExactIsIntRow.holds Try.pinned (OpenSpec.ofChange fnExactIsIntWrong)

/-- 'laws.FnExactBitsOp': WHATEVER THE INPUT: true; the input reads as it did. -/
def fnExactBitsOpSpec : ChangeSpec := { name := "fnExactBitsOp", fn := fun _ => fun
  | [d1, d2, d3, d4] => { results := [.lit (.bool true)], args := [d1, d2, d3, d4] }
  | _ => none }
def fnExactBitsOpRow : OpenClaim := { program := "ytljjenkaofcppaa", sum := "ba0025d010a85016ec06d6df9a22e66489fbcdc6568b271c957ecb5db646960d", func := "loop.example/g00007/laws.FnExactBitsOp", spec := "fnExactBitsOp", unfollowed := true, recurses := true, apart := false }
def FnExactBitsOpSaid : Prop := fnExactBitsOpRow.holds Try.pinned (OpenSpec.ofChange fnExactBitsOpSpec)

/-- ITS FALSE NEIGHBOUR: 'it returns false'. Refute it at one input. -/
def fnExactBitsOpWrong : ChangeSpec := { name := "fnExactBitsOp", fn := fun _ => fun
  | [d1, d2, d3, d4] => { results := [.lit (.bool false)], args := [d1, d2, d3, d4] }
  | _ => none }
def FnExactBitsOpWrongFalsely : Prop := fnExactBitsOpRow.holds Try.pinned (OpenSpec.ofChange fnExactBitsOpWrong)

/-- 'laws.FnExactNewBank': WHATEVER THE INPUT: true; the input reads as it did. -/
def fnExactNewBankSpec : ChangeSpec := { name := "fnExactNewBank", fn := fun _ => fun
  | [] => { results := [.lit (.bool true)], args := [] }
  | _ => none }
def fnExactNewBankRow : OpenClaim := { program := "ytljjenkaofcppaa", sum := "ba0025d010a85016ec06d6df9a22e66489fbcdc6568b271c957ecb5db646960d", func := "loop.example/g00007/laws.FnExactNewBank", spec := "fnExactNewBank", apart := false }
def FnExactNewBankSaid : Prop := fnExactNewBankRow.holds Try.pinned (OpenSpec.ofChange fnExactNewBankSpec)

/-- ITS FALSE NEIGHBOUR: 'it returns false'. Refute it at one input. -/
def fnExactNewBankWrong : ChangeSpec := { name := "fnExactNewBank", fn := fun _ => fun
  | [] => { results := [.lit (.bool false)], args := [] }
  | _ => none }
def FnExactNewBankWrongFalsely : Prop := fnExactNewBankRow.holds Try.pinned (OpenSpec.ofChange fnExactNewBankWrong)

/-- 'laws.FnExactGoodRows': WHATEVER THE INPUT: true; the input reads as it did. -/
def fnExactGoodRowsSpec : ChangeSpec := { name := "fnExactGoodRows", fn := fun _ => fun
  | [d1, d2] => { results := [.lit (.bool true)], args := [d1, d2] }
  | _ => none }
def fnExactGoodRowsRow : OpenClaim := { program := "ytljjenkaofcppaa", sum := "ba0025d010a85016ec06d6df9a22e66489fbcdc6568b271c957ecb5db646960d", func := "loop.example/g00007/laws.FnExactGoodRows", spec := "fnExactGoodRows", unfollowed := true, recurses := true, apart := false }
def FnExactGoodRowsSaid : Prop := fnExactGoodRowsRow.holds Try.pinned (OpenSpec.ofChange fnExactGoodRowsSpec)

/-- ITS FALSE NEIGHBOUR: 'it returns false'. Refute it at one input. -/
def fnExactGoodRowsWrong : ChangeSpec := { name := "fnExactGoodRows", fn := fun _ => fun
  | [d1, d2] => { results := [.lit (.bool false)], args := [d1, d2] }
  | _ => none }
def FnExactGoodRowsWrongFalsely : Prop := fnExactGoodRowsRow.holds Try.pinned (OpenSpec.ofChange fnExactGoodRowsWrong)

/- THE SECOND FORM. 'bulk': how many values and letters a reading holds, each counted each time it is reached (what is shared counts as often as it is met; a slice's spare places count too). A statement '..UptoSaid' is the law's where the arguments, and the package variables that the reading takes, are together of bulk at most 1048576: NARROWER than '..Said'. Prove '..Said' where nothing that the law and all that it calls make is longer than what came in: it says more and counts as full. Else prove '..UptoSaid'. A law counts once. -/
mutual
def uptoBulk {H : Type} : DataW H → Nat
  | .lit (.string bytes) => bytes.length + 1
  | .lit _ => 1
  | .nil => 1
  | .ptr d => uptoBulk d + 1
  | .slice elems spare => uptoBulkAll elems + uptoBulkAll spare + 1
  | .agg parts => uptoBulkAll parts + 1
  | .iface _ d => uptoBulk d + 1
  | .map entries => uptoBulkEntries entries + 1
  | .held _ => 1
def uptoBulkAll {H : Type} : List (DataW H) → Nat
  | [] => 0
  | d :: r => uptoBulk d + uptoBulkAll r
def uptoBulkEntries {H : Type} : List (Lit × DataW H) → Nat
  | [] => 0
  | x :: r => uptoBulkEntry x + uptoBulkEntries r
def uptoBulkEntry {H : Type} : Lit × DataW H → Nat
  | (.string bytes, d) => bytes.length + uptoBulk d + 1
  | (_, d) => uptoBulk d + 1
 end
def uptoSmall : (H : Type) → List (DataW H) → Bool := fun _ ds => decide (uptoBulkAll ds ≤ 1048576)
def OpenSpec.upto (s : _root_.Go.ChangeSpec) : _root_.Go.OpenSpec := { _root_.Go.OpenSpec.ofChange s with cond := some uptoSmall }

/-- 'laws.FnExactConstants', WHERE WHAT IT READS IS OF BULK AT MOST 1048576: true; the input reads as it did. -/
def fnExactConstantsUptoRow : OpenClaim := { program := "ytljjenkaofcppaa", sum := "ba0025d010a85016ec06d6df9a22e66489fbcdc6568b271c957ecb5db646960d", func := "loop.example/g00007/laws.FnExactConstants", spec := "fnExactConstants", apart := false, narrowed := true }
def FnExactConstantsUptoSaid : Prop := fnExactConstantsUptoRow.holds Try.pinned (OpenSpec.upto fnExactConstantsSpec)

/-- 'laws.FnExactIsInt', WHERE WHAT IT READS IS OF BULK AT MOST 1048576: true; the input reads as it did. -/
def fnExactIsIntUptoRow : OpenClaim := { program := "ytljjenkaofcppaa", sum := "ba0025d010a85016ec06d6df9a22e66489fbcdc6568b271c957ecb5db646960d", func := "loop.example/g00007/laws.FnExactIsInt", spec := "fnExactIsInt", apart := false, narrowed := true }
def FnExactIsIntUptoSaid : Prop := fnExactIsIntUptoRow.holds Try.pinned (OpenSpec.upto fnExactIsIntSpec)

/-- 'laws.FnExactBitsOp', WHERE WHAT IT READS IS OF BULK AT MOST 1048576: true; the input reads as it did. -/
def fnExactBitsOpUptoRow : OpenClaim := { program := "ytljjenkaofcppaa", sum := "ba0025d010a85016ec06d6df9a22e66489fbcdc6568b271c957ecb5db646960d", func := "loop.example/g00007/laws.FnExactBitsOp", spec := "fnExactBitsOp", unfollowed := true, recurses := true, apart := false, narrowed := true }
def FnExactBitsOpUptoSaid : Prop := fnExactBitsOpUptoRow.holds Try.pinned (OpenSpec.upto fnExactBitsOpSpec)

/-- 'laws.FnExactNewBank', WHERE WHAT IT READS IS OF BULK AT MOST 1048576: true; the input reads as it did. -/
def fnExactNewBankUptoRow : OpenClaim := { program := "ytljjenkaofcppaa", sum := "ba0025d010a85016ec06d6df9a22e66489fbcdc6568b271c957ecb5db646960d", func := "loop.example/g00007/laws.FnExactNewBank", spec := "fnExactNewBank", apart := false, narrowed := true }
def FnExactNewBankUptoSaid : Prop := fnExactNewBankUptoRow.holds Try.pinned (OpenSpec.upto fnExactNewBankSpec)

/-- 'laws.FnExactGoodRows', WHERE WHAT IT READS IS OF BULK AT MOST 1048576: true; the input reads as it did. -/
def fnExactGoodRowsUptoRow : OpenClaim := { program := "ytljjenkaofcppaa", sum := "ba0025d010a85016ec06d6df9a22e66489fbcdc6568b271c957ecb5db646960d", func := "loop.example/g00007/laws.FnExactGoodRows", spec := "fnExactGoodRows", unfollowed := true, recurses := true, apart := false, narrowed := true }
def FnExactGoodRowsUptoSaid : Prop := fnExactGoodRowsUptoRow.holds Try.pinned (OpenSpec.upto fnExactGoodRowsSpec)

end Rows
end Go.Proofs.Ytljjenkaofcppaa

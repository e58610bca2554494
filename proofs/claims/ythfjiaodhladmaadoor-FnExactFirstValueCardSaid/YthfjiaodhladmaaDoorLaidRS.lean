/- What the rows' laid variables tell a walk (the cells of MaxLen, ErrSyntax, ErrRange), and a world for the witness. -/
import Derived.Test.YthfjiaodhladmaaDoorRSort
import Derived.Test.YthfjiaodhladmaaDoorRows
import Derived.ProofKit
import Derived.OpenShut
import Derived.LaidSub
import Derived.LaidLaws
import Derived.Lib.LaidTab
import Derived.Shelf.Vars
namespace Go.Proofs.YthfjiaodhladmaaDoor.RS
open Go.ChangeShapes Go.WideShapes Go.ChangeAt Go.RowKit Go.Proofs.YthfjiaodhladmaaDoor
set_option linter.unusedVariables false
set_option linter.unusedSimpArgs false
set_option maxRecDepth 100000
theorem gSyn : Tryd.prog.globalNamed "strconv.ErrSyntax" = some 1 := by kernel_rfl
theorem gRan : Tryd.prog.globalNamed "strconv.ErrRange" = some 2 := by kernel_rfl
theorem gSynT : (Tryd.prog.globals[1]?).map (·.type) = some 44 := by kernel_rfl
theorem gRanT : (Tryd.prog.globals[2]?).map (·.type) = some 44 := by kernel_rfl
theorem err_cell {W : World} {n : String} {g : Nat} {d : DataW Unit} {nm : String} (hg : Tryd.prog.globalNamed n = some g) (ht : (Tryd.prog.globals[g]?).map (·.type) = some 44) (h : laidMet Tryd.prog [(n, .iface nm d)] W) :
    ∃ ev, W.cell? ⟨g, 0, none⟩ = some ev ∧ (ev = .nilIface ∨ ∃ te pe, ev = .iface te pe) := by
  obtain ⟨ps, ⟨g0, t0, cs0, f0, p0, q0, hg0, ht0, hv0, hd0, _⟩, hnd, hrows⟩ := h
  obtain rfl := Option.some.inj (hg.symm.trans hg0)
  obtain rfl := Option.some.inj (ht.symm.trans ht0)
  obtain ⟨f, u, v, hcs, _⟩ := iface_of_trod Tryd.underlying44 hd0
  obtain ⟨l0⟩ := cs0
  simp only at hcs
  subst hcs
  exact ⟨.iface u v, by rw [World.var?_cell hg hv0 0]; rfl, .inr ⟨u, v, rfl⟩⟩
theorem tabs {W : World} (h : laidMetH Tryd.prog Rows.fnExactReadSortRow.laid W) (hs : W.ShapedOpen Tryd.prog) : Tabs W := by
  refine ⟨?_, ?_, ?_⟩
  · exact Go.Proofs.cell_of_shapedOpen_int (g := 0) (t := 3) (zero := #[.int .i64 0]) hs (of_decide_eq_true (by kernel_rfl)) (by kernel_rfl) rfl (by kernel_rfl) (by kernel_rfl) Tryd.underlying3
  · have h2 := laidMetH.filter (fun x => x.1 == "strconv.ErrSyntax") h
    have e : Rows.fnExactReadSortRow.laid.filter (fun x => x.1 == "strconv.ErrSyntax") = [("strconv.ErrSyntax", Rows.laid_strconv_ErrSyntax)] := by kernel_rfl
    rw [e] at h2
    exact err_cell gSyn gSynT (show laidMet Tryd.prog [("strconv.ErrSyntax", Rows.laid_strconv_ErrSyntax)] W from h2)
  · have h2 := laidMetH.filter (fun x => x.1 == "strconv.ErrRange") h
    have e : Rows.fnExactReadSortRow.laid.filter (fun x => x.1 == "strconv.ErrRange") = [("strconv.ErrRange", Rows.laid_strconv_ErrRange)] := by kernel_rfl
    rw [e] at h2
    exact err_cell gRan gRanT (show laidMet Tryd.prog [("strconv.ErrRange", Rows.laid_strconv_ErrRange)] W from h2)
/-- a world for the witness: the settled one, the tables as their initialisers lay them, two errors -/
noncomputable def row (W : World) (g : Nat) (l : List Int) (k : IntKind) : World :=
  { W with heap := W.heap.modify g fun
      | .cells _ t frozen => .cells (l.map fun z => Value.int k z).toArray t frozen
      | o => o }
noncomputable def err (W : World) (g : Nat) (b : Nat) : World :=
  { W with heap := W.heap.modify g fun
      | .cells _ t frozen => .cells #[.iface 93 (.pointer (some ⟨b, 0, none⟩))] t frozen
      | o => o }
def tab32 : List Int := [0, 1, 28, 2, 29, 14, 24, 3, 30, 22, 20, 15, 25, 17, 4, 8, 31, 27, 13, 23, 21, 19, 16, 7, 26, 12, 18, 6, 11, 5, 10, 9]
def tab64 : List Int := [0, 1, 56, 2, 57, 49, 28, 3, 61, 58, 42, 50, 38, 29, 17, 4, 62, 47, 59, 36, 45, 43, 51, 22, 53, 39, 33, 30, 24, 18, 12, 5, 63, 55, 48, 27, 60, 41, 37, 16, 46, 35, 44, 21, 52, 32, 23, 11, 54, 26, 40, 15, 34, 20, 31, 10, 25, 14, 19, 9, 13, 8, 7, 6]
abbrev synS : ByteArray := { data := #[105, 110, 118, 97, 108, 105, 100, 32, 115, 121, 110, 116, 97, 120] }
abbrev ranS : ByteArray := { data := #[118, 97, 108, 117, 101, 32, 111, 117, 116, 32, 111, 102, 32, 114, 97, 110, 103, 101] }
noncomputable def low : Nat := (World.holding Tryd.prog default ⟨#[], #[], []⟩).heap.size
noncomputable def laidWorld (os : Os) : World :=
  err (err (row (row (row (World.holding Tryd.prog os ⟨#[.cells #[.string synS] 95, .cells #[.string ranS] 95], #[], []⟩) 3 Lib.pow10Tab .u64) 4 tab32 .u8) 5 tab64 .u8) 1 low) 2 (low + 1)
theorem laid_met (os : Os) (args : Array Value) : laidMet Tryd.prog Rows.fnExactReadSortRow.laid ((laidWorld os).forCall (fun _ _ => 0) ⟨#[], args, []⟩).memory :=
  laidMet_of_run' 8 (by kernel_rfl) (by kernel_rfl)
end Go.Proofs.YthfjiaodhladmaaDoor.RS

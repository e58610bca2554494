/- laws.FnExactGoodRows, for every number of columns and every list of rows: the program's GoodRows answers as the reference's; the rows are not written to. No condition. -/
import Derived.Test.YtljjenkaofcppaaRows
import Derived.Test.YtljjenkaofcppaaPureFnExactGoodRows
import Derived.Test.YtljjenkaofcppaaOpn
import Derived.WalkKit
import Derived.ProofKit
import Derived.OpenShut
import Derived.ShutString
import Derived.ChangeOld
import Derived.Below
import Derived.Carry
import Derived.SizedLaws
namespace Go.Proofs.Ytljjenkaofcppaa.fnExactGoodRows
open Go.ChangeShapes Go.WideShapes Go.ChangeAt Go.RowKit
open Go.Proofs.Ytljjenkaofcppaa.Opn Go.Proofs.Ytljjenkaofcppaa.PFnExactGoodRows Go.Proofs.YtljjenkaofcppaaW.PrintWords
set_option linter.unusedVariables false
theorem own : ownKnob Try.prog.godebug = none := by kernel_rfl
theorem laidOut : laidOutB Try.prog = true := by kernel_rfl
theorem opens59 {H : Type} {enc : TypeId × Value → H} {w : World} {base : Nat} {spare : Nat → Bool} {held : Bool} : Opens enc Try.prog w base spare held k59 Pure.GR.Fits 59 := by
  intro fuel cs x h
  obtain ⟨y, hk, a, b, c, e, ga, gb, gc⟩ := opens_struct3 (enc := enc) (d0 := Kd.slice 9 Kd.string) (d1 := Kd.bool) (d2 := Kd.string) (f := fun x : S59 => (x.f0, x.f1, x.f2)) (fun a b c => (⟨a, b, c⟩ : S59)) (fun _ _ _ => rfl) Try.underlying59 rfl rfl rfl (by kernel_rfl) (by kernel_rfl) (by kernel_rfl) (by kernel_rfl)
    (opens_slice 9 Try.underlying27 (by kernel_rfl) (opens_string Try.underlying9)) (opens_bool Try.underlying4) (opens_string Try.underlying9) fuel cs x h
  subst e
  exact ⟨_, hk, by have := ga.1; unfold maxLen at this; show a.length ≤ _; omega, fun s hs => by have := ga.2 s hs; unfold maxLen at this; omega, by unfold maxLen at gc; show c.size ≤ _; omega⟩
set_option maxRecDepth 100000 in
theorem lifted (os : Os) (started : os.Started) (H : Type) (enc : TypeId × Value → H) :
    ReturnsInHanded {} Try.checked os 7 .any (Rows.fnExactGoodRowsSpec.pre6 enc Try.prog Try.f7 Rows.fnExactGoodRowsRow.domain false) (Rows.fnExactGoodRowsSpec.post enc Try.prog Try.f7 false true false false) := by
  refine returnsInHanded_of_change_sized (C := Try.checked) own started (by kernel_rfl) Try.func7
    (ChangeSpec.witness6 (enc := enc) (C := Try.checked) false ⟨#[], #[.int .i64 0, .slice none 0 0], []⟩ 8 (by kernel_rfl) (by kernel_rfl) (by kernel_rfl) (by kernel_rfl)) ?_
  intro W base args ds gs before hval0 hW hcnd hsz0 _
  have hval : ∀ (j : Nat) t v, Try.f7.params[j]? = some t → args[j]? = some v → Value.okWide Try.prog W .any base t v := hval0
  have hW' := hW
  obtain ⟨p, q, hA0, hV, rfl, hfz, hnd⟩ := hW
  have hA : DataW.TrodAll enc Try.prog W 0 (fun _ => true) true Try.f7.params.toList args.toList ds p := hA0
  rw [Try.params7] at hA hval
  obtain ⟨v0, vs0, d0, ds0, p0, q0, hargs, rfl, rfl, h0, r0⟩ := trodAll_cons hA
  obtain ⟨v1, vs1, d1, ds1, p1, q1, rfl, rfl, rfl, h1, r1⟩ := trodAll_cons r0
  obtain ⟨rfl, rfl, rfl⟩ := trodAll_nil r1
  obtain rfl : args = #[v0, v1] := by cases args; simp_all
  obtain ⟨rfl, rfl⟩ := trodVars_none hV
  obtain ⟨a0, rfl, rfl, rfl, w0⟩ := open_int Try.underlying3 (hval 0 3 v0 rfl rfl) h0
  obtain ⟨a1, len1, cap1, rfl⟩ := okWide_slice Try.underlying35 (hval 1 35 v1 rfl rfl)
  have k1 := h1
  have lt1 : ∀ x ∈ p1, x.block < W.heap.size := by obtain ⟨m, hm⟩ := k1; exact DataW.trod_lt m _ _ _ hm
  obtain ⟨l, hl, hle, hC, hG⟩ : ∃ l : List S59, l.length = len1 ∧ l.length ≤ cap1 ∧ Kd.C k59 W a1 l.length l ∧ (l.length ≤ maxLen ∧ ∀ x ∈ l, Pure.GR.Fits x) := by
    obtain ⟨fuel, hf⟩ := h1
    obtain ⟨l, ⟨A, c, hcs, hlc, hC⟩, hG⟩ := opens_slice (enc := enc) 59 Try.underlying35 (by kernel_rfl) opens59 _ _ _ hf
    simp [Value.cells] at hcs
    obtain ⟨rfl, rfl, rfl⟩ := hcs
    exact ⟨l, rfl, hlc, hC, hG⟩
  subst hl
  obtain ⟨k, hk⟩ := Pure.GR.law a0 l (by have := hG.1; unfold maxLen at this; omega) hG.2
  clear hA0 hval0 hsz0
  refine (laws_FnExactGoodRows.calls k a0 a1 cap1 l true W hC hle hk).mono fun e W' ⟨he, bel⟩ => ?_
  subst he
  exact ⟨_, rfl, _, _, _, [], _, [], hW', trodAll_mk1 (shut_bool Try.underlying4 _), (trodAll_cons_mk (shut_int Try.underlying3 w0) (trodAll_cons_mk (Below.trod laidOut (by kernel_rfl) (of_decide_eq_true (by kernel_rfl)) k1 bel lt1) trodAll_mk0)), rfl, bel.frame _, fun h => by cases h⟩
theorem over : Rows.fnExactGoodRowsRow.holds Try.pinned (OpenSpec.ofChange Rows.fnExactGoodRowsSpec) :=
  OpenClaim.holds_of_wide 7 Try.f7 rfl rfl rfl rfl rfl rfl rfl ⟨rfl, rfl, rfl, rfl, rfl⟩ rfl rfl rfl rfl rfl (by kernel_rfl) Try.func7 (by kernel_rfl)
    (of_decide_eq_true (by kernel_rfl)) (by unfold Func.isWrapper; first | (rw [if_pos (by decide +kernel)]; kernel_rfl) | (rw [if_neg (by decide +kernel)]; exact ⟨rfl, rfl⟩))
    (fun os started H enc _ => lifted os started H enc)
theorem proved : Rows.FnExactGoodRowsSaid := over
#print axioms proved
end Go.Proofs.Ytljjenkaofcppaa.fnExactGoodRows
namespace Go.Proofs.Ytljjenkaofcppaa
/-- The row, under a short name, for the claim. -/
theorem fnExactGoodRows_holds : Rows.FnExactGoodRowsSaid := fnExactGoodRows.proved
end Go.Proofs.Ytljjenkaofcppaa

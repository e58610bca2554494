/- laws.FnExactFirstValue, for every row of strings and every text: the program's FirstValue answers as the reference's; the row is not written to. Condition: the row's own (the two errors of strconv and the tables read as the program's text lays them), tied by the given tie. -/
import Derived.Test.YthfjiaodhladmaaDoorFvWalk
import Derived.Test.YthfjiaodhladmaaDoorLaidRS
import Derived.Test.YthfjiaodhladmaaDoorOpn
import Derived.Test.YthfjiaodhladmaaDoorCards
import Derived.Test.YthfjiaodhladmaaDoorTie
import Derived.WalkKit
import Derived.ProofKit
import Derived.OpenShut
import Derived.ShutString
import Derived.ChangeOld
import Derived.Below
import Derived.Carry
import Derived.SizedLaws
import Derived.Deep.DeepHandedRow
namespace Go.Proofs.YthfjiaodhladmaaDoor.FV
open Go.RowKit Go.Proofs.YthfjiaodhladmaaDoor Go.Proofs.YthfjiaodhladmaaDoorW.PrintWords Go.Proofs.YthfjiaodhladmaaDoorW.PrintLast Go.Proofs.YthfjiaodhladmaaDoorW.PrintMore Go.Proofs.YthfjiaodhladmaaDoor.By Go.Proofs.YthfjiaodhladmaaDoor.PFnExactReadSort Go.Proofs.YthfjiaodhladmaaDoor.PFnExactFirstValue Go.Proofs.YthfjiaodhladmaaDoor.Srt Go.Proofs.YthfjiaodhladmaaDoor.RS
set_option linter.unusedVariables false
set_option linter.unusedSimpArgs false
theorem law_true (l : List ByteArray) (s : ByteArray) (hl : l.length ≤ 9223372036854775807) (hs : ∀ x ∈ l, x.size ≤ 9223372036854775807) : ∃ k, laws_FnExactFirstValue.f k l s = some true := by
  by_cases hz : (s.size : Int) > 1048576
  · exact ⟨0, by unfold laws_FnExactFirstValue.f; rw [if_pos hz]⟩
  refine Evt.get (Evt.same (fun k => by unfold laws_FnExactFirstValue.f; rw [if_neg hz]) ?_)
  obtain ⟨t, ht, hc⟩ := szS l hl hs 1048576 (by omega) (by omega)
  refine Evt.bind ht ?_
  by_cases hn : t < 0
  · exact Evt.pure fun k => if_pos hn
  have hll : l.length ≤ 1048576 := by rcases hc with hc | ⟨_, _, h, _⟩ <;> omega
  refine Evt.same (fun k => if_neg hn) ?_
  have h1 := toS l hll
  obtain ⟨r, hr, hr2⟩ := s_first l hll s (by omega)
  refine Evt.bind h1 (Evt.bind hr (Evt.bind h1 ?_))
  have hi : impl_FirstValue.f l s = some (⟨(fvL (has l) (L s)).toArray⟩ : ByteArray) := by
    unfold impl_FirstValue.f
    exact if_pos ⟨hll, by omega⟩
  refine Evt.bind (f := fun _ => impl_FirstValue.f l s) (Evt.pure fun _ => hi) ?_
  have hfin : Evt (fun k => (laws_toStringS.f k l).bind fun t172 => (laws_eqStringS.f k l t172).bind fun t => if t = true then some true else some false) true := Evt.bind h1 (Evt.bind (eqS l hll) (Evt.pure fun k => if_pos rfl))
  exact Evt.same (fun k => if_pos (by rw [toList_L, toList_L, L_mk, hr2])) hfin
end Go.Proofs.YthfjiaodhladmaaDoor.FV
namespace Go.Proofs.YthfjiaodhladmaaDoor.fnExactFirstValue
open Go.ChangeShapes Go.WideShapes Go.ChangeAt Go.RowKit Go.Proofs.YthfjiaodhladmaaDoor Go.Proofs.YthfjiaodhladmaaDoor.Opn Go.Proofs.YthfjiaodhladmaaDoor.PFnExactFirstValue Go.Proofs.YthfjiaodhladmaaDoor.RS Go.Proofs.YthfjiaodhladmaaDoor.FV Go.Proofs.YthfjiaodhladmaaDoorW.PrintWords
set_option linter.unusedVariables false
set_option linter.unusedSimpArgs false
set_option maxRecDepth 100000
theorem own : ownKnob Tryd.prog.godebug = none := by kernel_rfl
theorem laidOut : laidOutB Tryd.prog = true := by kernel_rfl
/-- what the walk gives, for every argument and every world that holds the errors -/
theorem contract (H : Type) (enc : TypeId × Value → H) (W : World) (base : Nat) (args : Array Value) (ds gs : List (DataW H)) (before : List MemPlace)
    (hval : ∀ (j : Nat) t v, Tryd.f4.params[j]? = some t → args[j]? = some v → Value.okWide Tryd.prog W .any base t v)
    (hW : DataW.Whole enc Tryd.prog Tryd.f4.params.toList Rows.fnExactFirstValueSpec.vars false W args.toList ds gs before) (hL : laidMetH Tryd.prog Rows.fnExactFirstValueRow.laid W) (hsh : W.ShapedOpen Tryd.prog) :
    Calls Tryd.prog 4 args W fun e W' => ∃ v, e = .returned v ∧ Rows.fnExactFirstValueSpec.post enc Tryd.prog Tryd.f4 false true false false W args v W' := by
  have hW' := hW
  obtain ⟨p, q, hA0, hV, rfl, hfz, hnd⟩ := hW
  have hA : DataW.TrodAll enc Tryd.prog W 0 (fun _ => true) true Tryd.f4.params.toList args.toList ds p := hA0
  rw [Tryd.params4] at hA hval
  obtain ⟨v0, vs0, d0, ds0, p0, q0, hargs, rfl, rfl, h0, r0⟩ := trodAll_cons hA
  obtain ⟨v1, vs1, d1, ds1, p1, q1, rfl, rfl, rfl, h1, r1⟩ := trodAll_cons r0
  obtain ⟨rfl, rfl, rfl⟩ := trodAll_nil r1
  obtain rfl : args = #[v0, v1] := by cases args; simp_all
  obtain ⟨rfl, rfl⟩ := trodVars_none hV
  obtain ⟨a0, len0, cap0, rfl⟩ := okWide_slice Tryd.underlying22 (hval 0 22 v0 rfl rfl)
  have k0 := h0
  have k1 := h1
  have lt0 : ∀ x ∈ p0, x.block < W.heap.size := by obtain ⟨m, hm⟩ := k0; exact DataW.trod_lt m _ _ _ hm
  have lt1 : ∀ x ∈ p1, x.block < W.heap.size := by obtain ⟨m, hm⟩ := k1; exact DataW.trod_lt m _ _ _ hm
  obtain ⟨l, hl, hle, hC, hG⟩ : ∃ l : List ByteArray, l.length = len0 ∧ l.length ≤ cap0 ∧ Kd.C Kd.string W a0 l.length l ∧ (l.length ≤ maxLen ∧ ∀ x ∈ l, x.size ≤ maxLen) := by
    obtain ⟨fuel, hf⟩ := h0
    obtain ⟨l, ⟨A, c, hcs, hlc, hC⟩, hG⟩ := opens_slice (enc := enc) 9 Tryd.underlying22 (by kernel_rfl) (opens_string Tryd.underlying9) _ _ _ hf
    simp [Value.cells] at hcs
    obtain ⟨rfl, rfl, rfl⟩ := hcs
    exact ⟨l, rfl, hlc, hC, hG⟩
  subst hl
  obtain ⟨s, rfl⟩ : ∃ s, v1 = .string s := by
    obtain ⟨fuel, hf⟩ := h1
    obtain ⟨s, hs, _⟩ := opens_string (enc := enc) Tryd.underlying9 _ _ _ hf
    refine ⟨s, ?_⟩
    have hv := hval 1 9 v1 rfl rfl
    have hs' : v1.cells.toList = [.string s] := hs
    cases v1 <;> simp [Value.cells] at hs' <;> (try exact congrArg _ hs') <;> simp [Value.okWide, Cell.okWide, Cell.ok, Value.cells, Tryd.underlying9] at hv
  obtain ⟨k, hk⟩ := FV.law_true l s (by have := hG.1; unfold maxLen at this; omega) (fun x hx => by have := hG.2 x hx; unfold maxLen at this; omega)
  have hT : RS.Tabs W := tabs hL hsh
  clear hA0
  refine (laws_FnExactFirstValue.calls k a0 cap0 l s true W hT hC hle hk).mono fun e W' ⟨he, bel⟩ => ?_
  subst he
  exact ⟨_, rfl, _, _, _, [], _, [], hW', trodAll_mk1 (shut_bool Tryd.underlying4 _), (trodAll_cons_mk (Below.trod laidOut (by kernel_rfl) (of_decide_eq_true (by kernel_rfl)) k0 bel lt0) (trodAll_cons_mk (Below.trod laidOut (by kernel_rfl) (of_decide_eq_true (by kernel_rfl)) k1 bel lt1) trodAll_mk0)), rfl, bel.frame _, fun h => by cases h⟩
theorem reads (os : Os) {H : Type} (enc : TypeId × Value → H) : ∃ places, DataW.whole enc Tryd.prog ((laidWorld os).forCall (fun _ _ => 0) ⟨#[], #[.slice none 0 0, .string ⟨#[]⟩], []⟩).memory Tryd.f4.params.toList Rows.fnExactFirstValueSpec.vars false #[Value.slice none 0 0, Value.string ⟨#[]⟩].toList 8 = some ([.nil, .lit (.string [])], [], places) :=
  ⟨[], by kernel_rfl⟩
theorem lifted (os : Os) (started : os.Started) (H : Type) (enc : TypeId × Value → H) (F : Stop.Interp) :
    ReturnsInHanded {} Tryd.checked os 4 .any ((OpenSpec.ofChange Rows.fnExactFirstValueSpec).preRow enc Tryd.prog Tryd.f4 Rows.fnExactFirstValueRow.domain false Rows.fnExactFirstValueRow.laid) (((OpenSpec.ofChange Rows.fnExactFirstValueSpec).at F).post enc Tryd.prog Tryd.f4 false true false false) := by
  obtain ⟨places, hx⟩ := reads os enc
  refine returnsInHanded_of_row (C := Tryd.checked) (s := OpenSpec.ofChange Rows.fnExactFirstValueSpec) own started (by kernel_rfl) Tryd.func4
    (witness_row_at (enc := enc) (C := Tryd.checked) false (laidWorld os) #[.slice none 0 0, .string ⟨#[]⟩] rfl (by kernel_rfl) (by kernel_rfl) (by kernel_rfl)
      (OpenSpec.preRow_of_cond 8 hx (by kernel_rfl) (fun k hk => by cases hk) (by kernel_rfl) (laid_met os _))) ?_
  intro W base args ds gs before hval hW _ _ _ hL hsh _
  exact contract H enc W base args ds gs before hval hW hL hsh
theorem said : Rows.FnExactFirstValueSaid :=
  OpenClaim.holds_of_cond 4 Tryd.f4 rfl rfl rfl rfl rfl rfl rfl ⟨rfl, rfl, rfl, rfl, rfl⟩ rfl rfl rfl rfl rfl (by kernel_rfl) Tryd.func4 (by kernel_rfl)
    (of_decide_eq_true (by kernel_rfl)) (by unfold Func.isWrapper; first | (rw [if_pos (by decide +kernel)]; kernel_rfl) | (rw [if_neg (by decide +kernel)]; exact ⟨rfl, rfl⟩))
    (fun os started H enc _ F => by rw [OpenClaim.pre_eq_preRow]; exact lifted os started H enc F)
/-- no parameter wants a stand-in; the program's own looks are off: what the card asks -/
theorem plain (f : FuncId) (fn : Func) (hf : Tryd.pinned.checked.prog.funcNamed "loop.example/g00007/laws.FnExactFirstValue" = some f) (hfn : Tryd.pinned.checked.prog.funcs[f]? = some fn) :
    true = Tryd.pinned.checked.prog.looks [] ∧ ∀ (j : Nat) t, fn.params[j]? = some t → Tryd.pinned.checked.prog.wantsStandIn t = false := by
  obtain rfl : f = 4 := Option.some.inj ((show Tryd.prog.funcNamed "loop.example/g00007/laws.FnExactFirstValue" = some 4 by kernel_rfl).symm.trans hf) |>.symm
  obtain rfl : fn = Tryd.f4 := (Option.some.inj (Tryd.func4.symm.trans hfn)).symm
  refine ⟨by kernel_rfl, fun j t ht => ?_⟩
  rw [Tryd.params4] at ht
  have ht2 : t = 22 ∨ t = 9 := by simpa using Array.mem_of_getElem? ht
  rcases ht2 with rfl | rfl
  · exact (show Tryd.prog.wantsStandIn 22 = false by kernel_rfl)
  · exact (show Tryd.prog.wantsStandIn 9 = false by kernel_rfl)
/-- the card -/
theorem card : Rows.FnExactFirstValueCardSaid :=
  Claim7.holds_tied_plain_at .later [] _ _ _ _ said (fun _ h => by cases h) (by kernel_rfl) (fun _ h => by cases h) fnExactFirstValue_row_tie rfl ⟨rfl, rfl⟩ (by kernel_rfl) rfl plain (by kernel_rfl)
#print axioms card
end Go.Proofs.YthfjiaodhladmaaDoor.fnExactFirstValue
namespace Go.Proofs.YthfjiaodhladmaaDoor
/-- The card, under a short name, for the claim. -/
theorem fnExactFirstValue_card : Rows.FnExactFirstValueCardSaid := fnExactFirstValue.card
end Go.Proofs.YthfjiaodhladmaaDoor

/- laws.FnExactIntOf, for every uint64: the specification's text (limbs of nine digits, turned to decimal) and strconv.FormatUint's text are both the number's decimal numeral: the law returns true, changes nothing that was there. Condition: the row's own (the table of powers of ten reads as the program's text lays it), tied by the given tie. -/
import Derived.Test.YtljjenkaofcppaaDoorLimbK
import Derived.Test.YtljjenkaofcppaaDoorFormat
import Derived.Test.YtljjenkaofcppaaDoorCards
import Derived.Test.YtljjenkaofcppaaDoorTie
import Derived.ProofKit
import Derived.OpenShut
import Derived.Deep.DeepHandedRow
import Derived.Lib.LaidTab
import Derived.Lib.SmallJoins
namespace Go.Proofs.YtljjenkaofcppaaDoor.fnExactIntOf
open Go.ChangeShapes Go.WideShapes Go.ChangeAt Go.RowKit Go.Proofs.YtljjenkaofcppaaDoor Go.Proofs.YtljjenkaofcppaaDoor.By Go.Proofs.YtljjenkaofcppaaDoor.Dig Go.Proofs.YtljjenkaofcppaaDoor.Limb
set_option linter.unusedVariables false
set_option linter.unusedSimpArgs false
set_option maxRecDepth 100000

theorem spec_IntOf (n : Nat) (hn : n < 18446744073709551616) (w : World) :
    Calls Tryd.prog 4 #[.int .u64 n] w fun e w' => e = .returned (.string ⟨(Lib.decDigits n).toArray⟩) ∧ Below w.heap.size w w' := by
  go_enter Tryd.func4, Tryd.ntmps4
  go_wp2_with (fail)
  refine (spec_ofU n hn _).mono ?_
  rintro e w1 ⟨g, rfl, hg, hg1, hR, hb⟩
  have hk := text_kept false g 3 (top (limbsU n)) w1 ⟨hg1, fun j x hj => hR j x (top_get hj)⟩ (top_top _) (Nat.lt_of_le_of_lt (top_len _) (by simp [limbsU])) (fun x hx => limbsU_lt n hn x (top_mem hx)) (Nat.le_trans (top_len _) (by simp [limbsU]))
  rw [valB_top, limbsU_val] at hk
  have HT : Hid (decText false n = ⟨(Lib.decDigits n).toArray⟩) := rfl
  have HB : Hid (Below w.heap.size w w1) := hb
  clear hR hb hg
  obtain ⟨v, b, sl, l, k, hkept⟩ := kept_cases false g 0 3 (top (limbsU n))
  rw [hkept] at hk ⊢
  clear hkept
  have HK : Hid (Calls Tryd.prog 6 #[.agg #[.int .i64 v, .bool b, .slice sl l k]] w1 fun e w' => e = .returned (.string (decText false n)) ∧ Below w1.heap.size w1 w') := hk
  clear hk
  go_wp2_with (go_at_call 6; refine HK.out.mono ?_; rintro e w2 ⟨rfl, hb2⟩)
  go_ret
  exact ⟨by rw [HT.out]; rfl, HB.out.trans (hb2.mono HB.out.size)⟩

theorem own : ownKnob Tryd.prog.godebug = none := by kernel_rfl
theorem gTab : Tryd.prog.globalNamed "internal/strconv.uint64pow10" = some 0 := by kernel_rfl
theorem gTabType : (Tryd.prog.globals[0]?).map (·.type) = some 44 := by kernel_rfl
theorem cellsT : Tryd.prog.cellsOf 44 = 20 := by kernel_rfl
theorem cellsE : Tryd.prog.cellsOf 22 = 1 := by kernel_rfl
theorem table {W : World} (h : laidMetH Tryd.prog Rows.fnExactIntOfRow.laid W) : Lib.TabIs Tryd.prog W "internal/strconv.uint64pow10" .u64 Lib.pow10Tab := by
  have h2 := laidMetH.filter (fun x => x.1 == "internal/strconv.uint64pow10") h
  have e : Rows.fnExactIntOfRow.laid.filter (fun x => x.1 == "internal/strconv.uint64pow10") = [("internal/strconv.uint64pow10", Lib.tabData .u64 Lib.pow10Tab)] := by kernel_rfl
  rw [e] at h2
  exact Lib.tabIs_of_head (rest := []) gTab gTabType Tryd.underlying44 Tryd.underlying22 cellsE cellsT h2
theorem below_grow {B : Nat} {w W : World} {k : Nat} {os : Array Obj} (e : W = Go.Sort.grow (w.drewN k) os) (hB : B ≤ w.heap.size) : Below B w W := by
  subst e
  refine ⟨rfl, rfl, rfl, ?_, fun i hi => ?_⟩
  · rw [Go.Sort.size_grow]; exact Nat.le_add_right _ _
  · show ((w.drewN k).heap ++ os)[i]? = _
    rw [Array.getElem?_append_left (by show i < w.heap.size; omega)]; rfl
set_option maxHeartbeats 1000000 in
theorem law_walk (n : Nat) (hn : n < 18446744073709551616) (W : World) (htab : Lib.TabIs Tryd.prog W "internal/strconv.uint64pow10" .u64 Lib.pow10Tab) :
    Calls Tryd.prog 3 #[.int .u64 n] W fun e w' => e = .returned (.bool true) ∧ Below W.heap.size W w' := by
  go_enter Tryd.func3, Tryd.ntmps3
  go_wp2_with (fail)
  refine (spec_IntOf n hn _).mono ?_
  rintro e w1 ⟨rfl, hb⟩
  have htab1 : Lib.TabIs Tryd.prog w1 "internal/strconv.uint64pow10" .u64 Lib.pow10Tab := Joins.tab_stays gTab htab hb (Nat.le_refl _)
  have HB : Hid (Below W.heap.size W w1) := hb
  clear hb htab
  have hf := Fmt.formatUint n hn w1 htab1
  clear htab1
  have HF : Hid (Calls Tryd.prog 5 #[.int .u64 n] w1 fun e w' => e = .returned (.string ⟨(Lib.decDigits n).toArray⟩) ∧ ∃ k os, w' = Go.Sort.grow (w1.drewN k) os) := hf
  clear hf
  go_wp2_with (fail)
  refine HF.out.mono ?_
  rintro e w2 ⟨rfl, k, os, hw2⟩
  have HW : Hid _ := hw2
  clear hw2
  go_wp2_with (fail)
  go_ret
  exact ⟨rfl, HB.out.trans ((below_grow HW.out HB.out.size))⟩

/-- what the walk gives, for every argument and every world that holds the table -/
theorem contract (H : Type) (enc : TypeId × Value → H) (W : World) (base : Nat) (args : Array Value) (ds gs : List (DataW H)) (before : List MemPlace)
    (hval : ∀ (j : Nat) t v, Tryd.f3.params[j]? = some t → args[j]? = some v → Value.okWide Tryd.prog W .any base t v)
    (hW : DataW.Whole enc Tryd.prog Tryd.f3.params.toList Rows.fnExactIntOfSpec.vars false W args.toList ds gs before) (hL : laidMetH Tryd.prog Rows.fnExactIntOfRow.laid W) :
    Calls Tryd.prog 3 args W fun e W' => ∃ v, e = .returned v ∧ Rows.fnExactIntOfSpec.post enc Tryd.prog Tryd.f3 false true false false W args v W' := by
  have hW' := hW
  obtain ⟨p, q, hA0, hV, rfl, hfz, hnd⟩ := hW
  have hA : DataW.TrodAll enc Tryd.prog W 0 (fun _ => true) true Tryd.f3.params.toList args.toList ds p := hA0
  rw [Tryd.params3] at hA hval
  obtain ⟨v0, vs0, d0, ds0, p0, q0, hargs, rfl, rfl, h0, r0⟩ := trodAll_cons hA
  obtain ⟨rfl, rfl, rfl⟩ := trodAll_nil r0
  obtain rfl : args = #[v0] := by cases args; simp_all
  obtain ⟨rfl, rfl⟩ := trodVars_none hV
  obtain ⟨z, rfl, rfl, rfl, hr⟩ := open_int Tryd.underlying22 (hval 0 22 v0 rfl rfl) h0
  clear hA0
  simp only [List.append_nil] at hW'
  have hz : (decide ((0 : Int) ≤ z) && decide (z ≤ (18446744073709551615 : Int))) = true := hr
  rw [Bool.and_eq_true, decide_eq_true_eq, decide_eq_true_eq] at hz
  obtain ⟨n, rfl⟩ : ∃ n : Nat, z = n := ⟨z.toNat, by omega⟩
  refine (law_walk n (by omega) W (table hL)).mono fun e W' ⟨he, hg⟩ => ?_
  subst he
  exact ⟨_, rfl, _, _, _, [], _, [], hW', trodAll_mk1 (shut_bool Tryd.underlying4 _), (trodAll_cons_mk (shut_int Tryd.underlying22 hr) trodAll_mk0), rfl, hg.frame _, fun h => by cases h⟩
/-- a world for the witness: the settled one, the tables as their initialisers lay them -/
noncomputable def row (W : World) (g : Nat) (l : List Int) (k : IntKind) : World :=
  { W with heap := W.heap.modify g fun
      | .cells _ t frozen => .cells (l.map fun z => Value.int k z).toArray t frozen
      | o => o }
def tab32 : List Int := [0, 1, 28, 2, 29, 14, 24, 3, 30, 22, 20, 15, 25, 17, 4, 8, 31, 27, 13, 23, 21, 19, 16, 7, 26, 12, 18, 6, 11, 5, 10, 9]
def tab64 : List Int := [0, 1, 56, 2, 57, 49, 28, 3, 61, 58, 42, 50, 38, 29, 17, 4, 62, 47, 59, 36, 45, 43, 51, 22, 53, 39, 33, 30, 24, 18, 12, 5, 63, 55, 48, 27, 60, 41, 37, 16, 46, 35, 44, 21, 52, 32, 23, 11, 54, 26, 40, 15, 34, 20, 31, 10, 25, 14, 19, 9, 13, 8, 7, 6]
noncomputable def laidWorld (os : Os) : World :=
  row (row (row (World.holding Tryd.prog os ⟨#[], #[], []⟩) 0 Lib.pow10Tab .u64) 1 tab32 .u8) 2 tab64 .u8
theorem laid_met (os : Os) : laidMet Tryd.prog Rows.fnExactIntOfRow.laid ((laidWorld os).forCall (fun _ _ => 0) ⟨#[], #[.int .u64 0], []⟩).memory :=
  laidMet_of_run' 8 (by kernel_rfl) (by kernel_rfl)
theorem reads (os : Os) {H : Type} (enc : TypeId × Value → H) : ∃ places, DataW.whole enc Tryd.prog ((laidWorld os).forCall (fun _ _ => 0) ⟨#[], #[.int .u64 0], []⟩).memory Tryd.f3.params.toList Rows.fnExactIntOfSpec.vars false #[Value.int .u64 0].toList 8 = some ([.lit (.int .u64 0)], [], places) :=
  ⟨[], by kernel_rfl⟩
theorem lifted (os : Os) (started : os.Started) (H : Type) (enc : TypeId × Value → H) (F : Stop.Interp) :
    ReturnsInHanded {} Tryd.checked os 3 .any ((OpenSpec.ofChange Rows.fnExactIntOfSpec).preRow enc Tryd.prog Tryd.f3 Rows.fnExactIntOfRow.domain false Rows.fnExactIntOfRow.laid) (((OpenSpec.ofChange Rows.fnExactIntOfSpec).at F).post enc Tryd.prog Tryd.f3 false true false false) := by
  obtain ⟨places, hx⟩ := reads os enc
  refine returnsInHanded_of_row (C := Tryd.checked) (s := OpenSpec.ofChange Rows.fnExactIntOfSpec) own started (by kernel_rfl) Tryd.func3
    (witness_row_at (enc := enc) (C := Tryd.checked) false (laidWorld os) #[.int .u64 0] rfl (by kernel_rfl) (by kernel_rfl) (by kernel_rfl)
      (OpenSpec.preRow_of_cond 8 hx (by kernel_rfl) (fun k hk => by cases hk) (by kernel_rfl) (laid_met os))) ?_
  intro W base args ds gs before hval hW _ _ _ hL _ _
  exact contract H enc W base args ds gs before hval hW hL
theorem said : Rows.FnExactIntOfSaid :=
  OpenClaim.holds_of_cond 3 Tryd.f3 rfl rfl rfl rfl rfl rfl rfl ⟨rfl, rfl, rfl, rfl, rfl⟩ rfl rfl rfl rfl rfl (by kernel_rfl) Tryd.func3 (by kernel_rfl)
    (of_decide_eq_true (by kernel_rfl)) (by unfold Func.isWrapper; first | (rw [if_pos (by decide +kernel)]; kernel_rfl) | (rw [if_neg (by decide +kernel)]; exact ⟨rfl, rfl⟩))
    (fun os started H enc _ F => by rw [OpenClaim.pre_eq_preRow]; exact lifted os started H enc F)
/-- no parameter wants a stand-in; the program's own looks are off: what the card asks -/
theorem plain (f : FuncId) (fn : Func) (hf : Tryd.pinned.checked.prog.funcNamed "loop.example/g00007/laws.FnExactIntOf" = some f) (hfn : Tryd.pinned.checked.prog.funcs[f]? = some fn) :
    false = Tryd.pinned.checked.prog.looks [] ∧ ∀ (j : Nat) t, fn.params[j]? = some t → Tryd.pinned.checked.prog.wantsStandIn t = false := by
  obtain rfl : f = 3 := Option.some.inj ((show Tryd.prog.funcNamed "loop.example/g00007/laws.FnExactIntOf" = some 3 by kernel_rfl).symm.trans hf) |>.symm
  obtain rfl : fn = Tryd.f3 := (Option.some.inj (Tryd.func3.symm.trans hfn)).symm
  refine ⟨by kernel_rfl, fun j t ht => ?_⟩
  rw [Tryd.params3] at ht
  obtain rfl : t = 22 := by simpa using Array.mem_of_getElem? ht
  exact (show Tryd.prog.wantsStandIn 22 = false by kernel_rfl)
/-- the card -/
theorem card : Rows.FnExactIntOfCardSaid :=
  Claim7.holds_tied_plain_at .later [] _ _ _ _ said (fun _ h => by cases h) (by kernel_rfl) (fun _ h => by cases h) fnExactIntOf_row_tie rfl ⟨rfl, rfl⟩ (by kernel_rfl) rfl plain (by kernel_rfl)
#print axioms card
end Go.Proofs.YtljjenkaofcppaaDoor.fnExactIntOf
namespace Go.Proofs.YtljjenkaofcppaaDoor
/-- The card, under a short name, for the claim. -/
theorem fnExactIntOf_card : Rows.FnExactIntOfCardSaid := fnExactIntOf.card
end Go.Proofs.YtljjenkaofcppaaDoor

/- FnExactBitsOp: at every argument the program's BitsOp and the reference's answer alike; no condition. (The frame is the proof-skeleton's.) -/
import Derived.Test.YtljjenkaofcppaaRows
import Derived.WalkKit
import Derived.ProofKit
import Derived.OpenShut
import Derived.Test.YtljjenkaofcppaaBitsWalk
namespace Go.Proofs.Ytljjenkaofcppaa.fnExactBitsOp
open Go.ChangeShapes Go.WideShapes Go.ChangeAt Go.RowKit Go.Proofs.Ytljjenkaofcppaa.BitsOp Go.Proofs.YtljjenkaofcppaaW.PrintWords
set_option linter.unusedVariables false      -- a walk need not use every 'w<i>' (that an integer argument fits its kind)

theorem own : ownKnob Try.prog.godebug = none := by kernel_rfl

/-- What both functions answer. -/
def Same (op n a b : Int) : Prop := ∃ r : Int, (∀ w, Calls Try.prog 10 #[.int .i64 op, .int .i64 n, .int .u64 a, .int .u64 b] w fun e w' => e = .returned (.int .u64 r) ∧ Drawn0 w w') ∧
    (∀ w, Calls Try.prog 11 #[.int .i64 op, .int .i64 n, .int .u64 a, .int .u64 b] w fun e w' => e = .returned (.int .u64 r) ∧ Grown w w')
theorem grown_trans {a b c : World} (h1 : Grown a b) (h2 : Grown b c) : Grown a c :=
  ⟨World.keptBut_trans h1.1 h2.1, fun x => (h2.2.1 x).trans (h1.2.1 x), Nat.le_trans h1.2.2 h2.2.2⟩
theorem hid_intro {p : Prop} (h : p) : Hid p := h
theorem eq_drawn {w w' : World} (h : w = w') : Drawn0 w w' := by subst h; exact Drawn0.refl _
set_option maxRecDepth 100000 in
theorem same (op n a b : Int) (ha0 : 0 ≤ a) (ha1 : a < 18446744073709551616) (hb0 : 0 ≤ b) (hb1 : b < 18446744073709551616) : Same op n a b := by
  by_cases hn : n < 1 ∨ 64 < n
  · exact ⟨0, fun w => (spec_bad op n a b w hn).mono fun _ _ h => ⟨h.1, eq_drawn h.2⟩, fun w => impl_bad op n a b w hn⟩
  have h1 : 1 ≤ n := by omega
  have h2 : n ≤ 64 := by omega
  clear hn
  obtain ⟨k, rfl⟩ : ∃ k : Nat, n = ((k + 1 : Nat) : Int) := ⟨(n - 1).toNat, by omega⟩
  have hk : k ≤ 63 := by omega
  obtain ⟨a, rfl⟩ := Int.eq_ofNat_of_zero_le ha0
  obtain ⟨b, rfl⟩ := Int.eq_ofNat_of_zero_le hb0
  obtain ⟨m, HM⟩ : ∃ m : Int, m = 2 ^ ((k + 1 : Nat) : Int).toNat - 1 := ⟨_, rfl⟩
  have hm : (18446744073709551615 : Int) / 2 ^ (64 - ((k + 1 : Nat) : Int)).toNat = m := by rw [HM]; exact mask_div _ h1 h2
  have hp1 : 1 ≤ 2 ^ (k + 1) := Nat.one_le_two_pow
  have t64 := two64 k 0 hk (Nat.two_pow_pos _)
  have hmN : m = ((2 ^ (k + 1) - 1 : Nat) : Int) := by
    rw [HM, Int.toNat_natCast, Int.natCast_sub (by omega), Int.natCast_pow]; rfl
  obtain ⟨A, hA'⟩ : ∃ A, a &&& (2 ^ (k + 1) - 1) = A := ⟨_, rfl⟩
  obtain ⟨B, hB'⟩ : ∃ B, b &&& (2 ^ (k + 1) - 1) = B := ⟨_, rfl⟩
  have hA : bits .and .u64 (a : Int) m = (A : Int) := by rw [hmN, u64_and_nat _ _ (by omega) (by omega), hA']
  have hB : bits .and .u64 (b : Int) m = (B : Int) := by rw [hmN, u64_and_nat _ _ (by omega) (by omega), hB']
  have lA : A < 2 ^ (k + 1) := by rw [← hA', Nat.and_two_pow_sub_one_eq_mod]; exact Nat.mod_lt _ (by omega)
  have lB : B < 2 ^ (k + 1) := by rw [← hB', Nat.and_two_pow_sub_one_eq_mod]; exact Nat.mod_lt _ (by omega)
  have a0 : 0 ≤ (A : Int) := by omega
  have a1 : (A : Int) ≤ m := by omega
  have b0 : 0 ≤ (B : Int) := by omega
  have b1 : (B : Int) ≤ m := by omega
  have hs := slt_iff k A B hk lA lB _ rfl
  rw [← HM] at hs
  have hr := sar_is k A B hk lA lB
  rw [← HM] at hr
  by_cases o9 : op = 9
  · subst o9
    by_cases h : ((A : Int) == (B : Int)) = true
    · exact ⟨_, fun w => spec_eq1 _ _ _ m A B w h1 h2 HM hA hB a0 a1 b0 b1 h, fun w => impl_eq1 _ _ _ m A B w h1 h2 hm hA hB a0 a1 b0 b1 h⟩
    · exact ⟨_, fun w => spec_eq0 _ _ _ m A B w h1 h2 HM hA hB a0 a1 b0 b1 (by simpa using h), fun w => impl_eq0 _ _ _ m A B w h1 h2 hm hA hB a0 a1 b0 b1 (by simpa using h)⟩
  by_cases o25 : op = 25
  · subst o25
    exact ⟨_, fun w => spec_nt _ _ _ m A B w h1 h2 HM hA hB a0 a1 b0 b1, fun w => impl_nt _ _ _ m A B w h1 h2 hm hA hB a0 a1 b0 b1⟩
  by_cases o26 : op = 26
  · subst o26
    exact ⟨_, fun w => spec_neg _ _ _ m A B w h1 h2 HM hA hB a0 a1 b0 b1, fun w => impl_neg _ _ _ m A B w h1 h2 hm hA hB a0 a1 b0 b1⟩
  by_cases o27 : op = 27
  · subst o27
    exact ⟨_, fun w => spec_and _ _ _ m A B w h1 h2 HM hA hB a0 a1 b0 b1, fun w => impl_and _ _ _ m A B w h1 h2 hm hA hB a0 a1 b0 b1⟩
  by_cases o28 : op = 28
  · subst o28
    exact ⟨_, fun w => spec_or _ _ _ m A B w h1 h2 HM hA hB a0 a1 b0 b1, fun w => impl_or _ _ _ m A B w h1 h2 hm hA hB a0 a1 b0 b1⟩
  by_cases o29 : op = 29
  · subst o29
    exact ⟨_, fun w => spec_xor _ _ _ m A B w h1 h2 HM hA hB a0 a1 b0 b1, fun w => impl_xor _ _ _ m A B w h1 h2 hm hA hB a0 a1 b0 b1⟩
  by_cases o30 : op = 30
  · subst o30
    exact ⟨_, fun w => spec_add _ _ _ m A B w h1 h2 HM hA hB a0 a1 b0 b1, fun w => impl_add _ _ _ m A B w h1 h2 hm hA hB a0 a1 b0 b1⟩
  by_cases o31 : op = 31
  · subst o31
    exact ⟨_, fun w => spec_sub _ _ _ m A B w h1 h2 HM hA hB a0 a1 b0 b1, fun w => impl_sub _ _ _ m A B w h1 h2 hm hA hB a0 a1 b0 b1⟩
  by_cases o32 : op = 32
  · subst o32
    exact ⟨_, fun w => spec_mul _ _ _ m A B w h1 h2 HM hA hB a0 a1 b0 b1, fun w => impl_mul _ _ _ m A B w h1 h2 hm hA hB a0 a1 b0 b1⟩
  by_cases o33 : op = 33
  · subst o33
    by_cases h : B = 0
    · exact ⟨_, fun w => spec_div0 _ _ _ m A B w h1 h2 HM hA hB a0 a1 b0 b1 (by rw [h]; rfl) (by rw [h]; rfl), fun w => impl_div0 _ _ _ m A B w h1 h2 hm hA hB a0 a1 b0 b1 (by rw [h]; rfl) (by rw [h]; rfl)⟩
    · exact ⟨_, fun w => spec_div1 _ _ _ m A B w h1 h2 HM hA hB a0 a1 b0 b1 (beq_eq_false_iff_ne.2 (by omega)) (bne_iff_ne.2 (by omega)) (by omega), fun w => impl_div1 _ _ _ m A B w h1 h2 hm hA hB a0 a1 b0 b1 (beq_eq_false_iff_ne.2 (by omega)) (bne_iff_ne.2 (by omega)) (by omega)⟩
  by_cases o34 : op = 34
  · subst o34
    by_cases h : B = 0
    · exact ⟨_, fun w => spec_rem0 _ _ _ m A B w h1 h2 HM hA hB a0 a1 b0 b1 (by rw [h]; rfl) (by rw [h]; rfl), fun w => impl_rem0 _ _ _ m A B w h1 h2 hm hA hB a0 a1 b0 b1 (by rw [h]; rfl) (by rw [h]; rfl)⟩
    · exact ⟨_, fun w => spec_rem1 _ _ _ m A B w h1 h2 HM hA hB a0 a1 b0 b1 (beq_eq_false_iff_ne.2 (by omega)) (bne_iff_ne.2 (by omega)) (by omega), fun w => impl_rem1 _ _ _ m A B w h1 h2 hm hA hB a0 a1 b0 b1 (beq_eq_false_iff_ne.2 (by omega)) (bne_iff_ne.2 (by omega)) (by omega)⟩
  by_cases o35 : op = 35
  · subst o35
    by_cases h : (B : Int) < ((k + 1 : Nat) : Int)
    · exact ⟨_, fun w => spec_shl1 _ _ _ m A B w h1 h2 HM hA hB a0 a1 b0 b1 h, fun w => impl_shl1 _ _ _ m A B w h1 h2 hm hA hB a0 a1 b0 b1 h⟩
    · exact ⟨_, fun w => spec_shl0 _ _ _ m A B w h1 h2 HM hA hB a0 a1 b0 b1 h, fun w => impl_shl0 _ _ _ m A B w h1 h2 hm hA hB a0 a1 b0 b1 h⟩
  by_cases o36 : op = 36
  · subst o36
    by_cases h : (B : Int) < ((k + 1 : Nat) : Int)
    · exact ⟨_, fun w => spec_shr1 _ _ _ m A B w h1 h2 HM hA hB a0 a1 b0 b1 h, fun w => impl_shr1 _ _ _ m A B w h1 h2 hm hA hB a0 a1 b0 b1 h⟩
    · exact ⟨_, fun w => spec_shr0 _ _ _ m A B w h1 h2 HM hA hB a0 a1 b0 b1 h, fun w => impl_shr0 _ _ _ m A B w h1 h2 hm hA hB a0 a1 b0 b1 h⟩
  by_cases o37 : op = 37
  · subst o37
    by_cases h : (B : Int) < ((k + 1 : Nat) : Int)
    · have e := hr B (by rw [if_pos (by omega)])
      refine ⟨_, fun w => (spec_sar _ _ _ m A B w h1 h2 HM hA hB a0 a1 b0 b1), fun w => ?_⟩
      rw [Int.toNat_natCast, e]
      exact impl_sar1 _ _ _ m A B w h1 h2 hm hA hB a0 a1 b0 b1 h
    · have e := hr k (by rw [if_neg (by omega)])
      refine ⟨_, fun w => (spec_sar _ _ _ m A B w h1 h2 HM hA hB a0 a1 b0 b1), fun w => ?_⟩
      rw [Int.toNat_natCast, e]
      exact impl_sar0 _ _ _ m A B w h1 h2 hm hA hB a0 a1 b0 b1 h
  by_cases o38 : op = 38
  · subst o38
    by_cases h : (A : Int) < (B : Int)
    · exact ⟨_, fun w => spec_lt1 _ _ _ m A B w h1 h2 HM hA hB a0 a1 b0 b1 h, fun w => impl_lt1 _ _ _ m A B w h1 h2 hm hA hB a0 a1 b0 b1 h⟩
    · exact ⟨_, fun w => spec_lt0 _ _ _ m A B w h1 h2 HM hA hB a0 a1 b0 b1 h, fun w => impl_lt0 _ _ _ m A B w h1 h2 hm hA hB a0 a1 b0 b1 h⟩
  by_cases o39 : op = 39
  · subst o39
    by_cases h : (A : Int) ≤ (B : Int)
    · exact ⟨_, fun w => spec_le1 _ _ _ m A B w h1 h2 HM hA hB a0 a1 b0 b1 h, fun w => impl_le1 _ _ _ m A B w h1 h2 hm hA hB a0 a1 b0 b1 h⟩
    · exact ⟨_, fun w => spec_le0 _ _ _ m A B w h1 h2 HM hA hB a0 a1 b0 b1 h, fun w => impl_le0 _ _ _ m A B w h1 h2 hm hA hB a0 a1 b0 b1 h⟩
  by_cases o40 : op = 40
  · subst o40
    by_cases h : sgn ((k + 1 : Nat) : Int) m (A : Int) < sgn ((k + 1 : Nat) : Int) m (B : Int)
    · exact ⟨_, fun w => spec_slt1 _ _ _ m A B _ _ _ w h1 h2 HM hA hB a0 a1 b0 b1 rfl rfl rfl (hs.1.2 h), fun w => impl_slt1 _ _ _ m A B w h1 h2 hm hA hB a0 a1 b0 b1 h⟩
    · exact ⟨_, fun w => spec_slt0 _ _ _ m A B _ _ _ w h1 h2 HM hA hB a0 a1 b0 b1 rfl rfl rfl (fun x => h (hs.1.1 x)), fun w => impl_slt0 _ _ _ m A B w h1 h2 hm hA hB a0 a1 b0 b1 h⟩
  by_cases o41 : op = 41
  · subst o41
    by_cases h : sgn ((k + 1 : Nat) : Int) m (A : Int) ≤ sgn ((k + 1 : Nat) : Int) m (B : Int)
    · exact ⟨_, fun w => spec_sle1 _ _ _ m A B _ _ _ w h1 h2 HM hA hB a0 a1 b0 b1 rfl rfl rfl (hs.2.2 h), fun w => impl_sle1 _ _ _ m A B w h1 h2 hm hA hB a0 a1 b0 b1 h⟩
    · exact ⟨_, fun w => spec_sle0 _ _ _ m A B _ _ _ w h1 h2 HM hA hB a0 a1 b0 b1 rfl rfl rfl (fun x => h (hs.2.1 x)), fun w => impl_sle0 _ _ _ m A B w h1 h2 hm hA hB a0 a1 b0 b1 h⟩
  exact ⟨_, fun w => spec_oth op _ _ _ m A B w h1 h2 HM hA hB a0 a1 b0 b1 (beq_eq_false_iff_ne.2 o9) (beq_eq_false_iff_ne.2 o25) (beq_eq_false_iff_ne.2 o26) (beq_eq_false_iff_ne.2 o27) (beq_eq_false_iff_ne.2 o28) (beq_eq_false_iff_ne.2 o29) (beq_eq_false_iff_ne.2 o30) (beq_eq_false_iff_ne.2 o31) (beq_eq_false_iff_ne.2 o32) (beq_eq_false_iff_ne.2 o33) (beq_eq_false_iff_ne.2 o34) (beq_eq_false_iff_ne.2 o35) (beq_eq_false_iff_ne.2 o36) (beq_eq_false_iff_ne.2 o37) (beq_eq_false_iff_ne.2 o38) (beq_eq_false_iff_ne.2 o39) (beq_eq_false_iff_ne.2 o40) (beq_eq_false_iff_ne.2 o41), fun w => impl_oth op _ _ _ m A B w h1 h2 hm hA hB a0 a1 b0 b1 (beq_eq_false_iff_ne.2 o9) (beq_eq_false_iff_ne.2 o25) (beq_eq_false_iff_ne.2 o26) (beq_eq_false_iff_ne.2 o27) (beq_eq_false_iff_ne.2 o28) (beq_eq_false_iff_ne.2 o29) (beq_eq_false_iff_ne.2 o30) (beq_eq_false_iff_ne.2 o31) (beq_eq_false_iff_ne.2 o32) (beq_eq_false_iff_ne.2 o33) (beq_eq_false_iff_ne.2 o34) (beq_eq_false_iff_ne.2 o35) (beq_eq_false_iff_ne.2 o36) (beq_eq_false_iff_ne.2 o37) (beq_eq_false_iff_ne.2 o38) (beq_eq_false_iff_ne.2 o39) (beq_eq_false_iff_ne.2 o40) (beq_eq_false_iff_ne.2 o41)⟩

theorem u64_bd {a : Int} (w : (Lit.int .u64 a).wf = true) : 0 ≤ a ∧ a < 18446744073709551616 := by
  simp only [Lit.wf, IntKind.min, IntKind.max, IntKind.signed, IntKind.bits, Bool.and_eq_true] at w
  simp at w
  omega

theorem walk (a0 : Int) (a1 : Int) (a2 : Int) (a3 : Int) (w0 : (Lit.int .i64 a0).wf = true) (w1 : (Lit.int .i64 a1).wf = true) (w2 : (Lit.int .u64 a2).wf = true) (w3 : (Lit.int .u64 a3).wf = true) (w : World) :
    Calls Try.prog 5 #[.int .i64 a0, .int .i64 a1, .int .u64 a2, .int .u64 a3] w fun e w' => e = .returned (.bool true) ∧ Grown w w' := by
  obtain ⟨r, hS, hI⟩ := same a0 a1 a2 a3 (u64_bd w2).1 (u64_bd w2).2 (u64_bd w3).1 (u64_bd w3).2
  have HS := hid_intro hS
  have HI := hid_intro hI
  clear hS hI w0 w1 w2 w3
  go_enter Try.func5, Try.ntmps5
  go_wp2_with (first | (go_at_call 10; refine (HS.out _).mono ?_; rintro e w1 ⟨rfl, hw1⟩) | (go_at_call 11; refine (HI.out _).mono ?_; rintro e w2 ⟨rfl, hw2⟩))
  go_ret
  exact ⟨rfl, grown_trans hw1.grown hw2⟩

/-! ### THE ROW's STEP: WRITTEN OUT: LEAVE IT -/
set_option maxRecDepth 100000 in
theorem lifted (os : Os) (started : os.Started) (H : Type) (enc : TypeId × Value → H) :
    ReturnsInHanded {} Try.checked os 5 .any (Rows.fnExactBitsOpSpec.pre6 enc Try.prog Try.f5 Rows.fnExactBitsOpRow.domain false) (Rows.fnExactBitsOpSpec.post enc Try.prog Try.f5 false true false false) := by
  refine returnsInHanded_of_change (C := Try.checked) own started (by kernel_rfl) Try.func5
    (ChangeSpec.witness6 (enc := enc) (C := Try.checked) false ⟨#[], #[.int .i64 0, .int .i64 0, .int .u64 0, .int .u64 0], []⟩ 8 (by kernel_rfl) (by kernel_rfl) (by kernel_rfl) (by kernel_rfl)) ?_
  intro W base args ds gs before hval0 hW hcnd _
  have hval : ∀ (j : Nat) t v, Try.f5.params[j]? = some t → args[j]? = some v → Value.okWide Try.prog W .any base t v := hval0
  have hW' := hW
  obtain ⟨p, q, hA0, hV, rfl, hfz, hnd⟩ := hW
  have hA : DataW.TrodAll enc Try.prog W 0 (fun _ => true) true Try.f5.params.toList args.toList ds p := hA0
  rw [Try.params5] at hA hval
  obtain ⟨v0, vs0, d0, ds0, p0, q0, hargs, rfl, rfl, h0, r0⟩ := trodAll_cons hA
  obtain ⟨v1, vs1, d1, ds1, p1, q1, rfl, rfl, rfl, h1, r1⟩ := trodAll_cons r0
  obtain ⟨v2, vs2, d2, ds2, p2, q2, rfl, rfl, rfl, h2, r2⟩ := trodAll_cons r1
  obtain ⟨v3, vs3, d3, ds3, p3, q3, rfl, rfl, rfl, h3, r3⟩ := trodAll_cons r2
  obtain ⟨rfl, rfl, rfl⟩ := trodAll_nil r3
  obtain rfl : args = #[v0, v1, v2, v3] := by cases args; simp_all
  obtain ⟨rfl, rfl⟩ := trodVars_none hV
  obtain ⟨a0, rfl, rfl, rfl, w0⟩ := open_int Try.underlying3 (hval 0 3 v0 rfl rfl) h0
  obtain ⟨a1, rfl, rfl, rfl, w1⟩ := open_int Try.underlying3 (hval 1 3 v1 rfl rfl) h1
  obtain ⟨a2, rfl, rfl, rfl, w2⟩ := open_int Try.underlying24 (hval 2 24 v2 rfl rfl) h2
  obtain ⟨a3, rfl, rfl, rfl, w3⟩ := open_int Try.underlying24 (hval 3 24 v3 rfl rfl) h3
  clear hA0 hval0
  simp only [List.append_nil] at hW'
  refine (walk a0 a1 a2 a3 w0 w1 w2 w3 W).mono fun e W' ⟨he, hg⟩ => ?_
  subst he
  exact ⟨_, rfl, post_of_same (pa := []) (pv := []) hW' (fun _ _ _ => (trodAll_cons_mk (shut_bool Try.underlying4 _) trodAll_mk0)) (fun sp _ => (trodAll_cons_mk (shut_int Try.underlying3 w0) (trodAll_cons_mk (shut_int Try.underlying3 w1) (trodAll_cons_mk (shut_int Try.underlying24 w2) (trodAll_cons_mk (shut_int Try.underlying24 w3) trodAll_mk0))))) (fun _ _ => rfl) rfl
    (hg.frame _) hg.2.1 (ok_one (by kernel_rfl) rfl (okWide_bool_mk Try.underlying4 _))⟩

theorem over : Rows.fnExactBitsOpRow.holds Try.pinned (OpenSpec.ofChange Rows.fnExactBitsOpSpec) :=
  OpenClaim.holds_of_wide 5 Try.f5 rfl rfl rfl rfl rfl rfl rfl ⟨rfl, rfl, rfl, rfl, rfl⟩ rfl rfl rfl rfl rfl (by kernel_rfl) Try.func5 (by kernel_rfl)
    (of_decide_eq_true (by kernel_rfl)) (by unfold Func.isWrapper; first | (rw [if_pos (by decide +kernel)]; kernel_rfl) | (rw [if_neg (by decide +kernel)]; exact ⟨rfl, rfl⟩))
    (fun os started H enc _ => lifted os started H enc)

/-- ████ THE STATEMENT ████ -/
theorem proved : Rows.FnExactBitsOpSaid :=
  over
#print axioms proved
end Go.Proofs.Ytljjenkaofcppaa.fnExactBitsOp

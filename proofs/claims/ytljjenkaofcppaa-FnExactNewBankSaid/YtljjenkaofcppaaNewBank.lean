/- laws.FnExactNewBank: the two new banks compare equal; marks that are written into the one are read in it, are not met in the other and not in a bank made anew. No condition (the law has no argument). -/
import Derived.Test.YtljjenkaofcppaaPFnExactNewBankx2
import Derived.Test.YtljjenkaofcppaaRows
import Derived.WalkKit
import Derived.ProofKit
import Derived.OpenShut
import Derived.ChangeOld
import Derived.Below
import Derived.SizedLaws
import Derived.Outline
import Derived.Deep.RegionWith
namespace Go.Proofs.Ytljjenkaofcppaa.fnExactNewBank
open Go.ChangeShapes Go.WideShapes Go.ChangeAt Go.RowKit Go.Proofs.Ytljjenkaofcppaa Go.Proofs.Ytljjenkaofcppaa.PFnExactNewBank Go.Proofs.YtljjenkaofcppaaW.PrintWords Go.Proofs.YtljjenkaofcppaaW.PrintLast Go.Proofs.YtljjenkaofcppaaW.PrintMore
set_option linter.unusedVariables false
set_option linter.unusedSimpArgs false
set_option maxRecDepth 100000
abbrev sB : ByteArray := ⟨#[66, 111, 111, 108]⟩
abbrev sE : ByteArray := ⟨#[]⟩
abbrev C0 : Array Value := #[.int .i64 1, .string sB, .string sE, .int .i64 0, .int .i64 0, .slice none 0 0, .int .i64 2, .string sB, .string sE, .int .i64 0, .int .i64 0, .slice none 0 0]
abbrev C1 : Array Value := #[.int .i64 1, .string ⟨#[109, 50]⟩, .string ⟨#[109, 51]⟩, .int .i64 4, .int .i64 5, .slice none 0 0, .int .i64 2, .string sB, .string sE, .int .i64 0, .int .i64 0, .slice none 0 0]
abbrev C2 : Array Value := #[.int .i64 1, .string ⟨#[109, 50]⟩, .string ⟨#[109, 51]⟩, .int .i64 4, .int .i64 5, .slice none 0 0, .int .i64 6, .string ⟨#[109, 55]⟩, .string ⟨#[109, 56]⟩, .int .i64 9, .int .i64 10, .slice none 0 0]
def T0 : List S50 := [⟨1, sB, sE, 0, 0, []⟩, ⟨2, sB, sE, 0, 0, []⟩]
def T1 : List S50 := [⟨1, ⟨#[109, 50]⟩, ⟨#[109, 51]⟩, 4, 5, []⟩, ⟨6, ⟨#[109, 55]⟩, ⟨#[109, 56]⟩, 9, 10, []⟩]
theorem mark_m (n : Int) (r : ByteArray) (h : laws_markText.f 9 n = some r) (w : World) : Calls Try.prog 45 #[.int .i64 n] w fun e w' => e = .returned (.string r) ∧ Below w.heap.size w w' := laws_markText.calls 9 n r w h
theorem m2 : laws_markText.f 9 2 = some ⟨#[109, 50]⟩ := by simp [laws_markText.f, laws_markText.l0, strOfNums, wrap64]; exact ⟨by decide, by decide, by decide⟩
theorem m3 : laws_markText.f 9 3 = some ⟨#[109, 51]⟩ := by simp [laws_markText.f, laws_markText.l0, strOfNums, wrap64]; exact ⟨by decide, by decide, by decide⟩
theorem m7 : laws_markText.f 9 7 = some ⟨#[109, 55]⟩ := by simp [laws_markText.f, laws_markText.l0, strOfNums, wrap64]; exact ⟨by decide, by decide, by decide⟩
theorem m8 : laws_markText.f 9 8 = some ⟨#[109, 56]⟩ := by simp [laws_markText.f, laws_markText.l0, strOfNums, wrap64]; exact ⟨by decide, by decide, by decide⟩
theorem eq_T0 : laws_eqBank.f 9 [] [] T0 [] [] T0 = some true := by simp [laws_eqBank.f, laws_eqStringS.f, laws_eqStringS.l0, laws_eqFunS.f, laws_eqFunS.l0, laws_eqTermS.f, laws_eqTermS.l0, laws_eqTerm.f, laws_eqIntS.f, laws_eqIntS.l0, T0, rd_T50, wrap64]
/-- a block of two terms -/
theorem reads_terms {w : World} {g : Nat} (a b : S50) (ha : a.f5 = []) (hb : b.f5 = [])
    (h : w.heap[g]? = some (.cells #[.int .i64 a.f0, .string a.f1, .string a.f2, .int .i64 a.f3, .int .i64 a.f4, .slice none 0 0, .int .i64 b.f0, .string b.f1, .string b.f2, .int .i64 b.f3, .int .i64 b.f4, .slice none 0 0] 50 (0, 0))) :
    Kd.C k50 w (some ⟨g, 0, none⟩) 2 [a, b] := by
  refine ⟨rfl, by decide, fun _ => ⟨_, rfl, fun j p hp => ?_⟩⟩
  have hk : ∀ x : S50, x.f5 = [] → k50.K w x [.int .i64 x.f0, .string x.f1, .string x.f2, .int .i64 x.f3, .int .i64 x.f4, .slice none 0 0] := fun x hx => by
    have := k50_mk w x (A5 := none) (c5 := 0) (by rw [hx]; exact Nat.le_refl _) (by rw [hx]; exact ⟨rfl, by decide, fun h => absurd h (by decide)⟩)
    rw [hx] at this
    exact this
  rcases j with _ | _ | j
  · cases hp
    refine ⟨_, rfl, hk _ ha, fun i u hu => ?_⟩
    rw [add_at, blk_cell h]
    rcases i with _ | _ | _ | _ | _ | _ | i
    all_goals first | exact hu | (simp at hu)
  · cases hp
    refine ⟨_, rfl, hk _ hb, fun i u hu => ?_⟩
    rw [add_at, blk_cell h]
    rcases i with _ | _ | _ | _ | _ | _ | i
    all_goals first | exact hu | (simp at hu)
  · simp at hp
theorem blk_new2 (w : World) (o o' : Obj) : ((w.alloc o).alloc o').heap[w.heap.size + 1]? = some o' := by
  have h := blk_new (w.alloc o) o'
  rwa [show (w.alloc o).heap.size = w.heap.size + 1 by simp] at h
theorem spec_nb (w : World) : Calls Try.prog 12 #[] w fun e w' => ∃ g, e = .returned (.agg #[.slice none 0 0, .slice none 0 0, .slice (some ⟨g, 0, none⟩) 2 2]) ∧ w.heap.size ≤ g ∧ w'.heap[g]? = some (.cells C0 50 (0, 0)) ∧ Below w.heap.size w w' := by
  go_enter Try.func12, Try.ntmps12
  go_wp2_with (go_in)
  exact bodyPost_ret (v := .agg #[.slice none 0 0, .slice none 0 0, .slice (some ⟨w.heap.size + 1, 0, none⟩) 2 2]) (by simp [results, Try.results12, go_sem]) rfl ⟨w.heap.size + 1, rfl, by omega, blk_new2 _ _ _, below_alloc (below_alloc (Below.refl _ _) _) _⟩
theorem impl_nb (w : World) : Calls Try.prog 13 #[] w fun e w' => ∃ g, e = .returned (.agg #[.slice none 0 0, .slice none 0 0, .slice (some ⟨g, 0, none⟩) 2 2]) ∧ w.heap.size ≤ g ∧ w'.heap[g]? = some (.cells C0 50 (0, 0)) ∧ Below w.heap.size w w' := by
  go_enter Try.func13, Try.ntmps13
  go_wp2_with (go_in)
  exact bodyPost_ret (v := .agg #[.slice none 0 0, .slice none 0 0, .slice (some ⟨w.heap.size + 1, 0, none⟩) 2 2]) (by simp [results, Try.results13, go_sem]) rfl ⟨w.heap.size + 1, rfl, by omega, blk_new2 _ _ _, below_alloc (below_alloc (Below.refl _ _) _) _⟩
theorem markInt_nil (k : Int) (w : World) : Calls Try.prog 46 #[.slice none 0 0, .int .i64 k] w fun e w' => e = .returned (.int .i64 k) ∧ Below w.heap.size w w' := by
  go_enter Try.func46, Try.ntmps46
  go_wp2_with (fail)
  go_loop [1, 5] (fun v1 v5 => v1 = .int .i64 k ∧ v5 = .int .i64 0) (fun _ _ => 0)
  case atStart => exact ⟨rfl, rfl⟩
  case round =>
    obtain ⟨rfl, rfl⟩ := hrel
    go_wp2_with (fail)
    go_ret
    exact ⟨rfl, Below.refl _ _⟩
theorem markFun_nil (k : Int) (w : World) : Calls Try.prog 32 #[.slice none 0 0, .int .i64 k] w fun e w' => e = .returned (.int .i64 k) ∧ Below w.heap.size w w' := by
  go_enter Try.func32, Try.ntmps32
  go_wp2_with (fail)
  go_loop [1, 5] (fun v1 v5 => v1 = .int .i64 k ∧ v5 = .int .i64 0) (fun _ _ => 0)
  case atStart => exact ⟨rfl, rfl⟩
  case round =>
    obtain ⟨rfl, rfl⟩ := hrel
    go_wp2_with (fail)
    go_ret
    exact ⟨rfl, Below.refl _ _⟩
theorem markStr_nil (k : Int) (w : World) : Calls Try.prog 31 #[.slice none 0 0, .int .i64 k] w fun e w' => e = .returned (.int .i64 k) ∧ Below w.heap.size w w' := by
  go_enter Try.func31, Try.ntmps31
  go_wp2_with (fail)
  go_loop [1, 5] (fun v1 v5 => v1 = .int .i64 k ∧ v5 = .int .i64 0) (fun _ _ => 0)
  case atStart => exact ⟨rfl, rfl⟩
  case round =>
    obtain ⟨rfl, rfl⟩ := hrel
    go_wp2_with (fail)
    go_ret
    exact ⟨rfl, Below.refl _ _⟩
theorem heldInt_nil (k : Int) (w : World) : Calls Try.prog 47 #[.slice none 0 0, .int .i64 k] w fun e w' => e = .returned (.int .i64 k) ∧ Below w.heap.size w w' := by
  go_enter Try.func47, Try.ntmps47
  go_wp2_with (fail)
  go_loop [1, 5] (fun v1 v5 => v1 = .int .i64 k ∧ v5 = .int .i64 0) (fun _ _ => 0)
  case atStart => exact ⟨rfl, rfl⟩
  case round =>
    obtain ⟨rfl, rfl⟩ := hrel
    go_wp2_with (fail)
    go_ret
    exact ⟨rfl, Below.refl _ _⟩
theorem heldFun_nil (k : Int) (w : World) : Calls Try.prog 35 #[.slice none 0 0, .int .i64 k] w fun e w' => e = .returned (.int .i64 k) ∧ Below w.heap.size w w' := by
  go_enter Try.func35, Try.ntmps35
  go_wp2_with (fail)
  go_loop [1, 5] (fun v1 v5 => v1 = .int .i64 k ∧ v5 = .int .i64 0) (fun _ _ => 0)
  case atStart => exact ⟨rfl, rfl⟩
  case round =>
    obtain ⟨rfl, rfl⟩ := hrel
    go_wp2_with (fail)
    go_ret
    exact ⟨rfl, Below.refl _ _⟩
theorem heldStr_nil (k : Int) (w : World) : Calls Try.prog 34 #[.slice none 0 0, .int .i64 k] w fun e w' => e = .returned (.int .i64 k) ∧ Below w.heap.size w w' := by
  go_enter Try.func34, Try.ntmps34
  go_wp2_with (fail)
  go_loop [1, 5] (fun v1 v5 => v1 = .int .i64 k ∧ v5 = .int .i64 0) (fun _ _ => 0)
  case atStart => exact ⟨rfl, rfl⟩
  case round =>
    obtain ⟨rfl, rfl⟩ := hrel
    go_wp2_with (fail)
    go_ret
    exact ⟨rfl, Below.refl _ _⟩
/-- a step of the marks -/
def Cs : Nat → Array Value | 0 => C0 | 1 => C1 | _ => C2
theorem gb_set {a b : World} {g : Nat} (h : a.grownBy b (some g)) (j : Nat) (u : Value) : a.grownBy (b.setCell ⟨g, j, none⟩ u) (some g) :=
  ⟨h.os, h.tape, h.output, by simp; exact h.size, fun i hi hne => by rw [Below.heap_setCell b ⟨g, j, none⟩ u i (fun e => hne (by rw [e]))]; exact h.block i hi hne⟩
theorem gb_below {a b c : World} {row : Option Nat} (h : a.grownBy b row) (hb : Below b.heap.size b c) : a.grownBy c row :=
  ⟨hb.os.trans h.os, hb.tape.trans h.tape, hb.output.trans h.output, Nat.le_trans h.size hb.size, fun i hi hne => (hb.block i (Nat.lt_of_lt_of_le hi h.size)).trans (h.block i hi hne)⟩
theorem gb_blk {a c : World} {g i : Nat} {o : Obj} (h : a.grownBy c (some g)) (hi : a.heap[i]? = some o) (hne : i ≠ g) : c.heap[i]? = some o := (h.block i (blk_lt hi) (by simp [hne])).trans hi
set_option maxHeartbeats 2000000 in
theorem mark_terms (g : Nat) (w : World) (h : w.heap[g]? = some (.cells C0 50 (0, 0))) :
    Calls Try.prog 33 #[.slice (some ⟨g, 0, none⟩) 2 2, .int .i64 1] w fun e w' => e = .returned (.int .i64 11) ∧ w'.heap[g]? = some (.cells C2 50 (0, 0)) ∧ w.grownBy w' (some g) := by
  have h0 := Aside0.mk h
  have hg := blk_lt h
  clear h
  go_enter Try.func33, Try.ntmps33
  go_wp2_with (fail)
  go_loopw [1, 5] (fun v1 v5 wr => ∃ i : Nat, i ≤ 2 ∧ v5 = .int .i64 i ∧ v1 = .int .i64 (1 + 5 * i : Nat) ∧ wr.heap[g]? = some (.cells (Cs i) 50 (0, 0)) ∧ w.grownBy wr (some g)) (fun _ v5 _ => 2 - (intOf v5).toNat)
  case atStart => exact ⟨0, by omega, by first | rfl | go_num, by first | rfl | go_num, h0.out, World.grownBy.refl _ _⟩
  case round =>
    obtain ⟨i, hi, rfl, rfl, hk, hb⟩ := hrel
    have HB := Aside0.mk hb
    clear hb h0
    rcases i with _ | _ | i
    · have HK : Aside0 (wr.heap[g]? = some (.cells C0 50 (0, 0))) := ⟨hk⟩
      clear hk
      have c0 : wr.cell? ⟨g, 0, none⟩ = some (.int .i64 1) := (blk_cell HK.out 0).trans rfl
      have f0 : wr.frozen? ⟨g, 0, none⟩ = false := blk_frozen HK.out 0
      go_wp2_with (fail)
      refine Calls.mono (mark_m 2 _ m2 _) ?_
      rintro e w5 ⟨rfl, hb5⟩
      have K5 := Aside0.mk (blk_below (blk_set HK.out 0 (.int .i64 1)) hb5)
      have B5 := Aside0.mk (gb_below (gb_set HB.out 0 (.int .i64 1)) hb5)
      clear hb5 c0 f0
      have c1 : w5.cell? ⟨g, 1, none⟩ = some (.string sB) := (blk_cell K5.out 1).trans rfl
      have f1 : w5.frozen? ⟨g, 1, none⟩ = false := blk_frozen K5.out 1
      go_wp2_with (fail)
      refine Calls.mono (mark_m 3 _ m3 _) ?_
      rintro e w6 ⟨rfl, hb6⟩
      have K6 := Aside0.mk (blk_below (blk_set K5.out 1 (.string ⟨#[109, 50]⟩)) hb6)
      have B6 := Aside0.mk (gb_below (gb_set B5.out 1 (.string ⟨#[109, 50]⟩)) hb6)
      clear hb6 c1 f1
      have c2 : w6.cell? ⟨g, 2, none⟩ = some (.string sE) := (blk_cell K6.out 2).trans rfl
      have f2 : w6.frozen? ⟨g, 2, none⟩ = false := blk_frozen K6.out 2
      have c3 : w6.cell? ⟨g, 3, none⟩ = some (.int .i64 0) := (blk_cell K6.out 3).trans rfl
      have f3 : w6.frozen? ⟨g, 3, none⟩ = false := blk_frozen K6.out 3
      have c4 : w6.cell? ⟨g, 4, none⟩ = some (.int .i64 0) := (blk_cell K6.out 4).trans rfl
      have f4 : w6.frozen? ⟨g, 4, none⟩ = false := blk_frozen K6.out 4
      have c5 : w6.cell? ⟨g, 5, none⟩ = some (.slice none 0 0) := (blk_cell K6.out 5).trans rfl
      have f5 : w6.frozen? ⟨g, 5, none⟩ = false := blk_frozen K6.out 5
      go_wp2_with (fail)
      refine Calls.mono (markInt_nil 6 _) ?_
      rintro e w7 ⟨rfl, hb7⟩
      have K7 := Aside0.mk (blk_below (blk_set (blk_set (blk_set K6.out 2 (.string ⟨#[109, 51]⟩)) 3 (.int .i64 4)) 4 (.int .i64 5)) hb7)
      have B7 := Aside0.mk (gb_below (gb_set (gb_set (gb_set B6.out 2 (.string ⟨#[109, 51]⟩)) 3 (.int .i64 4)) 4 (.int .i64 5)) hb7)
      clear hb7 c2 f2 c3 f3 c4 f4 c5 f5
      go_wp2_with (fail)
      refine ⟨⟨1, by omega, by first | rfl | go_num, by first | rfl | go_num, K7.out.trans rfl, B7.out⟩, by simp [intOf]⟩
    · have HK : Aside0 (wr.heap[g]? = some (.cells C1 50 (0, 0))) := ⟨hk⟩
      clear hk
      have c0 : wr.cell? ⟨g, 6, none⟩ = some (.int .i64 2) := (blk_cell HK.out 6).trans rfl
      have f0 : wr.frozen? ⟨g, 6, none⟩ = false := blk_frozen HK.out 6
      go_wp2_with (fail)
      refine Calls.mono (mark_m 7 _ m7 _) ?_
      rintro e w5 ⟨rfl, hb5⟩
      have K5 := Aside0.mk (blk_below (blk_set HK.out 6 (.int .i64 6)) hb5)
      have B5 := Aside0.mk (gb_below (gb_set HB.out 6 (.int .i64 6)) hb5)
      clear hb5 c0 f0
      have c1 : w5.cell? ⟨g, 7, none⟩ = some (.string sB) := (blk_cell K5.out 7).trans rfl
      have f1 : w5.frozen? ⟨g, 7, none⟩ = false := blk_frozen K5.out 7
      go_wp2_with (fail)
      refine Calls.mono (mark_m 8 _ m8 _) ?_
      rintro e w6 ⟨rfl, hb6⟩
      have K6 := Aside0.mk (blk_below (blk_set K5.out 7 (.string ⟨#[109, 55]⟩)) hb6)
      have B6 := Aside0.mk (gb_below (gb_set B5.out 7 (.string ⟨#[109, 55]⟩)) hb6)
      clear hb6 c1 f1
      have c2 : w6.cell? ⟨g, 8, none⟩ = some (.string sE) := (blk_cell K6.out 8).trans rfl
      have f2 : w6.frozen? ⟨g, 8, none⟩ = false := blk_frozen K6.out 8
      have c3 : w6.cell? ⟨g, 9, none⟩ = some (.int .i64 0) := (blk_cell K6.out 9).trans rfl
      have f3 : w6.frozen? ⟨g, 9, none⟩ = false := blk_frozen K6.out 9
      have c4 : w6.cell? ⟨g, 10, none⟩ = some (.int .i64 0) := (blk_cell K6.out 10).trans rfl
      have f4 : w6.frozen? ⟨g, 10, none⟩ = false := blk_frozen K6.out 10
      have c5 : w6.cell? ⟨g, 11, none⟩ = some (.slice none 0 0) := (blk_cell K6.out 11).trans rfl
      have f5 : w6.frozen? ⟨g, 11, none⟩ = false := blk_frozen K6.out 11
      go_wp2_with (fail)
      refine Calls.mono (markInt_nil 11 _) ?_
      rintro e w7 ⟨rfl, hb7⟩
      have K7 := Aside0.mk (blk_below (blk_set (blk_set (blk_set K6.out 8 (.string ⟨#[109, 56]⟩)) 9 (.int .i64 9)) 10 (.int .i64 10)) hb7)
      have B7 := Aside0.mk (gb_below (gb_set (gb_set (gb_set B6.out 8 (.string ⟨#[109, 56]⟩)) 9 (.int .i64 9)) 10 (.int .i64 10)) hb7)
      clear hb7 c2 f2 c3 f3 c4 f4 c5 f5
      go_wp2_with (fail)
      refine ⟨⟨2, by omega, by first | rfl | go_num, by first | rfl | go_num, K7.out.trans rfl, B7.out⟩, by simp [intOf]⟩
    · have : i = 0 := by omega
      subst this
      have HK : Aside0 (wr.heap[g]? = some (.cells C2 50 (0, 0))) := ⟨hk⟩
      clear hk
      go_wp2_with (fail)
      go_ret
      exact ⟨rfl, HK.out, HB.out⟩
set_option maxHeartbeats 2000000 in
theorem held_terms (g : Nat) (w : World) (h : w.heap[g]? = some (.cells C2 50 (0, 0))) :
    Calls Try.prog 36 #[.slice (some ⟨g, 0, none⟩) 2 2, .int .i64 1] w fun e w' => e = .returned (.int .i64 11) ∧ Below w.heap.size w w' := by
  have h0 := Aside0.mk h
  clear h
  go_enter Try.func36, Try.ntmps36
  go_wp2_with (fail)
  go_loopw [1, 5] (fun v1 v5 wr => ∃ i : Nat, i ≤ 2 ∧ v5 = .int .i64 i ∧ v1 = .int .i64 (1 + 5 * i : Nat) ∧ wr.heap[g]? = some (.cells C2 50 (0, 0)) ∧ Below w.heap.size w wr ∧ w.heap.size ≤ wr.heap.size) (fun _ v5 _ => 2 - (intOf v5).toNat)
  case atStart => exact ⟨0, by omega, by first | rfl | go_num, by first | rfl | go_num, h0.out, Below.refl _ _, Nat.le_refl _⟩
  case round =>
    obtain ⟨i, hi, rfl, rfl, hk, hb, hz⟩ := hrel
    have HB := Aside0.mk hb
    have HK := Aside0.mk hk
    clear hb hk h0
    rcases i with _ | _ | i
    · skip
      have c0 : wr.cell? ⟨g, 0, none⟩ = some (.int .i64 1) := (blk_cell HK.out 0).trans rfl
      have f0 : wr.frozen? ⟨g, 0, none⟩ = false := blk_frozen HK.out 0
      have c1 : wr.cell? ⟨g, 1, none⟩ = some (.string ⟨#[109, 50]⟩) := (blk_cell HK.out 1).trans rfl
      have f1 : wr.frozen? ⟨g, 1, none⟩ = false := blk_frozen HK.out 1
      go_wp2_with (fail)
      go_region_with (go_at_call 45; refine Calls.mono (mark_m 2 _ m2 _) ?_; rintro e w5 ⟨rfl, hb5⟩; have K5 := Aside0.mk (blk_below (blk_drew HK.out) hb5); have c15 : w5.cell? ⟨g, 1, none⟩ = some (.string ⟨#[109, 50]⟩) := (blk_cell K5.out 1).trans rfl; have B5 := Aside0.mk ((below_drew HB.out).trans (hb5.mono hz)); have z5 : w.heap.size ≤ w5.heap.size := Nat.le_trans hz hb5.size; clear hb5)
      all_goals
        clear c0 f0 c1 f1
        have c2 : w5.cell? ⟨g, 2, none⟩ = some (.string ⟨#[109, 51]⟩) := (blk_cell K5.out 2).trans rfl
        have f2 : w5.frozen? ⟨g, 2, none⟩ = false := blk_frozen K5.out 2
        go_wp2_with (fail)
        go_region_with (go_at_call 45; refine Calls.mono (mark_m 3 _ m3 _) ?_; rintro e w6 ⟨rfl, hb6⟩; have K6 := Aside0.mk (blk_below (blk_drew K5.out) hb6); have c26 : w6.cell? ⟨g, 2, none⟩ = some (.string ⟨#[109, 51]⟩) := (blk_cell K6.out 2).trans rfl; have B6 := Aside0.mk ((below_drew B5.out).trans (hb6.mono z5)); have z6 : w.heap.size ≤ w6.heap.size := Nat.le_trans z5 hb6.size; clear hb6)
        all_goals
          clear c2 f2
          have c3 : w6.cell? ⟨g, 3, none⟩ = some (.int .i64 4) := (blk_cell K6.out 3).trans rfl
          have f3 : w6.frozen? ⟨g, 3, none⟩ = false := blk_frozen K6.out 3
          have c4 : w6.cell? ⟨g, 4, none⟩ = some (.int .i64 5) := (blk_cell K6.out 4).trans rfl
          have f4 : w6.frozen? ⟨g, 4, none⟩ = false := blk_frozen K6.out 4
          have c5 : w6.cell? ⟨g, 5, none⟩ = some (.slice none 0 0) := (blk_cell K6.out 5).trans rfl
          have f5 : w6.frozen? ⟨g, 5, none⟩ = false := blk_frozen K6.out 5
          go_wp2_with (fail)
          refine Calls.mono (heldInt_nil 6 _) ?_
          rintro e w7 ⟨rfl, hb7⟩
          have K7 := Aside0.mk (blk_below K6.out hb7)
          have B7 := Aside0.mk (B6.out.trans (hb7.mono z6))
          have z7 : w.heap.size ≤ w7.heap.size := Nat.le_trans z6 hb7.size
          clear hb7 c3 f3 c4 f4 c5 f5
          go_wp2_with (fail)
          refine ⟨⟨1, by omega, by first | rfl | go_num, by first | rfl | go_num, K7.out, B7.out, z7⟩, by simp [intOf]⟩
    · skip
      have c0 : wr.cell? ⟨g, 6, none⟩ = some (.int .i64 6) := (blk_cell HK.out 6).trans rfl
      have f0 : wr.frozen? ⟨g, 6, none⟩ = false := blk_frozen HK.out 6
      have c1 : wr.cell? ⟨g, 7, none⟩ = some (.string ⟨#[109, 55]⟩) := (blk_cell HK.out 7).trans rfl
      have f1 : wr.frozen? ⟨g, 7, none⟩ = false := blk_frozen HK.out 7
      go_wp2_with (fail)
      go_region_with (go_at_call 45; refine Calls.mono (mark_m 7 _ m7 _) ?_; rintro e w5 ⟨rfl, hb5⟩; have K5 := Aside0.mk (blk_below (blk_drew HK.out) hb5); have c15 : w5.cell? ⟨g, 7, none⟩ = some (.string ⟨#[109, 55]⟩) := (blk_cell K5.out 7).trans rfl; have B5 := Aside0.mk ((below_drew HB.out).trans (hb5.mono hz)); have z5 : w.heap.size ≤ w5.heap.size := Nat.le_trans hz hb5.size; clear hb5)
      all_goals
        clear c0 f0 c1 f1
        have c2 : w5.cell? ⟨g, 8, none⟩ = some (.string ⟨#[109, 56]⟩) := (blk_cell K5.out 8).trans rfl
        have f2 : w5.frozen? ⟨g, 8, none⟩ = false := blk_frozen K5.out 8
        go_wp2_with (fail)
        go_region_with (go_at_call 45; refine Calls.mono (mark_m 8 _ m8 _) ?_; rintro e w6 ⟨rfl, hb6⟩; have K6 := Aside0.mk (blk_below (blk_drew K5.out) hb6); have c26 : w6.cell? ⟨g, 8, none⟩ = some (.string ⟨#[109, 56]⟩) := (blk_cell K6.out 8).trans rfl; have B6 := Aside0.mk ((below_drew B5.out).trans (hb6.mono z5)); have z6 : w.heap.size ≤ w6.heap.size := Nat.le_trans z5 hb6.size; clear hb6)
        all_goals
          clear c2 f2
          have c3 : w6.cell? ⟨g, 9, none⟩ = some (.int .i64 9) := (blk_cell K6.out 9).trans rfl
          have f3 : w6.frozen? ⟨g, 9, none⟩ = false := blk_frozen K6.out 9
          have c4 : w6.cell? ⟨g, 10, none⟩ = some (.int .i64 10) := (blk_cell K6.out 10).trans rfl
          have f4 : w6.frozen? ⟨g, 10, none⟩ = false := blk_frozen K6.out 10
          have c5 : w6.cell? ⟨g, 11, none⟩ = some (.slice none 0 0) := (blk_cell K6.out 11).trans rfl
          have f5 : w6.frozen? ⟨g, 11, none⟩ = false := blk_frozen K6.out 11
          go_wp2_with (fail)
          refine Calls.mono (heldInt_nil 11 _) ?_
          rintro e w7 ⟨rfl, hb7⟩
          have K7 := Aside0.mk (blk_below K6.out hb7)
          have B7 := Aside0.mk (B6.out.trans (hb7.mono z6))
          have z7 : w.heap.size ≤ w7.heap.size := Nat.le_trans z6 hb7.size
          clear hb7 c3 f3 c4 f4 c5 f5
          go_wp2_with (fail)
          refine ⟨⟨2, by omega, by first | rfl | go_num, by first | rfl | go_num, K7.out, B7.out, z7⟩, by simp [intOf]⟩
    · have : i = 0 := by omega
      subst this
      go_wp2_with (fail)
      go_ret
      exact ⟨rfl, HB.out⟩
theorem mark_bank (g : Nat) (w : World) (h : w.heap[g]? = some (.cells C0 50 (0, 0))) :
    Calls Try.prog 15 #[.agg #[.slice none 0 0, .slice none 0 0, .slice (some ⟨g, 0, none⟩) 2 2], .int .i64 1] w fun e w' => e = .returned (.int .i64 11) ∧ w'.heap[g]? = some (.cells C2 50 (0, 0)) ∧ w.grownBy w' (some g) := by
  have h0 := Aside0.mk h
  have hg := blk_lt h
  clear h
  go_enter Try.func15, Try.ntmps15
  go_wp2_with (fail)
  refine Calls.mono (markStr_nil 1 _) ?_
  rintro e w1 ⟨rfl, hb1⟩
  have X1 := Aside0.mk (blk_below (blk_new w _) hb1)
  have G1 := Aside0.mk (blk_below (blk_alloc h0.out _) hb1)
  have W1 := Aside0.mk ((below_alloc (Below.refl w.heap.size w) _).trans (hb1.mono (by simp)))
  have c1 := (blk_cell X1.out 1).trans rfl
  clear hb1
  go_wp2_with (fail)
  refine Calls.mono (markFun_nil 1 _) ?_
  rintro e w2 ⟨rfl, hb2⟩
  have X2 := Aside0.mk (blk_below X1.out hb2)
  have G2 := Aside0.mk (blk_below G1.out hb2)
  have W2 := Aside0.mk (W1.out.trans (hb2.mono W1.out.size))
  have c2 := (blk_cell X2.out 2).trans rfl
  clear hb2 c1
  go_wp2_with (fail)
  refine Calls.mono (mark_terms g w2 G2.out) ?_
  rintro e w3 ⟨rfl, hk3, hb3⟩
  have K3 := Aside0.mk hk3
  have B3 := Aside0.mk hb3
  clear hk3 hb3 c2
  go_wp2_with (fail)
  go_ret
  exact ⟨rfl, K3.out, World.grownBy.trans (grown_of_below W2.out _) B3.out⟩
theorem held_bank (g : Nat) (w : World) (h : w.heap[g]? = some (.cells C2 50 (0, 0))) :
    Calls Try.prog 16 #[.agg #[.slice none 0 0, .slice none 0 0, .slice (some ⟨g, 0, none⟩) 2 2], .int .i64 1] w fun e w' => e = .returned (.int .i64 11) ∧ Below w.heap.size w w' := by
  have h0 := Aside0.mk h
  have hg := blk_lt h
  clear h
  go_enter Try.func16, Try.ntmps16
  go_wp2_with (fail)
  refine Calls.mono (heldStr_nil 1 _) ?_
  rintro e w1 ⟨rfl, hb1⟩
  have X1 := Aside0.mk (blk_below (blk_new w _) hb1)
  have G1 := Aside0.mk (blk_below (blk_alloc h0.out _) hb1)
  have W1 := Aside0.mk ((below_alloc (Below.refl w.heap.size w) _).trans (hb1.mono (by simp)))
  have c1 := (blk_cell X1.out 1).trans rfl
  clear hb1
  go_wp2_with (fail)
  refine Calls.mono (heldFun_nil 1 _) ?_
  rintro e w2 ⟨rfl, hb2⟩
  have X2 := Aside0.mk (blk_below X1.out hb2)
  have G2 := Aside0.mk (blk_below G1.out hb2)
  have W2 := Aside0.mk (W1.out.trans (hb2.mono W1.out.size))
  have c2 := (blk_cell X2.out 2).trans rfl
  clear hb2 c1
  go_wp2_with (fail)
  refine Calls.mono (held_terms g w2 G2.out) ?_
  rintro e w3 ⟨rfl, hb3⟩
  have B3 := Aside0.mk (W2.out.trans (hb3.mono W2.out.size))
  clear hb3 c2
  go_wp2_with (fail)
  go_ret
  exact ⟨rfl, B3.out⟩
theorem eq_bank (gs g : Nat) (w : World) (hs : w.heap[gs]? = some (.cells C0 50 (0, 0))) (h : w.heap[g]? = some (.cells C0 50 (0, 0))) :
    Calls Try.prog 14 #[.agg #[.slice none 0 0, .slice none 0 0, .slice (some ⟨g, 0, none⟩) 2 2], .agg #[.slice none 0 0, .slice none 0 0, .slice (some ⟨gs, 0, none⟩) 2 2]] w fun e w' => e = .returned (.bool true) ∧ Below w.heap.size w w' :=
  have nilS : Kd.C Kd.string w none 0 [] := ⟨rfl, by decide, fun h => absurd h (by decide)⟩
  have nilF : Kd.C k66 w none 0 [] := ⟨rfl, by decide, fun h => absurd h (by decide)⟩
  laws_eqBank.calls 9 none 0 [] none 0 [] (some ⟨g, 0, none⟩) 2 T0 none 0 [] none 0 [] (some ⟨gs, 0, none⟩) 2 T0 true w nilS (Nat.le_refl _) nilF (Nat.le_refl _) (reads_terms _ _ rfl rfl h) (Nat.le_refl _) nilS (Nat.le_refl _) nilF (Nat.le_refl _) (reads_terms _ _ rfl rfl hs) (Nat.le_refl _) eq_T0
set_option maxHeartbeats 2000000 in
theorem law_walk (w : World) : Calls Try.prog 6 #[] w fun e w' => e = .returned (.bool true) ∧ Below w.heap.size w w' := by
  go_enter Try.func6, Try.ntmps6
  go_wp2_with (fail)
  refine Calls.mono (spec_nb _) ?_
  rintro e w1 ⟨gs, rfl, hgs, hk1, hb1⟩
  have hgs1 := blk_lt hk1
  have A1 := Aside0.mk (below_alloc hb1 (.cells #[.slice none 0 0, .slice none 0 0, .slice (some ⟨gs, 0, none⟩) 2 2] 31))
  have K1 := Aside0.mk (blk_alloc hk1 (.cells #[.slice none 0 0, .slice none 0 0, .slice (some ⟨gs, 0, none⟩) 2 2] 31))
  clear hk1 hb1
  go_wp2_with (fail)
  refine Calls.mono (impl_nb _) ?_
  rintro e w2 ⟨g, rfl, hg2, hk2, hb2⟩
  have hg2' : w1.heap.size < g := by simp at hg2; omega
  have Kg2 := Aside0.mk (blk_alloc hk2 (.cells #[.slice none 0 0, .slice none 0 0, .slice (some ⟨g, 0, none⟩) 2 2] 31))
  have Ks2 := Aside0.mk (blk_alloc (blk_below K1.out hb2) (.cells #[.slice none 0 0, .slice none 0 0, .slice (some ⟨g, 0, none⟩) 2 2] 31))
  have X2 := Aside0.mk (blk_below (blk_new w1 (.cells #[.slice none 0 0, .slice none 0 0, .slice (some ⟨gs, 0, none⟩) 2 2] 31)) hb2)
  have B2 := Aside0.mk (below_alloc (A1.out.trans (hb2.mono A1.out.size)) (.cells #[.slice none 0 0, .slice none 0 0, .slice (some ⟨g, 0, none⟩) 2 2] 31))
  have hg3 := blk_lt hk2
  have hx2 : w1.heap.size < w2.heap.size := blk_lt X2.out
  clear hk2 hb2 K1 A1 hg2
  have x0 := ((blk_cell X2.out 0).trans rfl : w2.cell? ⟨w1.heap.size, 0, none⟩ = some (.slice none 0 0))
  have x1 := ((blk_cell X2.out 1).trans rfl : w2.cell? ⟨w1.heap.size, 1, none⟩ = some (.slice none 0 0))
  have x2 := ((blk_cell X2.out 2).trans rfl : w2.cell? ⟨w1.heap.size, 2, none⟩ = some (.slice (some ⟨gs, 0, none⟩) 2 2))
  go_wp2_with (fail)
  refine Calls.mono (eq_bank gs g _ Ks2.out Kg2.out) ?_
  rintro e w3 ⟨rfl, hb3⟩
  have Kg3 := Aside0.mk (blk_below Kg2.out hb3)
  have Ks3 := Aside0.mk (blk_below Ks2.out hb3)
  have X3 := Aside0.mk (blk_below (blk_alloc X2.out (.cells #[.slice none 0 0, .slice none 0 0, .slice (some ⟨g, 0, none⟩) 2 2] 31)) hb3)
  have Y3 := Aside0.mk (blk_below (blk_new w2 (.cells #[.slice none 0 0, .slice none 0 0, .slice (some ⟨g, 0, none⟩) 2 2] 31)) hb3)
  have B3 := Aside0.mk (B2.out.trans (hb3.mono B2.out.size))
  clear hb3 x0 x1 x2
  have y0 := ((blk_cell Y3.out 0).trans rfl : w3.cell? ⟨w2.heap.size, 0, none⟩ = some (.slice none 0 0))
  have y1 := ((blk_cell Y3.out 1).trans rfl : w3.cell? ⟨w2.heap.size, 1, none⟩ = some (.slice none 0 0))
  have y2 := ((blk_cell Y3.out 2).trans rfl : w3.cell? ⟨w2.heap.size, 2, none⟩ = some (.slice (some ⟨g, 0, none⟩) 2 2))
  go_wp2_with (fail)
  refine Calls.mono (mark_bank g w3 Kg3.out) ?_
  rintro e w4 ⟨rfl, hk4, hb4⟩
  have Kg4 := Aside0.mk hk4
  have Ks4 := Aside0.mk (gb_blk hb4 Ks3.out (by omega))
  have X4 := Aside0.mk (gb_blk hb4 X3.out (by omega))
  have Y4 := Aside0.mk (gb_blk hb4 Y3.out (by omega))
  have B4 := Aside0.mk (B3.out.grown hb4 B3.out.size (fun k hk => by cases hk; omega))
  clear hk4 hb4 y0 y1 y2
  have y0 := ((blk_cell Y4.out 0).trans rfl : w4.cell? ⟨w2.heap.size, 0, none⟩ = some (.slice none 0 0))
  have y1 := ((blk_cell Y4.out 1).trans rfl : w4.cell? ⟨w2.heap.size, 1, none⟩ = some (.slice none 0 0))
  have y2 := ((blk_cell Y4.out 2).trans rfl : w4.cell? ⟨w2.heap.size, 2, none⟩ = some (.slice (some ⟨g, 0, none⟩) 2 2))
  go_wp2_with (fail)
  refine Calls.mono (held_bank g w4 Kg4.out) ?_
  rintro e w5 ⟨rfl, hb5⟩
  have Kg5 := Aside0.mk (blk_below Kg4.out hb5)
  have Ks5 := Aside0.mk (blk_below Ks4.out hb5)
  have X5 := Aside0.mk (blk_below X4.out hb5)
  have Y5 := Aside0.mk (blk_below Y4.out hb5)
  have B5 := Aside0.mk (B4.out.trans (hb5.mono B4.out.size))
  clear hb5 y0 y1 y2
  go_wp2_with (fail)
  refine Calls.mono (impl_nb _) ?_
  rintro e w6 ⟨h, rfl, hh6, hk6, hb6⟩
  have Kg6 := Aside0.mk (blk_alloc (blk_below Kg5.out hb6) (.cells #[.slice none 0 0, .slice none 0 0, .slice (some ⟨h, 0, none⟩) 2 2] 31))
  have Kh6 := Aside0.mk (blk_alloc hk6 (.cells #[.slice none 0 0, .slice none 0 0, .slice (some ⟨h, 0, none⟩) 2 2] 31))
  have Ks6 := Aside0.mk (blk_alloc (blk_below Ks5.out hb6) (.cells #[.slice none 0 0, .slice none 0 0, .slice (some ⟨h, 0, none⟩) 2 2] 31))
  have X6 := Aside0.mk (blk_below X5.out hb6)
  have Y6 := Aside0.mk (blk_below Y5.out hb6)
  have B6 := Aside0.mk (below_alloc (B5.out.trans (hb6.mono B5.out.size)) (.cells #[.slice none 0 0, .slice none 0 0, .slice (some ⟨h, 0, none⟩) 2 2] 31))
  have hx6 : w1.heap.size < w6.heap.size := blk_lt X6.out
  have hy6 : w2.heap.size < w6.heap.size := blk_lt Y6.out
  clear hk6 hb6
  have x0 := ((blk_cell X6.out 0).trans rfl : w6.cell? ⟨w1.heap.size, 0, none⟩ = some (.slice none 0 0))
  have x1 := ((blk_cell X6.out 1).trans rfl : w6.cell? ⟨w1.heap.size, 1, none⟩ = some (.slice none 0 0))
  have x2 := ((blk_cell X6.out 2).trans rfl : w6.cell? ⟨w1.heap.size, 2, none⟩ = some (.slice (some ⟨gs, 0, none⟩) 2 2))
  go_wp2_with (fail)
  refine Calls.mono (eq_bank gs h _ Ks6.out Kh6.out) ?_
  rintro e w7 ⟨rfl, hb7⟩
  have Kg7 := Aside0.mk (blk_below Kg6.out hb7)
  have Y7 := Aside0.mk (blk_below (blk_alloc Y6.out (.cells #[.slice none 0 0, .slice none 0 0, .slice (some ⟨h, 0, none⟩) 2 2] 31)) hb7)
  have B7 := Aside0.mk (B6.out.trans (hb7.mono B6.out.size))
  clear hb7 x0 x1 x2
  have y0 := ((blk_cell Y7.out 0).trans rfl : w7.cell? ⟨w2.heap.size, 0, none⟩ = some (.slice none 0 0))
  have y1 := ((blk_cell Y7.out 1).trans rfl : w7.cell? ⟨w2.heap.size, 1, none⟩ = some (.slice none 0 0))
  have y2 := ((blk_cell Y7.out 2).trans rfl : w7.cell? ⟨w2.heap.size, 2, none⟩ = some (.slice (some ⟨g, 0, none⟩) 2 2))
  go_wp2_with (fail)
  refine Calls.mono (held_bank g w7 Kg7.out) ?_
  rintro e w8 ⟨rfl, hb8⟩
  have B8 := Aside0.mk (B7.out.trans (hb8.mono B7.out.size))
  clear hb8 y0 y1 y2
  go_wp2_with (fail)
  go_ret
  exact ⟨rfl, B8.out⟩
theorem own : ownKnob Try.prog.godebug = none := by kernel_rfl
set_option maxRecDepth 100000 in
theorem lifted (os : Os) (started : os.Started) (H : Type) (enc : TypeId × Value → H) :
    ReturnsInHanded {} Try.checked os 6 .any (Rows.fnExactNewBankSpec.pre6 enc Try.prog Try.f6 Rows.fnExactNewBankRow.domain false) (Rows.fnExactNewBankSpec.post enc Try.prog Try.f6 false true false false) := by
  refine returnsInHanded_of_change_sized (C := Try.checked) own started (by kernel_rfl) Try.func6
    (ChangeSpec.witness6 (enc := enc) (C := Try.checked) false ⟨#[], #[], []⟩ 8 (by kernel_rfl) (by kernel_rfl) (by kernel_rfl) (by kernel_rfl)) ?_
  intro W base args ds gs before hval0 hW hcnd hsz0 _
  have hW' := hW
  obtain ⟨p, q, hA0, hV, rfl, hfz, hnd⟩ := hW
  have hA : DataW.TrodAll enc Try.prog W 0 (fun _ => true) true Try.f6.params.toList args.toList ds p := hA0
  rw [Try.params6] at hA
  obtain ⟨rfl, rfl, rfl⟩ := trodAll_none hA
  obtain ⟨rfl, rfl⟩ := trodVars_none hV
  clear hA0
  refine (law_walk W).mono fun e W' ⟨he, bel⟩ => ?_
  subst he
  exact ⟨_, rfl, _, _, _, [], _, [], hW', trodAll_mk1 (shut_bool Try.underlying4 _), trodAll_mk0, rfl, bel.frame _, fun h => by cases h⟩
theorem proved : Rows.FnExactNewBankSaid :=
  OpenClaim.holds_of_wide 6 Try.f6 rfl rfl rfl rfl rfl rfl rfl ⟨rfl, rfl, rfl, rfl, rfl⟩ rfl rfl rfl rfl rfl (by kernel_rfl) Try.func6 (by kernel_rfl)
    (of_decide_eq_true (by kernel_rfl)) (by unfold Func.isWrapper; first | (rw [if_pos (by decide +kernel)]; kernel_rfl) | (rw [if_neg (by decide +kernel)]; exact ⟨rfl, rfl⟩))
    (fun os started H enc _ => lifted os started H enc)
#print axioms proved
end Go.Proofs.Ytljjenkaofcppaa.fnExactNewBank
namespace Go.Proofs.Ytljjenkaofcppaa
/-- The row, under a short name, for the claim. -/
theorem fnExactNewBank_holds : Rows.FnExactNewBankSaid := fnExactNewBank.proved
end Go.Proofs.Ytljjenkaofcppaa

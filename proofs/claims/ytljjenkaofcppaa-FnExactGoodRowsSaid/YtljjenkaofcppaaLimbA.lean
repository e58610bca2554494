/- spec.l1Limbs and spec.l1Neg, by walks: a number's limbs. -/
import Derived.Test.YtljjenkaofcppaaProg
import Derived.Test.YtljjenkaofcppaaWWords
import Derived.Test.YtljjenkaofcppaaWLast
import Derived.Test.YtljjenkaofcppaaBytes
import Derived.Test.YtljjenkaofcppaaDig
import Derived.WalkKit
import Derived.OwnWalk
import Derived.Deep.OwnRows
import Derived.Laws.MakeOwn
import Derived.Lib.ConvBytes
namespace Go.Proofs.Ytljjenkaofcppaa.Limb
open Go.RowKit Go.Proofs.YtljjenkaofcppaaW.PrintWords Go.Proofs.YtljjenkaofcppaaW.PrintLast Go.Proofs.Ytljjenkaofcppaa Go.Proofs.Ytljjenkaofcppaa.By
set_option linter.unusedVariables false
set_option linter.unusedSimpArgs false
set_option maxRecDepth 100000
/-- limbs in a row: what is read of them -/
def Row (w : World) (v : Value) (xs : List Nat) : Prop := ∃ (A : Option Addr) (c : Nat), v = .slice A xs.length c ∧ xs.length ≤ c ∧ (xs = [] ∨ ∃ g o, A = some ⟨g, o, none⟩ ∧ g < w.heap.size ∧ ∀ (j x : Nat), xs[j]? = some x → w.cell? ⟨g, o + j, none⟩ = some (.int .u32 (x : Int)))
theorem Row.below {w w' : World} {B : Nat} {v : Value} {xs : List Nat} (h : Row w v xs) (hb : Below B w w') (hB : w.heap.size ≤ B) : Row w' v xs := by
  obtain ⟨A, c, e, hc, hC⟩ := h
  refine ⟨A, c, e, hc, ?_⟩
  rcases hC with h | ⟨g, o, rfl, hg, hx⟩
  · exact .inl h
  · exact .inr ⟨g, o, rfl, Nat.lt_of_lt_of_le hg hb.size, fun j x hj => by rw [hb.cell (p := ⟨g, o + j, none⟩) (by show g < B; omega)]; exact hx j x hj⟩
/-- the limbs of a number below 10^18 -/
def small (u : Nat) : List Nat := if u = 0 then [] else if u < 1000000000 then [u] else [u % 1000000000, u / 1000000000]
theorem spec_neg_big (v : Int) (ng : Bool) (A : Option Addr) (n c : Nat) (hn : 0 < n) (w : World) :
    Calls Try.prog 54 #[.agg #[.int .i64 v, .bool ng, .slice A n c]] w fun e w' => e = .returned (.bool ng) ∧ Below w.heap.size w w' := by
  have h0 : decide (0 < (n : Int)) = true := decide_eq_true (by omega)
  have h1 : decide (0 < n) = true := decide_eq_true hn
  go_enter Try.func54, Try.ntmps54
  go_wp2_with (go_in)
  go_ret
  exact ⟨rfl, (Below.refl _ _).alloc (Nat.le_refl _) _⟩
theorem spec_neg_small (v : Int) (ng : Bool) (w : World) :
    Calls Try.prog 54 #[.agg #[.int .i64 v, .bool ng, .slice none 0 0]] w fun e w' => e = .returned (.bool (decide (v < 0))) ∧ Below w.heap.size w w' := by
  go_enter Try.func54, Try.ntmps54
  go_wp2_with (go_in)
  go_ret
  exact ⟨rfl, (Below.refl _ _).alloc (Nat.le_refl _) _⟩
theorem spec_limbs_big (v : Int) (ng : Bool) (A : Option Addr) (n c : Nat) (hn : 0 < n) (w : World) :
    Calls Try.prog 56 #[.agg #[.int .i64 v, .bool ng, .slice A n c]] w fun e w' => e = .returned (.slice A n c) ∧ Below w.heap.size w w' := by
  have h0 : decide (0 < (n : Int)) = true := decide_eq_true (by omega)
  have h1 : decide (0 < n) = true := decide_eq_true hn
  go_enter Try.func56, Try.ntmps56
  go_wp2_with (go_in)
  go_ret
  exact ⟨rfl, (Below.refl _ _).alloc (Nat.le_refl _) _⟩
theorem row1 (W : World) (t : TypeId) (a B : Nat) (hB : W.heap.size = B) : Row (W.alloc (.cells #[.int .u32 (a : Int)] t)) (.slice (some ⟨B, 0, none⟩) 1 1) [a] := by
  subst hB
  refine ⟨_, _, rfl, Nat.le_refl _, .inr ⟨_, _, rfl, by simp, fun j x hj => ?_⟩⟩
  rcases j with _ | j
  · cases hj; exact World.cell?_alloc_at _ _ _ _ rfl
  · simp at hj
theorem row2 (W : World) (t : TypeId) (a b B : Nat) (hB : W.heap.size = B) : Row (W.alloc (.cells #[.int .u32 (a : Int), .int .u32 (b : Int)] t)) (.slice (some ⟨B, 0, none⟩) 2 2) [a, b] := by
  subst hB
  refine ⟨_, _, rfl, Nat.le_refl _, .inr ⟨_, _, rfl, by simp, fun j x hj => ?_⟩⟩
  rcases j with _ | _ | j
  · cases hj; exact World.cell?_alloc_at _ _ _ _ rfl
  · cases hj; exact World.cell?_alloc_at _ _ _ _ rfl
  · simp at hj
theorem spec_limbs_small (u : Nat) (hu : u < 1000000000000000000) (v : Int) (hv : v = u ∨ v = -(u : Int)) (ng : Bool) (w : World) :
    Calls Try.prog 56 #[.agg #[.int .i64 v, .bool ng, .slice none 0 0]] w fun e w' => ∃ rv, e = .returned rv ∧ Row w' rv (small u) ∧ Below w.heap.size w w' := by
  by_cases h0 : u = 0
  · subst h0
    have : v = 0 := by omega
    subst this
    go_enter Try.func56, Try.ntmps56
    go_wp2_with (go_in)
    go_ret
    exact ⟨_, rfl, ⟨none, 0, rfl, Nat.le_refl _, .inl rfl⟩, (Below.refl _ _).alloc (Nat.le_refl _) _⟩
  have hd : decide (0 < u) = true := decide_eq_true (by omega)
  have hu1 : 0 < u := by omega
  have gz : decide ((u : Int) < 0) = false := decide_eq_false (by omega)
  have hz : ((u : Int) == 0) = false := beq_eq_false_iff_ne.2 (by omega)
  by_cases h9 : u < 1000000000
  · have hS : Hid (small u = [u]) := by show small u = [u]; unfold small; rw [if_neg h0, if_pos h9]
    have g9 : decide ((u : Int) < 1000000000) = true := decide_eq_true (by omega)
    have gi : (u : Int) < 1000000000 := by omega
    have gd : (u : Int) % 4294967296 = u := by omega
    clear h9 hu
    rcases hv with rfl | rfl
    all_goals
      go_enter Try.func56, Try.ntmps56
      go_wp2_with (go_in)
      go_ret
      refine ⟨.slice (some ⟨w.heap.size + 1, 0, none⟩) 1 1, rfl, ?_, ((Below.refl _ _).alloc (Nat.le_refl _) _).alloc (by simp) _⟩
      rw [hS.out]
      exact row1 _ _ u _ (by simp)
  · have hS : Hid (small u = [u % 1000000000, u / 1000000000]) := by show small u = _; unfold small; rw [if_neg h0, if_neg h9]
    have g9 : decide ((u : Int) < 1000000000) = false := decide_eq_false (by omega)
    have gi : (u : Int) < 1000000000000000000 := by omega
    have gi' : 1000000000 ≤ (u : Int) := by omega
    clear h9 hu
    rcases hv with rfl | rfl
    all_goals
      go_enter Try.func56, Try.ntmps56
      go_wp2_with (go_in)
      go_ret
      refine ⟨.slice (some ⟨w.heap.size + 1, 0, none⟩) 2 2, rfl, ?_, ((Below.refl _ _).alloc (Nat.le_refl _) _).alloc (by simp) _⟩
      rw [hS.out]
      exact row2 _ _ (u % 1000000000) (u / 1000000000) _ (by simp)
end Go.Proofs.Ytljjenkaofcppaa.Limb

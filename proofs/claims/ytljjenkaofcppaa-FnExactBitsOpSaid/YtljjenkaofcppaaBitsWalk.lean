/- FnExactBitsOp, the walks: the program's BitsOp and the reference's, one theorem a case of the operation; conditions: 1 ≤ n ≤ 64, m the mask 2^n - 1, A and B the two arguments under it. -/
import Derived.Test.YtljjenkaofcppaaPFnExactBitsOpx1
import Derived.Test.YtljjenkaofcppaaBitsPlain
import Derived.Laws.BitsAllLaws
import Derived.WalkLawsBesides
import Derived.Laws.EntriesVeiled
import Derived.Deep.QuietTactic
import Derived.BigQuiet
namespace Go.Proofs.Ytljjenkaofcppaa.BitsOp
open Go.RowKit Go.Proofs.Ytljjenkaofcppaa.PFnExactBitsOp Go.Proofs.YtljjenkaofcppaaW.PrintWords
set_option linter.unusedVariables false
set_option maxRecDepth 100000

theorem grown_drewN {w w' : World} (h : Grown w w') (n : Nat) : Grown w (w'.drewN n) := by
  induction n with
  | zero => exact h
  | succ n ih => rw [← World.drew_drewN]; exact ih.drew

theorem mask_calls (n m : Int) (w : World) (h1 : 1 ≤ n) (h2 : n ≤ 64) (hm : m = 2 ^ n.toNat - 1) :
    Calls Try.prog 23 #[.int .i64 n] w fun e w' => e = .returned (.int .u64 m) ∧ Drawn0 w w' :=
  spec_l6Mask.calls n m w (mask_f n m h1 h2 hm)

theorem sign_calls (x n m : Int) (p5 p9 p10 : Addr) (w : World) (h1 : 1 ≤ n) (h2 : n ≤ 64) (c5 : w.cell? p5 = some (.int .i64 n)) (c9 : w.cell? p9 = some (.int .u64 m))
    (c10 : w.cell? p10 = some (.func (.func 25) #[] #[.pointer (some p5)])) :
    Calls Try.prog 27 #[.int .u64 x, .pointer (some p10), .pointer (some p9)] w fun e w' => e = .returned (.int .i64 (sgn n m x)) ∧ w = w' := by
  by_cases ht : (bits .and .u64 (x / 2 ^ (n.toNat - 1)) 1 == 1) = true
  · have e : sgn n m x = wrap64 (bits .or .u64 x (bits .xor .u64 IntKind.u64.max m)) := by unfold sgn; rw [if_pos ht]
    rw [e]
    clear e
    go_enter Try.func27, Try.ntmps27
    go_wp2_with (go_in)
    go_ret
    exact ⟨rfl, rfl⟩
  · have e : sgn n m x = wrap64 x := by unfold sgn; rw [if_neg ht]
    have ht' : (bits .and .u64 (x / 2 ^ (n.toNat - 1)) 1 == 1) = false := by simpa using ht
    rw [e]
    clear e ht
    go_enter Try.func27, Try.ntmps27
    go_wp2_with (go_in)
    go_ret
    exact ⟨rfl, rfl⟩

set_option maxHeartbeats 1000000 in
theorem spec_eq1 (n a b m A B : Int) (w : World) (h1 : 1 ≤ n) (h2 : n ≤ 64) (HM : Hid (m = 2 ^ n.toNat - 1)) (hA : bits .and .u64 a m = A) (hB : bits .and .u64 b m = B) (a0 : 0 ≤ A) (a1 : A ≤ m) (b0 : 0 ≤ B) (b1 : B ≤ m) (h : (A == B) = true) :
    Calls Try.prog 10 #[.int .i64 9, .int .i64 n, .int .u64 a, .int .u64 b] w fun e w' => e = .returned (.int .u64 (1)) ∧ Drawn0 w w' := by
  go_enter Try.func10, Try.ntmps10
  go_wp2_with (first | (go_at_call 23; refine (mask_calls _ m _ h1 h2 HM.out).mono ?_; rintro e w' ⟨rfl, hw⟩) | go_in)
  go_ret
  exact ⟨rfl, hw⟩

set_option maxHeartbeats 1000000 in
theorem impl_eq1 (n a b m A B : Int) (w : World) (h1 : 1 ≤ n) (h2 : n ≤ 64) (hm : 18446744073709551615 / 2 ^ (64 - n).toNat = m) (hA : bits .and .u64 a m = A) (hB : bits .and .u64 b m = B)  (a0 : 0 ≤ A) (a1 : A ≤ m) (b0 : 0 ≤ B) (b1 : B ≤ m) (h : (A == B) = true) :
    Calls Try.prog 11 #[.int .i64 9, .int .i64 n, .int .u64 a, .int .u64 b] w fun e w' => e = .returned (.int .u64 (1)) ∧ Grown w w' := by
  go_enter Try.func11, Try.ntmps11
  go_wp2_with (fail)
  go_quiet (fail)
  go_wp2_with (first | (go_at_call 27; refine (sign_calls _ n m ⟨w.heap.size, 0, none⟩ ⟨w.heap.size + 1, 0, none⟩ ⟨w.heap.size + 1 + 1, 0, none⟩ _ h1 h2 (by go_simp) (by go_simp) (by go_simp)).mono ?_; rintro e w' ⟨rfl, rfl⟩) | go_in)
  go_ret
  exact ⟨rfl, Grown.alloc (grown_drewN (Grown.alloc (Grown.alloc (Grown.refl _) _ _) _ _) _) _ _⟩

set_option maxHeartbeats 1000000 in
theorem spec_eq0 (n a b m A B : Int) (w : World) (h1 : 1 ≤ n) (h2 : n ≤ 64) (HM : Hid (m = 2 ^ n.toNat - 1)) (hA : bits .and .u64 a m = A) (hB : bits .and .u64 b m = B) (a0 : 0 ≤ A) (a1 : A ≤ m) (b0 : 0 ≤ B) (b1 : B ≤ m) (h : (A == B) = false) :
    Calls Try.prog 10 #[.int .i64 9, .int .i64 n, .int .u64 a, .int .u64 b] w fun e w' => e = .returned (.int .u64 (0)) ∧ Drawn0 w w' := by
  go_enter Try.func10, Try.ntmps10
  go_wp2_with (first | (go_at_call 23; refine (mask_calls _ m _ h1 h2 HM.out).mono ?_; rintro e w' ⟨rfl, hw⟩) | go_in)
  go_ret
  exact ⟨rfl, hw⟩

set_option maxHeartbeats 1000000 in
theorem impl_eq0 (n a b m A B : Int) (w : World) (h1 : 1 ≤ n) (h2 : n ≤ 64) (hm : 18446744073709551615 / 2 ^ (64 - n).toNat = m) (hA : bits .and .u64 a m = A) (hB : bits .and .u64 b m = B)  (a0 : 0 ≤ A) (a1 : A ≤ m) (b0 : 0 ≤ B) (b1 : B ≤ m) (h : (A == B) = false) :
    Calls Try.prog 11 #[.int .i64 9, .int .i64 n, .int .u64 a, .int .u64 b] w fun e w' => e = .returned (.int .u64 (0)) ∧ Grown w w' := by
  go_enter Try.func11, Try.ntmps11
  go_wp2_with (fail)
  go_quiet (fail)
  go_wp2_with (first | (go_at_call 27; refine (sign_calls _ n m ⟨w.heap.size, 0, none⟩ ⟨w.heap.size + 1, 0, none⟩ ⟨w.heap.size + 1 + 1, 0, none⟩ _ h1 h2 (by go_simp) (by go_simp) (by go_simp)).mono ?_; rintro e w' ⟨rfl, rfl⟩) | go_in)
  go_ret
  exact ⟨rfl, Grown.alloc (grown_drewN (Grown.alloc (Grown.alloc (Grown.refl _) _ _) _ _) _) _ _⟩

set_option maxHeartbeats 1000000 in
theorem spec_nt (n a b m A B : Int) (w : World) (h1 : 1 ≤ n) (h2 : n ≤ 64) (HM : Hid (m = 2 ^ n.toNat - 1)) (hA : bits .and .u64 a m = A) (hB : bits .and .u64 b m = B) (a0 : 0 ≤ A) (a1 : A ≤ m) (b0 : 0 ≤ B) (b1 : B ≤ m)  :
    Calls Try.prog 10 #[.int .i64 25, .int .i64 n, .int .u64 a, .int .u64 b] w fun e w' => e = .returned (.int .u64 (bits .and .u64 (bits .xor .u64 IntKind.u64.max A) m)) ∧ Drawn0 w w' := by
  go_enter Try.func10, Try.ntmps10
  go_wp2_with (first | (go_at_call 23; refine (mask_calls _ m _ h1 h2 HM.out).mono ?_; rintro e w' ⟨rfl, hw⟩) | go_in)
  go_ret
  exact ⟨rfl, hw⟩

set_option maxHeartbeats 1000000 in
theorem impl_nt (n a b m A B : Int) (w : World) (h1 : 1 ≤ n) (h2 : n ≤ 64) (hm : 18446744073709551615 / 2 ^ (64 - n).toNat = m) (hA : bits .and .u64 a m = A) (hB : bits .and .u64 b m = B)  (a0 : 0 ≤ A) (a1 : A ≤ m) (b0 : 0 ≤ B) (b1 : B ≤ m)  :
    Calls Try.prog 11 #[.int .i64 25, .int .i64 n, .int .u64 a, .int .u64 b] w fun e w' => e = .returned (.int .u64 (bits .and .u64 (bits .xor .u64 IntKind.u64.max A) m)) ∧ Grown w w' := by
  go_enter Try.func11, Try.ntmps11
  go_wp2_with (fail)
  go_quiet (fail)
  go_wp2_with (first | (go_at_call 27; refine (sign_calls _ n m ⟨w.heap.size, 0, none⟩ ⟨w.heap.size + 1, 0, none⟩ ⟨w.heap.size + 1 + 1, 0, none⟩ _ h1 h2 (by go_simp) (by go_simp) (by go_simp)).mono ?_; rintro e w' ⟨rfl, rfl⟩) | go_in)
  go_ret
  exact ⟨rfl, Grown.alloc (grown_drewN (Grown.alloc (Grown.alloc (Grown.refl _) _ _) _ _) _) _ _⟩

set_option maxHeartbeats 1000000 in
theorem spec_neg (n a b m A B : Int) (w : World) (h1 : 1 ≤ n) (h2 : n ≤ 64) (HM : Hid (m = 2 ^ n.toNat - 1)) (hA : bits .and .u64 a m = A) (hB : bits .and .u64 b m = B) (a0 : 0 ≤ A) (a1 : A ≤ m) (b0 : 0 ≤ B) (b1 : B ≤ m)  :
    Calls Try.prog 10 #[.int .i64 26, .int .i64 n, .int .u64 a, .int .u64 b] w fun e w' => e = .returned (.int .u64 (bits .and .u64 (IntKind.u64.wrap (-A)) m)) ∧ Drawn0 w w' := by
  go_enter Try.func10, Try.ntmps10
  go_wp2_with (first | (go_at_call 23; refine (mask_calls _ m _ h1 h2 HM.out).mono ?_; rintro e w' ⟨rfl, hw⟩) | go_in)
  go_ret
  exact ⟨rfl, hw⟩

set_option maxHeartbeats 1000000 in
theorem impl_neg (n a b m A B : Int) (w : World) (h1 : 1 ≤ n) (h2 : n ≤ 64) (hm : 18446744073709551615 / 2 ^ (64 - n).toNat = m) (hA : bits .and .u64 a m = A) (hB : bits .and .u64 b m = B)  (a0 : 0 ≤ A) (a1 : A ≤ m) (b0 : 0 ≤ B) (b1 : B ≤ m)  :
    Calls Try.prog 11 #[.int .i64 26, .int .i64 n, .int .u64 a, .int .u64 b] w fun e w' => e = .returned (.int .u64 (bits .and .u64 (IntKind.u64.wrap (-A)) m)) ∧ Grown w w' := by
  go_enter Try.func11, Try.ntmps11
  go_wp2_with (fail)
  go_quiet (fail)
  go_wp2_with (first | (go_at_call 27; refine (sign_calls _ n m ⟨w.heap.size, 0, none⟩ ⟨w.heap.size + 1, 0, none⟩ ⟨w.heap.size + 1 + 1, 0, none⟩ _ h1 h2 (by go_simp) (by go_simp) (by go_simp)).mono ?_; rintro e w' ⟨rfl, rfl⟩) | go_in)
  go_ret
  exact ⟨rfl, Grown.alloc (grown_drewN (Grown.alloc (Grown.alloc (Grown.refl _) _ _) _ _) _) _ _⟩

set_option maxHeartbeats 1000000 in
theorem spec_and (n a b m A B : Int) (w : World) (h1 : 1 ≤ n) (h2 : n ≤ 64) (HM : Hid (m = 2 ^ n.toNat - 1)) (hA : bits .and .u64 a m = A) (hB : bits .and .u64 b m = B) (a0 : 0 ≤ A) (a1 : A ≤ m) (b0 : 0 ≤ B) (b1 : B ≤ m)  :
    Calls Try.prog 10 #[.int .i64 27, .int .i64 n, .int .u64 a, .int .u64 b] w fun e w' => e = .returned (.int .u64 (bits .and .u64 (bits .and .u64 A B) m)) ∧ Drawn0 w w' := by
  go_enter Try.func10, Try.ntmps10
  go_wp2_with (first | (go_at_call 23; refine (mask_calls _ m _ h1 h2 HM.out).mono ?_; rintro e w' ⟨rfl, hw⟩) | go_in)
  go_ret
  exact ⟨rfl, hw⟩

set_option maxHeartbeats 1000000 in
theorem impl_and (n a b m A B : Int) (w : World) (h1 : 1 ≤ n) (h2 : n ≤ 64) (hm : 18446744073709551615 / 2 ^ (64 - n).toNat = m) (hA : bits .and .u64 a m = A) (hB : bits .and .u64 b m = B)  (a0 : 0 ≤ A) (a1 : A ≤ m) (b0 : 0 ≤ B) (b1 : B ≤ m)  :
    Calls Try.prog 11 #[.int .i64 27, .int .i64 n, .int .u64 a, .int .u64 b] w fun e w' => e = .returned (.int .u64 (bits .and .u64 (bits .and .u64 A B) m)) ∧ Grown w w' := by
  go_enter Try.func11, Try.ntmps11
  go_wp2_with (fail)
  go_quiet (fail)
  go_wp2_with (first | (go_at_call 27; refine (sign_calls _ n m ⟨w.heap.size, 0, none⟩ ⟨w.heap.size + 1, 0, none⟩ ⟨w.heap.size + 1 + 1, 0, none⟩ _ h1 h2 (by go_simp) (by go_simp) (by go_simp)).mono ?_; rintro e w' ⟨rfl, rfl⟩) | go_in)
  go_ret
  exact ⟨rfl, Grown.alloc (grown_drewN (Grown.alloc (Grown.alloc (Grown.refl _) _ _) _ _) _) _ _⟩

set_option maxHeartbeats 1000000 in
theorem spec_or (n a b m A B : Int) (w : World) (h1 : 1 ≤ n) (h2 : n ≤ 64) (HM : Hid (m = 2 ^ n.toNat - 1)) (hA : bits .and .u64 a m = A) (hB : bits .and .u64 b m = B) (a0 : 0 ≤ A) (a1 : A ≤ m) (b0 : 0 ≤ B) (b1 : B ≤ m)  :
    Calls Try.prog 10 #[.int .i64 28, .int .i64 n, .int .u64 a, .int .u64 b] w fun e w' => e = .returned (.int .u64 (bits .and .u64 (bits .or .u64 A B) m)) ∧ Drawn0 w w' := by
  go_enter Try.func10, Try.ntmps10
  go_wp2_with (first | (go_at_call 23; refine (mask_calls _ m _ h1 h2 HM.out).mono ?_; rintro e w' ⟨rfl, hw⟩) | go_in)
  go_ret
  exact ⟨rfl, hw⟩

set_option maxHeartbeats 1000000 in
theorem impl_or (n a b m A B : Int) (w : World) (h1 : 1 ≤ n) (h2 : n ≤ 64) (hm : 18446744073709551615 / 2 ^ (64 - n).toNat = m) (hA : bits .and .u64 a m = A) (hB : bits .and .u64 b m = B)  (a0 : 0 ≤ A) (a1 : A ≤ m) (b0 : 0 ≤ B) (b1 : B ≤ m)  :
    Calls Try.prog 11 #[.int .i64 28, .int .i64 n, .int .u64 a, .int .u64 b] w fun e w' => e = .returned (.int .u64 (bits .and .u64 (bits .or .u64 A B) m)) ∧ Grown w w' := by
  go_enter Try.func11, Try.ntmps11
  go_wp2_with (fail)
  go_quiet (fail)
  go_wp2_with (first | (go_at_call 27; refine (sign_calls _ n m ⟨w.heap.size, 0, none⟩ ⟨w.heap.size + 1, 0, none⟩ ⟨w.heap.size + 1 + 1, 0, none⟩ _ h1 h2 (by go_simp) (by go_simp) (by go_simp)).mono ?_; rintro e w' ⟨rfl, rfl⟩) | go_in)
  go_ret
  exact ⟨rfl, Grown.alloc (grown_drewN (Grown.alloc (Grown.alloc (Grown.refl _) _ _) _ _) _) _ _⟩

set_option maxHeartbeats 1000000 in
theorem spec_xor (n a b m A B : Int) (w : World) (h1 : 1 ≤ n) (h2 : n ≤ 64) (HM : Hid (m = 2 ^ n.toNat - 1)) (hA : bits .and .u64 a m = A) (hB : bits .and .u64 b m = B) (a0 : 0 ≤ A) (a1 : A ≤ m) (b0 : 0 ≤ B) (b1 : B ≤ m)  :
    Calls Try.prog 10 #[.int .i64 29, .int .i64 n, .int .u64 a, .int .u64 b] w fun e w' => e = .returned (.int .u64 (bits .and .u64 (bits .xor .u64 A B) m)) ∧ Drawn0 w w' := by
  go_enter Try.func10, Try.ntmps10
  go_wp2_with (first | (go_at_call 23; refine (mask_calls _ m _ h1 h2 HM.out).mono ?_; rintro e w' ⟨rfl, hw⟩) | go_in)
  go_ret
  exact ⟨rfl, hw⟩

set_option maxHeartbeats 1000000 in
theorem impl_xor (n a b m A B : Int) (w : World) (h1 : 1 ≤ n) (h2 : n ≤ 64) (hm : 18446744073709551615 / 2 ^ (64 - n).toNat = m) (hA : bits .and .u64 a m = A) (hB : bits .and .u64 b m = B)  (a0 : 0 ≤ A) (a1 : A ≤ m) (b0 : 0 ≤ B) (b1 : B ≤ m)  :
    Calls Try.prog 11 #[.int .i64 29, .int .i64 n, .int .u64 a, .int .u64 b] w fun e w' => e = .returned (.int .u64 (bits .and .u64 (bits .xor .u64 A B) m)) ∧ Grown w w' := by
  go_enter Try.func11, Try.ntmps11
  go_wp2_with (fail)
  go_quiet (fail)
  go_wp2_with (first | (go_at_call 27; refine (sign_calls _ n m ⟨w.heap.size, 0, none⟩ ⟨w.heap.size + 1, 0, none⟩ ⟨w.heap.size + 1 + 1, 0, none⟩ _ h1 h2 (by go_simp) (by go_simp) (by go_simp)).mono ?_; rintro e w' ⟨rfl, rfl⟩) | go_in)
  go_ret
  exact ⟨rfl, Grown.alloc (grown_drewN (Grown.alloc (Grown.alloc (Grown.refl _) _ _) _ _) _) _ _⟩

set_option maxHeartbeats 1000000 in
theorem spec_add (n a b m A B : Int) (w : World) (h1 : 1 ≤ n) (h2 : n ≤ 64) (HM : Hid (m = 2 ^ n.toNat - 1)) (hA : bits .and .u64 a m = A) (hB : bits .and .u64 b m = B) (a0 : 0 ≤ A) (a1 : A ≤ m) (b0 : 0 ≤ B) (b1 : B ≤ m)  :
    Calls Try.prog 10 #[.int .i64 30, .int .i64 n, .int .u64 a, .int .u64 b] w fun e w' => e = .returned (.int .u64 (bits .and .u64 (IntKind.u64.wrap (A + B)) m)) ∧ Drawn0 w w' := by
  go_enter Try.func10, Try.ntmps10
  go_wp2_with (first | (go_at_call 23; refine (mask_calls _ m _ h1 h2 HM.out).mono ?_; rintro e w' ⟨rfl, hw⟩) | go_in)
  go_ret
  exact ⟨rfl, hw⟩

set_option maxHeartbeats 1000000 in
theorem impl_add (n a b m A B : Int) (w : World) (h1 : 1 ≤ n) (h2 : n ≤ 64) (hm : 18446744073709551615 / 2 ^ (64 - n).toNat = m) (hA : bits .and .u64 a m = A) (hB : bits .and .u64 b m = B)  (a0 : 0 ≤ A) (a1 : A ≤ m) (b0 : 0 ≤ B) (b1 : B ≤ m)  :
    Calls Try.prog 11 #[.int .i64 30, .int .i64 n, .int .u64 a, .int .u64 b] w fun e w' => e = .returned (.int .u64 (bits .and .u64 (IntKind.u64.wrap (A + B)) m)) ∧ Grown w w' := by
  go_enter Try.func11, Try.ntmps11
  go_wp2_with (fail)
  go_quiet (fail)
  go_wp2_with (first | (go_at_call 27; refine (sign_calls _ n m ⟨w.heap.size, 0, none⟩ ⟨w.heap.size + 1, 0, none⟩ ⟨w.heap.size + 1 + 1, 0, none⟩ _ h1 h2 (by go_simp) (by go_simp) (by go_simp)).mono ?_; rintro e w' ⟨rfl, rfl⟩) | go_in)
  go_ret
  exact ⟨rfl, Grown.alloc (grown_drewN (Grown.alloc (Grown.alloc (Grown.refl _) _ _) _ _) _) _ _⟩

set_option maxHeartbeats 1000000 in
theorem spec_sub (n a b m A B : Int) (w : World) (h1 : 1 ≤ n) (h2 : n ≤ 64) (HM : Hid (m = 2 ^ n.toNat - 1)) (hA : bits .and .u64 a m = A) (hB : bits .and .u64 b m = B) (a0 : 0 ≤ A) (a1 : A ≤ m) (b0 : 0 ≤ B) (b1 : B ≤ m)  :
    Calls Try.prog 10 #[.int .i64 31, .int .i64 n, .int .u64 a, .int .u64 b] w fun e w' => e = .returned (.int .u64 (bits .and .u64 (IntKind.u64.wrap (A - B)) m)) ∧ Drawn0 w w' := by
  go_enter Try.func10, Try.ntmps10
  go_wp2_with (first | (go_at_call 23; refine (mask_calls _ m _ h1 h2 HM.out).mono ?_; rintro e w' ⟨rfl, hw⟩) | go_in)
  go_ret
  exact ⟨rfl, hw⟩

set_option maxHeartbeats 1000000 in
theorem impl_sub (n a b m A B : Int) (w : World) (h1 : 1 ≤ n) (h2 : n ≤ 64) (hm : 18446744073709551615 / 2 ^ (64 - n).toNat = m) (hA : bits .and .u64 a m = A) (hB : bits .and .u64 b m = B)  (a0 : 0 ≤ A) (a1 : A ≤ m) (b0 : 0 ≤ B) (b1 : B ≤ m)  :
    Calls Try.prog 11 #[.int .i64 31, .int .i64 n, .int .u64 a, .int .u64 b] w fun e w' => e = .returned (.int .u64 (bits .and .u64 (IntKind.u64.wrap (A - B)) m)) ∧ Grown w w' := by
  go_enter Try.func11, Try.ntmps11
  go_wp2_with (fail)
  go_quiet (fail)
  go_wp2_with (first | (go_at_call 27; refine (sign_calls _ n m ⟨w.heap.size, 0, none⟩ ⟨w.heap.size + 1, 0, none⟩ ⟨w.heap.size + 1 + 1, 0, none⟩ _ h1 h2 (by go_simp) (by go_simp) (by go_simp)).mono ?_; rintro e w' ⟨rfl, rfl⟩) | go_in)
  go_ret
  exact ⟨rfl, Grown.alloc (grown_drewN (Grown.alloc (Grown.alloc (Grown.refl _) _ _) _ _) _) _ _⟩

set_option maxHeartbeats 1000000 in
theorem spec_mul (n a b m A B : Int) (w : World) (h1 : 1 ≤ n) (h2 : n ≤ 64) (HM : Hid (m = 2 ^ n.toNat - 1)) (hA : bits .and .u64 a m = A) (hB : bits .and .u64 b m = B) (a0 : 0 ≤ A) (a1 : A ≤ m) (b0 : 0 ≤ B) (b1 : B ≤ m)  :
    Calls Try.prog 10 #[.int .i64 32, .int .i64 n, .int .u64 a, .int .u64 b] w fun e w' => e = .returned (.int .u64 (bits .and .u64 (IntKind.u64.wrap (A * B)) m)) ∧ Drawn0 w w' := by
  go_enter Try.func10, Try.ntmps10
  go_wp2_with (first | (go_at_call 23; refine (mask_calls _ m _ h1 h2 HM.out).mono ?_; rintro e w' ⟨rfl, hw⟩) | go_in)
  go_ret
  exact ⟨rfl, hw⟩

set_option maxHeartbeats 1000000 in
theorem impl_mul (n a b m A B : Int) (w : World) (h1 : 1 ≤ n) (h2 : n ≤ 64) (hm : 18446744073709551615 / 2 ^ (64 - n).toNat = m) (hA : bits .and .u64 a m = A) (hB : bits .and .u64 b m = B)  (a0 : 0 ≤ A) (a1 : A ≤ m) (b0 : 0 ≤ B) (b1 : B ≤ m)  :
    Calls Try.prog 11 #[.int .i64 32, .int .i64 n, .int .u64 a, .int .u64 b] w fun e w' => e = .returned (.int .u64 (bits .and .u64 (IntKind.u64.wrap (A * B)) m)) ∧ Grown w w' := by
  go_enter Try.func11, Try.ntmps11
  go_wp2_with (fail)
  go_quiet (fail)
  go_wp2_with (first | (go_at_call 27; refine (sign_calls _ n m ⟨w.heap.size, 0, none⟩ ⟨w.heap.size + 1, 0, none⟩ ⟨w.heap.size + 1 + 1, 0, none⟩ _ h1 h2 (by go_simp) (by go_simp) (by go_simp)).mono ?_; rintro e w' ⟨rfl, rfl⟩) | go_in)
  go_ret
  exact ⟨rfl, Grown.alloc (grown_drewN (Grown.alloc (Grown.alloc (Grown.refl _) _ _) _ _) _) _ _⟩

set_option maxHeartbeats 1000000 in
theorem spec_div1 (n a b m A B : Int) (w : World) (h1 : 1 ≤ n) (h2 : n ≤ 64) (HM : Hid (m = 2 ^ n.toNat - 1)) (hA : bits .and .u64 a m = A) (hB : bits .and .u64 b m = B) (a0 : 0 ≤ A) (a1 : A ≤ m) (b0 : 0 ≤ B) (b1 : B ≤ m) (h : (B == 0) = false) (h' : (B != 0) = true) (hb : 1 ≤ B) :
    Calls Try.prog 10 #[.int .i64 33, .int .i64 n, .int .u64 a, .int .u64 b] w fun e w' => e = .returned (.int .u64 (bits .and .u64 (IntKind.u64.wrap (A.tdiv B)) m)) ∧ Drawn0 w w' := by
  go_enter Try.func10, Try.ntmps10
  go_wp2_with (first | (go_at_call 23; refine (mask_calls _ m _ h1 h2 HM.out).mono ?_; rintro e w' ⟨rfl, hw⟩) | go_in)
  go_ret
  exact ⟨rfl, hw⟩

set_option maxHeartbeats 1000000 in
theorem impl_div1 (n a b m A B : Int) (w : World) (h1 : 1 ≤ n) (h2 : n ≤ 64) (hm : 18446744073709551615 / 2 ^ (64 - n).toNat = m) (hA : bits .and .u64 a m = A) (hB : bits .and .u64 b m = B)  (a0 : 0 ≤ A) (a1 : A ≤ m) (b0 : 0 ≤ B) (b1 : B ≤ m) (h : (B == 0) = false) (h' : (B != 0) = true) (hb : 1 ≤ B) :
    Calls Try.prog 11 #[.int .i64 33, .int .i64 n, .int .u64 a, .int .u64 b] w fun e w' => e = .returned (.int .u64 (bits .and .u64 (IntKind.u64.wrap (A.tdiv B)) m)) ∧ Grown w w' := by
  go_enter Try.func11, Try.ntmps11
  go_wp2_with (fail)
  go_quiet (fail)
  go_wp2_with (first | (go_at_call 27; refine (sign_calls _ n m ⟨w.heap.size, 0, none⟩ ⟨w.heap.size + 1, 0, none⟩ ⟨w.heap.size + 1 + 1, 0, none⟩ _ h1 h2 (by go_simp) (by go_simp) (by go_simp)).mono ?_; rintro e w' ⟨rfl, rfl⟩) | go_in)
  go_ret
  exact ⟨rfl, Grown.alloc (grown_drewN (Grown.alloc (Grown.alloc (Grown.refl _) _ _) _ _) _) _ _⟩

set_option maxHeartbeats 1000000 in
theorem spec_div0 (n a b m A B : Int) (w : World) (h1 : 1 ≤ n) (h2 : n ≤ 64) (HM : Hid (m = 2 ^ n.toNat - 1)) (hA : bits .and .u64 a m = A) (hB : bits .and .u64 b m = B) (a0 : 0 ≤ A) (a1 : A ≤ m) (b0 : 0 ≤ B) (b1 : B ≤ m) (h : (B == 0) = true) (h' : (B != 0) = false) :
    Calls Try.prog 10 #[.int .i64 33, .int .i64 n, .int .u64 a, .int .u64 b] w fun e w' => e = .returned (.int .u64 (bits .and .u64 m m)) ∧ Drawn0 w w' := by
  go_enter Try.func10, Try.ntmps10
  go_wp2_with (first | (go_at_call 23; refine (mask_calls _ m _ h1 h2 HM.out).mono ?_; rintro e w' ⟨rfl, hw⟩) | go_in)
  go_ret
  exact ⟨rfl, hw⟩

set_option maxHeartbeats 1000000 in
theorem impl_div0 (n a b m A B : Int) (w : World) (h1 : 1 ≤ n) (h2 : n ≤ 64) (hm : 18446744073709551615 / 2 ^ (64 - n).toNat = m) (hA : bits .and .u64 a m = A) (hB : bits .and .u64 b m = B)  (a0 : 0 ≤ A) (a1 : A ≤ m) (b0 : 0 ≤ B) (b1 : B ≤ m) (h : (B == 0) = true) (h' : (B != 0) = false) :
    Calls Try.prog 11 #[.int .i64 33, .int .i64 n, .int .u64 a, .int .u64 b] w fun e w' => e = .returned (.int .u64 (bits .and .u64 m m)) ∧ Grown w w' := by
  go_enter Try.func11, Try.ntmps11
  go_wp2_with (fail)
  go_quiet (fail)
  go_wp2_with (first | (go_at_call 27; refine (sign_calls _ n m ⟨w.heap.size, 0, none⟩ ⟨w.heap.size + 1, 0, none⟩ ⟨w.heap.size + 1 + 1, 0, none⟩ _ h1 h2 (by go_simp) (by go_simp) (by go_simp)).mono ?_; rintro e w' ⟨rfl, rfl⟩) | go_in)
  go_ret
  exact ⟨rfl, Grown.alloc (grown_drewN (Grown.alloc (Grown.alloc (Grown.refl _) _ _) _ _) _) _ _⟩

set_option maxHeartbeats 1000000 in
theorem spec_rem1 (n a b m A B : Int) (w : World) (h1 : 1 ≤ n) (h2 : n ≤ 64) (HM : Hid (m = 2 ^ n.toNat - 1)) (hA : bits .and .u64 a m = A) (hB : bits .and .u64 b m = B) (a0 : 0 ≤ A) (a1 : A ≤ m) (b0 : 0 ≤ B) (b1 : B ≤ m) (h : (B == 0) = false) (h' : (B != 0) = true) (hb : 1 ≤ B) :
    Calls Try.prog 10 #[.int .i64 34, .int .i64 n, .int .u64 a, .int .u64 b] w fun e w' => e = .returned (.int .u64 (bits .and .u64 (A % B) m)) ∧ Drawn0 w w' := by
  go_enter Try.func10, Try.ntmps10
  go_wp2_with (first | (go_at_call 23; refine (mask_calls _ m _ h1 h2 HM.out).mono ?_; rintro e w' ⟨rfl, hw⟩) | go_in)
  go_ret
  exact ⟨rfl, hw⟩

set_option maxHeartbeats 1000000 in
theorem impl_rem1 (n a b m A B : Int) (w : World) (h1 : 1 ≤ n) (h2 : n ≤ 64) (hm : 18446744073709551615 / 2 ^ (64 - n).toNat = m) (hA : bits .and .u64 a m = A) (hB : bits .and .u64 b m = B)  (a0 : 0 ≤ A) (a1 : A ≤ m) (b0 : 0 ≤ B) (b1 : B ≤ m) (h : (B == 0) = false) (h' : (B != 0) = true) (hb : 1 ≤ B) :
    Calls Try.prog 11 #[.int .i64 34, .int .i64 n, .int .u64 a, .int .u64 b] w fun e w' => e = .returned (.int .u64 (bits .and .u64 (A % B) m)) ∧ Grown w w' := by
  go_enter Try.func11, Try.ntmps11
  go_wp2_with (fail)
  go_quiet (fail)
  go_wp2_with (first | (go_at_call 27; refine (sign_calls _ n m ⟨w.heap.size, 0, none⟩ ⟨w.heap.size + 1, 0, none⟩ ⟨w.heap.size + 1 + 1, 0, none⟩ _ h1 h2 (by go_simp) (by go_simp) (by go_simp)).mono ?_; rintro e w' ⟨rfl, rfl⟩) | go_in)
  go_ret
  exact ⟨rfl, Grown.alloc (grown_drewN (Grown.alloc (Grown.alloc (Grown.refl _) _ _) _ _) _) _ _⟩

set_option maxHeartbeats 1000000 in
theorem spec_rem0 (n a b m A B : Int) (w : World) (h1 : 1 ≤ n) (h2 : n ≤ 64) (HM : Hid (m = 2 ^ n.toNat - 1)) (hA : bits .and .u64 a m = A) (hB : bits .and .u64 b m = B) (a0 : 0 ≤ A) (a1 : A ≤ m) (b0 : 0 ≤ B) (b1 : B ≤ m) (h : (B == 0) = true) (h' : (B != 0) = false) :
    Calls Try.prog 10 #[.int .i64 34, .int .i64 n, .int .u64 a, .int .u64 b] w fun e w' => e = .returned (.int .u64 (bits .and .u64 A m)) ∧ Drawn0 w w' := by
  go_enter Try.func10, Try.ntmps10
  go_wp2_with (first | (go_at_call 23; refine (mask_calls _ m _ h1 h2 HM.out).mono ?_; rintro e w' ⟨rfl, hw⟩) | go_in)
  go_ret
  exact ⟨rfl, hw⟩

set_option maxHeartbeats 1000000 in
theorem impl_rem0 (n a b m A B : Int) (w : World) (h1 : 1 ≤ n) (h2 : n ≤ 64) (hm : 18446744073709551615 / 2 ^ (64 - n).toNat = m) (hA : bits .and .u64 a m = A) (hB : bits .and .u64 b m = B)  (a0 : 0 ≤ A) (a1 : A ≤ m) (b0 : 0 ≤ B) (b1 : B ≤ m) (h : (B == 0) = true) (h' : (B != 0) = false) :
    Calls Try.prog 11 #[.int .i64 34, .int .i64 n, .int .u64 a, .int .u64 b] w fun e w' => e = .returned (.int .u64 (bits .and .u64 A m)) ∧ Grown w w' := by
  go_enter Try.func11, Try.ntmps11
  go_wp2_with (fail)
  go_quiet (fail)
  go_wp2_with (first | (go_at_call 27; refine (sign_calls _ n m ⟨w.heap.size, 0, none⟩ ⟨w.heap.size + 1, 0, none⟩ ⟨w.heap.size + 1 + 1, 0, none⟩ _ h1 h2 (by go_simp) (by go_simp) (by go_simp)).mono ?_; rintro e w' ⟨rfl, rfl⟩) | go_in)
  go_ret
  exact ⟨rfl, Grown.alloc (grown_drewN (Grown.alloc (Grown.alloc (Grown.refl _) _ _) _ _) _) _ _⟩

set_option maxHeartbeats 1000000 in
theorem spec_shl1 (n a b m A B : Int) (w : World) (h1 : 1 ≤ n) (h2 : n ≤ 64) (HM : Hid (m = 2 ^ n.toNat - 1)) (hA : bits .and .u64 a m = A) (hB : bits .and .u64 b m = B) (a0 : 0 ≤ A) (a1 : A ≤ m) (b0 : 0 ≤ B) (b1 : B ≤ m) (h : B < n) :
    Calls Try.prog 10 #[.int .i64 35, .int .i64 n, .int .u64 a, .int .u64 b] w fun e w' => e = .returned (.int .u64 (bits .and .u64 (IntKind.u64.wrap (A * 2 ^ B.toNat)) m)) ∧ Drawn0 w w' := by
  go_enter Try.func10, Try.ntmps10
  go_wp2_with (first | (go_at_call 23; refine (mask_calls _ m _ h1 h2 HM.out).mono ?_; rintro e w' ⟨rfl, hw⟩) | go_in)
  go_ret
  exact ⟨rfl, hw⟩

set_option maxHeartbeats 1000000 in
theorem impl_shl1 (n a b m A B : Int) (w : World) (h1 : 1 ≤ n) (h2 : n ≤ 64) (hm : 18446744073709551615 / 2 ^ (64 - n).toNat = m) (hA : bits .and .u64 a m = A) (hB : bits .and .u64 b m = B)  (a0 : 0 ≤ A) (a1 : A ≤ m) (b0 : 0 ≤ B) (b1 : B ≤ m) (h : B < n) :
    Calls Try.prog 11 #[.int .i64 35, .int .i64 n, .int .u64 a, .int .u64 b] w fun e w' => e = .returned (.int .u64 (bits .and .u64 (IntKind.u64.wrap (A * 2 ^ B.toNat)) m)) ∧ Grown w w' := by
  go_enter Try.func11, Try.ntmps11
  go_wp2_with (fail)
  go_quiet (fail)
  go_wp2_with (first | (go_at_call 27; refine (sign_calls _ n m ⟨w.heap.size, 0, none⟩ ⟨w.heap.size + 1, 0, none⟩ ⟨w.heap.size + 1 + 1, 0, none⟩ _ h1 h2 (by go_simp) (by go_simp) (by go_simp)).mono ?_; rintro e w' ⟨rfl, rfl⟩) | go_in)
  go_ret
  exact ⟨rfl, Grown.alloc (grown_drewN (Grown.alloc (Grown.alloc (Grown.refl _) _ _) _ _) _) _ _⟩

set_option maxHeartbeats 1000000 in
theorem spec_shl0 (n a b m A B : Int) (w : World) (h1 : 1 ≤ n) (h2 : n ≤ 64) (HM : Hid (m = 2 ^ n.toNat - 1)) (hA : bits .and .u64 a m = A) (hB : bits .and .u64 b m = B) (a0 : 0 ≤ A) (a1 : A ≤ m) (b0 : 0 ≤ B) (b1 : B ≤ m) (h : ¬ B < n) :
    Calls Try.prog 10 #[.int .i64 35, .int .i64 n, .int .u64 a, .int .u64 b] w fun e w' => e = .returned (.int .u64 (bits .and .u64 0 m)) ∧ Drawn0 w w' := by
  go_enter Try.func10, Try.ntmps10
  go_wp2_with (first | (go_at_call 23; refine (mask_calls _ m _ h1 h2 HM.out).mono ?_; rintro e w' ⟨rfl, hw⟩) | go_in)
  go_ret
  exact ⟨rfl, hw⟩

set_option maxHeartbeats 1000000 in
theorem impl_shl0 (n a b m A B : Int) (w : World) (h1 : 1 ≤ n) (h2 : n ≤ 64) (hm : 18446744073709551615 / 2 ^ (64 - n).toNat = m) (hA : bits .and .u64 a m = A) (hB : bits .and .u64 b m = B)  (a0 : 0 ≤ A) (a1 : A ≤ m) (b0 : 0 ≤ B) (b1 : B ≤ m) (h : ¬ B < n) :
    Calls Try.prog 11 #[.int .i64 35, .int .i64 n, .int .u64 a, .int .u64 b] w fun e w' => e = .returned (.int .u64 (bits .and .u64 0 m)) ∧ Grown w w' := by
  go_enter Try.func11, Try.ntmps11
  go_wp2_with (fail)
  go_quiet (fail)
  go_wp2_with (first | (go_at_call 27; refine (sign_calls _ n m ⟨w.heap.size, 0, none⟩ ⟨w.heap.size + 1, 0, none⟩ ⟨w.heap.size + 1 + 1, 0, none⟩ _ h1 h2 (by go_simp) (by go_simp) (by go_simp)).mono ?_; rintro e w' ⟨rfl, rfl⟩) | go_in)
  go_ret
  exact ⟨rfl, Grown.alloc (grown_drewN (Grown.alloc (Grown.alloc (Grown.refl _) _ _) _ _) _) _ _⟩

set_option maxHeartbeats 1000000 in
theorem spec_shr1 (n a b m A B : Int) (w : World) (h1 : 1 ≤ n) (h2 : n ≤ 64) (HM : Hid (m = 2 ^ n.toNat - 1)) (hA : bits .and .u64 a m = A) (hB : bits .and .u64 b m = B) (a0 : 0 ≤ A) (a1 : A ≤ m) (b0 : 0 ≤ B) (b1 : B ≤ m) (h : B < n) :
    Calls Try.prog 10 #[.int .i64 36, .int .i64 n, .int .u64 a, .int .u64 b] w fun e w' => e = .returned (.int .u64 (bits .and .u64 (A / 2 ^ B.toNat) m)) ∧ Drawn0 w w' := by
  go_enter Try.func10, Try.ntmps10
  go_wp2_with (first | (go_at_call 23; refine (mask_calls _ m _ h1 h2 HM.out).mono ?_; rintro e w' ⟨rfl, hw⟩) | go_in)
  go_ret
  exact ⟨rfl, hw⟩

set_option maxHeartbeats 1000000 in
theorem impl_shr1 (n a b m A B : Int) (w : World) (h1 : 1 ≤ n) (h2 : n ≤ 64) (hm : 18446744073709551615 / 2 ^ (64 - n).toNat = m) (hA : bits .and .u64 a m = A) (hB : bits .and .u64 b m = B)  (a0 : 0 ≤ A) (a1 : A ≤ m) (b0 : 0 ≤ B) (b1 : B ≤ m) (h : B < n) :
    Calls Try.prog 11 #[.int .i64 36, .int .i64 n, .int .u64 a, .int .u64 b] w fun e w' => e = .returned (.int .u64 (bits .and .u64 (A / 2 ^ B.toNat) m)) ∧ Grown w w' := by
  go_enter Try.func11, Try.ntmps11
  go_wp2_with (fail)
  go_quiet (fail)
  go_wp2_with (first | (go_at_call 27; refine (sign_calls _ n m ⟨w.heap.size, 0, none⟩ ⟨w.heap.size + 1, 0, none⟩ ⟨w.heap.size + 1 + 1, 0, none⟩ _ h1 h2 (by go_simp) (by go_simp) (by go_simp)).mono ?_; rintro e w' ⟨rfl, rfl⟩) | go_in)
  go_ret
  exact ⟨rfl, Grown.alloc (grown_drewN (Grown.alloc (Grown.alloc (Grown.refl _) _ _) _ _) _) _ _⟩

set_option maxHeartbeats 1000000 in
theorem spec_shr0 (n a b m A B : Int) (w : World) (h1 : 1 ≤ n) (h2 : n ≤ 64) (HM : Hid (m = 2 ^ n.toNat - 1)) (hA : bits .and .u64 a m = A) (hB : bits .and .u64 b m = B) (a0 : 0 ≤ A) (a1 : A ≤ m) (b0 : 0 ≤ B) (b1 : B ≤ m) (h : ¬ B < n) :
    Calls Try.prog 10 #[.int .i64 36, .int .i64 n, .int .u64 a, .int .u64 b] w fun e w' => e = .returned (.int .u64 (bits .and .u64 0 m)) ∧ Drawn0 w w' := by
  go_enter Try.func10, Try.ntmps10
  go_wp2_with (first | (go_at_call 23; refine (mask_calls _ m _ h1 h2 HM.out).mono ?_; rintro e w' ⟨rfl, hw⟩) | go_in)
  go_ret
  exact ⟨rfl, hw⟩

set_option maxHeartbeats 1000000 in
theorem impl_shr0 (n a b m A B : Int) (w : World) (h1 : 1 ≤ n) (h2 : n ≤ 64) (hm : 18446744073709551615 / 2 ^ (64 - n).toNat = m) (hA : bits .and .u64 a m = A) (hB : bits .and .u64 b m = B)  (a0 : 0 ≤ A) (a1 : A ≤ m) (b0 : 0 ≤ B) (b1 : B ≤ m) (h : ¬ B < n) :
    Calls Try.prog 11 #[.int .i64 36, .int .i64 n, .int .u64 a, .int .u64 b] w fun e w' => e = .returned (.int .u64 (bits .and .u64 0 m)) ∧ Grown w w' := by
  go_enter Try.func11, Try.ntmps11
  go_wp2_with (fail)
  go_quiet (fail)
  go_wp2_with (first | (go_at_call 27; refine (sign_calls _ n m ⟨w.heap.size, 0, none⟩ ⟨w.heap.size + 1, 0, none⟩ ⟨w.heap.size + 1 + 1, 0, none⟩ _ h1 h2 (by go_simp) (by go_simp) (by go_simp)).mono ?_; rintro e w' ⟨rfl, rfl⟩) | go_in)
  go_ret
  exact ⟨rfl, Grown.alloc (grown_drewN (Grown.alloc (Grown.alloc (Grown.refl _) _ _) _ _) _) _ _⟩

set_option maxHeartbeats 1000000 in
theorem spec_lt1 (n a b m A B : Int) (w : World) (h1 : 1 ≤ n) (h2 : n ≤ 64) (HM : Hid (m = 2 ^ n.toNat - 1)) (hA : bits .and .u64 a m = A) (hB : bits .and .u64 b m = B) (a0 : 0 ≤ A) (a1 : A ≤ m) (b0 : 0 ≤ B) (b1 : B ≤ m) (h : A < B) :
    Calls Try.prog 10 #[.int .i64 38, .int .i64 n, .int .u64 a, .int .u64 b] w fun e w' => e = .returned (.int .u64 (1)) ∧ Drawn0 w w' := by
  go_enter Try.func10, Try.ntmps10
  go_wp2_with (first | (go_at_call 23; refine (mask_calls _ m _ h1 h2 HM.out).mono ?_; rintro e w' ⟨rfl, hw⟩) | go_in)
  go_ret
  exact ⟨rfl, hw⟩

set_option maxHeartbeats 1000000 in
theorem impl_lt1 (n a b m A B : Int) (w : World) (h1 : 1 ≤ n) (h2 : n ≤ 64) (hm : 18446744073709551615 / 2 ^ (64 - n).toNat = m) (hA : bits .and .u64 a m = A) (hB : bits .and .u64 b m = B)  (a0 : 0 ≤ A) (a1 : A ≤ m) (b0 : 0 ≤ B) (b1 : B ≤ m) (h : A < B) :
    Calls Try.prog 11 #[.int .i64 38, .int .i64 n, .int .u64 a, .int .u64 b] w fun e w' => e = .returned (.int .u64 (1)) ∧ Grown w w' := by
  go_enter Try.func11, Try.ntmps11
  go_wp2_with (fail)
  go_quiet (fail)
  go_wp2_with (first | (go_at_call 27; refine (sign_calls _ n m ⟨w.heap.size, 0, none⟩ ⟨w.heap.size + 1, 0, none⟩ ⟨w.heap.size + 1 + 1, 0, none⟩ _ h1 h2 (by go_simp) (by go_simp) (by go_simp)).mono ?_; rintro e w' ⟨rfl, rfl⟩) | go_in)
  go_ret
  exact ⟨rfl, Grown.alloc (grown_drewN (Grown.alloc (Grown.alloc (Grown.refl _) _ _) _ _) _) _ _⟩

set_option maxHeartbeats 1000000 in
theorem spec_lt0 (n a b m A B : Int) (w : World) (h1 : 1 ≤ n) (h2 : n ≤ 64) (HM : Hid (m = 2 ^ n.toNat - 1)) (hA : bits .and .u64 a m = A) (hB : bits .and .u64 b m = B) (a0 : 0 ≤ A) (a1 : A ≤ m) (b0 : 0 ≤ B) (b1 : B ≤ m) (h : ¬ A < B) :
    Calls Try.prog 10 #[.int .i64 38, .int .i64 n, .int .u64 a, .int .u64 b] w fun e w' => e = .returned (.int .u64 (0)) ∧ Drawn0 w w' := by
  go_enter Try.func10, Try.ntmps10
  go_wp2_with (first | (go_at_call 23; refine (mask_calls _ m _ h1 h2 HM.out).mono ?_; rintro e w' ⟨rfl, hw⟩) | go_in)
  go_ret
  exact ⟨rfl, hw⟩

set_option maxHeartbeats 1000000 in
theorem impl_lt0 (n a b m A B : Int) (w : World) (h1 : 1 ≤ n) (h2 : n ≤ 64) (hm : 18446744073709551615 / 2 ^ (64 - n).toNat = m) (hA : bits .and .u64 a m = A) (hB : bits .and .u64 b m = B)  (a0 : 0 ≤ A) (a1 : A ≤ m) (b0 : 0 ≤ B) (b1 : B ≤ m) (h : ¬ A < B) :
    Calls Try.prog 11 #[.int .i64 38, .int .i64 n, .int .u64 a, .int .u64 b] w fun e w' => e = .returned (.int .u64 (0)) ∧ Grown w w' := by
  go_enter Try.func11, Try.ntmps11
  go_wp2_with (fail)
  go_quiet (fail)
  go_wp2_with (first | (go_at_call 27; refine (sign_calls _ n m ⟨w.heap.size, 0, none⟩ ⟨w.heap.size + 1, 0, none⟩ ⟨w.heap.size + 1 + 1, 0, none⟩ _ h1 h2 (by go_simp) (by go_simp) (by go_simp)).mono ?_; rintro e w' ⟨rfl, rfl⟩) | go_in)
  go_ret
  exact ⟨rfl, Grown.alloc (grown_drewN (Grown.alloc (Grown.alloc (Grown.refl _) _ _) _ _) _) _ _⟩

set_option maxHeartbeats 1000000 in
theorem spec_le1 (n a b m A B : Int) (w : World) (h1 : 1 ≤ n) (h2 : n ≤ 64) (HM : Hid (m = 2 ^ n.toNat - 1)) (hA : bits .and .u64 a m = A) (hB : bits .and .u64 b m = B) (a0 : 0 ≤ A) (a1 : A ≤ m) (b0 : 0 ≤ B) (b1 : B ≤ m) (h : A ≤ B) :
    Calls Try.prog 10 #[.int .i64 39, .int .i64 n, .int .u64 a, .int .u64 b] w fun e w' => e = .returned (.int .u64 (1)) ∧ Drawn0 w w' := by
  go_enter Try.func10, Try.ntmps10
  go_wp2_with (first | (go_at_call 23; refine (mask_calls _ m _ h1 h2 HM.out).mono ?_; rintro e w' ⟨rfl, hw⟩) | go_in)
  go_ret
  exact ⟨rfl, hw⟩

set_option maxHeartbeats 1000000 in
theorem impl_le1 (n a b m A B : Int) (w : World) (h1 : 1 ≤ n) (h2 : n ≤ 64) (hm : 18446744073709551615 / 2 ^ (64 - n).toNat = m) (hA : bits .and .u64 a m = A) (hB : bits .and .u64 b m = B)  (a0 : 0 ≤ A) (a1 : A ≤ m) (b0 : 0 ≤ B) (b1 : B ≤ m) (h : A ≤ B) :
    Calls Try.prog 11 #[.int .i64 39, .int .i64 n, .int .u64 a, .int .u64 b] w fun e w' => e = .returned (.int .u64 (1)) ∧ Grown w w' := by
  go_enter Try.func11, Try.ntmps11
  go_wp2_with (fail)
  go_quiet (fail)
  go_wp2_with (first | (go_at_call 27; refine (sign_calls _ n m ⟨w.heap.size, 0, none⟩ ⟨w.heap.size + 1, 0, none⟩ ⟨w.heap.size + 1 + 1, 0, none⟩ _ h1 h2 (by go_simp) (by go_simp) (by go_simp)).mono ?_; rintro e w' ⟨rfl, rfl⟩) | go_in)
  go_ret
  exact ⟨rfl, Grown.alloc (grown_drewN (Grown.alloc (Grown.alloc (Grown.refl _) _ _) _ _) _) _ _⟩

set_option maxHeartbeats 1000000 in
theorem spec_le0 (n a b m A B : Int) (w : World) (h1 : 1 ≤ n) (h2 : n ≤ 64) (HM : Hid (m = 2 ^ n.toNat - 1)) (hA : bits .and .u64 a m = A) (hB : bits .and .u64 b m = B) (a0 : 0 ≤ A) (a1 : A ≤ m) (b0 : 0 ≤ B) (b1 : B ≤ m) (h : ¬ A ≤ B) :
    Calls Try.prog 10 #[.int .i64 39, .int .i64 n, .int .u64 a, .int .u64 b] w fun e w' => e = .returned (.int .u64 (0)) ∧ Drawn0 w w' := by
  go_enter Try.func10, Try.ntmps10
  go_wp2_with (first | (go_at_call 23; refine (mask_calls _ m _ h1 h2 HM.out).mono ?_; rintro e w' ⟨rfl, hw⟩) | go_in)
  go_ret
  exact ⟨rfl, hw⟩

set_option maxHeartbeats 1000000 in
theorem impl_le0 (n a b m A B : Int) (w : World) (h1 : 1 ≤ n) (h2 : n ≤ 64) (hm : 18446744073709551615 / 2 ^ (64 - n).toNat = m) (hA : bits .and .u64 a m = A) (hB : bits .and .u64 b m = B)  (a0 : 0 ≤ A) (a1 : A ≤ m) (b0 : 0 ≤ B) (b1 : B ≤ m) (h : ¬ A ≤ B) :
    Calls Try.prog 11 #[.int .i64 39, .int .i64 n, .int .u64 a, .int .u64 b] w fun e w' => e = .returned (.int .u64 (0)) ∧ Grown w w' := by
  go_enter Try.func11, Try.ntmps11
  go_wp2_with (fail)
  go_quiet (fail)
  go_wp2_with (first | (go_at_call 27; refine (sign_calls _ n m ⟨w.heap.size, 0, none⟩ ⟨w.heap.size + 1, 0, none⟩ ⟨w.heap.size + 1 + 1, 0, none⟩ _ h1 h2 (by go_simp) (by go_simp) (by go_simp)).mono ?_; rintro e w' ⟨rfl, rfl⟩) | go_in)
  go_ret
  exact ⟨rfl, Grown.alloc (grown_drewN (Grown.alloc (Grown.alloc (Grown.refl _) _ _) _ _) _) _ _⟩

set_option maxHeartbeats 1000000 in
theorem spec_slt1 (n a b m A B T XA XB : Int) (w : World) (h1 : 1 ≤ n) (h2 : n ≤ 64) (HM : Hid (m = 2 ^ n.toNat - 1)) (hA : bits .and .u64 a m = A) (hB : bits .and .u64 b m = B) (a0 : 0 ≤ A) (a1 : A ≤ m) (b0 : 0 ≤ B) (b1 : B ≤ m) (hT : IntKind.u64.wrap (2 ^ (n.toNat - 1)) = T) (hXA : bits .xor .u64 A T = XA) (hXB : bits .xor .u64 B T = XB) (h : XA < XB) :
    Calls Try.prog 10 #[.int .i64 40, .int .i64 n, .int .u64 a, .int .u64 b] w fun e w' => e = .returned (.int .u64 (1)) ∧ Drawn0 w w' := by
  go_enter Try.func10, Try.ntmps10
  go_wp2_with (first | (go_at_call 23; refine (mask_calls _ m _ h1 h2 HM.out).mono ?_; rintro e w' ⟨rfl, hw⟩) | go_in)
  go_ret
  exact ⟨rfl, hw⟩

set_option maxHeartbeats 1000000 in
theorem impl_slt1 (n a b m A B : Int) (w : World) (h1 : 1 ≤ n) (h2 : n ≤ 64) (hm : 18446744073709551615 / 2 ^ (64 - n).toNat = m) (hA : bits .and .u64 a m = A) (hB : bits .and .u64 b m = B)  (a0 : 0 ≤ A) (a1 : A ≤ m) (b0 : 0 ≤ B) (b1 : B ≤ m) (h : sgn n m A < sgn n m B) :
    Calls Try.prog 11 #[.int .i64 40, .int .i64 n, .int .u64 a, .int .u64 b] w fun e w' => e = .returned (.int .u64 (1)) ∧ Grown w w' := by
  go_enter Try.func11, Try.ntmps11
  go_wp2_with (fail)
  go_quiet (fail)
  go_wp2_with (first | (go_at_call 27; refine (sign_calls _ n m ⟨w.heap.size, 0, none⟩ ⟨w.heap.size + 1, 0, none⟩ ⟨w.heap.size + 1 + 1, 0, none⟩ _ h1 h2 (by go_simp) (by go_simp) (by go_simp)).mono ?_; rintro e w' ⟨rfl, rfl⟩) | go_in)
  go_ret
  exact ⟨rfl, Grown.alloc (grown_drewN (Grown.alloc (Grown.alloc (Grown.refl _) _ _) _ _) _) _ _⟩

set_option maxHeartbeats 1000000 in
theorem spec_slt0 (n a b m A B T XA XB : Int) (w : World) (h1 : 1 ≤ n) (h2 : n ≤ 64) (HM : Hid (m = 2 ^ n.toNat - 1)) (hA : bits .and .u64 a m = A) (hB : bits .and .u64 b m = B) (a0 : 0 ≤ A) (a1 : A ≤ m) (b0 : 0 ≤ B) (b1 : B ≤ m) (hT : IntKind.u64.wrap (2 ^ (n.toNat - 1)) = T) (hXA : bits .xor .u64 A T = XA) (hXB : bits .xor .u64 B T = XB) (h : ¬ XA < XB) :
    Calls Try.prog 10 #[.int .i64 40, .int .i64 n, .int .u64 a, .int .u64 b] w fun e w' => e = .returned (.int .u64 (0)) ∧ Drawn0 w w' := by
  go_enter Try.func10, Try.ntmps10
  go_wp2_with (first | (go_at_call 23; refine (mask_calls _ m _ h1 h2 HM.out).mono ?_; rintro e w' ⟨rfl, hw⟩) | go_in)
  go_ret
  exact ⟨rfl, hw⟩

set_option maxHeartbeats 1000000 in
theorem impl_slt0 (n a b m A B : Int) (w : World) (h1 : 1 ≤ n) (h2 : n ≤ 64) (hm : 18446744073709551615 / 2 ^ (64 - n).toNat = m) (hA : bits .and .u64 a m = A) (hB : bits .and .u64 b m = B)  (a0 : 0 ≤ A) (a1 : A ≤ m) (b0 : 0 ≤ B) (b1 : B ≤ m) (h : ¬ sgn n m A < sgn n m B) :
    Calls Try.prog 11 #[.int .i64 40, .int .i64 n, .int .u64 a, .int .u64 b] w fun e w' => e = .returned (.int .u64 (0)) ∧ Grown w w' := by
  go_enter Try.func11, Try.ntmps11
  go_wp2_with (fail)
  go_quiet (fail)
  go_wp2_with (first | (go_at_call 27; refine (sign_calls _ n m ⟨w.heap.size, 0, none⟩ ⟨w.heap.size + 1, 0, none⟩ ⟨w.heap.size + 1 + 1, 0, none⟩ _ h1 h2 (by go_simp) (by go_simp) (by go_simp)).mono ?_; rintro e w' ⟨rfl, rfl⟩) | go_in)
  go_ret
  exact ⟨rfl, Grown.alloc (grown_drewN (Grown.alloc (Grown.alloc (Grown.refl _) _ _) _ _) _) _ _⟩

set_option maxHeartbeats 1000000 in
theorem spec_sle1 (n a b m A B T XA XB : Int) (w : World) (h1 : 1 ≤ n) (h2 : n ≤ 64) (HM : Hid (m = 2 ^ n.toNat - 1)) (hA : bits .and .u64 a m = A) (hB : bits .and .u64 b m = B) (a0 : 0 ≤ A) (a1 : A ≤ m) (b0 : 0 ≤ B) (b1 : B ≤ m) (hT : IntKind.u64.wrap (2 ^ (n.toNat - 1)) = T) (hXA : bits .xor .u64 A T = XA) (hXB : bits .xor .u64 B T = XB) (h : XA ≤ XB) :
    Calls Try.prog 10 #[.int .i64 41, .int .i64 n, .int .u64 a, .int .u64 b] w fun e w' => e = .returned (.int .u64 (1)) ∧ Drawn0 w w' := by
  go_enter Try.func10, Try.ntmps10
  go_wp2_with (first | (go_at_call 23; refine (mask_calls _ m _ h1 h2 HM.out).mono ?_; rintro e w' ⟨rfl, hw⟩) | go_in)
  go_ret
  exact ⟨rfl, hw⟩

set_option maxHeartbeats 1000000 in
theorem impl_sle1 (n a b m A B : Int) (w : World) (h1 : 1 ≤ n) (h2 : n ≤ 64) (hm : 18446744073709551615 / 2 ^ (64 - n).toNat = m) (hA : bits .and .u64 a m = A) (hB : bits .and .u64 b m = B)  (a0 : 0 ≤ A) (a1 : A ≤ m) (b0 : 0 ≤ B) (b1 : B ≤ m) (h : sgn n m A ≤ sgn n m B) :
    Calls Try.prog 11 #[.int .i64 41, .int .i64 n, .int .u64 a, .int .u64 b] w fun e w' => e = .returned (.int .u64 (1)) ∧ Grown w w' := by
  go_enter Try.func11, Try.ntmps11
  go_wp2_with (fail)
  go_quiet (fail)
  go_wp2_with (first | (go_at_call 27; refine (sign_calls _ n m ⟨w.heap.size, 0, none⟩ ⟨w.heap.size + 1, 0, none⟩ ⟨w.heap.size + 1 + 1, 0, none⟩ _ h1 h2 (by go_simp) (by go_simp) (by go_simp)).mono ?_; rintro e w' ⟨rfl, rfl⟩) | go_in)
  go_ret
  exact ⟨rfl, Grown.alloc (grown_drewN (Grown.alloc (Grown.alloc (Grown.refl _) _ _) _ _) _) _ _⟩

set_option maxHeartbeats 1000000 in
theorem spec_sle0 (n a b m A B T XA XB : Int) (w : World) (h1 : 1 ≤ n) (h2 : n ≤ 64) (HM : Hid (m = 2 ^ n.toNat - 1)) (hA : bits .and .u64 a m = A) (hB : bits .and .u64 b m = B) (a0 : 0 ≤ A) (a1 : A ≤ m) (b0 : 0 ≤ B) (b1 : B ≤ m) (hT : IntKind.u64.wrap (2 ^ (n.toNat - 1)) = T) (hXA : bits .xor .u64 A T = XA) (hXB : bits .xor .u64 B T = XB) (h : ¬ XA ≤ XB) :
    Calls Try.prog 10 #[.int .i64 41, .int .i64 n, .int .u64 a, .int .u64 b] w fun e w' => e = .returned (.int .u64 (0)) ∧ Drawn0 w w' := by
  go_enter Try.func10, Try.ntmps10
  go_wp2_with (first | (go_at_call 23; refine (mask_calls _ m _ h1 h2 HM.out).mono ?_; rintro e w' ⟨rfl, hw⟩) | go_in)
  go_ret
  exact ⟨rfl, hw⟩

set_option maxHeartbeats 1000000 in
theorem impl_sle0 (n a b m A B : Int) (w : World) (h1 : 1 ≤ n) (h2 : n ≤ 64) (hm : 18446744073709551615 / 2 ^ (64 - n).toNat = m) (hA : bits .and .u64 a m = A) (hB : bits .and .u64 b m = B)  (a0 : 0 ≤ A) (a1 : A ≤ m) (b0 : 0 ≤ B) (b1 : B ≤ m) (h : ¬ sgn n m A ≤ sgn n m B) :
    Calls Try.prog 11 #[.int .i64 41, .int .i64 n, .int .u64 a, .int .u64 b] w fun e w' => e = .returned (.int .u64 (0)) ∧ Grown w w' := by
  go_enter Try.func11, Try.ntmps11
  go_wp2_with (fail)
  go_quiet (fail)
  go_wp2_with (first | (go_at_call 27; refine (sign_calls _ n m ⟨w.heap.size, 0, none⟩ ⟨w.heap.size + 1, 0, none⟩ ⟨w.heap.size + 1 + 1, 0, none⟩ _ h1 h2 (by go_simp) (by go_simp) (by go_simp)).mono ?_; rintro e w' ⟨rfl, rfl⟩) | go_in)
  go_ret
  exact ⟨rfl, Grown.alloc (grown_drewN (Grown.alloc (Grown.alloc (Grown.refl _) _ _) _ _) _) _ _⟩

set_option maxHeartbeats 1000000 in
theorem spec_oth (op n a b m A B : Int) (w : World) (h1 : 1 ≤ n) (h2 : n ≤ 64) (HM : Hid (m = 2 ^ n.toNat - 1)) (hA : bits .and .u64 a m = A) (hB : bits .and .u64 b m = B) (a0 : 0 ≤ A) (a1 : A ≤ m) (b0 : 0 ≤ B) (b1 : B ≤ m) (o9 : (op == 9) = false) (o25 : (op == 25) = false) (o26 : (op == 26) = false) (o27 : (op == 27) = false) (o28 : (op == 28) = false) (o29 : (op == 29) = false) (o30 : (op == 30) = false) (o31 : (op == 31) = false) (o32 : (op == 32) = false) (o33 : (op == 33) = false) (o34 : (op == 34) = false) (o35 : (op == 35) = false) (o36 : (op == 36) = false) (o37 : (op == 37) = false) (o38 : (op == 38) = false) (o39 : (op == 39) = false) (o40 : (op == 40) = false) (o41 : (op == 41) = false) :
    Calls Try.prog 10 #[.int .i64 op, .int .i64 n, .int .u64 a, .int .u64 b] w fun e w' => e = .returned (.int .u64 (bits .and .u64 0 m)) ∧ Drawn0 w w' := by
  go_enter Try.func10, Try.ntmps10
  go_wp2_with (first | (go_at_call 23; refine (mask_calls _ m _ h1 h2 HM.out).mono ?_; rintro e w' ⟨rfl, hw⟩) | go_in)
  go_ret
  exact ⟨rfl, hw⟩

set_option maxHeartbeats 1000000 in
theorem impl_oth (op n a b m A B : Int) (w : World) (h1 : 1 ≤ n) (h2 : n ≤ 64) (hm : 18446744073709551615 / 2 ^ (64 - n).toNat = m) (hA : bits .and .u64 a m = A) (hB : bits .and .u64 b m = B)  (a0 : 0 ≤ A) (a1 : A ≤ m) (b0 : 0 ≤ B) (b1 : B ≤ m) (o9 : (op == 9) = false) (o25 : (op == 25) = false) (o26 : (op == 26) = false) (o27 : (op == 27) = false) (o28 : (op == 28) = false) (o29 : (op == 29) = false) (o30 : (op == 30) = false) (o31 : (op == 31) = false) (o32 : (op == 32) = false) (o33 : (op == 33) = false) (o34 : (op == 34) = false) (o35 : (op == 35) = false) (o36 : (op == 36) = false) (o37 : (op == 37) = false) (o38 : (op == 38) = false) (o39 : (op == 39) = false) (o40 : (op == 40) = false) (o41 : (op == 41) = false) :
    Calls Try.prog 11 #[.int .i64 op, .int .i64 n, .int .u64 a, .int .u64 b] w fun e w' => e = .returned (.int .u64 (bits .and .u64 0 m)) ∧ Grown w w' := by
  go_enter Try.func11, Try.ntmps11
  go_wp2_with (fail)
  go_quiet (fail)
  go_wp2_with (first | (go_at_call 27; refine (sign_calls _ n m ⟨w.heap.size, 0, none⟩ ⟨w.heap.size + 1, 0, none⟩ ⟨w.heap.size + 1 + 1, 0, none⟩ _ h1 h2 (by go_simp) (by go_simp) (by go_simp)).mono ?_; rintro e w' ⟨rfl, rfl⟩) | go_in)
  go_ret
  exact ⟨rfl, Grown.alloc (grown_drewN (Grown.alloc (Grown.alloc (Grown.refl _) _ _) _ _) _) _ _⟩

set_option maxHeartbeats 1000000 in
theorem impl_sar1 (n a b m A B : Int) (w : World) (h1 : 1 ≤ n) (h2 : n ≤ 64) (hm : 18446744073709551615 / 2 ^ (64 - n).toNat = m) (hA : bits .and .u64 a m = A) (hB : bits .and .u64 b m = B)  (a0 : 0 ≤ A) (a1 : A ≤ m) (b0 : 0 ≤ B) (b1 : B ≤ m) (h : B < n) :
    Calls Try.prog 11 #[.int .i64 37, .int .i64 n, .int .u64 a, .int .u64 b] w fun e w' => e = .returned (.int .u64 (bits .and .u64 (IntKind.u64.wrap (sgn n m A / 2 ^ B.toNat)) m)) ∧ Grown w w' := by
  go_enter Try.func11, Try.ntmps11
  go_wp2_with (fail)
  go_quiet (fail)
  go_wp2_with (first | (go_at_call 27; refine (sign_calls _ n m ⟨w.heap.size, 0, none⟩ ⟨w.heap.size + 1, 0, none⟩ ⟨w.heap.size + 1 + 1, 0, none⟩ _ h1 h2 (by go_simp) (by go_simp) (by go_simp)).mono ?_; rintro e w' ⟨rfl, rfl⟩) | go_in)
  go_ret
  exact ⟨rfl, Grown.alloc (grown_drewN (Grown.alloc (Grown.alloc (Grown.refl _) _ _) _ _) _) _ _⟩

set_option maxHeartbeats 1000000 in
theorem impl_sar0 (n a b m A B : Int) (w : World) (h1 : 1 ≤ n) (h2 : n ≤ 64) (hm : 18446744073709551615 / 2 ^ (64 - n).toNat = m) (hA : bits .and .u64 a m = A) (hB : bits .and .u64 b m = B)  (a0 : 0 ≤ A) (a1 : A ≤ m) (b0 : 0 ≤ B) (b1 : B ≤ m) (h : ¬ B < n) :
    Calls Try.prog 11 #[.int .i64 37, .int .i64 n, .int .u64 a, .int .u64 b] w fun e w' => e = .returned (.int .u64 (bits .and .u64 (IntKind.u64.wrap (sgn n m A / 2 ^ (n.toNat - 1))) m)) ∧ Grown w w' := by
  go_enter Try.func11, Try.ntmps11
  go_wp2_with (fail)
  go_quiet (fail)
  go_wp2_with (first | (go_at_call 27; refine (sign_calls _ n m ⟨w.heap.size, 0, none⟩ ⟨w.heap.size + 1, 0, none⟩ ⟨w.heap.size + 1 + 1, 0, none⟩ _ h1 h2 (by go_simp) (by go_simp) (by go_simp)).mono ?_; rintro e w' ⟨rfl, rfl⟩) | go_in)
  go_ret
  exact ⟨rfl, Grown.alloc (grown_drewN (Grown.alloc (Grown.alloc (Grown.refl _) _ _) _ _) _) _ _⟩

set_option maxHeartbeats 2000000 in
theorem spec_sar (n a b m A B : Int) (w : World) (h1 : 1 ≤ n) (h2 : n ≤ 64) (HM : Hid (m = 2 ^ n.toNat - 1)) (hA : bits .and .u64 a m = A) (hB : bits .and .u64 b m = B) (a0 : 0 ≤ A) (a1 : A ≤ m) (b0 : 0 ≤ B) (b1 : B ≤ m) :
    Calls Try.prog 10 #[.int .i64 37, .int .i64 n, .int .u64 a, .int .u64 b] w fun e w' => e = .returned (.int .u64 (bits .and .u64 (rs n A B n.toNat) m)) ∧ Drawn0 w w' := by
  go_enter Try.func10, Try.ntmps10
  go_wp2_with (first | (go_at_call 23; refine (mask_calls _ m _ h1 h2 HM.out).mono ?_; rintro e w' ⟨rfl, hw⟩) | go_in)
  go_loop [11, 12] (fun r i => ∃ k : Nat, (k : Int) ≤ n ∧ i = .int .i64 k ∧ r = .int .u64 (rs n A B k)) (fun _ i => (n - intOf i).toNat)
  case atStart => exact ⟨0, by omega, rfl, rfl⟩
  case round =>
    obtain ⟨k, hk, rfl, rfl⟩ := hrel
    by_cases hlt : (k : Int) < n
    · obtain ⟨F, hF⟩ : ∃ F, IntKind.u64.wrap ((k : Int) + B) = F := ⟨_, rfl⟩
      have hF0 : 0 ≤ F ∧ F ≤ IntKind.u64.max := by rw [← hF, IntKind.wrap_u64]; show _ ∧ _ ≤ (18446744073709551615 : Int); omega
      obtain ⟨hF1, hF2⟩ := hF0
      have Hs : Hid (rs n A B (k + 1) = bits .or .u64 (rs n A B k) (IntKind.u64.wrap (bits .and .u64 (A / 2 ^ (fromI n B k).toNat) 1 * 2 ^ k))) := rfl
      have Hf : Hid (fromI n B k = if F < B then n - 1 else if n ≤ F then n - 1 else F) := by show fromI n B k = _; unfold fromI; rw [hF]
      clear hF2
      have HN : Hid ((n - 1).toNat = n.toNat - 1) := by show (n - 1).toNat = n.toNat - 1; omega
      by_cases c1 : F < B
      · go_wp2_with (fail)
        go_round
        case rel => exact ⟨k + 1, by omega, by go_num, by rw [Hs.out, Hf.out, if_pos c1, HN.out]⟩
        case measure => simp [intOf]; omega
      · by_cases c2 : n ≤ F
        · go_wp2_with (fail)
          go_round
          case rel => exact ⟨k + 1, by omega, by go_num, by rw [Hs.out, Hf.out, if_neg c1, if_pos c2, HN.out]⟩
          case measure => simp [intOf]; omega
        · go_wp2_with (fail)
          go_round
          case rel => exact ⟨k + 1, by omega, by go_num, by rw [Hs.out, Hf.out, if_neg c1, if_neg c2]⟩
          case measure => simp [intOf]; omega
    · have hkn : n.toNat = k := by omega
      have Hk : Hid (n.toNat = k) := hkn
      clear hkn
      go_wp2_with (fail)
      go_ret
      exact ⟨by rw [Hk.out]; rfl, hw⟩

theorem spec_bad (op n a b : Int) (w : World) (h : n < 1 ∨ 64 < n) :
    Calls Try.prog 10 #[.int .i64 op, .int .i64 n, .int .u64 a, .int .u64 b] w fun e w' => e = .returned (.int .u64 0) ∧ w = w' := by
  rcases h with h | h
  · go_enter Try.func10, Try.ntmps10
    go_wp2_with (fail)
    go_ret
    exact ⟨rfl, rfl⟩
  · have h' : ¬ n < 1 := by omega
    go_enter Try.func10, Try.ntmps10
    go_wp2_with (fail)
    go_ret
    exact ⟨rfl, rfl⟩
theorem impl_bad (op n a b : Int) (w : World) (h : n < 1 ∨ 64 < n) :
    Calls Try.prog 11 #[.int .i64 op, .int .i64 n, .int .u64 a, .int .u64 b] w fun e w' => e = .returned (.int .u64 0) ∧ Grown w w' := by
  rcases h with h | h
  · go_enter Try.func11, Try.ntmps11
    go_wp2_with (fail)
    go_ret
    exact ⟨rfl, Grown.alloc (Grown.refl _) _ _⟩
  · have h' : ¬ n < 1 := by omega
    go_enter Try.func11, Try.ntmps11
    go_wp2_with (fail)
    go_ret
    exact ⟨rfl, Grown.alloc (Grown.refl _) _ _⟩
end Go.Proofs.Ytljjenkaofcppaa.BitsOp

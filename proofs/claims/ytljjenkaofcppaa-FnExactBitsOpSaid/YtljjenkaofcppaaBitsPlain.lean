/- FnExactBitsOp, the plain law: numbers and bits alone. -/
import Derived.Test.YtljjenkaofcppaaPFnExactBitsOpx1
import Derived.Laws.BitsAllLaws
namespace Go.Proofs.Ytljjenkaofcppaa.BitsOp
open Go.RowKit Go.Proofs.Ytljjenkaofcppaa.PFnExactBitsOp Go.Proofs.YtljjenkaofcppaaW.PrintWords Go.Proofs.YtljjenkaofcppaaW.PrintMore
set_option linter.unusedVariables false
set_option maxRecDepth 100000

/-- the signed number of x's n bits, as the program's closure computes it -/
def sgn (n m x : Int) : Int :=
  if (bits .and .u64 (x / 2 ^ (n.toNat - 1)) 1 == 1) = true then wrap64 (bits .or .u64 x (bits .xor .u64 IntKind.u64.max m)) else wrap64 x

/-- the place that the reference's shift takes its i-th bit from -/
def fromI (n B i : Int) : Int :=
  if IntKind.u64.wrap (i + B) < B then n - 1 else if n ≤ IntKind.u64.wrap (i + B) then n - 1 else IntKind.u64.wrap (i + B)
/-- the reference's shift, after i rounds -/
def rs (n A B : Int) : Nat → Int
  | 0 => 0
  | i + 1 => bits .or .u64 (rs n A B i) (IntKind.u64.wrap (bits .and .u64 (A / 2 ^ (fromI n B i).toNat) 1 * 2 ^ i))

theorem pow_table : ∀ k : Nat, k < 65 → (1 ≤ k → 18446744073709551615 / 2 ^ (64 - k) = 2 ^ k - 1) ∧ 2 ^ k ≤ 18446744073709551616 ∧ 1 ≤ 2 ^ k := by decide

theorem mask_div (n : Int) (h1 : 1 ≤ n) (h2 : n ≤ 64) : (18446744073709551615 : Int) / 2 ^ (64 - n).toNat = 2 ^ n.toNat - 1 := by
  obtain ⟨k, rfl⟩ := Int.eq_ofNat_of_zero_le (by omega : 0 ≤ n)
  obtain ⟨e, _, e3⟩ := pow_table k (by omega)
  have e' := e (by omega)
  have e1 : ((64 : Int) - (k : Int)).toNat = 64 - k := by omega
  rw [e1, Int.toNat_natCast]
  have e2 : ((18446744073709551615 / 2 ^ (64 - k) : Nat) : Int) = ((2 ^ k - 1 : Nat) : Int) := by rw [e']
  rw [Int.natCast_sub e3, Int.natCast_ediv, Int.natCast_pow, Int.natCast_pow] at e2
  exact e2

theorem mask_f (n m : Int) (h1 : 1 ≤ n) (h2 : n ≤ 64) (hm : m = 2 ^ n.toNat - 1) : spec_l6Mask.f n = some m := by
  subst hm
  unfold spec_l6Mask.f
  by_cases h : n ≥ 64
  · have e : n = 64 := by omega
    rw [if_pos h, e]; rfl
  · rw [if_neg h]
    have e : IntKind.u64.wrap n = n := by rw [IntKind.wrap_u64]; omega
    rw [e, if_pos (by omega)]
    obtain ⟨k, rfl⟩ := Int.eq_ofNat_of_zero_le (by omega : 0 ≤ n)
    obtain ⟨_, _, e3⟩ := pow_table k (by omega)
    have e4 : 2 ^ k ≤ 2 ^ 63 := Nat.pow_le_pow_right (by omega) (by omega)
    have e5 : ((2 ^ k : Nat) : Int) = (2 : Int) ^ k := by rw [Int.natCast_pow]; rfl
    unfold shl
    rw [Int.toNat_natCast, Nat.min_eq_left (by show k ≤ 64; omega), ← e5, IntKind.wrap_u64, IntKind.wrap_u64]
    congr 1
    omega

theorem two64 (k A : Nat) (hk : k ≤ 63) (_ : A < 2 ^ (k + 1)) : (2 : Nat) ^ (k + 1) ≤ 18446744073709551616 := (pow_table (k + 1) (by omega)).2.1


theorem top_bit (k A : Nat) (hk : k ≤ 63) (hA : A < 2 ^ (k + 1)) : (bits .and .u64 ((A : Int) / 2 ^ ((((k + 1 : Nat) : Int)).toNat - 1)) 1 == 1) = decide (2 ^ k ≤ A) := by
  have e1 : (((k + 1 : Nat) : Int)).toNat - 1 = k := by omega
  have e5 : ((2 ^ k : Nat) : Int) = (2 : Int) ^ k := by rw [Int.natCast_pow]; rfl
  have e2 : ((A : Int) / 2 ^ k) = ((A / 2 ^ k : Nat) : Int) := by rw [← e5, Int.natCast_ediv]
  have hp : 0 < 2 ^ k := Nat.two_pow_pos k
  have h2 : A / 2 ^ k < 2 := by rw [Nat.div_lt_iff_lt_mul hp]; rw [Nat.pow_succ] at hA; omega
  have e3 : bits .and .u64 ((A / 2 ^ k : Nat) : Int) ((1 : Nat) : Int) = ((A / 2 ^ k &&& 1 : Nat) : Int) := u64_and_nat _ 1 (by omega) (by omega)
  rw [e1, e2]
  have e3' : bits .and .u64 ((A / 2 ^ k : Nat) : Int) 1 = ((A / 2 ^ k &&& 1 : Nat) : Int) := e3
  rw [e3', nat_mask1]
  by_cases h : 2 ^ k ≤ A
  · have e4 : A / 2 ^ k = 1 := by
      have : 1 ≤ A / 2 ^ k := (Nat.le_div_iff_mul_le hp).2 (by omega)
      omega
    rw [e4]; simp [h]
  · have e4 : A / 2 ^ k = 0 := Nat.div_eq_of_lt (by omega)
    rw [e4]; simp [h]

theorem sgn_is (k A : Nat) (hk : k ≤ 63) (hA : A < 2 ^ (k + 1)) : sgn ((k + 1 : Nat) : Int) (2 ^ ((k + 1 : Nat) : Int).toNat - 1) (A : Int) = if 2 ^ k ≤ A then (A : Int) - (2 ^ (k + 1) : Nat) else (A : Int) := by
  have t64 := two64 k A hk hA
  have tb := top_bit k A hk hA
  have hA' : A < 18446744073709551616 := by omega
  have hps : 2 ^ (k + 1) = 2 * 2 ^ k := by rw [Nat.pow_succ]; omega
  unfold sgn
  rw [tb]
  by_cases h : 2 ^ k ≤ A
  · rw [if_pos (by simpa using h), if_pos h]
    have hm : ((2 : Int) ^ ((k + 1 : Nat) : Int).toNat - 1) = ((2 ^ (k + 1) - 1 : Nat) : Int) := by
      rw [Int.toNat_natCast, Int.natCast_sub (by omega), Int.natCast_pow]; rfl
    have hx : bits .xor .u64 ((18446744073709551615 : Nat) : Int) ((2 ^ (k + 1) - 1 : Nat) : Int) = ((18446744073709551615 ^^^ (2 ^ (k + 1) - 1) : Nat) : Int) := u64_xor_nat _ _ (by omega) (by omega)
    have hx' : bits .xor .u64 IntKind.u64.max ((2 ^ (k + 1) - 1 : Nat) : Int) = ((18446744073709551615 ^^^ (2 ^ (k + 1) - 1) : Nat) : Int) := hx
    have hv : 18446744073709551615 ^^^ (2 ^ (k + 1) - 1) = 2 ^ (k + 1) * (2 ^ (63 - k) - 1) := by
      apply Nat.eq_of_testBit_eq
      intro i
      have e0 : (18446744073709551615 : Nat) = 2 ^ 64 - 1 := by decide
      rw [e0, Nat.testBit_xor, Nat.testBit_two_pow_sub_one, Nat.testBit_two_pow_sub_one, Nat.mul_comm, Nat.testBit_mul_two_pow, Nat.testBit_two_pow_sub_one]
      by_cases a1 : i < k + 1
      · have a2 : i < 64 := by omega
        have a3 : ¬ k + 1 ≤ i := by omega
        simp [a1, a2]; omega
      · by_cases a2 : i < 64
        · have a3 : i - (k + 1) < 63 - k := by omega
          have a4 : k + 1 ≤ i := by omega
          simp [a1, a2, a3, a4]
        · have a3 : ¬ i - (k + 1) < 63 - k := by omega
          simp [a1, a2, a3]
    have hmul : 2 ^ (k + 1) * 2 ^ (63 - k) = 18446744073709551616 := by
      rw [← Nat.pow_add]
      have : k + 1 + (63 - k) = 64 := by omega
      rw [this]
    have hsub : 2 ^ (k + 1) * (2 ^ (63 - k) - 1) = 18446744073709551616 - 2 ^ (k + 1) := by rw [Nat.mul_sub, hmul]; omega
    have ho : bits .or .u64 (A : Int) ((18446744073709551616 - 2 ^ (k + 1) : Nat) : Int) = ((A ||| (18446744073709551616 - 2 ^ (k + 1)) : Nat) : Int) := u64_or_nat _ _ hA' (by omega)
    have hj : A ||| (18446744073709551616 - 2 ^ (k + 1)) = (18446744073709551616 - 2 ^ (k + 1)) + A := by
      rw [Nat.or_comm, ← hsub]
      exact (Nat.two_pow_add_eq_or_of_lt hA _).symm
    rw [hm, hx', hv, hsub, ho, hj]
    unfold wrap64
    omega
  · rw [if_neg (by simpa using h), if_neg h]
    have : 2 ^ k ≤ 2 ^ 63 := Nat.pow_le_pow_right (by omega) hk
    unfold wrap64
    omega

theorem xor_top (k A : Nat) (hA : A < 2 ^ (k + 1)) : (A ^^^ 2 ^ k) = if 2 ^ k ≤ A then A - 2 ^ k else A + 2 ^ k := by
  have hps : 2 ^ (k + 1) = 2 * 2 ^ k := by rw [Nat.pow_succ]; omega
  have base : ∀ C, C < 2 ^ k → C ^^^ 2 ^ k = C + 2 ^ k := by
    intro C hC
    have e := Nat.two_pow_add_eq_or_of_lt hC 1
    rw [Nat.mul_one] at e
    rw [Nat.add_comm, e]
    apply Nat.eq_of_testBit_eq
    intro i
    rw [Nat.testBit_xor, Nat.testBit_or, Nat.testBit_two_pow]
    by_cases h : k = i
    · subst h; rw [Nat.testBit_lt_two_pow hC]; simp
    · simp [h]
  by_cases h : 2 ^ k ≤ A
  · rw [if_pos h]
    have e := base (A - 2 ^ k) (by omega)
    have e' : A = (A - 2 ^ k) ^^^ 2 ^ k := by rw [e]; omega
    calc A ^^^ 2 ^ k = ((A - 2 ^ k) ^^^ 2 ^ k) ^^^ 2 ^ k := by rw [← e']
      _ = A - 2 ^ k := by rw [Nat.xor_assoc, Nat.xor_self, Nat.xor_zero]
  · rw [if_neg h]; exact base A (by omega)

theorem slt_iff (k A B : Nat) (hk : k ≤ 63) (hA : A < 2 ^ (k + 1)) (hB : B < 2 ^ (k + 1)) (T : Int) (hT : T = IntKind.u64.wrap (2 ^ (((k + 1 : Nat) : Int).toNat - 1))) :
    (bits .xor .u64 (A : Int) T < bits .xor .u64 (B : Int) T ↔ sgn ((k + 1 : Nat) : Int) (2 ^ ((k + 1 : Nat) : Int).toNat - 1) (A : Int) < sgn ((k + 1 : Nat) : Int) (2 ^ ((k + 1 : Nat) : Int).toNat - 1) (B : Int)) ∧
    (bits .xor .u64 (A : Int) T ≤ bits .xor .u64 (B : Int) T ↔ sgn ((k + 1 : Nat) : Int) (2 ^ ((k + 1 : Nat) : Int).toNat - 1) (A : Int) ≤ sgn ((k + 1 : Nat) : Int) (2 ^ ((k + 1 : Nat) : Int).toNat - 1) (B : Int)) := by
  have t64 := two64 k A hk hA
  have hp : 2 ^ k ≤ 2 ^ 63 := Nat.pow_le_pow_right (by omega) hk
  have hps : 2 ^ (k + 1) = 2 * 2 ^ k := by rw [Nat.pow_succ]; omega
  have e5 : ((2 ^ k : Nat) : Int) = (2 : Int) ^ k := by rw [Int.natCast_pow]; rfl
  have e1 : (((k + 1 : Nat) : Int)).toNat - 1 = k := by omega
  have hT' : T = ((2 ^ k : Nat) : Int) := by rw [hT, e1, ← e5, IntKind.wrap_u64]; omega
  subst hT'
  rw [u64_xor_nat A _ (by omega) (by omega), u64_xor_nat B _ (by omega) (by omega), sgn_is k A hk hA, sgn_is k B hk hB, xor_top k A hA, xor_top k B hB]
  constructor <;> (split <;> split <;> omega)

theorem from_is (k A B : Nat) (hk : k ≤ 63) (hA : A < 2 ^ (k + 1)) (hB : B < 2 ^ (k + 1)) (i : Nat) (hi : i < k + 1) : fromI ((k + 1 : Nat) : Int) (B : Int) (i : Int) = ((if i + B < k + 1 then i + B else k : Nat) : Int) := by
  have t64 := two64 k A hk hA
  unfold fromI
  rw [IntKind.wrap_u64]
  split
  · rw [if_neg (by omega)]; omega
  · split
    · rw [if_neg (by omega)]; omega
    · rw [if_pos (by omega)]; omega

theorem rs_is (k A B : Nat) (hk : k ≤ 63) (hA : A < 2 ^ (k + 1)) (hB : B < 2 ^ (k + 1)) : ∀ j : Nat, j ≤ k + 1 → ∃ R : Nat, rs ((k + 1 : Nat) : Int) (A : Int) (B : Int) j = (R : Int) ∧ R < 18446744073709551616 ∧
    ∀ t, R.testBit t = (decide (t < j) && A.testBit (if t + B < k + 1 then t + B else k)) := by
  have t64 := two64 k A hk hA
  intro j
  induction j with
  | zero => intro _; exact ⟨0, rfl, by omega, fun t => by simp⟩
  | succ j ih =>
    intro hj
    obtain ⟨R, e, hR, ht⟩ := ih (by omega)
    have ef := from_is k A B hk hA hB j (by omega)
    obtain ⟨f, hf⟩ : ∃ f, (if j + B < k + 1 then j + B else k) = f := ⟨_, rfl⟩
    have hfk : f ≤ k := by rw [← hf]; split <;> omega
    rw [hf] at ef
    have e5 : ((2 ^ f : Nat) : Int) = (2 : Int) ^ f := by rw [Int.natCast_pow]; rfl
    have e2 : ((A : Int) / 2 ^ f) = ((A / 2 ^ f : Nat) : Int) := by rw [← e5, Int.natCast_ediv]
    have hAf : A / 2 ^ f ≤ A := Nat.div_le_self _ _
    have e3 : bits .and .u64 ((A / 2 ^ f : Nat) : Int) 1 = ((A / 2 ^ f &&& 1 : Nat) : Int) := u64_and_nat _ 1 (by omega) (by omega)
    obtain ⟨c, hc⟩ : ∃ c, A / 2 ^ f % 2 = c := ⟨_, rfl⟩
    have hc2 : c < 2 := by omega
    have hj63 : 2 ^ j ≤ 2 ^ 63 := Nat.pow_le_pow_right (by omega) (by omega)
    have hcj : c * 2 ^ j ≤ 2 ^ 63 := by
      have : c = 0 ∨ c = 1 := by omega
      rcases this with h | h <;> subst h <;> omega
    have e6 : ((c : Int) * 2 ^ j) = ((c * 2 ^ j : Nat) : Int) := by rw [Int.natCast_mul, Int.natCast_pow]; rfl
    have e7 : IntKind.u64.wrap ((c * 2 ^ j : Nat) : Int) = ((c * 2 ^ j : Nat) : Int) := by rw [IntKind.wrap_u64]; omega
    refine ⟨R ||| c * 2 ^ j, ?_, ?_, ?_⟩
    · show bits .or .u64 (rs _ _ _ j) (IntKind.u64.wrap (bits .and .u64 ((A : Int) / 2 ^ (fromI _ _ (j : Int)).toNat) 1 * 2 ^ j)) = _
      rw [e, ef, Int.toNat_natCast, e2, e3, nat_mask1, hc, e6, e7]
      exact u64_or_nat _ _ hR (by omega)
    · exact Nat.or_lt_two_pow (n := 64) (by omega) (by omega)
    · intro t
      have hcb : c.testBit 0 = A.testBit f := by
        rw [← hc, Nat.testBit_eq_decide_div_mod_eq, Nat.testBit_eq_decide_div_mod_eq]
        simp
      rw [Nat.testBit_or, ht, Nat.testBit_mul_two_pow]
      by_cases h1 : t < j
      · have h2 : ¬ j ≤ t := by omega
        have h3 : t < j + 1 := by omega
        simp [h1, h2, h3]
      · by_cases h2 : t = j
        · subst h2
          rw [hf]
          simp [hcb]
        · have h3 : c.testBit (t - j) = false := Nat.testBit_lt_two_pow (Nat.lt_of_lt_of_le hc2 (by
            calc 2 = 2 ^ 1 := rfl
              _ ≤ 2 ^ (t - j) := Nat.pow_le_pow_right (by omega) (by omega)))
          have h4 : ¬ t < j + 1 := by omega
          simp [h1, h3, h4]

theorem sar_is (k A B : Nat) (hk : k ≤ 63) (hA : A < 2 ^ (k + 1)) (hB : B < 2 ^ (k + 1)) (s : Nat) (hs : s = if B < k + 1 then B else k) :
    bits .and .u64 (rs ((k + 1 : Nat) : Int) (A : Int) (B : Int) (k + 1)) (2 ^ ((k + 1 : Nat) : Int).toNat - 1) =
    bits .and .u64 (IntKind.u64.wrap (sgn ((k + 1 : Nat) : Int) (2 ^ ((k + 1 : Nat) : Int).toNat - 1) (A : Int) / 2 ^ s)) (2 ^ ((k + 1 : Nat) : Int).toNat - 1) := by
  have t64 := two64 k A hk hA
  have hp1 : 1 ≤ 2 ^ (k + 1) := Nat.one_le_two_pow
  have hps : 2 ^ (k + 1) = 2 * 2 ^ k := by rw [Nat.pow_succ]; omega
  have hsk : s ≤ k := by rw [hs]; split <;> omega
  have hm : ((2 : Int) ^ ((k + 1 : Nat) : Int).toNat - 1) = ((2 ^ (k + 1) - 1 : Nat) : Int) := by
    rw [Int.toNat_natCast, Int.natCast_sub (by omega), Int.natCast_pow]; rfl
  obtain ⟨R, e, hR, ht⟩ := rs_is k A B hk hA hB (k + 1) (Nat.le_refl _)
  have es : ((2 ^ s : Nat) : Int) = (2 : Int) ^ s := by rw [Int.natCast_pow]; rfl
  rw [e, sgn_is k A hk hA, hm, u64_and_nat R _ hR (by omega), Nat.and_two_pow_sub_one_eq_mod]
  have key : ∀ X : Nat, X < 18446744073709551616 → (∀ t, t < k + 1 → X.testBit t = A.testBit (if t + B < k + 1 then t + B else k)) →
      (((R % 2 ^ (k + 1) : Nat)) : Int) = bits .and .u64 (X : Int) ((2 ^ (k + 1) - 1 : Nat) : Int) := by
    intro X hX hXt
    rw [u64_and_nat X _ hX (by omega), Nat.and_two_pow_sub_one_eq_mod]
    congr 1
    apply Nat.eq_of_testBit_eq
    intro t
    rw [Nat.testBit_mod_two_pow, Nat.testBit_mod_two_pow, ht]
    by_cases h : t < k + 1
    · rw [hXt t h]; simp [h]
    · simp [h]
  by_cases h : 2 ^ k ≤ A
  · rw [if_pos h]
    have hsplit : (2 : Nat) ^ (k + 1) = 2 ^ (k + 1 - s) * 2 ^ s := by rw [← Nat.pow_add]; congr 1; omega
    have hdiv : ((A : Int) - ((2 ^ (k + 1) : Nat) : Int)) / 2 ^ s = ((A / 2 ^ s : Nat) : Int) - ((2 ^ (k + 1 - s) : Nat) : Int) := by
      rw [← es, hsplit, Int.natCast_mul]
      have h0 : ((2 ^ s : Nat) : Int) ≠ 0 := by have := Nat.two_pow_pos s; omega
      have := Int.add_mul_ediv_right (A : Int) (-((2 ^ (k + 1 - s) : Nat) : Int)) h0
      rw [Int.neg_mul] at this
      rw [Int.sub_eq_add_neg, this, Int.natCast_ediv]
      rfl
    have hAs : A / 2 ^ s < 2 ^ (k + 1 - s) := by
      rw [Nat.div_lt_iff_lt_mul (Nat.two_pow_pos s), ← hsplit]; exact hA
    have hle : 2 ^ (k + 1 - s) ≤ 2 ^ (k + 1) := Nat.pow_le_pow_right (by omega) (by omega)
    have hmul : 2 ^ (k + 1 - s) * 2 ^ (64 - (k + 1 - s)) = 18446744073709551616 := by
      rw [← Nat.pow_add]
      have : k + 1 - s + (64 - (k + 1 - s)) = 64 := by omega
      rw [this]
    have hX : IntKind.u64.wrap (((A : Int) - ((2 ^ (k + 1) : Nat) : Int)) / 2 ^ s) = ((2 ^ (k + 1 - s) * (2 ^ (64 - (k + 1 - s)) - 1) + A / 2 ^ s : Nat) : Int) := by
      rw [hdiv, IntKind.wrap_u64, Nat.mul_sub, hmul, Nat.mul_one]
      obtain ⟨q, hq⟩ : ∃ q, A / 2 ^ s = q := ⟨_, rfl⟩
      rw [hq] at hAs ⊢
      omega
    rw [hX]
    apply key
    · rw [Nat.mul_sub, hmul, Nat.mul_one]; omega
    · intro t htk
      rw [Nat.testBit_two_pow_mul_add _ hAs, Nat.testBit_two_pow_sub_one, Nat.testBit_div_two_pow]
      have htop : A.testBit k = true := by
        rw [Nat.testBit_eq_decide_div_mod_eq]
        have : A / 2 ^ k = 1 := by
          have a1 : 1 ≤ A / 2 ^ k := (Nat.le_div_iff_mul_le (Nat.two_pow_pos k)).2 (by omega)
          have a2 : A / 2 ^ k < 2 := by rw [Nat.div_lt_iff_lt_mul (Nat.two_pow_pos k)]; omega
          omega
        rw [this]; rfl
      by_cases hB1 : B < k + 1
      · rw [if_pos hB1] at hs
        subst hs
        by_cases h1 : t + s < k + 1
        · rw [if_pos (by omega), if_pos h1]
        · rw [if_neg (by omega), if_neg h1, htop]; simp; omega
      · rw [if_neg hB1] at hs
        subst hs
        rw [if_neg (by omega : ¬ t + B < s + 1), htop]
        by_cases h1 : t < s + 1 - s
        · have : t = 0 := by omega
          subst this
          rw [if_pos h1, Nat.zero_add, htop]
        · rw [if_neg h1]; simp; omega
  · rw [if_neg h]
    have hX : IntKind.u64.wrap ((A : Int) / 2 ^ s) = ((A / 2 ^ s : Nat) : Int) := by
      have : A / 2 ^ s ≤ A := Nat.div_le_self _ _
      rw [← es, ← Int.natCast_ediv, IntKind.wrap_u64]
      obtain ⟨q, hq⟩ : ∃ q, A / 2 ^ s = q := ⟨_, rfl⟩
      rw [hq] at this ⊢
      omega
    rw [hX]
    apply key
    · have : A / 2 ^ s ≤ A := Nat.div_le_self _ _
      omega
    · intro t htk
      rw [Nat.testBit_div_two_pow]
      have hlow : ∀ u, k ≤ u → A.testBit u = false := fun u hu => Nat.testBit_lt_two_pow (Nat.lt_of_lt_of_le (by omega : A < 2 ^ k) (Nat.pow_le_pow_right (by omega) hu))
      by_cases hB1 : B < k + 1
      · rw [if_pos hB1] at hs
        subst hs
        by_cases h1 : t + s < k + 1
        · rw [if_pos h1]
        · rw [if_neg h1, hlow k (Nat.le_refl _), hlow (t + s) (by omega)]
      · rw [if_neg hB1] at hs
        subst hs
        rw [if_neg (by omega : ¬ t + B < s + 1), hlow s (Nat.le_refl _), hlow (t + s) (by omega)]
end Go.Proofs.Ytljjenkaofcppaa.BitsOp

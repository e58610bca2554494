/- Plain laws on a text of digits: the number that it spells, and that number's decimal text. -/
import Derived.Test.YthfjiaodhladmaaDoorBytes
import Derived.Test.YthfjiaodhladmaaDoorDig
namespace Go.Proofs.YthfjiaodhladmaaDoor.Num
open Go.Proofs.YthfjiaodhladmaaDoor.By Go.Proofs.YthfjiaodhladmaaDoor.Dig
set_option linter.unusedVariables false
set_option linter.unusedSimpArgs false
/-- the number that a text of digits spells -/
def num (l : List UInt8) : Nat := l.foldl (fun a b => 10 * a + (b.toNat - 48)) 0
theorem num_fold (l : List UInt8) : ∀ a : Nat, l.foldl (fun a b => 10 * a + (b.toNat - 48)) a = a * 10 ^ l.length + num l := by
  unfold num
  induction l with
  | nil => intro a; simp
  | cons x l ih =>
    intro a
    rw [List.foldl_cons, List.foldl_cons, ih, ih (10 * 0 + _), List.length_cons, Nat.pow_succ]
    have : (10 * a + (x.toNat - 48)) * 10 ^ l.length = a * (10 ^ l.length * 10) + (10 * 0 + (x.toNat - 48)) * 10 ^ l.length := by
      rw [Nat.add_mul, Nat.mul_zero, Nat.zero_add, Nat.mul_comm 10 a, Nat.mul_assoc, Nat.mul_comm 10]
    rw [this, Nat.add_assoc]
theorem num_append (a b : List UInt8) : num (a ++ b) = num a * 10 ^ b.length + num b := by
  have := num_fold b (num a)
  rw [← this]; unfold num; rw [List.foldl_append]
theorem num_snoc (l : List UInt8) (b : UInt8) : num (l ++ [b]) = 10 * num l + (b.toNat - 48) := by
  unfold num; rw [List.foldl_append]; rfl
theorem dig_dgt {b : UInt8} (h : dig b = true) : 48 ≤ b.toNat ∧ b.toNat ≤ 57 := by unfold dig at h; simpa using h
theorem num_lt : ∀ l : List UInt8, digs l = true → num l < 10 ^ l.length := by
  intro l
  induction l with
  | nil => intro _; simp [num]
  | cons x l ih =>
    intro h
    rw [digs_cons, Bool.and_eq_true] at h
    have h1 := dig_dgt h.1
    have h2 := ih h.2
    have e : num (x :: l) = (x.toNat - 48) * 10 ^ l.length + num l := by
      have := num_append [x] l
      rw [show [x] ++ l = x :: l from rfl] at this
      rw [this]; simp [num]
    rw [e, List.length_cons, Nat.pow_succ]
    have : (x.toNat - 48) * 10 ^ l.length ≤ 9 * 10 ^ l.length := Nat.mul_le_mul_right _ (by omega)
    omega
theorem digs_mem {l : List UInt8} (h : By.digs l = true) : ∀ b ∈ l, dig b = true := by unfold By.digs at h; exact List.all_eq_true.1 h
theorem digs_of {l : List UInt8} (h : ∀ b ∈ l, dig b = true) : By.digs l = true := by unfold By.digs; exact List.all_eq_true.2 h
theorem digs_sub {l m : List UInt8} (h : By.digs l = true) (hm : ∀ b ∈ m, b ∈ l) : By.digs m = true := digs_of fun b hb => digs_mem h b (hm b hb)
theorem num_pos : ∀ l : List UInt8, digs l = true → (∃ c m, l = c :: m ∧ c ≠ 48) → 0 < num l := by
  intro l h ⟨c, m, e, hc⟩
  subst e
  rw [digs_cons, Bool.and_eq_true] at h
  have h1 := dig_dgt h.1
  have e : num (c :: m) = (c.toNat - 48) * 10 ^ m.length + num m := by
    have := num_append [c] m
    rw [show [c] ++ m = c :: m from rfl] at this
    rw [this]; simp [num]
  have : c.toNat ≠ 48 := fun e => hc (by rw [← UInt8.ofNat_toNat (x := c), e]; rfl)
  have hp : 0 < 10 ^ m.length := Nat.pow_pos (by omega)
  have : 1 * 10 ^ m.length ≤ (c.toNat - 48) * 10 ^ m.length := Nat.mul_le_mul_right _ (by omega)
  omega
/-- a text of digits without a zero at its head is its number's decimal text -/
theorem num_text (l : List UInt8) (h : By.digs l = true) (hz : ∃ c m, l = c :: m ∧ c ≠ 48) : Lib.decDigits (num l) = l := by
  obtain ⟨n, hn⟩ : ∃ n, l.length = n := ⟨_, rfl⟩
  induction n generalizing l with
  | zero => obtain ⟨c, m, rfl, _⟩ := hz; simp at hn
  | succ n ih =>
    rcases List.eq_nil_or_concat l with rfl | ⟨m, b, rfl⟩
    · simp at hn
    rw [List.concat_eq_append] at h hz hn ⊢
    have hb := dig_dgt (digs_mem h b (by simp))
    have hm : By.digs m = true := digs_sub h (fun x hx => by simp [hx])
    have eb : dg8 (b.toNat - 48) = b := by
      unfold dg8
      rw [show 48 + (b.toNat - 48) = b.toNat by omega, UInt8.ofNat_toNat]
    rw [num_snoc]
    cases m with
    | nil =>
      rw [show num [] = 0 from rfl, Nat.mul_zero, Nat.zero_add, Lib.decDigits_one (by omega)]
      show [dg8 (b.toNat - 48)] = _
      rw [eb]; rfl
    | cons c m =>
      obtain ⟨c', m', e, hc⟩ := hz
      have hcc : c = c' := (List.cons.inj e).1
      subst hcc
      have hp := num_pos (c :: m) hm ⟨c, m, rfl, hc⟩
      rw [dec_step (by omega), show (10 * num (c :: m) + (b.toNat - 48)) / 10 = num (c :: m) by omega, show (10 * num (c :: m) + (b.toNat - 48)) % 10 = b.toNat - 48 by omega, eb, ih (c :: m) hm ⟨c, m, rfl, hc⟩ (by simp at hn ⊢; omega)]
end Go.Proofs.YthfjiaodhladmaaDoor.Num

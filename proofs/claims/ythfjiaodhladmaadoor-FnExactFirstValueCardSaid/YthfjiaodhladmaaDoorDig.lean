/- Plain laws on decimal digits, low first: what is left without the zeros at the end, turned round, is the number's decimal text. -/
import Derived.Lib.ItoaNum
namespace Go.Proofs.YthfjiaodhladmaaDoor.Dig
/-- the number that digits, the lowest first, spell -/
def val : List Nat → Nat
  | [] => 0
  | d :: l => d + 10 * val l
/-- without the zeros at the end -/
def top : List Nat → List Nat
  | [] => []
  | d :: l => if top l = [] ∧ d = 0 then [] else d :: top l
theorem top_snoc (l : List Nat) (d : Nat) : top (l ++ [d]) = if d = 0 then top l else l ++ [d] := by
  induction l with
  | nil => by_cases h : d = 0 <;> simp [top, h]
  | cons x l ih =>
    rw [List.cons_append, top, ih]
    by_cases h : d = 0
    · rw [if_pos h, if_pos h]; rfl
    · rw [if_neg h, if_neg h]; simp
theorem val_top_nil : ∀ l : List Nat, top l = [] ↔ val l = 0
  | [] => by simp [top, val]
  | d :: l => by
    rw [top, val]
    have ih := val_top_nil l
    by_cases h : top l = []
    · have h2 := ih.1 h
      by_cases hd : d = 0
      · simp [h, hd, h2]
      · simp [h, hd, h2]
    · have h2 : val l ≠ 0 := fun e => h (ih.2 e)
      simp [h]; omega
theorem val_append (a b : List Nat) : val (a ++ b) = val a + 10 ^ a.length * val b := by
  induction a with
  | nil => simp [val]
  | cons x a ih => rw [List.cons_append, val, val, ih, List.length_cons, Nat.pow_succ, Nat.mul_add, Nat.mul_comm (10 ^ a.length) 10, ← Nat.mul_assoc, Nat.add_assoc]
def dg8 (d : Nat) : UInt8 := UInt8.ofNat (48 + d)
theorem dec_step {n : Nat} (h : 10 ≤ n) : Lib.decDigits n = Lib.decDigits (n / 10) ++ [dg8 (n % 10)] := by
  rw [Lib.decDigits, dif_neg (by omega)]; rfl
theorem top_text : ∀ l : List Nat, (∀ d ∈ l, d < 10) → 0 < val l → ((top l).reverse.map dg8) = Lib.decDigits (val l)
  | [], _, h => by simp [val] at h
  | d :: l, hd, h => by
    have h0 : d < 10 := hd d List.mem_cons_self
    rw [val] at h ⊢
    rw [top]
    by_cases hz : val l = 0
    · have ht := (val_top_nil l).2 hz
      rw [if_neg (by intro e; omega), ht, hz]
      rw [Lib.decDigits_one (by omega)]
      simp [dg8]
    · have ht : top l ≠ [] := fun e => hz ((val_top_nil l).1 e)
      rw [if_neg (fun e => ht e.1), List.reverse_cons, List.map_append, top_text l (fun x hx => hd x (List.mem_cons_of_mem _ hx)) (by omega)]
      rw [dec_step (n := d + 10 * val l) (by omega), show (d + 10 * val l) / 10 = val l by omega, show (d + 10 * val l) % 10 = d by omega]
      rfl
/-- n digits of x, the lowest first -/
def digs : Nat → Nat → List Nat
  | 0, _ => []
  | n + 1, x => x % 10 :: digs n (x / 10)
theorem digs_len : ∀ n x, (digs n x).length = n
  | 0, _ => rfl
  | n + 1, x => by rw [digs, List.length_cons, digs_len n]
theorem digs_lt : ∀ n x, ∀ d ∈ digs n x, d < 10
  | 0, _, d, h => by simp [digs] at h
  | n + 1, x, d, h => by
    rw [digs] at h
    rcases List.mem_cons.1 h with h | h
    · omega
    · exact digs_lt n _ d h
theorem digs_val : ∀ n x, x < 10 ^ n → val (digs n x) = x
  | 0, x, h => by simp at h; simp [digs, val, h]
  | n + 1, x, h => by
    rw [Nat.pow_succ] at h
    rw [digs, val, digs_val n (x / 10) (by omega)]; omega
theorem digs_snoc : ∀ n x, digs (n + 1) x = digs n x ++ [x / 10 ^ n % 10]
  | 0, x => by simp [digs]
  | n + 1, x => by
    rw [digs, digs_snoc n (x / 10), digs, List.cons_append, Nat.div_div_eq_div_mul, Nat.pow_succ, Nat.mul_comm 10]
/-- the digits of limbs of nine digits, the lowest first -/
def limbDigs (ds : List Nat) : List Nat := ds.flatMap (digs 9)
theorem limbDigs_len (ds : List Nat) : (limbDigs ds).length = 9 * ds.length := by
  unfold limbDigs
  induction ds with
  | nil => rfl
  | cons d l ih => rw [List.flatMap_cons, List.length_append, ih, digs_len, List.length_cons]; omega
theorem limbDigs_lt (ds : List Nat) : ∀ d ∈ limbDigs ds, d < 10 := by
  intro d h
  obtain ⟨x, _, hx⟩ := List.mem_flatMap.1 h
  exact digs_lt 9 x d hx
/-- the number that limbs of nine digits, the lowest first, spell -/
def valB : List Nat → Nat
  | [] => 0
  | d :: l => d + 1000000000 * valB l
theorem limbDigs_val : ∀ ds : List Nat, (∀ d ∈ ds, d < 1000000000) → val (limbDigs ds) = valB ds
  | [], _ => rfl
  | d :: l, h => by
    have e : limbDigs (d :: l) = digs 9 d ++ limbDigs l := rfl
    rw [e, val_append, digs_len, digs_val 9 d (h d List.mem_cons_self), limbDigs_val l (fun x hx => h x (List.mem_cons_of_mem _ hx)), valB]
end Go.Proofs.YthfjiaodhladmaaDoor.Dig

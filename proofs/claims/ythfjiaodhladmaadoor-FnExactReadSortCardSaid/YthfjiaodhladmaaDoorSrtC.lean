/- Plain law on sort texts: the reference's reader and the program's read the same. -/
import Derived.Test.YthfjiaodhladmaaDoorSrtB
import Derived.Test.YthfjiaodhladmaaDoorSpec
namespace Go.Proofs.YthfjiaodhladmaaDoor.Srt
open Go.Proofs.YthfjiaodhladmaaDoor.By Go.Proofs.YthfjiaodhladmaaDoor.RS Go.Proofs.YthfjiaodhladmaaDoor.Num Go.Proofs.YthfjiaodhladmaaDoor.Dig
set_option linter.unusedVariables false
set_option linter.unusedSimpArgs false
/-- where a part ends -/
def p0 : List UInt8 → Option Nat
  | [] => none
  | x :: u => if x = 41 then some 1 else if x = 124 then none else (p0 u).map (· + 1)
def p1 : List UInt8 → Option Nat
  | [] => none
  | x :: u => if x = 124 then some 1 else (p1 u).map (· + 1)
def p2 : List UInt8 → Nat
  | [] => 0
  | x :: u => if x = 32 then 0 else if x = 41 then 0 else p2 u + 1
def partL : List UInt8 → Option Nat
  | [] => none
  | x :: u => if x = 40 then p0 (x :: u) else if x = 124 then (p1 u).map (· + 1) else some (p2 (x :: u))
/-- a sort text that is no array's, by the reference -/
def simpleL (has : List UInt8 → Bool) (p : List UInt8) : Int × Int :=
  if p = tBool then (1, 0) else if p = tInt then (2, 0) else if p = tReal then (3, 0) else
  if 11 < p.length ∧ p.take 10 = pfxB ∧ p[p.length - 1]? = some 41 then
    (if 1 ≤ decL ((p.drop 10).take (p.length - 1 - 10)) ∧ decL ((p.drop 10).take (p.length - 1 - 10)) ≤ 64 then (4, decL ((p.drop 10).take (p.length - 1 - 10))) else (0, 0)) else
  if isSym (if 2 ≤ p.length ∧ p[0]? = some 124 ∧ p[p.length - 1]? = some 124 then (p.drop 1).take (p.length - 1 - 1) else p) = true ∧
     symText (if 2 ≤ p.length ∧ p[0]? = some 124 ∧ p[p.length - 1]? = some 124 then (p.drop 1).take (p.length - 1 - 1) else p) = p ∧
     has (if 2 ≤ p.length ∧ p[0]? = some 124 ∧ p[p.length - 1]? = some 124 then (p.drop 1).take (p.length - 1 - 1) else p) = true then (5, 0) else (0, 0)
/-- the texts that are sorts, no array's -/
inductive Srt (has : List UInt8 → Bool) : List UInt8 → Int → Int → Prop
  | bool : Srt has tBool 1 0
  | int : Srt has tInt 2 0
  | real : Srt has tReal 3 0
  | bits (m : List UInt8) (v : Int) (h : okBits m = some v) : Srt has (pfxB ++ (m ++ [41])) 4 v
  | bar (m : List UInt8) (h1 : isSym m = true) (h2 : plain m = false) (h3 : has m = true) : Srt has (124 :: (m ++ [124])) 5 0
  | name (p : List UInt8) (n1 : p ≠ tBool) (n2 : p ≠ tInt) (n3 : p ≠ tReal) (h2 : plain p = true) (h1 : isSym p = true) (h3 : has p = true) : Srt has p 5 0
theorem Srt.ne0 {has : List UInt8 → Bool} {p : List UInt8} {k w : Int} (h : Srt has p k w) : k ≠ 0 := by cases h <;> decide
/- the widths -/
def isOk (l : List UInt8) (n : Int) : Bool := match Lib.atoiAll l with | .ok v => v == n | _ => false
theorem isOk_eq {l : List UInt8} {n : Int} (h : isOk l n = true) : Lib.atoiAll l = .ok n := by
  unfold isOk at h
  split at h
  · rename_i v e; rw [e, eq_of_beq h]
  · cases h
theorem w1 : ∀ a : Fin 10, a.1 ≠ 0 → (isOk [dg8 a.1] (a.1 : Int) = true ∧ decL [dg8 a.1] = (a.1 : Int) ∧ By.digs [dg8 a.1] = true) := by decide
theorem w2 : ∀ a : Fin 7, ∀ b : Fin 10, a.1 ≠ 0 → (isOk [dg8 a.1, dg8 b.1] ((10 * a.1 + b.1 : Nat) : Int) = true ∧ decL [dg8 a.1, dg8 b.1] = ((10 * a.1 + b.1 : Nat) : Int) ∧ By.digs [dg8 a.1, dg8 b.1] = true) := by decide
theorem wid {n : Nat} (h1 : 1 ≤ n) (h2 : n ≤ 64) : Lib.atoiAll (Lib.decDigits n) = .ok (n : Int) ∧ decL (Lib.decDigits n) = (n : Int) ∧ By.digs (Lib.decDigits n) = true := by
  by_cases h : n < 10
  · rw [Lib.decDigits_one h]
    have := w1 ⟨n, h⟩ (by show n ≠ 0; omega)
    exact ⟨isOk_eq this.1, this.2.1, this.2.2⟩
  · have e : Lib.decDigits n = [dg8 (n / 10), dg8 (n % 10)] := by
      rw [dec_step (by omega), Lib.decDigits_one (by omega)]; rfl
    have := w2 ⟨n / 10, by omega⟩ ⟨n % 10, by omega⟩ (by show n / 10 ≠ 0; omega)
    have e2 : 10 * (n / 10) + n % 10 = n := by omega
    simp only [e2] at this
    rw [e]
    exact ⟨isOk_eq this.1, this.2.1, this.2.2⟩
theorem ok_wid {m : List UInt8} {v : Int} (h : okBits m = some v) : ∃ n : Nat, 1 ≤ n ∧ n ≤ 64 ∧ v = n ∧ m = Lib.decDigits n := by
  unfold okBits at h
  split at h
  · split at h
    · rename_i w hw hc
      injection h with h
      subst h
      exact ⟨w.toNat, by omega, by omega, by omega, hc.2.2.symm⟩
    · cases h
  · cases h
theorem wid_ok {n : Nat} (h1 : 1 ≤ n) (h2 : n ≤ 64) : okBits (Lib.decDigits n) = some (n : Int) := by
  unfold okBits
  rw [(wid h1 h2).1]
  show (if _ then _ else _) = _
  rw [if_pos ⟨by omega, by omega, by rw [Int.toNat_natCast]⟩]
theorem dec_ok {m : List UInt8} {v : Int} (h : okBits m = some v) : decL m = v ∧ 1 ≤ v ∧ v ≤ 64 ∧ By.digs m = true ∧ m ≠ [] := by
  obtain ⟨n, h1, h2, rfl, rfl⟩ := ok_wid h
  refine ⟨(wid h1 h2).2.1, by omega, by omega, (wid h1 h2).2.2, fun e => ?_⟩
  have := (wid h1 h2).1
  rw [e] at this
  cases this
theorem ok_dec {m : List UInt8} (h1 : 1 ≤ decL m) (h2 : decL m ≤ 64) : okBits m = some (decL m) := by
  unfold decL at h1 h2 ⊢
  split at h1
  · omega
  rename_i hn
  rw [if_neg hn] at h2 ⊢
  by_cases hd : By.digs m = true
  case neg => rw [if_neg hd] at h1; omega
  rw [if_pos hd] at h1 h2 ⊢
  have hz : ∃ c r, m = c :: r ∧ c ≠ 48 := by
    match m, hn, h1 with
    | [], hn, _ => exact absurd (.inl (by simp)) hn
    | [c], hn, h1 => exact ⟨c, [], rfl, fun e => by subst e; revert h1; decide⟩
    | c :: d :: r, hn, _ => exact ⟨c, _, rfl, fun e => hn (.inr (.inr ⟨by simp, by simp [e]⟩))⟩
  have ht := num_text m hd hz
  have := wid_ok (n := num m) (by omega) (by omega)
  rwa [ht] at this
theorem dig41 {m : List UInt8} (h : By.digs m = true) : ∀ b ∈ m, b ≠ 41 ∧ b ≠ 124 := fun b hb => by
  have := dig_dgt (digs_mem h b hb)
  constructor <;> (rintro rfl; revert this; decide)
/- names -/
theorem nm_ne {b : UInt8} (h : nmU b = true) : b ≠ 32 ∧ b ≠ 40 ∧ b ≠ 41 ∧ b ≠ 124 := by
  refine ⟨?_, ?_, ?_, ?_⟩ <;> (rintro rfl; revert h; decide)
theorem plain_nm {p : List UInt8} (h : plain p = true) : p ≠ [] ∧ ∀ b ∈ p, nmU b = true := by
  cases p with
  | nil => cases h
  | cons c l =>
    have h' : (!dig c && (c :: l).all nmU) = true := h
    rw [Bool.and_eq_true] at h'
    exact ⟨by simp, List.all_eq_true.1 h'.2⟩
theorem sym_in {m : List UInt8} (h : isSym m = true) : ∀ b ∈ m, b ≠ 124 := by
  unfold isSym at h
  rw [Bool.and_eq_true] at h
  intro b hb e
  have := List.all_eq_true.1 h.2 b hb
  subst e
  revert this; decide
theorem p0_at (r : List UInt8) : ∀ m : List UInt8, (∀ b ∈ m, b ≠ 41 ∧ b ≠ 124) → p0 (m ++ 41 :: r) = some (m.length + 1)
  | [], _ => by simp [p0]
  | x :: m, h => by
    have hx := h x (by simp)
    show (if x = 41 then _ else if x = 124 then none else (p0 (m ++ 41 :: r)).map (· + 1)) = _
    rw [if_neg hx.1, if_neg hx.2, p0_at r m (fun b hb => h b (by simp [hb]))]
    simp
theorem p1_at (r : List UInt8) : ∀ m : List UInt8, (∀ b ∈ m, b ≠ 124) → p1 (m ++ 124 :: r) = some (m.length + 1)
  | [], _ => by simp [p1]
  | x :: m, h => by
    have hx := h x (by simp)
    show (if x = 124 then _ else (p1 (m ++ 124 :: r)).map (· + 1)) = _
    rw [if_neg hx, p1_at r m (fun b hb => h b (by simp [hb]))]
    simp
theorem p2_at {c : UInt8} (hc : c = 32 ∨ c = 41) (r : List UInt8) : ∀ m : List UInt8, (∀ b ∈ m, b ≠ 32 ∧ b ≠ 41) → p2 (m ++ c :: r) = m.length
  | [], _ => by rcases hc with rfl | rfl <;> simp [p2]
  | x :: m, h => by
    have hx := h x (by simp)
    show (if x = 32 then _ else if x = 41 then 0 else p2 (m ++ c :: r) + 1) = _
    rw [if_neg hx.1, if_neg hx.2, p2_at hc r m (fun b hb => h b (by simp [hb]))]
    simp
theorem part_name {c : UInt8} (hc : c = 32 ∨ c = 41) (r p : List UInt8) (hp : p ≠ []) (hn : ∀ b ∈ p, nmU b = true) : partL (p ++ c :: r) = some p.length := by
  cases p with
  | nil => exact absurd rfl hp
  | cons x m =>
    have hx := nm_ne (hn x (by simp))
    show (if x = 40 then _ else _) = _
    rw [if_neg hx.2.1, if_neg hx.2.2.2]
    exact congrArg some (p2_at hc r (x :: m) (fun b hb => ⟨(nm_ne (hn b hb)).1, (nm_ne (hn b hb)).2.2.1⟩))
theorem Srt.part {has : List UInt8 → Bool} {p : List UInt8} {k w : Int} (h : Srt has p k w) {c : UInt8} (hc : c = 32 ∨ c = 41) (r : List UInt8) : partL (p ++ c :: r) = some p.length := by
  cases h with
  | bool => exact part_name hc r _ (by decide) (by decide)
  | int => exact part_name hc r _ (by decide) (by decide)
  | real => exact part_name hc r _ (by decide) (by decide)
  | bits m _ h =>
    have hm := dig41 (dec_ok h).2.2.2.1
    have e : pfxB ++ (m ++ [41]) ++ c :: r = (pfxB ++ m) ++ 41 :: (c :: r) := by simp
    rw [e]
    have : ∀ b ∈ pfxB ++ m, b ≠ 41 ∧ b ≠ 124 := fun b hb => by
      rcases List.mem_append.1 hb with h | h
      · exact (by decide : ∀ b ∈ pfxB, b ≠ 41 ∧ b ≠ 124) b h
      · exact hm b h
    show p0 ((pfxB ++ m) ++ 41 :: (c :: r)) = _
    rw [p0_at _ _ this]
    simp; omega
  | bar m h1 h2 h3 =>
    have e : (124 :: (m ++ [124])) ++ c :: r = 124 :: (m ++ 124 :: (c :: r)) := by simp
    rw [e]
    show (p1 (m ++ 124 :: (c :: r))).map (· + 1) = _
    rw [p1_at _ _ (sym_in h1)]
    simp
  | name _ n1 n2 n3 h2 h1 h3 => exact part_name hc r _ (plain_nm h2).1 (plain_nm h2).2
theorem last_split {l : List UInt8} {c : UInt8} (h : l[l.length - 1]? = some c) : l = l.take (l.length - 1) ++ [c] := by
  have hlt : l.length - 1 < l.length := by
    have := (List.getElem?_eq_some_iff.1 h).1; omega
  have h2 : l.drop (l.length - 1) = [c] := by
    rw [List.drop_eq_getElem_cons hlt]
    rw [List.getElem?_eq_getElem hlt] at h
    rw [Option.some.inj h, List.drop_eq_nil_of_le (by omega)]
  conv => lhs; rw [← List.take_append_drop (l.length - 1) l, h2]
theorem simple_srt {has : List UInt8 → Bool} {p : List UInt8} {k w : Int} (h : simpleL has p = (k, w)) (hk : k ≠ 0) : Srt has p k w := by
  unfold simpleL at h
  split at h
  · rename_i e; obtain ⟨rfl, rfl⟩ := Prod.mk.inj h; rw [e]; exact .bool
  rename_i n1
  split at h
  · rename_i e; obtain ⟨rfl, rfl⟩ := Prod.mk.inj h; rw [e]; exact .int
  rename_i n2
  split at h
  · rename_i e; obtain ⟨rfl, rfl⟩ := Prod.mk.inj h; rw [e]; exact .real
  rename_i n3
  split at h
  · rename_i hb
    split at h
    · rename_i hd
      obtain ⟨rfl, rfl⟩ := Prod.mk.inj h
      have e : p = pfxB ++ ((p.drop 10).take (p.length - 1 - 10) ++ [41]) := by
        have h1 := last_split hb.2.2
        have h2 := List.take_append_drop 10 (p.take (p.length - 1))
        rw [List.take_take, Nat.min_eq_left (by omega), hb.2.1, List.drop_take] at h2
        conv => lhs; rw [h1, ← h2]
        simp
      have := Srt.bits (has := has) _ _ (ok_dec hd.1 hd.2)
      rwa [← e] at this
    · exact absurd (Prod.mk.inj h).1.symm hk
  · generalize (if 2 ≤ p.length ∧ p[0]? = some 124 ∧ p[p.length - 1]? = some 124 then (p.drop 1).take (p.length - 1 - 1) else p) = nm at h
    split at h
    · rename_i hs
      obtain ⟨rfl, rfl⟩ := Prod.mk.inj h
      obtain ⟨h1, h2, h3⟩ := hs
      unfold symText at h2
      split at h2
      · rename_i hp; subst h2; exact .name _ n1 n2 n3 hp h1 h3
      · rename_i hp; subst h2; exact .bar _ h1 (by simpa using hp) h3
    · exact absurd (Prod.mk.inj h).1.symm hk
theorem plain_sym {p : List UInt8} (h : plain p = true) : p[0]? ≠ some 124 ∧ p.take 10 ≠ pfxB := by
  cases p with
  | nil => cases h
  | cons x m =>
    have hx := nm_ne ((plain_nm h).2 x (by simp))
    refine ⟨fun e => hx.2.2.2 (by simpa using e), fun e => hx.2.1 ?_⟩
    have := congrArg List.head? e
    simpa [pfxB] using this
theorem srt_simple {has : List UInt8 → Bool} {p : List UInt8} {k w : Int} (h : Srt has p k w) : simpleL has p = (k, w) := by
  cases h with
  | bool => unfold simpleL; rw [if_pos rfl]
  | int => unfold simpleL; rw [if_neg (by decide), if_pos rfl]
  | real => unfold simpleL; rw [if_neg (by decide), if_neg (by decide), if_pos rfl]
  | bits m _ h =>
    obtain ⟨e, h1, h2, hd, hm⟩ := dec_ok h
    have hl : 1 ≤ m.length := List.length_pos_iff.2 hm
    have hlen : (pfxB ++ (m ++ [41])).length = m.length + 11 := by simp [pfxB]
    have hn : ∀ q : List UInt8, q.length < 11 → pfxB ++ (m ++ [41]) ≠ q := fun q hq e => by rw [← e, hlen] at hq; omega
    have hmid : ((pfxB ++ (m ++ [41])).drop 10).take ((pfxB ++ (m ++ [41])).length - 1 - 10) = m := by
      rw [hlen]
      show (m ++ [41]).take _ = m
      rw [show m.length + 11 - 1 - 10 = m.length by omega, List.take_left]
    unfold simpleL
    rw [if_neg (hn _ (by decide)), if_neg (hn _ (by decide)), if_neg (hn _ (by decide)), if_pos ⟨by omega, rfl, by rw [hlen, show m.length + 11 - 1 = (pfxB ++ m).length by simp [pfxB], ← List.append_assoc]; exact List.getElem?_concat_length ..⟩, hmid, e, if_pos ⟨h1, h2⟩]
  | bar m h1 h2 h3 =>
    have hlen : (124 :: (m ++ [124])).length = m.length + 2 := by simp
    have hmid : ((124 :: (m ++ [124])).drop 1).take ((124 :: (m ++ [124])).length - 1 - 1) = m := by
      rw [hlen]
      show (m ++ [124]).take _ = m
      rw [show m.length + 2 - 1 - 1 = m.length by omega, List.take_left]
    have hlast : (124 :: (m ++ [124]))[(124 :: (m ++ [124])).length - 1]? = some 124 := by
      rw [hlen, show m.length + 2 - 1 = (124 :: m).length by simp, ← List.cons_append]; exact List.getElem?_concat_length ..
    have hh : ∀ q : List UInt8, q.head? ≠ some 124 → 124 :: (m ++ [124]) ≠ q := fun q hq e => hq (by rw [← e]; rfl)
    unfold simpleL
    rw [if_neg (hh _ (by decide)), if_neg (hh _ (by decide)), if_neg (hh _ (by decide)), if_neg (by
        rintro ⟨_, h, _⟩
        have := congrArg List.head? h
        simp [pfxB] at this), if_pos (⟨by omega, by simp, hlast⟩ : 2 ≤ (124 :: (m ++ [124])).length ∧ (124 :: (m ++ [124]))[0]? = some 124 ∧ (124 :: (m ++ [124]))[(124 :: (m ++ [124])).length - 1]? = some 124), hmid, if_pos ⟨h1, by unfold symText; rw [h2]; rfl, h3⟩]
  | name _ n1 n2 n3 h2 h1 h3 =>
    have hp := plain_sym h2
    have hq : (if 2 ≤ p.length ∧ p[0]? = some 124 ∧ p[p.length - 1]? = some 124 then (p.drop 1).take (p.length - 1 - 1) else p) = p := if_neg (by rintro ⟨_, h, _⟩; exact hp.1 h)
    unfold simpleL
    rw [hq, if_neg n1, if_neg n2, if_neg n3, if_neg (by rintro ⟨_, h, _⟩; exact hp.2 h), if_pos ⟨h1, by unfold symText; rw [h2]; rfl, h3⟩]
end Go.Proofs.YthfjiaodhladmaaDoor.Srt

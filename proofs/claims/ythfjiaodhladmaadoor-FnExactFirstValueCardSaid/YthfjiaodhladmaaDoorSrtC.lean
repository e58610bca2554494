/- Plain law on sort texts: the reference's reader and the program's read the same; spec.ReadSort computes just that. Condition: no more than 1048576 names and bytes. -/
import Derived.Test.YthfjiaodhladmaaDoorSrtB
import Derived.Test.YthfjiaodhladmaaDoorSpec
namespace Go.Proofs.YthfjiaodhladmaaDoor.Srt
open Go.Proofs.YthfjiaodhladmaaDoor.By Go.Proofs.YthfjiaodhladmaaDoor.RS Go.Proofs.YthfjiaodhladmaaDoor.Num Go.Proofs.YthfjiaodhladmaaDoor.Dig
set_option linter.unusedVariables false
set_option linter.unusedSimpArgs false
/-- where a part ends -/
def p0 : List UInt8 → Option Nat
  | [] => none
  | x :: u => if x = 41 then some 1 else if x = 124 then none else (p0 u).map (· + 1)
def p1 : List UInt8 → Option Nat
  | [] => none
  | x :: u => if x = 124 then some 1 else (p1 u).map (· + 1)
def p2 : List UInt8 → Nat
  | [] => 0
  | x :: u => if x = 32 then 0 else if x = 41 then 0 else p2 u + 1
def partL : List UInt8 → Option Nat
  | [] => none
  | x :: u => if x = 40 then p0 (x :: u) else if x = 124 then (p1 u).map (· + 1) else some (p2 (x :: u))
/-- a sort text that is no array's, by the reference -/
def simpleL (has : List UInt8 → Bool) (p : List UInt8) : Int × Int :=
  if p = tBool then (1, 0) else if p = tInt then (2, 0) else if p = tReal then (3, 0) else
  if 11 < p.length ∧ p.take 10 = pfxB ∧ p[p.length - 1]? = some 41 then
    (if 1 ≤ decL ((p.drop 10).take (p.length - 1 - 10)) ∧ decL ((p.drop 10).take (p.length - 1 - 10)) ≤ 64 then (4, decL ((p.drop 10).take (p.length - 1 - 10))) else (0, 0)) else
  if isSym (if 2 ≤ p.length ∧ p[0]? = some 124 ∧ p[p.length - 1]? = some 124 then (p.drop 1).take (p.length - 1 - 1) else p) = true ∧
     symText (if 2 ≤ p.length ∧ p[0]? = some 124 ∧ p[p.length - 1]? = some 124 then (p.drop 1).take (p.length - 1 - 1) else p) = p ∧
     has (if 2 ≤ p.length ∧ p[0]? = some 124 ∧ p[p.length - 1]? = some 124 then (p.drop 1).take (p.length - 1 - 1) else p) = true then (5, 0) else (0, 0)
/-- the texts that are sorts, no array's -/
inductive Srt (has : List UInt8 → Bool) : List UInt8 → Int → Int → Prop
  | bool : Srt has tBool 1 0
  | int : Srt has tInt 2 0
  | real : Srt has tReal 3 0
  | bits (m : List UInt8) (v : Int) (h : okBits m = some v) : Srt has (pfxB ++ (m ++ [41])) 4 v
  | bar (m : List UInt8) (h1 : isSym m = true) (h2 : plain m = false) (h3 : has m = true) : Srt has (124 :: (m ++ [124])) 5 0
  | name (p : List UInt8) (n1 : p ≠ tBool) (n2 : p ≠ tInt) (n3 : p ≠ tReal) (h2 : plain p = true) (h1 : isSym p = true) (h3 : has p = true) : Srt has p 5 0
theorem Srt.ne0 {has : List UInt8 → Bool} {p : List UInt8} {k w : Int} (h : Srt has p k w) : k ≠ 0 := by cases h <;> decide
/- the widths -/
def isOk (l : List UInt8) (n : Int) : Bool := match Lib.atoiAll l with | .ok v => v == n | _ => false
theorem isOk_eq {l : List UInt8} {n : Int} (h : isOk l n = true) : Lib.atoiAll l = .ok n := by
  unfold isOk at h
  split at h
  · rename_i v e; rw [e, eq_of_beq h]
  · cases h
theorem w1 : ∀ a : Fin 10, a.1 ≠ 0 → (isOk [dg8 a.1] (a.1 : Int) = true ∧ decL [dg8 a.1] = (a.1 : Int) ∧ By.digs [dg8 a.1] = true) := by decide
theorem w2 : ∀ a : Fin 7, ∀ b : Fin 10, a.1 ≠ 0 → (isOk [dg8 a.1, dg8 b.1] ((10 * a.1 + b.1 : Nat) : Int) = true ∧ decL [dg8 a.1, dg8 b.1] = ((10 * a.1 + b.1 : Nat) : Int) ∧ By.digs [dg8 a.1, dg8 b.1] = true) := by decide
theorem wid {n : Nat} (h1 : 1 ≤ n) (h2 : n ≤ 64) : Lib.atoiAll (Lib.decDigits n) = .ok (n : Int) ∧ decL (Lib.decDigits n) = (n : Int) ∧ By.digs (Lib.decDigits n) = true := by
  by_cases h : n < 10
  · rw [Lib.decDigits_one h]
    have := w1 ⟨n, h⟩ (by show n ≠ 0; omega)
    exact ⟨isOk_eq this.1, this.2.1, this.2.2⟩
  · have e : Lib.decDigits n = [dg8 (n / 10), dg8 (n % 10)] := by
      rw [dec_step (by omega), Lib.decDigits_one (by omega)]; rfl
    have := w2 ⟨n / 10, by omega⟩ ⟨n % 10, by omega⟩ (by show n / 10 ≠ 0; omega)
    have e2 : 10 * (n / 10) + n % 10 = n := by omega
    simp only [e2] at this
    rw [e]
    exact ⟨isOk_eq this.1, this.2.1, this.2.2⟩
theorem ok_wid {m : List UInt8} {v : Int} (h : okBits m = some v) : ∃ n : Nat, 1 ≤ n ∧ n ≤ 64 ∧ v = n ∧ m = Lib.decDigits n := by
  unfold okBits at h
  split at h
  · split at h
    · rename_i w hw hc
      injection h with h
      subst h
      exact ⟨w.toNat, by omega, by omega, by omega, hc.2.2.symm⟩
    · cases h
  · cases h
theorem wid_ok {n : Nat} (h1 : 1 ≤ n) (h2 : n ≤ 64) : okBits (Lib.decDigits n) = some (n : Int) := by
  unfold okBits
  rw [(wid h1 h2).1]
  show (if _ then _ else _) = _
  rw [if_pos ⟨by omega, by omega, by rw [Int.toNat_natCast]⟩]
theorem dec_ok {m : List UInt8} {v : Int} (h : okBits m = some v) : decL m = v ∧ 1 ≤ v ∧ v ≤ 64 ∧ By.digs m = true ∧ m ≠ [] := by
  obtain ⟨n, h1, h2, rfl, rfl⟩ := ok_wid h
  refine ⟨(wid h1 h2).2.1, by omega, by omega, (wid h1 h2).2.2, fun e => ?_⟩
  have := (wid h1 h2).1
  rw [e] at this
  cases this
theorem ok_dec {m : List UInt8} (h1 : 1 ≤ decL m) (h2 : decL m ≤ 64) : okBits m = some (decL m) := by
  unfold decL at h1 h2 ⊢
  split at h1
  · omega
  rename_i hn
  rw [if_neg hn] at h2 ⊢
  by_cases hd : By.digs m = true
  case neg => rw [if_neg hd] at h1; omega
  rw [if_pos hd] at h1 h2 ⊢
  have hz : ∃ c r, m = c :: r ∧ c ≠ 48 := by
    match m, hn, h1 with
    | [], hn, _ => exact absurd (.inl (by simp)) hn
    | [c], hn, h1 => exact ⟨c, [], rfl, fun e => by subst e; revert h1; decide⟩
    | c :: d :: r, hn, _ => exact ⟨c, _, rfl, fun e => hn (.inr (.inr ⟨by simp, by simp [e]⟩))⟩
  have ht := num_text m hd hz
  have := wid_ok (n := num m) (by omega) (by omega)
  rwa [ht] at this
theorem dig41 {m : List UInt8} (h : By.digs m = true) : ∀ b ∈ m, b ≠ 41 ∧ b ≠ 124 := fun b hb => by
  have := dig_dgt (digs_mem h b hb)
  constructor <;> (rintro rfl; revert this; decide)
/- names -/
theorem nm_ne {b : UInt8} (h : nmU b = true) : b ≠ 32 ∧ b ≠ 40 ∧ b ≠ 41 ∧ b ≠ 124 := by
  refine ⟨?_, ?_, ?_, ?_⟩ <;> (rintro rfl; revert h; decide)
theorem plain_nm {p : List UInt8} (h : plain p = true) : p ≠ [] ∧ ∀ b ∈ p, nmU b = true := by
  cases p with
  | nil => cases h
  | cons c l =>
    have h' : (!dig c && (c :: l).all nmU) = true := h
    rw [Bool.and_eq_true] at h'
    exact ⟨by simp, List.all_eq_true.1 h'.2⟩
theorem sym_in {m : List UInt8} (h : isSym m = true) : ∀ b ∈ m, b ≠ 124 := by
  unfold isSym at h
  rw [Bool.and_eq_true] at h
  intro b hb e
  have := List.all_eq_true.1 h.2 b hb
  subst e
  revert this; decide
theorem p0_at (r : List UInt8) : ∀ m : List UInt8, (∀ b ∈ m, b ≠ 41 ∧ b ≠ 124) → p0 (m ++ 41 :: r) = some (m.length + 1)
  | [], _ => by simp [p0]
  | x :: m, h => by
    have hx := h x (by simp)
    show (if x = 41 then _ else if x = 124 then none else (p0 (m ++ 41 :: r)).map (· + 1)) = _
    rw [if_neg hx.1, if_neg hx.2, p0_at r m (fun b hb => h b (by simp [hb]))]
    simp
theorem p1_at (r : List UInt8) : ∀ m : List UInt8, (∀ b ∈ m, b ≠ 124) → p1 (m ++ 124 :: r) = some (m.length + 1)
  | [], _ => by simp [p1]
  | x :: m, h => by
    have hx := h x (by simp)
    show (if x = 124 then _ else (p1 (m ++ 124 :: r)).map (· + 1)) = _
    rw [if_neg hx, p1_at r m (fun b hb => h b (by simp [hb]))]
    simp
theorem p2_at {c : UInt8} (hc : c = 32 ∨ c = 41) (r : List UInt8) : ∀ m : List UInt8, (∀ b ∈ m, b ≠ 32 ∧ b ≠ 41) → p2 (m ++ c :: r) = m.length
  | [], _ => by rcases hc with rfl | rfl <;> simp [p2]
  | x :: m, h => by
    have hx := h x (by simp)
    show (if x = 32 then _ else if x = 41 then 0 else p2 (m ++ c :: r) + 1) = _
    rw [if_neg hx.1, if_neg hx.2, p2_at hc r m (fun b hb => h b (by simp [hb]))]
    simp
theorem part_name {c : UInt8} (hc : c = 32 ∨ c = 41) (r p : List UInt8) (hp : p ≠ []) (hn : ∀ b ∈ p, nmU b = true) : partL (p ++ c :: r) = some p.length := by
  cases p with
  | nil => exact absurd rfl hp
  | cons x m =>
    have hx := nm_ne (hn x (by simp))
    show (if x = 40 then _ else _) = _
    rw [if_neg hx.2.1, if_neg hx.2.2.2]
    exact congrArg some (p2_at hc r (x :: m) (fun b hb => ⟨(nm_ne (hn b hb)).1, (nm_ne (hn b hb)).2.2.1⟩))
theorem Srt.part {has : List UInt8 → Bool} {p : List UInt8} {k w : Int} (h : Srt has p k w) {c : UInt8} (hc : c = 32 ∨ c = 41) (r : List UInt8) : partL (p ++ c :: r) = some p.length := by
  cases h with
  | bool => exact part_name hc r _ (by decide) (by decide)
  | int => exact part_name hc r _ (by decide) (by decide)
  | real => exact part_name hc r _ (by decide) (by decide)
  | bits m _ h =>
    have hm := dig41 (dec_ok h).2.2.2.1
    have e : pfxB ++ (m ++ [41]) ++ c :: r = (pfxB ++ m) ++ 41 :: (c :: r) := by simp
    rw [e]
    have : ∀ b ∈ pfxB ++ m, b ≠ 41 ∧ b ≠ 124 := fun b hb => by
      rcases List.mem_append.1 hb with h | h
      · exact (by decide : ∀ b ∈ pfxB, b ≠ 41 ∧ b ≠ 124) b h
      · exact hm b h
    show p0 ((pfxB ++ m) ++ 41 :: (c :: r)) = _
    rw [p0_at _ _ this]
    simp; omega
  | bar m h1 h2 h3 =>
    have e : (124 :: (m ++ [124])) ++ c :: r = 124 :: (m ++ 124 :: (c :: r)) := by simp
    rw [e]
    show (p1 (m ++ 124 :: (c :: r))).map (· + 1) = _
    rw [p1_at _ _ (sym_in h1)]
    simp
  | name _ n1 n2 n3 h2 h1 h3 => exact part_name hc r _ (plain_nm h2).1 (plain_nm h2).2
theorem last_split {l : List UInt8} {c : UInt8} (h : l[l.length - 1]? = some c) : l = l.take (l.length - 1) ++ [c] := by
  have hlt : l.length - 1 < l.length := by
    have := (List.getElem?_eq_some_iff.1 h).1; omega
  have h2 : l.drop (l.length - 1) = [c] := by
    rw [List.drop_eq_getElem_cons hlt]
    rw [List.getElem?_eq_getElem hlt] at h
    rw [Option.some.inj h, List.drop_eq_nil_of_le (by omega)]
  conv => lhs; rw [← List.take_append_drop (l.length - 1) l, h2]
theorem simple_srt {has : List UInt8 → Bool} {p : List UInt8} {k w : Int} (h : simpleL has p = (k, w)) (hk : k ≠ 0) : Srt has p k w := by
  unfold simpleL at h
  split at h
  · rename_i e; obtain ⟨rfl, rfl⟩ := Prod.mk.inj h; rw [e]; exact .bool
  rename_i n1
  split at h
  · rename_i e; obtain ⟨rfl, rfl⟩ := Prod.mk.inj h; rw [e]; exact .int
  rename_i n2
  split at h
  · rename_i e; obtain ⟨rfl, rfl⟩ := Prod.mk.inj h; rw [e]; exact .real
  rename_i n3
  split at h
  · rename_i hb
    split at h
    · rename_i hd
      obtain ⟨rfl, rfl⟩ := Prod.mk.inj h
      have e : p = pfxB ++ ((p.drop 10).take (p.length - 1 - 10) ++ [41]) := by
        have h1 := last_split hb.2.2
        have h2 := List.take_append_drop 10 (p.take (p.length - 1))
        rw [List.take_take, Nat.min_eq_left (by omega), hb.2.1, List.drop_take] at h2
        conv => lhs; rw [h1, ← h2]
        simp
      have := Srt.bits (has := has) _ _ (ok_dec hd.1 hd.2)
      rwa [← e] at this
    · exact absurd (Prod.mk.inj h).1.symm hk
  · generalize (if 2 ≤ p.length ∧ p[0]? = some 124 ∧ p[p.length - 1]? = some 124 then (p.drop 1).take (p.length - 1 - 1) else p) = nm at h
    split at h
    · rename_i hs
      obtain ⟨rfl, rfl⟩ := Prod.mk.inj h
      obtain ⟨h1, h2, h3⟩ := hs
      unfold symText at h2
      split at h2
      · rename_i hp; subst h2; exact .name _ n1 n2 n3 hp h1 h3
      · rename_i hp; subst h2; exact .bar _ h1 (by simpa using hp) h3
    · exact absurd (Prod.mk.inj h).1.symm hk
theorem plain_sym {p : List UInt8} (h : plain p = true) : p[0]? ≠ some 124 ∧ p.take 10 ≠ pfxB := by
  cases p with
  | nil => cases h
  | cons x m =>
    have hx := nm_ne ((plain_nm h).2 x (by simp))
    refine ⟨fun e => hx.2.2.2 (by simpa using e), fun e => hx.2.1 ?_⟩
    have := congrArg List.head? e
    simpa [pfxB] using this
theorem srt_simple {has : List UInt8 → Bool} {p : List UInt8} {k w : Int} (h : Srt has p k w) : simpleL has p = (k, w) := by
  cases h with
  | bool => unfold simpleL; rw [if_pos rfl]
  | int => unfold simpleL; rw [if_neg (by decide), if_pos rfl]
  | real => unfold simpleL; rw [if_neg (by decide), if_neg (by decide), if_pos rfl]
  | bits m _ h =>
    obtain ⟨e, h1, h2, hd, hm⟩ := dec_ok h
    have hl : 1 ≤ m.length := List.length_pos_iff.2 hm
    have hlen : (pfxB ++ (m ++ [41])).length = m.length + 11 := by simp [pfxB]
    have hn : ∀ q : List UInt8, q.length < 11 → pfxB ++ (m ++ [41]) ≠ q := fun q hq e => by rw [← e, hlen] at hq; omega
    have hmid : ((pfxB ++ (m ++ [41])).drop 10).take ((pfxB ++ (m ++ [41])).length - 1 - 10) = m := by
      rw [hlen]
      show (m ++ [41]).take _ = m
      rw [show m.length + 11 - 1 - 10 = m.length by omega, List.take_left]
    unfold simpleL
    rw [if_neg (hn _ (by decide)), if_neg (hn _ (by decide)), if_neg (hn _ (by decide)), if_pos ⟨by omega, rfl, by rw [hlen, show m.length + 11 - 1 = (pfxB ++ m).length by simp [pfxB], ← List.append_assoc]; exact List.getElem?_concat_length ..⟩, hmid, e, if_pos ⟨h1, h2⟩]
  | bar m h1 h2 h3 =>
    have hlen : (124 :: (m ++ [124])).length = m.length + 2 := by simp
    have hmid : ((124 :: (m ++ [124])).drop 1).take ((124 :: (m ++ [124])).length - 1 - 1) = m := by
      rw [hlen]
      show (m ++ [124]).take _ = m
      rw [show m.length + 2 - 1 - 1 = m.length by omega, List.take_left]
    have hlast : (124 :: (m ++ [124]))[(124 :: (m ++ [124])).length - 1]? = some 124 := by
      rw [hlen, show m.length + 2 - 1 = (124 :: m).length by simp, ← List.cons_append]; exact List.getElem?_concat_length ..
    have hh : ∀ q : List UInt8, q.head? ≠ some 124 → 124 :: (m ++ [124]) ≠ q := fun q hq e => hq (by rw [← e]; rfl)
    unfold simpleL
    rw [if_neg (hh _ (by decide)), if_neg (hh _ (by decide)), if_neg (hh _ (by decide)), if_neg (by
        rintro ⟨_, h, _⟩
        have := congrArg List.head? h
        simp [pfxB] at this), if_pos (⟨by omega, by simp, hlast⟩ : 2 ≤ (124 :: (m ++ [124])).length ∧ (124 :: (m ++ [124]))[0]? = some 124 ∧ (124 :: (m ++ [124]))[(124 :: (m ++ [124])).length - 1]? = some 124), hmid, if_pos ⟨h1, by unfold symText; rw [h2]; rfl, h3⟩]
  | name _ n1 n2 n3 h2 h1 h3 =>
    have hp := plain_sym h2
    have hq : (if 2 ≤ p.length ∧ p[0]? = some 124 ∧ p[p.length - 1]? = some 124 then (p.drop 1).take (p.length - 1 - 1) else p) = p := if_neg (by rintro ⟨_, h, _⟩; exact hp.1 h)
    unfold simpleL
    rw [hq, if_neg n1, if_neg n2, if_neg n3, if_neg (by rintro ⟨_, h, _⟩; exact hp.2 h), if_pos ⟨h1, by unfold symText; rw [h2]; rfl, h3⟩]
end Go.Proofs.YthfjiaodhladmaaDoor.Srt
namespace Go.Proofs.YthfjiaodhladmaaDoor.Srt
open Go.Proofs.YthfjiaodhladmaaDoor.By Go.Proofs.YthfjiaodhladmaaDoor.RS Go.Proofs.YthfjiaodhladmaaDoor.Num Go.Proofs.YthfjiaodhladmaaDoor.Dig
set_option linter.unusedVariables false
set_option linter.unusedSimpArgs false
theorem hp_iff {l p : List UInt8} : Lib.hasPrefix l p = true ↔ ∃ t, l = p ++ t := by
  unfold Lib.hasPrefix
  rw [List.isPrefixOf_iff_prefix]
  exact ⟨fun ⟨t, h⟩ => ⟨t, h.symm⟩, fun ⟨t, h⟩ => ⟨t, h.symm⟩⟩
theorem hp_no {l p : List UInt8} (h : ∀ t, l ≠ p ++ t) : Lib.hasPrefix l p = false := by
  cases hb : Lib.hasPrefix l p with
  | false => rfl
  | true => obtain ⟨t, e⟩ := hp_iff.1 hb; exact absurd e (h t)
theorem index_at (r : List UInt8) : ∀ m : List UInt8, (∀ b ∈ m, b ≠ 41) → Lib.index (m ++ 41 :: r) [41] = m.length
  | [], _ => by simp [Lib.index, List.isPrefixOf]
  | x :: m, h => by
    have hx := h x (by simp)
    have ih := index_at r m (fun b hb => h b (by simp [hb]))
    show Lib.index (x :: (m ++ 41 :: r)) [41] = _
    unfold Lib.index
    have h1 : ([41] : List UInt8).isPrefixOf (x :: (m ++ 41 :: r)) = false := by
      show ((41 : UInt8) == x && _) = false
      rw [beq_eq_false_iff_ne.2 (fun e => hx e.symm), Bool.false_and]
    have hne : ((m.length : Int) == -1) = false := beq_eq_false_iff_ne.2 (by omega)
    rw [h1, if_neg (by decide), ih, hne, if_neg (by decide)]
    simp
theorem cut_at (m r : List UInt8) (h : ∀ b ∈ m, b ≠ 41) : Lib.cut (m ++ 41 :: r) [41] = (m, r, true) := by
  unfold Lib.cut
  rw [index_at r m h, if_pos (by omega), Int.toNat_natCast, List.take_left]
  congr 2
  show (m ++ 41 :: r).drop (m.length + 1) = r
  rw [show m ++ 41 :: r = (m ++ [41]) ++ r by simp, show m.length + 1 = (m ++ [41]).length by simp, List.drop_left]
theorem cut_split {l : List UInt8} (h : (Lib.cut l [41]).2.2 = true) : l = (Lib.cut l [41]).1 ++ 41 :: (Lib.cut l [41]).2.1 := by
  unfold Lib.cut at h ⊢
  by_cases h0 : 0 ≤ Lib.index l [41]
  · rw [if_pos h0]
    rcases Lib.index_spec l [41] with ⟨h1, _⟩ | ⟨i, h1, h2, h3, _⟩
    · omega
    · rw [h1, Int.toNat_natCast]
      unfold Lib.occAt at h3
      obtain ⟨t, ht⟩ := List.isPrefixOf_iff_prefix.1 h3
      have ht2 : l.drop i = 41 :: t := ht.symm
      have : l.drop (i + ([41] : List UInt8).length) = t := by
        show l.drop (i + 1) = t
        rw [← List.drop_drop, ht2]; rfl
      show l = l.take i ++ 41 :: l.drop (i + ([41] : List UInt8).length)
      rw [this, ← ht2, List.take_append_drop]
  · rw [if_neg h0] at h; cases h
theorem byte_at (r : List UInt8) : ∀ m : List UInt8, (∀ b ∈ m, b ≠ 124) → Lib.indexByte (m ++ 124 :: r) 124 = m.length
  | [], _ => by simp [Lib.indexByte]
  | x :: m, h => by
    have hx := h x (by simp)
    have ih := byte_at r m (fun b hb => h b (by simp [hb]))
    show Lib.indexByte (x :: (m ++ 124 :: r)) 124 = _
    unfold Lib.indexByte
    have hne : ((m.length : Int) == -1) = false := beq_eq_false_iff_ne.2 (by omega)
    rw [beq_eq_false_iff_ne.2 hx, if_neg (by decide), ih, hne, if_neg (by decide)]
    simp
theorem byte_split : ∀ {l : List UInt8}, ¬ Lib.indexByte l 124 < 0 → l = l.take (Lib.indexByte l 124).toNat ++ 124 :: l.drop ((Lib.indexByte l 124).toNat + 1)
  | [], h => by simp [Lib.indexByte] at h
  | x :: l, h => by
    unfold Lib.indexByte at h ⊢
    by_cases hx : (x == 124) = true
    · rw [if_pos hx]
      have : x = 124 := eq_of_beq hx
      subst this; rfl
    · rw [if_neg hx] at h ⊢
      by_cases h1 : (Lib.indexByte l 124 == -1) = true
      · rw [if_pos h1] at h; exact absurd (by decide) h
      · rw [if_neg h1] at h ⊢
        have hg := Lib.indexByte_ge l 124
        have h2 : Lib.indexByte l 124 ≠ -1 := fun e => h1 (by rw [e]; rfl)
        have ih := byte_split (l := l) (by omega)
        rw [show (Lib.indexByte l 124 + 1).toNat = (Lib.indexByte l 124).toNat + 1 by omega]
        rw [List.take_succ_cons, List.drop_succ_cons, List.cons_append, ← ih]
def Edge (rest : List UInt8) : Prop := rest = [] ∨ ∃ c s, rest = c :: s ∧ nmU c = false
theorem Edge.tw {rest : List UInt8} (h : Edge rest) : rest.takeWhile nmU = [] ∧ rest.dropWhile nmU = rest := by
  rcases h with rfl | ⟨c, s, rfl, hc⟩
  · exact ⟨rfl, rfl⟩
  · rw [List.takeWhile_cons, List.dropWhile_cons, hc]; exact ⟨rfl, rfl⟩
theorem tw_all {p rest : List UInt8} (hn : ∀ b ∈ p, nmU b = true) (h : Edge rest) : (p ++ rest).takeWhile nmU = p ∧ (p ++ rest).dropWhile nmU = rest := by
  rw [List.takeWhile_append_of_pos hn, List.dropWhile_append_of_pos hn, h.tw.1, h.tw.2, List.append_nil]
  exact ⟨rfl, rfl⟩
theorem rd_name {has : List UInt8 → Bool} {p rest : List UInt8} (hp : p ≠ []) (hn : ∀ b ∈ p, nmU b = true) (h : Edge rest) :
    rdS has (p ++ rest) = if p = tBool then ((1, 0), rest) else if p = tInt then ((2, 0), rest) else if p = tReal then ((3, 0), rest) else if plain p = true then fin has p rest else noRd := by
  obtain ⟨x, m, rfl⟩ : ∃ x m, p = x :: m := by cases p with | nil => exact absurd rfl hp | cons x m => exact ⟨x, m, rfl⟩
  have hx := nm_ne (hn x (by simp))
  unfold rdS rdName rdPlain
  rw [hp_no (fun t e => hx.2.1 (List.cons.inj e).1), if_neg (by decide), hp_no (fun t e => hx.2.2.2 (List.cons.inj e).1), if_neg (by decide), (tw_all hn h).1, (tw_all hn h).2]
theorem srt_rd {has : List UInt8 → Bool} {p : List UInt8} {k w : Int} (h : Srt has p k w) {rest : List UInt8} (hr : Edge rest) : rdS has (p ++ rest) = ((k, w), rest) := by
  cases h with
  | bool => rw [rd_name (by decide) (by decide) hr, if_pos rfl]
  | int => rw [rd_name (by decide) (by decide) hr, if_neg (by decide), if_pos rfl]
  | real => rw [rd_name (by decide) (by decide) hr, if_neg (by decide), if_neg (by decide), if_pos rfl]
  | bits m _ h =>
    have hm := dig41 (dec_ok h).2.2.2.1
    have e : pfxB ++ (m ++ [41]) ++ rest = pfxB ++ (m ++ 41 :: rest) := by simp
    rw [e]
    unfold rdS
    rw [if_pos (hp_iff.2 ⟨_, rfl⟩)]
    unfold rdBits
    have hd : (pfxB ++ (m ++ 41 :: rest)).drop 10 = m ++ 41 :: rest := rfl
    rw [hd, cut_at m rest (fun b hb => (hm b hb).1)]
    simp only
    rw [if_pos trivial, h]
  | bar m h1 h2 h3 =>
    have e : (124 :: (m ++ [124])) ++ rest = 124 :: (m ++ 124 :: rest) := by simp
    rw [e]
    unfold rdS rdName rdBar
    have hd : (124 :: (m ++ 124 :: rest)).drop 1 = m ++ 124 :: rest := rfl
    rw [hp_no (fun t e => by have := congrArg List.head? e; simp [pfxB] at this), if_neg (by decide), if_pos (show Lib.hasPrefix (124 :: (m ++ 124 :: rest)) [124] = true from hp_iff.2 ⟨m ++ 124 :: rest, rfl⟩), hd, byte_at rest m (sym_in h1), if_neg (by omega), Int.toNat_natCast, List.take_left, h2, if_neg (by decide)]
    have hd2 : (m ++ 124 :: rest).drop (m.length + 1) = rest := by
      rw [show m ++ 124 :: rest = (m ++ [124]) ++ rest by simp, show m.length + 1 = (m ++ [124]).length by simp, List.drop_left]
    rw [hd2]
    unfold fin
    rw [h1, h3]; rfl
  | name _ n1 n2 n3 h2 h1 h3 =>
    rw [rd_name (plain_nm h2).1 (plain_nm h2).2 hr, if_neg n1, if_neg n2, if_neg n3, if_pos h2]
    unfold fin
    rw [h1, h3]; rfl
theorem no0 {k w : Int} {rest : List UInt8} (hk : k ≠ 0) : noRd ≠ ((k, w), rest) := fun e => hk (by have := congrArg (fun x : Rd => x.1.1) e; exact this.symm)
theorem rd_srt {has : List UInt8 → Bool} {l rest : List UInt8} {k w : Int} (h : rdS has l = ((k, w), rest)) (hk : k ≠ 0) : ∃ p, l = p ++ rest ∧ Srt has p k w := by
  have hfin : ∀ s r : List UInt8, fin has s r = ((k, w), rest) → isSym s = true ∧ has s = true ∧ k = 5 ∧ w = 0 ∧ r = rest := fun s r e => by
    unfold fin at e
    split at e
    · rename_i hc
      rw [Bool.and_eq_true] at hc
      obtain ⟨e1, e2⟩ := Prod.mk.inj e
      obtain ⟨e3, e4⟩ := Prod.mk.inj e1
      exact ⟨hc.1, hc.2, e3.symm, e4.symm, e2⟩
    · exact absurd e (no0 hk)
  unfold rdS at h
  split at h
  · rename_i hp
    obtain ⟨t, rfl⟩ := hp_iff.1 hp
    unfold rdBits at h
    have hd : (pfxB ++ t).drop 10 = t := rfl
    rw [hd] at h
    simp only at h
    split at h
    · rename_i hc
      split at h
      · rename_i v hv
        obtain ⟨e1, e2⟩ := Prod.mk.inj h
        obtain ⟨e3, e4⟩ := Prod.mk.inj e1
        subst e3 e4
        exact ⟨_, by conv => lhs; rw [cut_split hc]
                     rw [e2]; simp, .bits _ _ hv⟩
      · exact absurd h (no0 hk)
    · exact absurd h (no0 hk)
  · unfold rdName at h
    split at h
    · rename_i hp
      obtain ⟨u, rfl⟩ := hp_iff.1 hp
      have hd : ([124] ++ u : List UInt8).drop 1 = u := rfl
      rw [hd] at h
      unfold rdBar at h
      split at h
      · exact absurd h (no0 hk)
      rename_i hi
      split at h
      · exact absurd h (no0 hk)
      rename_i hq
      obtain ⟨h1, h2, rfl, rfl, h3⟩ := hfin _ _ h
      refine ⟨_, ?_, .bar (u.take (Lib.indexByte u 124).toNat) h1 (by simpa using hq) h2⟩
      rw [← h3]
      have := byte_split hi
      conv => lhs; rw [this]
      simp
    · unfold rdPlain at h
      have ht := List.takeWhile_append_dropWhile (p := nmU) (l := l)
      split at h
      · rename_i e; rw [e] at ht
        obtain ⟨e1, e2⟩ := Prod.mk.inj h
        obtain ⟨e3, e4⟩ := Prod.mk.inj e1
        subst e3 e4 e2
        exact ⟨_, ht.symm, .bool⟩
      rename_i n1
      split at h
      · rename_i e; rw [e] at ht
        obtain ⟨e1, e2⟩ := Prod.mk.inj h
        obtain ⟨e3, e4⟩ := Prod.mk.inj e1
        subst e3 e4 e2
        exact ⟨_, ht.symm, .int⟩
      rename_i n2
      split at h
      · rename_i e; rw [e] at ht
        obtain ⟨e1, e2⟩ := Prod.mk.inj h
        obtain ⟨e3, e4⟩ := Prod.mk.inj e1
        subst e3 e4 e2
        exact ⟨_, ht.symm, .real⟩
      rename_i n3
      split at h
      · rename_i hp
        obtain ⟨h1, h2, rfl, rfl, h3⟩ := hfin _ _ h
        exact ⟨_, by rw [← h3]; exact ht.symm, .name _ n1 n2 n3 hp h1 h2⟩
      · exact absurd h (no0 hk)
theorem rd_zero {has : List UInt8 → Bool} {l : List UInt8} (h : (rdS has l).1.1 = 0) : rdS has l = noRd := by
  have hfin : ∀ s r : List UInt8, (fin has s r).1.1 = 0 → fin has s r = noRd := fun s r e => by
    unfold fin at e ⊢
    split
    · rename_i hc; rw [if_pos hc] at e; exact absurd e (by show (5 : Int) ≠ 0; decide)
    · rfl
  unfold rdS at h ⊢
  split
  · rename_i hp
    rw [if_pos hp] at h
    unfold rdBits at h ⊢
    simp only at h ⊢
    split
    · rename_i hc
      rw [if_pos hc] at h
      split
      · rename_i v hv; rw [hv] at h; exact absurd h (by show (4 : Int) ≠ 0; decide)
      · rfl
    · rfl
  · rename_i hp
    rw [if_neg hp] at h
    unfold rdName at h ⊢
    split
    · rename_i hq
      rw [if_pos hq] at h
      unfold rdBar at h ⊢
      split
      · rfl
      rename_i h1
      rw [if_neg h1] at h
      split
      · rfl
      rename_i h2
      rw [if_neg h2] at h
      exact hfin _ _ h
    · rename_i hq
      rw [if_neg hq] at h
      unfold rdPlain at h ⊢
      split
      · rename_i e; rw [if_pos e] at h; exact absurd h (by show (1 : Int) ≠ 0; decide)
      rename_i n1
      rw [if_neg n1] at h
      split
      · rename_i e; rw [if_pos e] at h; exact absurd h (by show (2 : Int) ≠ 0; decide)
      rename_i n2
      rw [if_neg n2] at h
      split
      · rename_i e; rw [if_pos e] at h; exact absurd h (by show (3 : Int) ≠ 0; decide)
      rename_i n3
      rw [if_neg n3] at h
      split
      · rename_i hp; rw [if_pos hp] at h; exact hfin _ _ h
      · rfl
theorem simple_zero {has : List UInt8 → Bool} {p : List UInt8} (h : (simpleL has p).1 = 0) : simpleL has p = (0, 0) := by
  unfold simpleL at h ⊢
  split
  · rename_i e; rw [if_pos e] at h; exact absurd h (by decide)
  rename_i n1
  rw [if_neg n1] at h
  split
  · rename_i e; rw [if_pos e] at h; exact absurd h (by decide)
  rename_i n2
  rw [if_neg n2] at h
  split
  · rename_i e; rw [if_pos e] at h; exact absurd h (by decide)
  rename_i n3
  rw [if_neg n3] at h
  split
  · rename_i hb
    rw [if_pos hb] at h
    split
    · rename_i hd; rw [if_pos hd] at h; exact absurd h (by show (4 : Int) ≠ 0; decide)
    · rfl
  · rename_i hb
    rw [if_neg hb] at h
    revert h
    generalize (if 2 ≤ p.length ∧ p[0]? = some 124 ∧ p[p.length - 1]? = some 124 then (p.drop 1).take (p.length - 1 - 1) else p) = nm
    intro h
    split
    · rename_i hs; rw [if_pos hs] at h; exact absurd h (by show (5 : Int) ≠ 0; decide)
    · rfl
/-- a whole text that is no array's -/
theorem whole (has : List UInt8 → Bool) (l : List UInt8) : (if (rdS has l).2 = [] then (rdS has l).1 else (0, 0)) = simpleL has l := by
  by_cases hk : (simpleL has l).1 = 0
  · rw [simple_zero hk]
    split
    · rename_i hr
      by_cases h0 : (rdS has l).1.1 = 0
      · rw [rd_zero h0]; rfl
      · obtain ⟨p, e, hs⟩ := rd_srt (has := has) (l := l) (k := (rdS has l).1.1) (w := (rdS has l).1.2) (rest := (rdS has l).2) rfl h0
        rw [hr, List.append_nil] at e
        subst e
        rw [srt_simple hs] at hk
        exact absurd hk h0
    · rfl
  · have hs := simple_srt (has := has) (p := l) (k := (simpleL has l).1) (w := (simpleL has l).2) rfl hk
    have := srt_rd hs (rest := []) (.inl rfl)
    rw [List.append_nil] at this
    rw [this, if_pos rfl]
end Go.Proofs.YthfjiaodhladmaaDoor.Srt
namespace Go.Proofs.YthfjiaodhladmaaDoor.Srt
open Go.Proofs.YthfjiaodhladmaaDoor.By Go.Proofs.YthfjiaodhladmaaDoor.RS Go.Proofs.YthfjiaodhladmaaDoor.Num Go.Proofs.YthfjiaodhladmaaDoor.Dig
set_option linter.unusedVariables false
set_option linter.unusedSimpArgs false
abbrev Sr := Int × Int × List UInt8 × List UInt8
def zS : Sr := (0, 0, [], [])
/-- behind '(Array ', by the reference -/
def spArr (has : List UInt8 → Bool) (i : List UInt8) : Sr :=
  match partL i with
  | none => zS
  | some a =>
    if i[a]? = some 32 then
      (match partL (i.drop (a + 1)) with
       | none => zS
       | some b =>
         if a + 1 + b + 1 = i.length then
           (if (badK (simpleL has (i.take a)).1 || badK (simpleL has ((i.drop (a + 1)).take b)).1) = true then zS else (6, 0, i.take a, (i.drop (a + 1)).take b))
         else zS)
    else zS
/-- spec.ReadSort -/
def spS (has : List UInt8 → Bool) (l : List UInt8) : Sr :=
  if 8 < l.length ∧ l.take 7 = pfxA ∧ l[l.length - 1]? = some 41 then spArr has (l.drop 7) else ((simpleL has l).1, (simpleL has l).2, [], [])
/-- two sorts that an array may have -/
def Two (has : List UInt8 → Bool) (i q1 q2 : List UInt8) : Prop := ∃ k1 w1 k2 w2, i = q1 ++ 32 :: (q2 ++ [41]) ∧ Srt has q1 k1 w1 ∧ Srt has q2 k2 w2 ∧ k1 ≠ 1 ∧ k2 ≠ 1
theorem badK_no {k : Int} : badK k = false ↔ k ≠ 0 ∧ k ≠ 1 := by unfold badK; simp
theorem two_sp {has : List UInt8 → Bool} {i q1 q2 : List UInt8} (h : Two has i q1 q2) : spArr has i = (6, 0, q1, q2) := by
  obtain ⟨k1, w1, k2, w2, rfl, h1, h2, n1, n2⟩ := h
  unfold spArr
  have hd : (q1 ++ 32 :: (q2 ++ [41])).drop (q1.length + 1) = q2 ++ [41] := by
    rw [show q1 ++ 32 :: (q2 ++ [41]) = (q1 ++ [32]) ++ (q2 ++ [41]) by simp, show q1.length + 1 = (q1 ++ [32]).length by simp, List.drop_left]
  rw [h1.part (.inl rfl)]
  simp only
  rw [if_pos (by simp), hd, h2.part (.inr rfl)]
  simp only
  rw [if_pos (by simp; omega), List.take_left, List.take_left, srt_simple h1, srt_simple h2, badK_no.2 ⟨h1.ne0, n1⟩, badK_no.2 ⟨h2.ne0, n2⟩]
  rfl
theorem two_rd {has : List UInt8 → Bool} {i q1 q2 : List UInt8} (h : Two has i q1 q2) : rdArr has i = ((6, 0, q1, q2), []) := by
  obtain ⟨k1, w1, k2, w2, rfl, h1, h2, n1, n2⟩ := h
  have e1 := srt_rd h1 (rest := 32 :: (q2 ++ [41])) (.inr ⟨32, _, rfl, by decide⟩)
  have e2 := srt_rd h2 (rest := [41]) (.inr ⟨41, _, rfl, by decide⟩)
  have hd : (32 :: (q2 ++ [41])).drop 1 = q2 ++ [41] := rfl
  have hl1 : (q1 ++ 32 :: (q2 ++ [41])).length - (32 :: (q2 ++ [41])).length = q1.length := by simp
  have hl2 : (q2 ++ [41]).length - ([41] : List UInt8).length = q2.length := by simp
  unfold rdArr
  rw [e1]
  simp only
  rw [hd, e2]
  simp only
  rw [hl1, hl2, List.take_left, List.take_left, badK_no.2 ⟨h1.ne0, n1⟩, badK_no.2 ⟨h2.ne0, n2⟩]
  rfl
theorem sp_two {has : List UInt8 → Bool} {i : List UInt8} (hl : i[i.length - 1]? = some 41) (h : spArr has i ≠ zS) : ∃ q1 q2, Two has i q1 q2 := by
  unfold spArr at h
  split at h
  · exact absurd rfl h
  rename_i a ha
  split at h
  rotate_left
  · exact absurd rfl h
  rename_i h32
  split at h
  · exact absurd rfl h
  rename_i b hb
  split at h
  rotate_left
  · exact absurd rfl h
  rename_i hlen
  split at h
  · exact absurd rfl h
  rename_i hk
  have hk2 : badK (simpleL has (i.take a)).1 = false ∧ badK (simpleL has ((i.drop (a + 1)).take b)).1 = false := by
    cases h1 : badK (simpleL has (i.take a)).1 with
    | true => rw [h1, Bool.true_or] at hk; exact absurd rfl hk
    | false => rw [h1, Bool.false_or] at hk; exact ⟨rfl, by simpa using hk⟩
  obtain ⟨g1, g2⟩ := hk2
  have g1' := badK_no.1 g1
  have g2' := badK_no.1 g2
  have hlt : a < i.length := (List.getElem?_eq_some_iff.1 h32).1
  refine ⟨i.take a, (i.drop (a + 1)).take b, _, _, _, _, ?_, simple_srt (has := has) (Prod.eta _).symm g1'.1, simple_srt (has := has) (Prod.eta _).symm g2'.1, g1'.2, g2'.2⟩
  have hd2 : i.drop (a + 1) = (i.drop (a + 1)).take b ++ [41] := by
    have hx : (i.drop (a + 1))[(i.drop (a + 1)).length - 1]? = some 41 := by
      rw [List.getElem?_drop, List.length_drop, show a + 1 + (i.length - (a + 1) - 1) = i.length - 1 by omega]; exact hl
    have := last_split hx
    rwa [List.length_drop, show i.length - (a + 1) - 1 = b by omega] at this
  have hd1 : i.drop a = 32 :: i.drop (a + 1) := by
    rw [List.drop_eq_getElem_cons hlt]
    rw [List.getElem?_eq_getElem hlt] at h32
    rw [Option.some.inj h32]
  rw [← hd2, ← hd1, List.take_append_drop]
theorem hp1 {l : List UInt8} {c : UInt8} (h : Lib.hasPrefix l [c] = true) : l = c :: l.drop 1 := by
  obtain ⟨t, rfl⟩ := hp_iff.1 h; rfl
theorem rd_two {has : List UInt8 → Bool} {i : List UInt8} (h : (rdArr has i).2 = []) : ∃ q1 q2, Two has i q1 q2 := by
  have nz : ¬ noRdT.2 = [] := by decide
  unfold rdArr at h
  split at h
  · exact absurd h nz
  rename_i h1
  split at h
  · exact absurd h nz
  rename_i h2
  simp only [Bool.or_eq_true, Bool.not_eq_true', not_or, Bool.not_eq_true, Bool.not_eq_false] at h1 h2
  have g1 := badK_no.1 h1.1
  have g2 := badK_no.1 h2.1
  have e1 := hp1 h1.2
  have e2 := hp1 h2.2
  have e3 : (rdS has ((rdS has i).2.drop 1)).2.drop 1 = [] := h
  rw [e3] at e2
  obtain ⟨q1, hq1, s1⟩ := rd_srt (has := has) (l := i) (k := (rdS has i).1.1) (w := (rdS has i).1.2) (rest := (rdS has i).2) rfl g1.1
  obtain ⟨q2, hq2, s2⟩ := rd_srt (has := has) (l := (rdS has i).2.drop 1) (k := (rdS has ((rdS has i).2.drop 1)).1.1) (w := (rdS has ((rdS has i).2.drop 1)).1.2) (rest := (rdS has ((rdS has i).2.drop 1)).2) rfl g2.1
  exact ⟨q1, q2, _, _, _, _, by rw [e2] at hq2; rw [← hq2, ← e1]; exact hq1, s1, s2, g1.2, g2.2⟩
theorem arr_head {has : List UInt8 → Bool} {l : List UInt8} (h : ∃ t, l = pfxA ++ t) : (simpleL has l).1 = 0 := by
  obtain ⟨t, rfl⟩ := h
  refine Decidable.byContradiction fun hk => ?_
  have hs := simple_srt (has := has) (Prod.eta (simpleL has (pfxA ++ t))).symm hk
  generalize (simpleL has (pfxA ++ t)).1 = k at hs
  generalize (simpleL has (pfxA ++ t)).2 = w at hs
  generalize hg : pfxA ++ t = l at hs
  cases hs with
  | bool => exact absurd (congrArg List.head? hg) (by simp [pfxA, tBool])
  | int => exact absurd (congrArg List.head? hg) (by simp [pfxA, tInt])
  | real => exact absurd (congrArg List.head? hg) (by simp [pfxA, tReal])
  | bits m _ h => exact absurd (congrArg (fun l => l[1]?) hg) (by simp [pfxA, pfxB])
  | bar m h1 h2 h3 => exact absurd (congrArg List.head? hg) (by simp [pfxA])
  | name _ n1 n2 n3 h2 h1 h3 => exact absurd ((plain_nm h2).2 40 (by rw [← hg]; simp [pfxA])) (by decide)
theorem spS_eq (has : List UInt8 → Bool) (l : List UInt8) : spS has l = rdSort has l := by
  by_cases hA : ∃ t, l = pfxA ++ t
  · obtain ⟨i, rfl⟩ := hA
    have hd : (pfxA ++ i).drop 7 = i := rfl
    have hT : rdT has (pfxA ++ i) = rdArr has i := by
      unfold rdT
      rw [hp_no (fun t e => absurd (congrArg (fun l => l[1]?) e) (by simp [pfxA, pfxB])), if_neg (by decide), if_pos (hp_iff.2 ⟨i, rfl⟩), hd]
    have hrd : rdSort has (pfxA ++ i) = if (rdArr has i).2 = [] then (rdArr has i).1 else zS := by unfold rdSort; rw [hT]; rfl
    rw [hrd]
    by_cases h2 : ∃ q1 q2, Two has i q1 q2
    · obtain ⟨q1, q2, h2⟩ := h2
      rw [two_rd h2, if_pos rfl]
      have hi : i = q1 ++ 32 :: (q2 ++ [41]) := by obtain ⟨_, _, _, _, e, _⟩ := h2; exact e
      have hlast : (pfxA ++ i)[(pfxA ++ i).length - 1]? = some 41 := by
        rw [show pfxA ++ i = (pfxA ++ q1 ++ 32 :: q2) ++ [41] by rw [hi]; simp]
        rw [List.length_append]
        exact List.getElem?_concat_length ..
      unfold spS
      rw [if_pos ⟨by rw [hi]; simp [pfxA]; omega, rfl, hlast⟩, hd, two_sp h2]
    · rw [if_neg (fun h => h2 (rd_two h))]
      unfold spS
      split
      · rename_i hc
        rw [hd]
        refine Decidable.byContradiction fun hne => h2 (sp_two ?_ hne)
        have hlen : (pfxA ++ i).length = i.length + 7 := by simp [pfxA]
        have hl := hc.2.2
        rw [hlen, show i.length + 7 - 1 = pfxA.length + (i.length - 1) by simp [pfxA]; omega, List.getElem?_append_right (by omega)] at hl
        simpa using hl
      · have h0 := arr_head (has := has) (l := pfxA ++ i) ⟨i, rfl⟩
        rw [simple_zero h0]; rfl
  · have hA2 : Lib.hasPrefix l pfxA = false := hp_no (fun t e => hA ⟨t, e⟩)
    have h1 : spS has l = ((simpleL has l).1, (simpleL has l).2, [], []) := by
      unfold spS
      rw [if_neg (fun h => hA ⟨l.drop 7, by rw [← h.2.1, List.take_append_drop]⟩)]
    have h2 : rdT has l = lift (rdS has l) := by
      unfold rdT rdS
      split
      · rfl
      · rw [hA2, if_neg (by decide)]
    rw [h1, ← whole has l]
    unfold rdSort
    rw [h2]
    show _ = (if (rdS has l).2 = [] then ((rdS has l).1.1, (rdS has l).1.2, [], []) else (0, 0, [], []))
    split <;> rfl
end Go.Proofs.YthfjiaodhladmaaDoor.Srt
namespace Go.Proofs.YthfjiaodhladmaaDoor.RS
open Go.RowKit Go.Proofs.YthfjiaodhladmaaDoor Go.Proofs.YthfjiaodhladmaaDoorW.PrintWords Go.Proofs.YthfjiaodhladmaaDoorW.PrintLast Go.Proofs.YthfjiaodhladmaaDoorW.PrintMore Go.Proofs.YthfjiaodhladmaaDoor.By Go.Proofs.YthfjiaodhladmaaDoor.PFnExactReadSort Go.Proofs.YthfjiaodhladmaaDoor.Srt Go.Proofs.YthfjiaodhladmaaDoor.Num
set_option linter.unusedVariables false
set_option linter.unusedSimpArgs false
/-- a part's end in a text: where it stands, -1 where there is none -/
def endI (i : Nat) : Option Nat → Int
  | some n => ((i + n : Nat) : Int)
  | none => -1
theorem endI_map (i : Nat) (o : Option Nat) : endI (i + 1) o = endI i (o.map (· + 1)) := by
  cases o with
  | none => rfl
  | some n => show ((i + 1 + n : Nat) : Int) = ((i + (n + 1) : Nat) : Int); omega
theorem part_l0 (s : ByteArray) (hs : s.size ≤ 1048576) : ∀ (d i : Nat), i ≤ s.size → s.size - i = d → Evt (fun k => spec_l4Part.l0 k s (i : Int)) (endI i (p0 ((L s).drop i))) := by
  intro d
  induction d with
  | zero =>
    intro i hi hd
    rw [drop_all s i (by omega)]
    exact Evt.succ (g := fun _ => some (-1)) (fun k => by simp only [spec_l4Part.l0]; rw [if_neg (by omega)]) (Evt.pure fun _ => rfl)
  | succ d ih =>
    intro i hi hd
    have hlt : i < s.size := by omega
    have hw1 : wrap64 ((i : Int) + 1) = ((i + 1 : Nat) : Int) := wrap_ok (by omega) (by omega)
    obtain ⟨x, hx⟩ : ∃ x, (L s)[i]'(by rw [L_length]; exact hlt) = x := ⟨_, rfl⟩
    have hb : bt s (i : Int) = (x.toNat : Int) := by rw [bt_get s i hlt, hx]
    rw [drop_cons s i hlt, hx]
    by_cases h1 : x = 41
    · subst h1
      exact Evt.succ (g := fun _ => some ((i + 1 : Nat) : Int)) (fun k => by simp only [spec_l4Part.l0]; rw [if_pos (by omega), if_pos (by omega), hb, if_pos (by decide), hw1]) (Evt.pure fun _ => rfl)
    · have g1 : ¬ ((x.toNat : Int) = 41) := fun e => h1 ((u8i x 41 (by omega)).1 e)
      by_cases h2 : x = 124
      · subst h2
        exact Evt.succ (g := fun _ => some (-1)) (fun k => by simp only [spec_l4Part.l0]; rw [if_pos (by omega), if_pos (by omega), hb, if_neg g1, if_pos (by decide)]) (Evt.pure fun _ => rfl)
      · have g2 : ¬ ((x.toNat : Int) = 124) := fun e => h2 ((u8i x 124 (by omega)).1 e)
        have hp : p0 (x :: (L s).drop (i + 1)) = (p0 ((L s).drop (i + 1))).map (· + 1) := by
          show (if x = 41 then _ else _) = _
          rw [if_neg h1, if_neg h2]
        rw [hp, ← endI_map]
        exact Evt.succ (fun k => by simp only [spec_l4Part.l0]; rw [if_pos (by omega), if_pos (by omega), hb, if_neg g1, if_neg g2, hw1]) (ih (i + 1) (by omega) (by omega))
theorem part_l1 (s : ByteArray) (hs : s.size ≤ 1048576) : ∀ (d i : Nat), i ≤ s.size → s.size - i = d → Evt (fun k => spec_l4Part.l1 k s (i : Int)) (endI i (p1 ((L s).drop i))) := by
  intro d
  induction d with
  | zero =>
    intro i hi hd
    rw [drop_all s i (by omega)]
    exact Evt.succ (g := fun _ => some (-1)) (fun k => by simp only [spec_l4Part.l1]; rw [if_neg (by omega)]) (Evt.pure fun _ => rfl)
  | succ d ih =>
    intro i hi hd
    have hlt : i < s.size := by omega
    have hw1 : wrap64 ((i : Int) + 1) = ((i + 1 : Nat) : Int) := wrap_ok (by omega) (by omega)
    obtain ⟨x, hx⟩ : ∃ x, (L s)[i]'(by rw [L_length]; exact hlt) = x := ⟨_, rfl⟩
    have hb : bt s (i : Int) = (x.toNat : Int) := by rw [bt_get s i hlt, hx]
    rw [drop_cons s i hlt, hx]
    by_cases h2 : x = 124
    · subst h2
      exact Evt.succ (g := fun _ => some ((i + 1 : Nat) : Int)) (fun k => by simp only [spec_l4Part.l1]; rw [if_pos (by omega), if_pos (by omega), hb, if_pos (by decide), hw1]) (Evt.pure fun _ => rfl)
    · have g2 : ¬ ((x.toNat : Int) = 124) := fun e => h2 ((u8i x 124 (by omega)).1 e)
      have hp : p1 (x :: (L s).drop (i + 1)) = (p1 ((L s).drop (i + 1))).map (· + 1) := by
        show (if x = 124 then _ else _) = _
        rw [if_neg h2]
      rw [hp, ← endI_map]
      exact Evt.succ (fun k => by simp only [spec_l4Part.l1]; rw [if_pos (by omega), if_pos (by omega), hb, if_neg g2, hw1]) (ih (i + 1) (by omega) (by omega))
theorem part_l2 (s : ByteArray) (hs : s.size ≤ 1048576) : ∀ (d i : Nat), i ≤ s.size → s.size - i = d → Evt (fun k => spec_l4Part.l2 k s (i : Int)) ((i + p2 ((L s).drop i) : Nat) : Int) := by
  intro d
  induction d with
  | zero =>
    intro i hi hd
    rw [drop_all s i (by omega)]
    exact Evt.succ (g := fun _ => some (i : Int)) (fun k => by simp only [spec_l4Part.l2]; rw [if_neg (by omega)]) (Evt.pure fun _ => rfl)
  | succ d ih =>
    intro i hi hd
    have hlt : i < s.size := by omega
    have hw1 : wrap64 ((i : Int) + 1) = ((i + 1 : Nat) : Int) := wrap_ok (by omega) (by omega)
    obtain ⟨x, hx⟩ : ∃ x, (L s)[i]'(by rw [L_length]; exact hlt) = x := ⟨_, rfl⟩
    have hb : bt s (i : Int) = (x.toNat : Int) := by rw [bt_get s i hlt, hx]
    rw [drop_cons s i hlt, hx]
    by_cases h1 : x = 32
    · subst h1
      exact Evt.succ (g := fun _ => some (i : Int)) (fun k => by simp only [spec_l4Part.l2]; rw [if_pos (by omega), if_pos (by omega), hb, if_pos (by decide)]) (Evt.pure fun _ => rfl)
    · have g1 : ¬ ((x.toNat : Int) = 32) := fun e => h1 ((u8i x 32 (by omega)).1 e)
      by_cases h2 : x = 41
      · subst h2
        exact Evt.succ (g := fun _ => some (i : Int)) (fun k => by simp only [spec_l4Part.l2]; rw [if_pos (by omega), if_pos (by omega), hb, if_neg g1, if_pos (by decide)]) (Evt.pure fun _ => rfl)
      · have g2 : ¬ ((x.toNat : Int) = 41) := fun e => h2 ((u8i x 41 (by omega)).1 e)
        have hp : p2 (x :: (L s).drop (i + 1)) = p2 ((L s).drop (i + 1)) + 1 := by
          show (if x = 32 then _ else _) = _
          rw [if_neg h1, if_neg h2]
        rw [hp, show i + (p2 ((L s).drop (i + 1)) + 1) = i + 1 + p2 ((L s).drop (i + 1)) by omega]
        exact Evt.succ (fun k => by simp only [spec_l4Part.l2]; rw [if_pos (by omega), if_pos (by omega), hb, if_neg g1, if_neg g2, hw1]) (ih (i + 1) (by omega) (by omega))
theorem s_part (s : ByteArray) (hs : s.size ≤ 1048576) (i : Nat) (hi : i ≤ s.size) : Evt (fun k => spec_l4Part.f k s (i : Int)) (endI i (partL ((L s).drop i))) := by
  by_cases h0 : i = s.size
  · rw [drop_all s i (by omega)]
    exact Evt.same (g := fun _ => some (-1)) (fun k => by unfold spec_l4Part.f; rw [if_pos (by omega)]) (Evt.pure fun _ => rfl)
  have hlt : i < s.size := by omega
  have hw1 : wrap64 ((i : Int) + 1) = ((i + 1 : Nat) : Int) := wrap_ok (by omega) (by omega)
  obtain ⟨x, hx⟩ : ∃ x, (L s)[i]'(by rw [L_length]; exact hlt) = x := ⟨_, rfl⟩
  have hb : bt s (i : Int) = (x.toNat : Int) := by rw [bt_get s i hlt, hx]
  have hdc := drop_cons s i hlt
  rw [hx] at hdc
  by_cases h1 : x = 40
  · have hp : partL ((L s).drop i) = p0 ((L s).drop i) := by
      rw [hdc]
      show (if x = 40 then _ else _) = _
      rw [if_pos h1]
    rw [hp]
    exact Evt.same (fun k => by unfold spec_l4Part.f; rw [if_neg (by omega), if_pos (by omega), if_pos (by omega), hb, if_pos (by rw [h1]; rfl)]) (part_l0 s hs _ i hi rfl)
  · have g1 : ¬ ((x.toNat : Int) = 40) := fun e => h1 ((u8i x 40 (by omega)).1 e)
    by_cases h2 : x = 124
    · have hp : partL ((L s).drop i) = (p1 ((L s).drop (i + 1))).map (· + 1) := by
        rw [hdc]
        show (if x = 40 then _ else _) = _
        rw [if_neg h1, if_pos h2]
      rw [hp, ← endI_map]
      exact Evt.same (fun k => by unfold spec_l4Part.f; rw [if_neg (by omega), if_pos (by omega), if_pos (by omega), hb, if_neg g1, if_pos (by rw [h2]; rfl), hw1]) (part_l1 s hs _ (i + 1) (by omega) rfl)
    · have g2 : ¬ ((x.toNat : Int) = 124) := fun e => h2 ((u8i x 124 (by omega)).1 e)
      have hp : partL ((L s).drop i) = some (p2 ((L s).drop i)) := by
        rw [hdc]
        show (if x = 40 then _ else _) = _
        rw [if_neg h1, if_neg h2]
      rw [hp]
      exact Evt.same (fun k => by unfold spec_l4Part.f; rw [if_neg (by omega), if_pos (by omega), if_pos (by omega), hb, if_neg g1, if_neg g2]) (part_l2 s hs _ i hi rfl)
/-- a sort's information as the printed function hands it back -/
def infB (r : Int × Int) : Int × Int × ByteArray × ByteArray := (r.1, r.2, (⟨#[]⟩ : ByteArray), (⟨#[]⟩ : ByteArray))
theorem lastB (s : ByteArray) (h1 : 0 < s.size) (n : Nat) (hn : n < 256) : ((bt s ((s.size - 1 : Nat) : Int) == (n : Int)) = decide ((L s)[(L s).length - 1]? = some (UInt8.ofNat n))) := by
  have := bt_eq_iff s (s.size - 1) (by omega) n hn
  rw [L_length]
  by_cases h : bt s ((s.size - 1 : Nat) : Int) = (n : Int)
  · rw [h, decide_eq_true (this.1 h)]; simp
  · rw [beq_eq_false_iff_ne.2 h, decide_eq_false (fun e => h (this.2 e))]
theorem simp_j2 (l : List ByteArray) (hl : l.length ≤ 1048576) (s m : ByteArray) (hm : m.size ≤ 1048576) :
    Evt (fun k => spec_l4Simple.j2 k l s m) (infB (if isSym (L m) = true ∧ symText (L m) = L s ∧ has l (L m) = true then (5, 0) else (0, 0))) := by
  obtain ⟨q, hq, hq2⟩ := s_symText m hm
  refine Evt.succ (g := fun k => (spec_l4Symbol.f k m).bind fun t113 => (if t113 = true then ((spec_l4SymText.f k m).bind fun t114 => (if t114.toList = s.toList then ((spec_l4Has.f k l m).bind fun t115 => (if t115 = true then (some (5, 0, (⟨#[]⟩ : ByteArray), (⟨#[]⟩ : ByteArray))) else (some (0, 0, (⟨#[]⟩ : ByteArray), (⟨#[]⟩ : ByteArray))))) else (some (0, 0, (⟨#[]⟩ : ByteArray), (⟨#[]⟩ : ByteArray))))) else (some (0, 0, (⟨#[]⟩ : ByteArray), (⟨#[]⟩ : ByteArray))))) (fun k => rfl) (Evt.bind (s_sym m hm) ?_)
  cases h1 : isSym (L m) with
  | false => exact Evt.pure fun k => by rw [if_neg (by decide), if_neg (by rintro ⟨h, _⟩; cases h)]; rfl
  | true =>
    refine Evt.same (fun k => if_pos rfl) (Evt.bind hq ?_)
    by_cases h2 : symText (L m) = L s
    · refine Evt.same (fun k => if_pos (by rw [toList_L, toList_L, hq2, h2])) (Evt.bind (s_has l hl m) ?_)
      cases h3 : has l (L m) with
      | false => exact Evt.pure fun k => by rw [if_neg (by decide), if_neg (by rintro ⟨_, _, h⟩; cases h)]; rfl
      | true => exact Evt.pure fun k => by rw [if_pos rfl, if_pos ⟨rfl, h2, rfl⟩]; rfl
    · exact Evt.pure fun k => by rw [if_neg (by rw [toList_L, toList_L, hq2]; exact h2), if_neg (by rintro ⟨_, h, _⟩; exact h2 h)]; rfl
end Go.Proofs.YthfjiaodhladmaaDoor.RS
namespace Go.Proofs.YthfjiaodhladmaaDoor.RS
open Go.RowKit Go.Proofs.YthfjiaodhladmaaDoor Go.Proofs.YthfjiaodhladmaaDoorW.PrintWords Go.Proofs.YthfjiaodhladmaaDoorW.PrintLast Go.Proofs.YthfjiaodhladmaaDoorW.PrintMore Go.Proofs.YthfjiaodhladmaaDoor.By Go.Proofs.YthfjiaodhladmaaDoor.PFnExactReadSort Go.Proofs.YthfjiaodhladmaaDoor.Srt Go.Proofs.YthfjiaodhladmaaDoor.Num
set_option linter.unusedVariables false
set_option linter.unusedSimpArgs false
theorem simp_j0 (l : List ByteArray) (hl : l.length ≤ 1048576) (s : ByteArray) (hs : s.size ≤ 1048576) :
    ∀ nm, nm = (if 2 ≤ (L s).length ∧ (L s)[0]? = some 124 ∧ (L s)[(L s).length - 1]? = some 124 then ((L s).drop 1).take ((L s).length - 1 - 1) else (L s)) →
    Evt (fun k => spec_l4Simple.j0 k l s false) (infB (if isSym nm = true ∧ symText nm = L s ∧ has l nm = true then (5, 0) else (0, 0))) := by
  intro nm hnm
  have hwl : 1 ≤ s.size → wrap64 ((s.size : Int) - 1) = ((s.size - 1 : Nat) : Int) := fun h => by rw [wrap_ok (by omega) (by omega)]; omega
  have jf : Evt (fun k => spec_l4Simple.j1 k l s s false) (infB (if isSym (L s) = true ∧ symText (L s) = L s ∧ has l (L s) = true then (5, 0) else (0, 0))) :=
    Evt.succ (fun k => by simp only [spec_l4Simple.j1]; rw [if_neg (by decide)]) (simp_j2 l hl s s hs)
  by_cases h2 : 2 ≤ s.size
  · have hb0 := bt_eq_iff s 0 (by omega) 124 (by omega)
    by_cases h0 : (L s)[0]? = some 124
    · have hb : bt s 0 = 124 := hb0.2 h0
      have hl124 := lastB s (by omega) 124 (by omega)
      by_cases hz : (L s)[(L s).length - 1]? = some 124
      · have hx : (bt s ((s.size - 1 : Nat) : Int) == 124) = true := hl124.trans (decide_eq_true hz)
        have jt : Evt (fun k => spec_l4Simple.j1 k l s s true) (infB (if isSym (((L s).drop 1).take ((L s).length - 1 - 1)) = true ∧ symText (((L s).drop 1).take ((L s).length - 1 - 1)) = L s ∧ has l (((L s).drop 1).take ((L s).length - 1 - 1)) = true then (5, 0) else (0, 0))) := by
          have he : L (s.extract 1 (s.size - 1)) = ((L s).drop 1).take ((L s).length - 1 - 1) := by rw [L_extract, L_length]
          rw [← he]
          refine Evt.succ (fun k => by simp only [spec_l4Simple.j1]; rw [if_pos trivial, hwl (by omega), if_pos (by omega), if_pos (by omega), Int.toNat_natCast]) (simp_j2 l hl s _ ?_)
          rw [size_extract s 1 (s.size - 1) (by omega)]; omega
        rw [if_pos ⟨by rw [L_length]; exact h2, h0, hz⟩] at hnm
        subst hnm
        exact Evt.succ (fun k => by simp only [spec_l4Simple.j0]; rw [if_neg (by decide), if_pos (by omega), if_pos (by omega), if_pos hb, hwl (by omega), if_pos (by omega), if_pos (by omega), hx]) jt
      · have hx : (bt s ((s.size - 1 : Nat) : Int) == 124) = false := hl124.trans (decide_eq_false hz)
        rw [if_neg (by rintro ⟨_, _, h⟩; exact hz h)] at hnm
        subst hnm
        exact Evt.succ (fun k => by simp only [spec_l4Simple.j0]; rw [if_neg (by decide), if_pos (by omega), if_pos (by omega), if_pos hb, hwl (by omega), if_pos (by omega), if_pos (by omega), hx]) jf
    · have hb : ¬ bt s 0 = 124 := fun e => h0 (hb0.1 e)
      rw [if_neg (by rintro ⟨_, h, _⟩; exact h0 h)] at hnm
      subst hnm
      exact Evt.succ (fun k => by simp only [spec_l4Simple.j0]; rw [if_neg (by decide), if_pos (by omega), if_pos (by omega), if_neg hb]) jf
  · rw [if_neg (by rintro ⟨h, _, _⟩; rw [L_length] at h; exact h2 h)] at hnm
    subst hnm
    exact Evt.succ (fun k => by simp only [spec_l4Simple.j0]; rw [if_neg (by decide), if_neg (by omega)]) jf
theorem s_simple (l : List ByteArray) (hl : l.length ≤ 1048576) (s : ByteArray) (hs : s.size ≤ 1048576) : Evt (fun k => spec_l4Simple.f k l s) (infB (simpleL (has l) (L s))) := by
  have hwl : 1 ≤ s.size → wrap64 ((s.size : Int) - 1) = ((s.size - 1 : Nat) : Int) := fun h => by rw [wrap_ok (by omega) (by omega)]; omega
  unfold simpleL
  by_cases n1 : L s = tBool
  · rw [if_pos n1]
    exact Evt.pure fun k => by unfold spec_l4Simple.f; rw [if_pos (by rw [toList_L]; exact n1)]; rfl
  have m1 : ¬ s.toList = ([66, 111, 111, 108] : List UInt8) := by rw [toList_L]; exact n1
  rw [if_neg n1]
  by_cases n2 : L s = tInt
  · rw [if_pos n2]
    exact Evt.pure fun k => by unfold spec_l4Simple.f; rw [if_neg m1, if_pos (by rw [toList_L]; exact n2)]; rfl
  have m2 : ¬ s.toList = ([73, 110, 116] : List UInt8) := by rw [toList_L]; exact n2
  rw [if_neg n2]
  by_cases n3 : L s = tReal
  · rw [if_pos n3]
    exact Evt.pure fun k => by unfold spec_l4Simple.f; rw [if_neg m1, if_neg m2, if_pos (by rw [toList_L]; exact n3)]; rfl
  have m3 : ¬ s.toList = ([82, 101, 97, 108] : List UInt8) := by rw [toList_L]; exact n3
  rw [if_neg n3]
  have hj := simp_j0 l hl s hs _ rfl
  by_cases h11 : 11 < s.size
  · have hex : (s.extract 0 10).toList = (L s).take 10 := by rw [toList_L, L_extract, List.drop_zero]
    by_cases hp : (L s).take 10 = pfxB
    · have hpe : (s.extract 0 10).toList = ([40, 95, 32, 66, 105, 116, 86, 101, 99, 32] : List UInt8) := hex.trans hp
      have hlz := lastB s (by omega) 41 (by omega)
      by_cases hz : (L s)[(L s).length - 1]? = some 41
      · have hx : (bt s ((s.size - 1 : Nat) : Int) == 41) = true := hlz.trans (decide_eq_true hz)
        rw [if_pos ⟨by rw [L_length]; exact h11, hp, hz⟩]
        refine Evt.same (fun k => by unfold spec_l4Simple.f; rw [if_neg m1, if_neg m2, if_neg m3, if_pos (by omega), if_pos (by omega), if_pos (by omega), if_pos hpe, hwl (by omega), if_pos (by omega), if_pos (by omega), hx]) ?_
        have he : L (s.extract 10 (s.size - 1)) = ((L s).drop 10).take ((L s).length - 1 - 10) := by rw [L_extract, L_length]
        rw [← he]
        refine Evt.succ (fun k => by simp only [spec_l4Simple.j0]; rw [if_pos trivial, hwl (by omega), if_pos (by omega), if_pos (by omega), Int.toNat_natCast]) (Evt.bind (s_dec _) ?_)
        refine Evt.pure fun k => ?_
        by_cases g1 : decL (L (s.extract 10 (s.size - 1))) ≥ 1
        · rw [if_pos g1]
          by_cases g2 : decL (L (s.extract 10 (s.size - 1))) ≤ 64
          · rw [if_pos g2, if_pos ⟨g1, g2⟩]; rfl
          · rw [if_neg g2, if_neg (by rintro ⟨_, h⟩; exact g2 h)]; rfl
        · rw [if_neg g1, if_neg (by rintro ⟨h, _⟩; exact g1 h)]; rfl
      · have hx : (bt s ((s.size - 1 : Nat) : Int) == 41) = false := hlz.trans (decide_eq_false hz)
        rw [if_neg (by rintro ⟨_, _, h⟩; exact hz h)]
        exact Evt.same (fun k => by unfold spec_l4Simple.f; rw [if_neg m1, if_neg m2, if_neg m3, if_pos (by omega), if_pos (by omega), if_pos (by omega), if_pos hpe, hwl (by omega), if_pos (by omega), if_pos (by omega), hx]) hj
    · rw [if_neg (by rintro ⟨_, h, _⟩; exact hp h)]
      exact Evt.same (fun k => by unfold spec_l4Simple.f; rw [if_neg m1, if_neg m2, if_neg m3, if_pos (by omega), if_pos (by omega), if_pos (by omega), if_neg (by rw [hex]; exact hp)]) hj
  · rw [if_neg (by rintro ⟨h, _, _⟩; rw [L_length] at h; exact h11 h)]
    exact Evt.same (fun k => by unfold spec_l4Simple.f; rw [if_neg m1, if_neg m2, if_neg m3, if_neg (by omega)]) hj
/-- what spec.ReadSort hands back, its texts as lists -/
def LS (r : Int × Int × ByteArray × ByteArray) : Sr := (r.1, r.2.1, L r.2.2.1, L r.2.2.2)
theorem LS_infB (r : Int × Int) : LS (infB r) = (r.1, r.2, [], []) := rfl
theorem rs_arr (l : List ByteArray) (hl : l.length ≤ 1048576) (s : ByteArray) (hs : s.size ≤ 1048576) (h8 : 8 < s.size) : ∃ r, Evt (fun k => spec_ReadSort.j0 k l s true) r ∧ LS r = spArr (has l) ((L s).drop 7) := by
  have hwl : wrap64 ((s.size : Int) - 1) = ((s.size - 1 : Nat) : Int) := by rw [wrap_ok (by omega) (by omega)]; omega
  have hilen : ((L s).drop 7).length = s.size - 7 := by rw [List.length_drop, L_length]
  have hp : Evt (fun k => spec_l4Part.f k s 7) (endI 7 (partL ((L s).drop 7))) := s_part s hs 7 (by omega)
  have zT : ∀ e : Int, Evt (fun k => spec_ReadSort.j1 k l s e true) (0, 0, (⟨#[]⟩ : ByteArray), (⟨#[]⟩ : ByteArray)) := fun e => Evt.succ (g := fun _ => some (0, 0, (⟨#[]⟩ : ByteArray), (⟨#[]⟩ : ByteArray))) (fun k => by simp only [spec_ReadSort.j1]; rw [if_pos trivial]) (Evt.pure fun _ => rfl)
  unfold spArr
  cases ha : partL ((L s).drop 7) with
  | none =>
    rw [ha] at hp
    refine ⟨_, Evt.succ (fun k => by simp only [spec_ReadSort.j0]; rw [if_pos trivial]) (Evt.bind hp (Evt.same (fun k => if_pos (show (-1 : Int) < 0 by decide)) (zT _))), rfl⟩
  | some a =>
    rw [ha] at hp
    have he : endI 7 (some a) = ((7 + a : Nat) : Int) := rfl
    rw [he] at hp
    simp only
    by_cases hlt : 7 + a < s.size
    · have h32 := bt_eq_iff s (7 + a) hlt 32 (by omega)
      by_cases hs32 : ((L s).drop 7)[a]? = some 32
      · rw [if_pos hs32]
        rw [List.getElem?_drop] at hs32
        have hb : bt s ((7 + a : Nat) : Int) = 32 := h32.2 hs32
        have hb2 : (bt s ((7 + a : Nat) : Int) != 32) = false := by rw [hb]; rfl
        have hd : ((L s).drop 7).drop (a + 1) = (L s).drop (7 + a + 1) := by rw [List.drop_drop]; congr 1
        have hw1 : wrap64 (((7 + a : Nat) : Int) + 1) = ((7 + a + 1 : Nat) : Int) := wrap_ok (by omega) (by omega)
        have hq := s_part s hs (7 + a + 1) (by omega)
        rw [hd]
        have go : ∀ r, Evt (fun k => (fun k (t118 : Int) => if t118 = ((s.size - 1 : Nat) : Int) then (if 7 ≤ ((7 + a : Nat) : Int) then (if ((7 + a : Nat) : Int) ≤ (s.size : Int) then (if 0 ≤ ((7 + a + 1 : Nat) : Int) then (if ((7 + a + 1 : Nat) : Int) ≤ t118 then (if t118 ≤ (s.size : Int) then ((spec_l4Simple.f k l (s.extract 7 (((7 + a : Nat) : Int) : Int).toNat)).bind fun bt119 => ((spec_l4Simple.f k l (s.extract (((7 + a + 1 : Nat) : Int) : Int).toNat (t118 : Int).toNat)).bind fun bt124 => (if bt119.1 = 0 then (some (0, 0, (⟨#[]⟩ : ByteArray), (⟨#[]⟩ : ByteArray))) else (if bt124.1 = 0 then (some (0, 0, (⟨#[]⟩ : ByteArray), (⟨#[]⟩ : ByteArray))) else (if bt119.1 = 1 then (some (0, 0, (⟨#[]⟩ : ByteArray), (⟨#[]⟩ : ByteArray))) else (if bt124.1 = 1 then (some (0, 0, (⟨#[]⟩ : ByteArray), (⟨#[]⟩ : ByteArray))) else (some (6, 0, s.extract 7 (((7 + a : Nat) : Int) : Int).toNat, s.extract (((7 + a + 1 : Nat) : Int) : Int).toNat (t118 : Int).toNat)))))))) else (none)) else (none)) else (none)) else (none)) else (none)) else (some (0, 0, (⟨#[]⟩ : ByteArray), (⟨#[]⟩ : ByteArray)))) k (endI (7 + a + 1) (partL ((L s).drop (7 + a + 1))))) r →
            Evt (fun k => spec_ReadSort.j0 k l s true) r := fun r h => by
          refine Evt.succ (fun k => by simp only [spec_ReadSort.j0]; rw [if_pos trivial]) (Evt.bind hp (Evt.same (fun k => by rw [if_neg (by omega), if_neg (by omega), if_pos (by omega), if_pos (by omega), hb2]) ?_))
          exact Evt.succ (fun k => by simp only [spec_ReadSort.j1]; rw [if_neg (by decide), hw1, hwl]) (Evt.bind hq h)
        cases hb' : partL ((L s).drop (7 + a + 1)) with
        | none =>
          rw [hb'] at go
          exact ⟨_, go _ (Evt.pure fun k => if_neg (by show ¬ (-1 : Int) = _; omega)), rfl⟩
        | some b =>
          rw [hb'] at go
          have he2 : endI (7 + a + 1) (some b) = ((7 + a + 1 + b : Nat) : Int) := rfl
          rw [he2] at go
          simp only
          by_cases hlen : a + 1 + b + 1 = ((L s).drop 7).length
          · rw [if_pos hlen]
            have hsz : 7 + a + 1 + b = s.size - 1 := by rw [hilen] at hlen; omega
            rw [hsz] at go
            simp only [Int.toNat_natCast] at go
            have hx1 : L (s.extract 7 (7 + a)) = ((L s).drop 7).take a := by rw [L_extract]; congr 1; omega
            have hx2 : L (s.extract (7 + a + 1) (s.size - 1)) = ((L s).drop (7 + a + 1)).take b := by rw [L_extract]; congr 1; omega
            have s1 := s_simple l hl (s.extract 7 (7 + a)) (by rw [size_extract s 7 (7 + a) (by omega)]; omega)
            have s2 := s_simple l hl (s.extract (7 + a + 1) (s.size - 1)) (by rw [size_extract s (7 + a + 1) (s.size - 1) (by omega)]; omega)
            rw [hx1] at s1
            rw [hx2] at s2
            generalize simpleL (has l) (((L s).drop 7).take a) = x at s1 ⊢
            generalize simpleL (has l) (((L s).drop (7 + a + 1)).take b) = y at s2 ⊢
            have fin : ∀ r, (∀ k : Nat, (if x.1 = 0 then (some (0, 0, (⟨#[]⟩ : ByteArray), (⟨#[]⟩ : ByteArray))) else (if y.1 = 0 then (some (0, 0, (⟨#[]⟩ : ByteArray), (⟨#[]⟩ : ByteArray))) else (if x.1 = 1 then (some (0, 0, (⟨#[]⟩ : ByteArray), (⟨#[]⟩ : ByteArray))) else (if y.1 = 1 then (some (0, 0, (⟨#[]⟩ : ByteArray), (⟨#[]⟩ : ByteArray))) else (some (6, 0, s.extract 7 (7 + a), s.extract (7 + a + 1) (s.size - 1))))))) = some r) → Evt (fun k => spec_ReadSort.j0 k l s true) r := fun r h =>
              go r (Evt.same (fun k => by rw [if_pos trivial, if_pos (by omega), if_pos (by omega), if_pos (by omega), if_pos (by omega), if_pos (by omega)]) (Evt.bind s1 (Evt.bind s2 (Evt.pure h))))
            by_cases x0 : x.1 = 0
            · refine ⟨_, fin _ fun k => if_pos x0, ?_⟩
              rw [if_pos (by unfold badK; rw [x0]; rfl)]; rfl
            by_cases y0 : y.1 = 0
            · refine ⟨_, fin _ fun k => by rw [if_neg x0, if_pos y0], ?_⟩
              rw [if_pos (by unfold badK; rw [y0]; simp)]; rfl
            by_cases x1 : x.1 = 1
            · refine ⟨_, fin _ fun k => by rw [if_neg x0, if_neg y0, if_pos x1], ?_⟩
              rw [if_pos (by unfold badK; rw [x1]; simp)]; rfl
            by_cases y1 : y.1 = 1
            · refine ⟨_, fin _ fun k => by rw [if_neg x0, if_neg y0, if_neg x1, if_pos y1], ?_⟩
              rw [if_pos (by unfold badK; rw [y1]; simp)]; rfl
            refine ⟨_, fin _ fun k => by rw [if_neg x0, if_neg y0, if_neg x1, if_neg y1], ?_⟩
            rw [if_neg (by rw [badK_no.2 ⟨x0, x1⟩, badK_no.2 ⟨y0, y1⟩]; decide), ← hx1, ← hx2]; rfl
          · rw [if_neg hlen]
            exact ⟨_, go _ (Evt.pure fun k => if_neg (by rw [hilen] at hlen; omega)), rfl⟩
      · rw [if_neg hs32]
        rw [List.getElem?_drop] at hs32
        have hb2 : (bt s ((7 + a : Nat) : Int) != 32) = true := by
          rw [bne_iff_ne]; exact fun e => hs32 (h32.1 e)
        exact ⟨_, Evt.succ (fun k => by simp only [spec_ReadSort.j0]; rw [if_pos trivial]) (Evt.bind hp (Evt.same (fun k => by rw [if_neg (by omega), if_neg (by omega), if_pos (by omega), if_pos (by omega), hb2]) (zT _))), rfl⟩
    · rw [if_neg (fun h => hlt (by have := (List.getElem?_eq_some_iff.1 h).1; omega))]
      exact ⟨_, Evt.succ (fun k => by simp only [spec_ReadSort.j0]; rw [if_pos trivial]) (Evt.bind hp (Evt.same (fun k => by rw [if_neg (by omega), if_pos (by omega)]) (zT _))), rfl⟩
theorem s_readSort (l : List ByteArray) (hl : l.length ≤ 1048576) (s : ByteArray) (hs : s.size ≤ 1048576) : ∃ r, Evt (fun k => spec_ReadSort.f k l s) r ∧ LS r = rdSort (has l) (L s) := by
  rw [← spS_eq]
  have hwl : 1 ≤ s.size → wrap64 ((s.size : Int) - 1) = ((s.size - 1 : Nat) : Int) := fun h => by rw [wrap_ok (by omega) (by omega)]; omega
  have jf : Evt (fun k => spec_ReadSort.j0 k l s false) (infB (simpleL (has l) (L s))) :=
    Evt.succ (fun k => by simp only [spec_ReadSort.j0]; rw [if_neg (by decide)]) (Evt.bind (s_simple l hl s hs) (Evt.pure fun _ => rfl))
  unfold spS
  by_cases h8 : 8 < s.size
  · have hex : (s.extract 0 7).toList = (L s).take 7 := by rw [toList_L, L_extract, List.drop_zero]
    by_cases hp : (L s).take 7 = pfxA
    · have hpe : (s.extract 0 7).toList = ([40, 65, 114, 114, 97, 121, 32] : List UInt8) := hex.trans hp
      have hlz := lastB s (by omega) 41 (by omega)
      by_cases hz : (L s)[(L s).length - 1]? = some 41
      · have hx : (bt s ((s.size - 1 : Nat) : Int) == 41) = true := hlz.trans (decide_eq_true hz)
        rw [if_pos ⟨by rw [L_length]; exact h8, hp, hz⟩]
        obtain ⟨r, hr, hr2⟩ := rs_arr l hl s hs h8
        exact ⟨r, Evt.same (fun k => by unfold spec_ReadSort.f; rw [if_pos (by omega), if_pos (by omega), if_pos (by omega), if_pos hpe, hwl (by omega), if_pos (by omega), if_pos (by omega), hx]) hr, hr2⟩
      · have hx : (bt s ((s.size - 1 : Nat) : Int) == 41) = false := hlz.trans (decide_eq_false hz)
        rw [if_neg (by rintro ⟨_, _, h⟩; exact hz h)]
        exact ⟨_, Evt.same (fun k => by unfold spec_ReadSort.f; rw [if_pos (by omega), if_pos (by omega), if_pos (by omega), if_pos hpe, hwl (by omega), if_pos (by omega), if_pos (by omega), hx]) jf, rfl⟩
    · rw [if_neg (by rintro ⟨_, h, _⟩; exact hp h)]
      exact ⟨_, Evt.same (fun k => by unfold spec_ReadSort.f; rw [if_pos (by omega), if_pos (by omega), if_pos (by omega), if_neg (by rw [hex]; exact hp)]) jf, rfl⟩
  · rw [if_neg (by rintro ⟨h, _, _⟩; rw [L_length] at h; exact h8 h)]
    exact ⟨_, Evt.same (fun k => by unfold spec_ReadSort.f; rw [if_neg (by omega)]) jf, rfl⟩
end Go.Proofs.YthfjiaodhladmaaDoor.RS

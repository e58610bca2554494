/- spec.ReadSort's parts: what they compute. -/
import Derived.Test.YthfjiaodhladmaaDoorPFnExactReadSortx5
import Derived.Test.YthfjiaodhladmaaDoorBare
import Derived.Test.YthfjiaodhladmaaDoorNum
namespace Go.Proofs.YthfjiaodhladmaaDoor.RS
open Go.RowKit Go.Proofs.YthfjiaodhladmaaDoor Go.Proofs.YthfjiaodhladmaaDoorW.PrintWords Go.Proofs.YthfjiaodhladmaaDoorW.PrintLast Go.Proofs.YthfjiaodhladmaaDoorW.PrintMore Go.Proofs.YthfjiaodhladmaaDoor.By Go.Proofs.YthfjiaodhladmaaDoor.PFnExactReadSort Go.Proofs.YthfjiaodhladmaaDoor.Srt Go.Proofs.YthfjiaodhladmaaDoor.Num
set_option linter.unusedVariables false
set_option linter.unusedSimpArgs false
theorem s_digit (c : UInt8) : spec_l3Digit.f (c.toNat : Int) = some (dig c) := by
  unfold spec_l3Digit.f dig
  by_cases h : (c.toNat : Int) ≥ 48
  · rw [if_pos h]; congr 1; rw [decide_eq_true (by omega : 48 ≤ c.toNat), Bool.true_and]; exact decide_eq_decide.2 (by omega)
  · rw [if_neg h, decide_eq_false (by omega : ¬ 48 ≤ c.toNat), Bool.false_and]
theorem s_name (c : UInt8) : spec_l3NameByte.f (c.toNat : Int) = some (nmU c) := by
  have := c.toNat_lt
  unfold spec_l3NameByte.f; rw [if_pos (by omega), nmB_nmU]
theorem u8i (c : UInt8) (n : Nat) (hn : n < 256) : ((c.toNat : Int) = n) ↔ c = UInt8.ofNat n := by
  constructor
  · intro h
    have h2 : c.toNat = n := by omega
    rw [← h2, UInt8.ofNat_toNat]
  · intro h
    subst h
    simp
    omega
theorem plain_l0 (s : ByteArray) (hs : s.size ≤ 1048576) : ∀ (d i : Nat), i ≤ s.size → s.size - i = d → Evt (fun k => spec_l3Plain.l0 k s (i : Int)) (((L s).drop i).all nmU) := by
  intro d
  induction d with
  | zero =>
    intro i hi hd
    rw [drop_all s i (by omega), List.all_nil]
    exact Evt.succ (g := fun _ => some true) (fun k => by simp only [spec_l3Plain.l0]; rw [if_neg (by omega)]) (Evt.pure fun _ => rfl)
  | succ d ih =>
    intro i hi hd
    have hlt : i < s.size := by omega
    have hw1 : wrap64 ((i : Int) + 1) = ((i + 1 : Nat) : Int) := wrap_ok (by omega) (by omega)
    rw [drop_cons s i hlt, List.all_cons]
    cases hb : nmU ((L s)[i]'(by rw [L_length]; exact hlt)) with
    | false => exact Evt.succ (g := fun _ => some false) (fun k => by simp only [spec_l3Plain.l0]; rw [if_pos (by omega), if_pos (by omega), bt_get s i hlt, s_name, hb]; rfl) (Evt.pure fun _ => by simp)
    | true => rw [Bool.true_and]; exact Evt.succ (fun k => by simp only [spec_l3Plain.l0]; rw [if_pos (by omega), if_pos (by omega), bt_get s i hlt, s_name, hb, Option.bind_some, if_pos rfl, hw1]) (ih (i + 1) (by omega) (by omega))
theorem s_plain (s : ByteArray) (hs : s.size ≤ 1048576) : Evt (fun k => spec_l3Plain.f k s) (plain (L s)) := by
  have jt : Evt (fun k => spec_l3Plain.j0 k s true) false := Evt.succ (g := fun _ => some false) (fun k => by simp only [spec_l3Plain.j0]; rw [if_pos trivial]) (Evt.pure fun _ => rfl)
  have jf : Evt (fun k => spec_l3Plain.j0 k s false) ((L s).all nmU) := Evt.succ (fun k => by simp only [spec_l3Plain.j0]; rw [if_neg (by decide)]; rfl) (plain_l0 s hs _ 0 (by omega) rfl)
  by_cases h0 : s.size = 0
  · rw [List.length_eq_zero_iff.1 ((L_length s).trans h0)]
    exact Evt.same (fun k => by unfold spec_l3Plain.f; rw [if_pos (by omega)]) jt
  · have hc := drop_cons s 0 (by omega)
    rw [List.drop_zero] at hc
    obtain ⟨x, m, e⟩ : ∃ x m, L s = x :: m := ⟨_, _, hc⟩
    have hx : bt s 0 = (x.toNat : Int) := by
      have := bt_get s 0 (by omega)
      rw [show ((0 : Nat) : Int) = 0 from rfl] at this
      rw [this]; simp only [e]; rfl
    rw [e] at jf ⊢
    show Evt _ (!dig x && (x :: m).all nmU)
    cases hd : dig x with
    | true => rw [Bool.not_true, Bool.false_and]; exact Evt.same (fun k => by unfold spec_l3Plain.f; rw [if_neg (by omega), if_pos (by omega), hx, s_digit, hd, Option.bind_some]) jt
    | false => rw [Bool.not_false, Bool.true_and]; exact Evt.same (fun k => by unfold spec_l3Plain.f; rw [if_neg (by omega), if_pos (by omega), hx, s_digit, hd, Option.bind_some]) jf
theorem ssym_l0 (s : ByteArray) (hs : s.size ≤ 1048576) : ∀ (d i : Nat), i ≤ s.size → s.size - i = d → Evt (fun k => spec_l4Symbol.l0 k s (i : Int)) (((L s).drop i).all inU) := by
  intro d
  induction d with
  | zero =>
    intro i hi hd
    rw [drop_all s i (by omega), List.all_nil]
    exact Evt.succ (g := fun _ => some true) (fun k => by simp only [spec_l4Symbol.l0]; rw [if_neg (by omega)]) (Evt.pure fun _ => rfl)
  | succ d ih =>
    intro i hi hd
    have hlt : i < s.size := by omega
    have hw1 : wrap64 ((i : Int) + 1) = ((i + 1 : Nat) : Int) := wrap_ok (by omega) (by omega)
    obtain ⟨x, hx⟩ : ∃ x, (L s)[i]'(by rw [L_length]; exact hlt) = x := ⟨_, rfl⟩
    have hb : bt s (i : Int) = (x.toNat : Int) := by rw [bt_get s i hlt, hx]
    rw [drop_cons s i hlt, List.all_cons, hx]
    have key : ∀ k, spec_l4Symbol.l0 (k + 1) s (i : Int) = if inU x = true then spec_l4Symbol.l0 k s ((i + 1 : Nat) : Int) else some false := by
      intro k
      simp only [spec_l4Symbol.l0]
      rw [if_pos (by omega), if_pos (by omega), hb, hw1]
      unfold inU
      by_cases h1 : (x.toNat : Int) < 32
      · rw [if_pos h1, decide_eq_false (by omega : ¬ 32 ≤ x.toNat)]; rfl
      · rw [if_neg h1, decide_eq_true (by omega : 32 ≤ x.toNat), Bool.true_and]
        by_cases h2 : (x.toNat : Int) > 126
        · rw [if_pos h2, decide_eq_false (by omega : ¬ x.toNat ≤ 126)]; rfl
        · rw [if_neg h2, decide_eq_true (by omega : x.toNat ≤ 126), Bool.true_and]
          by_cases h3 : (x.toNat : Int) = 124
          · rw [if_pos h3, (u8i x 124 (by omega)).1 h3]; rfl
          · rw [if_neg h3, show (x == 124) = false from beq_eq_false_iff_ne.2 (fun e => h3 ((u8i x 124 (by omega)).2 e))]
            by_cases h4 : (x.toNat : Int) = 92
            · rw [if_pos h4, (u8i x 92 (by omega)).1 h4]; rfl
            · rw [if_neg h4, show (x == 92) = false from beq_eq_false_iff_ne.2 (fun e => h4 ((u8i x 92 (by omega)).2 e))]; rfl
    cases hi2 : inU x with
    | false => exact Evt.succ (g := fun _ => some false) (fun k => by rw [key, hi2]; rfl) (Evt.pure fun _ => by simp)
    | true => rw [Bool.true_and]; exact Evt.succ (fun k => by rw [key, hi2, if_pos rfl]) (ih (i + 1) (by omega) (by omega))
theorem s_sym (s : ByteArray) (hs : s.size ≤ 1048576) : Evt (fun k => spec_l4Symbol.f k s) (isSym (L s)) := by
  have jt : Evt (fun k => spec_l4Symbol.j0 k s true) false := Evt.succ (g := fun _ => some false) (fun k => by simp only [spec_l4Symbol.j0]; rw [if_pos trivial]) (Evt.pure fun _ => rfl)
  have jf : Evt (fun k => spec_l4Symbol.j0 k s false) ((L s).all inU) := Evt.succ (fun k => by simp only [spec_l4Symbol.j0]; rw [if_neg (by decide)]; rfl) (ssym_l0 s hs _ 0 (by omega) rfl)
  unfold isSym
  rw [L_length]
  by_cases h0 : s.size < 1
  · rw [decide_eq_false (by omega : ¬ 1 ≤ s.size), Bool.false_and, Bool.false_and]
    exact Evt.same (fun k => by unfold spec_l4Symbol.f; rw [if_pos (by omega)]) jt
  · rw [decide_eq_true (by omega : 1 ≤ s.size), Bool.true_and]
    by_cases h1 : s.size ≤ 60
    · rw [decide_eq_true h1, Bool.true_and]
      exact Evt.same (fun k => by unfold spec_l4Symbol.f; rw [if_neg (by omega), decide_eq_false (by omega)]) jf
    · rw [decide_eq_false h1, Bool.false_and]
      exact Evt.same (fun k => by unfold spec_l4Symbol.f; rw [if_neg (by omega), decide_eq_true (by omega)]) jt
def symText (l : List UInt8) : List UInt8 := if plain l = true then l else 124 :: (l ++ [124])
theorem s_symText (s : ByteArray) (hs : s.size ≤ 1048576) : ∃ r : ByteArray, Evt (fun k => spec_l4SymText.f k s) r ∧ L r = symText (L s) := by
  unfold symText
  have hq : ((⟨#[124]⟩ : ByteArray) ++ s).size = 1 + s.size := by rw [ByteArray.size_append]; rfl
  cases hp : plain (L s) with
  | true => exact ⟨s, Evt.bind (g := fun _ t => if t = true then some s else _) (hp ▸ s_plain s hs) (Evt.pure fun k => by rw [if_pos rfl]), by rw [if_pos rfl]⟩
  | false =>
    refine ⟨((⟨#[124]⟩ : ByteArray) ++ s) ++ (⟨#[124]⟩ : ByteArray), Evt.bind (g := fun _ t => if t = true then some s else (if 1 + s.size ≤ 9223372036854775807 then (if ((⟨#[124]⟩ : ByteArray) ++ s).size + 1 ≤ 9223372036854775807 then (some (((⟨#[124]⟩ : ByteArray) ++ s) ++ (⟨#[124]⟩ : ByteArray))) else none) else none)) (hp ▸ s_plain s hs) (Evt.pure fun k => by rw [if_neg (by decide), if_pos (by omega), if_pos (by rw [hq]; omega)]), ?_⟩
    rw [if_neg (by decide)]
    unfold L
    rw [ByteArray.data_append, ByteArray.data_append, Array.toList_append, Array.toList_append]
    rfl
theorem has_l0 (l : List ByteArray) (hl : l.length ≤ 1048576) (x : ByteArray) : ∀ (d i : Nat), i ≤ l.length → l.length - i = d → Evt (fun k => spec_l4Has.l0 k x l (l.length : Int) (i : Int)) (has (l.drop i) (L x)) := by
  intro d
  induction d with
  | zero =>
    intro i hi hd
    rw [List.drop_eq_nil_of_le (by omega)]
    exact Evt.succ (g := fun _ => some false) (fun k => by simp only [spec_l4Has.l0]; rw [if_neg (by omega)]) (Evt.pure fun _ => rfl)
  | succ d ih =>
    intro i hi hd
    have hlt : i < l.length := by omega
    have hw1 : wrap64 ((i : Int) + 1) = ((i + 1 : Nat) : Int) := wrap_ok (by omega) (by omega)
    have hr : rdOf ByteArray.empty l (i : Int) = l[i] := by unfold rdOf; rw [Int.toNat_natCast, List.getD_eq_getElem?_getD, List.getElem?_eq_getElem hlt]; rfl
    rw [List.drop_eq_getElem_cons hlt]
    unfold has
    rw [List.any_cons]
    by_cases he : L l[i] = L x
    · rw [decide_eq_true he, Bool.true_or]
      exact Evt.succ (g := fun _ => some true) (fun k => by simp only [spec_l4Has.l0]; rw [if_pos (by omega), if_pos (by omega), if_pos (by omega), hr, toList_L, toList_L, if_pos he]) (Evt.pure fun _ => rfl)
    · rw [decide_eq_false he, Bool.false_or]
      exact Evt.succ (fun k => by simp only [spec_l4Has.l0]; rw [if_pos (by omega), if_pos (by omega), if_pos (by omega), hr, toList_L, toList_L, if_neg he, hw1]) (ih (i + 1) (by omega) (by omega))
theorem s_has (l : List ByteArray) (hl : l.length ≤ 1048576) (x : ByteArray) : Evt (fun k => spec_l4Has.f k l x) (has l (L x)) := Evt.same (fun k => rfl) (has_l0 l hl x _ 0 (by omega) rfl)
/-- the number of a decimal, -1 where it is none -/
def decL (n : List UInt8) : Int := if n.length < 1 ∨ 6 < n.length ∨ (1 < n.length ∧ n[0]? = some 48) then -1 else if By.digs n = true then (num n : Nat) else -1
theorem dec_l0 (s : ByteArray) (hs : s.size ≤ 6) : ∀ (d i : Nat), i ≤ s.size → s.size - i = d → By.digs ((L s).take i) = true →
    Evt (fun k => spec_l4Dec.l0 k s ((num ((L s).take i) : Nat) : Int) (i : Int)) (if By.digs ((L s).drop i) = true then ((num (L s) : Nat) : Int) else -1) := by
  intro d
  induction d with
  | zero =>
    intro i hi hd ht
    rw [drop_all s i (by omega), if_pos (show By.digs [] = true from rfl), List.take_of_length_le (by rw [L_length]; omega)]
    exact Evt.succ (g := fun _ => some _) (fun k => by simp only [spec_l4Dec.l0]; rw [if_neg (by omega)]) (Evt.pure fun _ => rfl)
  | succ d ih =>
    intro i hi hd ht
    have hlt : i < s.size := by omega
    have hw1 : wrap64 ((i : Int) + 1) = ((i + 1 : Nat) : Int) := wrap_ok (by omega) (by omega)
    obtain ⟨x, hx⟩ : ∃ x, (L s)[i]'(by rw [L_length]; exact hlt) = x := ⟨_, rfl⟩
    have hb : bt s (i : Int) = (x.toNat : Int) := by rw [bt_get s i hlt, hx]
    have hx2 : (L s)[i]? = some x := by rw [List.getElem?_eq_getElem (by rw [L_length]; exact hlt), hx]
    rw [drop_cons s i hlt, hx, digs_cons]
    cases hdg : dig x with
    | false => rw [Bool.false_and, if_neg (by decide)]; exact Evt.succ (g := fun _ => some (-1)) (fun k => by simp only [spec_l4Dec.l0]; rw [if_pos (by omega), if_pos (by omega), hb, s_digit, hdg, Option.bind_some, if_neg (by decide)]) (Evt.pure fun _ => rfl)
    | true =>
      rw [Bool.true_and]
      have hd2 := dig_dgt hdg
      have htk : (L s).take (i + 1) = (L s).take i ++ [x] := by rw [List.take_add_one, hx2]; rfl
      have hn : num ((L s).take (i + 1)) = 10 * num ((L s).take i) + (x.toNat - 48) := by rw [htk, num_snoc]
      have hlt6 := num_lt _ ht
      have h10 : num ((L s).take i) < 1000000 := Nat.lt_of_lt_of_le hlt6 (Nat.le_trans (Nat.pow_le_pow_right (by omega) (show _ ≤ 6 by rw [List.length_take]; omega)) (by decide))
      have hwv : wrap64 ((wrap64 (((num ((L s).take i) : Nat) : Int) * 10)) + (((x.toNat : Int) - 48) % 256)) = ((num ((L s).take (i + 1)) : Nat) : Int) := by
        rw [wrap_ok (z := ((num ((L s).take i) : Nat) : Int) * 10) (by omega) (by omega), wrap_ok (by omega) (by omega), hn]; omega
      refine Evt.succ (fun k => by simp only [spec_l4Dec.l0]; rw [if_pos (by omega), if_pos (by omega), hb, s_digit, hdg, Option.bind_some, if_pos rfl, hwv, hw1]) (ih (i + 1) (by omega) (by omega) ?_)
      rw [htk]
      exact digs_of fun b hb' => by
        rcases List.mem_append.1 hb' with h | h
        · exact digs_mem ht b h
        · rw [List.mem_singleton.1 h]; exact hdg
theorem s_dec (s : ByteArray) : Evt (fun k => spec_l4Dec.f k s) (decL (L s)) := by
  have jt : Evt (fun k => spec_l4Dec.j0 k s true) (-1) := Evt.succ (g := fun _ => some (-1)) (fun k => by simp only [spec_l4Dec.j0]; rw [if_pos trivial]) (Evt.pure fun _ => rfl)
  unfold decL
  rw [L_length]
  by_cases h0 : s.size < 1
  · rw [if_pos (.inl h0)]; exact Evt.same (fun k => by unfold spec_l4Dec.f; rw [if_pos (by omega)]) jt
  by_cases h6 : 6 < s.size
  · rw [if_pos (.inr (.inl h6))]; exact Evt.same (fun k => by unfold spec_l4Dec.f; rw [if_neg (by omega), if_pos (by omega)]) jt
  have jf : Evt (fun k => spec_l4Dec.j0 k s false) (if By.digs (L s) = true then ((num (L s) : Nat) : Int) else -1) :=
    Evt.succ (fun k => by simp only [spec_l4Dec.j0]; rw [if_neg (by decide)]; rfl) (dec_l0 s (by omega) _ 0 (by omega) rfl rfl)
  by_cases h1 : 1 < s.size
  · have hq := bt_eq_iff s 0 (by omega) 48 (by omega)
    by_cases h48 : (L s)[0]? = some 48
    · rw [if_pos (.inr (.inr ⟨h1, h48⟩))]
      have hb : bt s 0 = 48 := hq.2 h48
      exact Evt.same (fun k => by unfold spec_l4Dec.f; rw [if_neg (by omega), if_neg (by omega), if_pos (by omega), if_pos (by omega), hb]; rfl) jt
    · rw [if_neg (by rintro (h | h | h); exact h0 h; exact h6 h; exact h48 h.2)]
      have hb : (bt s 0 == 48) = false := beq_eq_false_iff_ne.2 (fun e => h48 (hq.1 e))
      exact Evt.same (fun k => by unfold spec_l4Dec.f; rw [if_neg (by omega), if_neg (by omega), if_pos (by omega), if_pos (by omega), hb]) jf
  · rw [if_neg (by rintro (h | h | h); exact h0 h; exact h6 h; exact h1 h.1)]
    exact Evt.same (fun k => by unfold spec_l4Dec.f; rw [if_neg (by omega), if_neg (by omega), if_neg (by omega)]) jf
end Go.Proofs.YthfjiaodhladmaaDoor.RS

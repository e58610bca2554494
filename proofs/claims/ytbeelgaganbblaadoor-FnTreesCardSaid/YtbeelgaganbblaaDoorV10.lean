/- laws.FnTrees, for every code: a drawn row of trees, written and read, is the row, but for its places, and what is read is written as the same text; the code is not written to. Condition: the row's own (utf8's tables read as the program's text lays them), tied by the given tie. -/
import Derived.Below
import Derived.BigQuiet
import Derived.Carry
import Derived.ChangeArms
import Derived.ChangeOld
import Derived.DataElems
import Derived.DataReads
import Derived.Deep.DeepHandedRow
import Derived.Deep.QuietTactic
import Derived.LaidLaws
import Derived.LaidSub
import Derived.Laws.EntriesVeiled
import Derived.Lib.BufferKept
import Derived.Lib.Hide
import Derived.Lib.LaidTab
import Derived.Lib.Replace
import Derived.OpenShut
import Derived.Outline
import Derived.OwnWalk
import Derived.ProofKit
import Derived.Shelf.Vars
import Derived.ShutString
import Derived.SizedLaws
import Derived.Test.YtbeelgaganbblaaDoorCards
import Derived.Test.YtbeelgaganbblaaDoorRows
import Derived.Test.YtbeelgaganbblaaDoorTie
import Derived.Test.YtbeelgaganbblaaDoorV0
import Derived.Test.YtbeelgaganbblaaDoorV1
import Derived.Test.YtbeelgaganbblaaDoorV2
import Derived.Test.YtbeelgaganbblaaDoorV5
import Derived.Test.YtbeelgaganbblaaDoorV6
import Derived.Test.YtbeelgaganbblaaDoorV7
import Derived.Test.YtbeelgaganbblaaDoorV8
import Derived.Test.YtbeelgaganbblaaDoorV9
import Derived.WalkKit
import GoSem.PinnedTables
namespace Go.Proofs.YtbeelgaganbblaaDoor.Rt
open Go.RowKit Go.Proofs.YtbeelgaganbblaaDoor.By Go.Proofs.YtbeelgaganbblaaDoor.Tok Go.Proofs.YtbeelgaganbblaaDoor.Tree
set_option linter.unusedVariables false
set_option linter.unusedSimpArgs false
set_option maxRecDepth 100000
def Delim (r : List UInt8) : Prop := ∃ c m, r = c :: m ∧ (c = 32 ∨ c = 10 ∨ c = 41)
theorem Delim.no {r : List UInt8} (h : Delim r) (p : UInt8 → Bool) (h1 : p 32 = false) (h2 : p 10 = false) (h3 : p 41 = false) : ∀ c m, r = c :: m → p c = false := by
  obtain ⟨c, m, rfl, hc⟩ := h; intro c' m' e; obtain ⟨rfl, _⟩ := List.cons.inj e
  rcases hc with rfl | rfl | rfl
  · exact h1
  · exact h2
  · exact h3
theorem scan_app {p : UInt8 → Bool} : ∀ (t r : List UInt8), t.all p = true → (∀ c m, r = c :: m → p c = false) → scan p (t ++ r) = t.length
  | [], r, _, h => by
    cases r with
    | nil => rfl
    | cons c m => exact scan_no (h c m rfl)
  | x :: t, r, ht, h => by
    simp only [List.all_cons, Bool.and_eq_true] at ht; rw [List.cons_append, scan_yes ht.1, scan_app t r ht.2 h]; rfl
theorem take_app {p : UInt8 → Bool} : ∀ (t r : List UInt8), t.all p = true → (∀ c m, r = c :: m → p c = false) → (t ++ r).takeWhile p = t
  | [], r, _, h => by
    cases r with
    | nil => rfl
    | cons c m => rw [List.nil_append, List.takeWhile_cons, h c m rfl]; rfl
  | x :: t, r, ht, h => by
    simp only [List.all_cons, Bool.and_eq_true] at ht; rw [List.cons_append, List.takeWhile_cons, if_pos ht.1, take_app t r ht.2 h]
section
variable {s : ByteArray} {i : Nat} {t r : List UInt8}
theorem ext_of (hd : (L s).drop i = t ++ r) : s.extract i (i + t.length) = ⟨t.toArray⟩ := by
  apply L_ext
  rw [L_extract, hd, L_mk, show i + t.length - i = t.length by omega, List.take_left' rfl]
theorem drop_of (hd : (L s).drop i = t ++ r) : (L s).drop (i + t.length) = r := by
  rw [← List.drop_drop, hd, List.drop_left' rfl]
theorem get_of (hd : (L s).drop i = t ++ r) (j : Nat) : (L s)[i + j]? = (t ++ r)[j]? := by
  rw [← hd, List.getElem?_drop]
theorem get0_of {c : UInt8} {m : List UInt8} (hd : (L s).drop i = c :: m) : (L s)[i]? = some c := by
  have := congrArg (fun l => l[0]?) hd
  simpa using this
end
theorem nm_ne {c : UInt8} (h : nm c = true) : c ≠ 34 ∧ c ≠ 124 ∧ c ≠ 58 ∧ c ≠ 35 ∧ c ≠ 40 ∧ c ≠ 41 ∧ c ≠ 59 ∧ c ≠ 32 ∧ c ≠ 9 ∧ c ≠ 10 ∧ c ≠ 13 := by
  refine ⟨?_, ?_, ?_, ?_, ?_, ?_, ?_, ?_, ?_, ?_, ?_⟩ <;> (rintro rfl; exact absurd h (by decide))
theorem dig_ne {c : UInt8} (h : dig c = true) : c ≠ 34 ∧ c ≠ 124 ∧ c ≠ 58 ∧ c ≠ 35 ∧ c ≠ 40 ∧ c ≠ 41 ∧ c ≠ 59 ∧ c ≠ 32 ∧ c ≠ 9 ∧ c ≠ 10 ∧ c ≠ 13 := by
  refine ⟨?_, ?_, ?_, ?_, ?_, ?_, ?_, ?_, ?_, ?_, ?_⟩ <;> (rintro rfl; exact absurd h (by decide))
def Word (l : List UInt8) : Prop := ∃ c m, l = c :: m ∧ c ≠ 40 ∧ c ≠ 41 ∧ c ≠ 59 ∧ c ≠ 32 ∧ c ≠ 9 ∧ c ≠ 10 ∧ c ≠ 13
def q34 (l : List UInt8) : List UInt8 := l.flatMap (fun c => if c = 34 then [34, 34] else [c])
theorem q34_cons (x : UInt8) (l : List UInt8) : q34 (x :: l) = (if x = 34 then [34, 34] else [x]) ++ q34 l := by unfold q34; rw [List.flatMap_cons]
theorem txt_q : ∀ (l : List UInt8) (c : UInt8) (m acc : List UInt8) (k : Nat), l.all inq = true → c ≠ 34 → txt (q34 l ++ 34 :: c :: m) acc k = some (acc ++ l, k + (q34 l).length + 1)
  | [], c, m, acc, k, _, hc => by
    show txt (34 :: c :: m) acc k = _; simp only [txt]; rw [if_pos trivial, if_neg hc]; simp [q34]
  | x :: l, c, m, acc, k, hl, hc => by
    simp only [List.all_cons, Bool.and_eq_true] at hl; rw [q34_cons]
    by_cases hx : x = 34
    · rw [if_pos hx]; show txt (34 :: 34 :: (q34 l ++ 34 :: c :: m)) acc k = _; simp only [txt]; rw [if_pos trivial, if_pos trivial, txt_q l c m _ _ hl.2 hc, List.append_assoc, hx]
      congr 1
      simp; omega
    · rw [if_neg hx]; have ih := txt_q l c m (acc ++ [x]) (k + 1) hl.2 hc
      cases hq : q34 l ++ 34 :: c :: m with
      | nil => simp at hq
      | cons d u =>
        rw [hq] at ih; show txt (x :: (q34 l ++ 34 :: c :: m)) acc k = _; rw [hq]; simp only [txt]; rw [if_neg hx, if_pos hl.1, ih, List.append_assoc]
        congr 1
        simp; omega
theorem dec_split {l : List UInt8} (h : decT l = true) : ∃ a b, l = a ++ 46 :: b ∧ wholeT a = true ∧ b ≠ [] ∧ b.all dig = true := by
  unfold decT at h; rw [Bool.and_eq_true, Bool.and_eq_true, Bool.and_eq_true] at h; obtain ⟨⟨⟨q1, q2⟩, q3⟩, q4⟩ := h; unfold Lib.cut at q1 q2 q3 q4
  by_cases h0 : 0 ≤ Lib.index l [46]
  · rw [if_pos h0] at q2 q3 q4
    rcases Lib.index_spec l [46] with ⟨h1, _⟩ | ⟨i, h1, h2, h3, _⟩
    · omega
    · rw [h1, Int.toNat_natCast] at q2 q3 q4; unfold Lib.occAt at h3; obtain ⟨t, ht⟩ := List.isPrefixOf_iff_prefix.1 h3; have ht2 : l.drop i = 46 :: t := ht.symm
      have e : l.drop (i + ([46] : List UInt8).length) = t := by
        show l.drop (i + 1) = t; rw [← List.drop_drop, ht2]; rfl
      simp only [e] at q3 q4; exact ⟨l.take i, t, by rw [← ht2, List.take_append_drop], q2, of_decide_eq_true q3, q4⟩
  · rw [if_neg h0] at q1; cases q1
theorem numeral_int (s : ByteArray) (i : Nat) (t r : List UInt8) (hw : wholeT t = true) (hd : (L s).drop i = t ++ r) (hr : Delim r) : numeral s i = (3, ⟨t.toArray⟩, ((i + t.length : Nat) : Int)) := by
  unfold wholeT at hw; rw [Bool.and_eq_true, Bool.and_eq_true] at hw; obtain ⟨⟨w1, w2⟩, w3⟩ := hw
  cases t with
  | nil => exact absurd rfl (of_decide_eq_true w1)
  | cons c t =>
    simp only [List.all_cons, Bool.and_eq_true] at w3
    have h1 : (L s).drop (i + 1) = t ++ r := by rw [← List.drop_drop, hd]; rfl
    have hs : scan dig ((L s).drop (i + 1)) = t.length := by rw [h1]; exact scan_app t r w3.2 (hr.no dig (by decide) (by decide) (by decide))
    have hk : i + 1 + scan dig ((L s).drop (i + 1)) = i + (c :: t).length := by rw [hs, List.length_cons]; omega
    have hend : (L s)[i + (c :: t).length]? ≠ some 46 := by
      obtain ⟨c', m, rfl, hc⟩ := hr; rw [get0_of (drop_of hd)]; intro e; have := Option.some.inj e
      rcases hc with rfl | rfl | rfl <;> exact absurd this (by decide)
    unfold numeral; simp only
    have hne : ¬ (i + 1 < i + (c :: t).length ∧ (L s)[i]? = some 48) := by
      rintro ⟨e1, e2⟩; rw [get0_of hd] at e2; have e3 : c = 48 := Option.some.inj e2; subst e3; rw [List.length_cons] at e1
      have : (decide ((48 :: t : List UInt8)[0]? = some 48) && decide (1 < (48 :: t : List UInt8).length)) = true := by
        rw [decide_eq_true (by rfl), decide_eq_true (by rw [List.length_cons]; omega)]; rfl
      rw [this] at w2; cases w2
    rw [hk, if_neg hne, if_neg (fun h => hend h.1), ext_of hd]
theorem numeral_dec (s : ByteArray) (i : Nat) (t r : List UInt8) (hw : decT t = true) (hd : (L s).drop i = t ++ r) (hr : Delim r) : numeral s i = (4, ⟨t.toArray⟩, ((i + t.length : Nat) : Int)) := by
  obtain ⟨a, b, rfl, ha, hb, hb2⟩ := dec_split hw; unfold wholeT at ha; rw [Bool.and_eq_true, Bool.and_eq_true] at ha; obtain ⟨⟨w1, w2⟩, w3⟩ := ha
  cases a with
  | nil => exact absurd rfl (of_decide_eq_true w1)
  | cons c a =>
    simp only [List.all_cons, Bool.and_eq_true] at w3
    have h1 : (L s).drop (i + 1) = a ++ 46 :: (b ++ r) := by rw [← List.drop_drop, hd]; simp
    have hs : scan dig ((L s).drop (i + 1)) = a.length := by rw [h1]; exact scan_app a _ w3.2 (fun c m e => by obtain ⟨rfl, _⟩ := List.cons.inj e; decide)
    have hd2 : (L s).drop (i + (a.length + 1)) = 46 :: (b ++ r) := by
      have hd3 : (L s).drop i = (c :: a) ++ (46 :: (b ++ r)) := by rw [hd]; simp
      exact drop_of hd3
    have hd3 : (L s).drop (i + (a.length + 1) + 1) = b ++ r := by rw [← List.drop_drop, hd2]; rfl
    have hk : i + 1 + scan dig ((L s).drop (i + 1)) = i + (a.length + 1) := by rw [hs]; omega
    have hs2 : scan dig ((L s).drop (i + (a.length + 1) + 1)) = b.length := by rw [hd3]; exact scan_app b r hb2 (hr.no dig (by decide) (by decide) (by decide))
    have hm : i + (a.length + 1) + 1 + scan dig ((L s).drop (i + (a.length + 1) + 1)) = i + (c :: a ++ 46 :: b).length := by rw [hs2]; simp; omega
    unfold numeral; simp only
    have hne : ¬ (i + 1 < i + (a.length + 1) ∧ (L s)[i]? = some 48) := by
      rintro ⟨e1, e2⟩; have e3 : (L s)[i]? = some c := get0_of (m := a ++ 46 :: b ++ r) hd; rw [e3] at e2; have e4 : c = 48 := Option.some.inj e2; subst e4
      have : (decide ((48 :: a : List UInt8)[0]? = some 48) && decide (1 < (48 :: a : List UInt8).length)) = true := by
        rw [decide_eq_true (by rfl), decide_eq_true (by rw [List.length_cons]; omega)]; rfl
      rw [this] at w2; cases w2
    have hdig : ((L s)[i + (a.length + 1) + 1]?).any dig = true := by
      rw [show i + (a.length + 1) + 1 = i + (a.length + 1) + 1 + 0 from rfl, get_of hd3 0]
      cases b with
      | nil => exact absurd rfl hb
      | cons d b =>
        simp only [List.all_cons, Bool.and_eq_true] at hb2; show (some d).any dig = true; exact hb2.1
    rw [hk, if_neg hne, if_pos ⟨get0_of hd2, hdig⟩, hm, ext_of hd]
theorem tok_num {s : ByteArray} {i : Nat} {c : UInt8} {m : List UInt8} (hd : (L s).drop i = c :: m) (hc : dig c = true) : Tok.tok s i = numeral s i := by
  have hn := dig_ne hc; unfold Tok.tok; rw [get0_of hd]; simp only; rw [if_neg hn.1, if_neg hn.2.1, if_neg hn.2.2.1, if_neg hn.2.2.2.1, if_pos hc]
theorem word_of {c : UInt8} {m : List UInt8} (h : c ≠ 40 ∧ c ≠ 41 ∧ c ≠ 59 ∧ c ≠ 32 ∧ c ≠ 9 ∧ c ≠ 10 ∧ c ≠ 13) : Word (c :: m) := ⟨c, m, rfl, h⟩
theorem whole_head {t : List UInt8} (h : wholeT t = true) : ∃ c m, t = c :: m ∧ dig c = true := by
  unfold wholeT at h; rw [Bool.and_eq_true, Bool.and_eq_true] at h
  cases t with
  | nil => exact absurd rfl (of_decide_eq_true h.1.1)
  | cons c m =>
    have := h.2; simp only [List.all_cons, Bool.and_eq_true] at this; exact ⟨c, m, rfl, this.1⟩
theorem leaf_tok (s : ByteArray) (i : Nat) (x : Nd) (r : List UInt8) (hk : x.k ≠ 1) (hg : goodN x = true) (hd : (L s).drop i = leafT x ++ r) (hr : Delim r) :
    Tok.tok s i = (x.k, ⟨x.t.toArray⟩, ((i + (leafT x).length : Nat) : Int)) ∧ Word (leafT x ++ r) := by
  obtain ⟨k, t, n⟩ := x
  have hw : word k t = true := by
    unfold goodN at hg; rw [Bool.and_eq_true] at hg; exact hg.2
  have hk : k ≠ 1 := hk; unfold word at hw; rw [if_neg hk] at hw; unfold leafT at hd ⊢; simp only at hd ⊢
  by_cases h2 : k = 2
  · subst h2; rw [if_pos rfl] at hw hd ⊢
    by_cases hp : (decide (t ≠ []) && !((t[0]?).any dig) && t.all nm) = true
    · rw [if_pos hp] at hd ⊢; rw [Bool.and_eq_true, Bool.and_eq_true] at hp; obtain ⟨⟨p1, p2⟩, p3⟩ := hp
      cases t with
      | nil => exact absurd rfl (of_decide_eq_true p1)
      | cons c t =>
        simp only [List.all_cons, Bool.and_eq_true] at p3; have hn := nm_ne p3.1
        have hdg : dig c = false := by simpa using p2
        have h1 : (L s).drop (i + 1) = t ++ r := by rw [← List.drop_drop, hd]; rfl
        have hs : scan nm ((L s).drop (i + 1)) = t.length := by rw [h1]; exact scan_app t r p3.2 (hr.no nm (by decide) (by decide) (by decide))
        have hkk : i + 1 + scan nm ((L s).drop (i + 1)) = i + (c :: t).length := by rw [hs, List.length_cons]; omega
        refine ⟨?_, word_of hn.2.2.2.2⟩; unfold Tok.tok; rw [get0_of hd]; simp only; rw [if_neg hn.1, if_neg hn.2.1, if_neg hn.2.2.1, if_neg hn.2.2.2.1, hdg, if_neg (by decide), if_pos p3.1]; unfold named; simp only; rw [hkk, ext_of hd]
    · rw [if_neg hp] at hd ⊢
      have hd0 : (L s).drop i = 124 :: (t ++ (124 :: r)) := by rw [hd]; simp
      have h1 : (L s).drop (i + 1) = t ++ 124 :: r := by rw [← List.drop_drop, hd0]; rfl
      have hs : scan inb ((L s).drop (i + 1)) = t.length := by rw [h1]; exact scan_app t _ hw (fun c m e => by obtain ⟨rfl, _⟩ := List.cons.inj e; decide)
      refine ⟨?_, ⟨124, _, rfl, by decide, by decide, by decide, by decide, by decide, by decide, by decide⟩⟩; unfold Tok.tok; rw [get0_of hd0]; simp only; rw [if_neg (by decide), if_pos trivial]; unfold barred; simp only; rw [hs, if_pos (get0_of (drop_of h1)), ext_of h1]
      simp; omega
  rw [if_neg h2] at hw hd ⊢
  by_cases h3 : k = 3
  · subst h3; rw [if_pos rfl] at hw; rw [if_neg (by decide), if_neg (by decide), if_neg (by decide)] at hd ⊢; obtain ⟨c, m, rfl, hc⟩ := whole_head hw; exact ⟨by rw [tok_num hd hc, numeral_int s i _ r hw hd hr], word_of (dig_ne hc).2.2.2.2⟩
  rw [if_neg h3] at hw
  by_cases h4 : k = 4
  · subst h4; rw [if_pos rfl] at hw; rw [if_neg (by decide), if_neg (by decide), if_neg (by decide)] at hd ⊢; obtain ⟨a, b, ht, ha, _⟩ := dec_split hw; obtain ⟨c, m, rfl, hc⟩ := whole_head ha
    have hd0 : (L s).drop i = c :: (m ++ 46 :: b ++ r) := by rw [hd, ht]; rfl
    exact ⟨by rw [tok_num hd0 hc, numeral_dec s i _ r hw hd hr], by rw [ht]; exact word_of (dig_ne hc).2.2.2.2⟩
  rw [if_neg h4] at hw
  by_cases h5 : k = 5
  · subst h5; rw [if_pos rfl] at hw; rw [if_neg (by decide), if_neg (by decide), if_pos rfl] at hd ⊢; rw [Bool.and_eq_true] at hw; have hne : t ≠ [] := of_decide_eq_true hw.1
    have h1 : (L s).drop (i + 1) = 98 :: (t ++ r) := by rw [← List.drop_drop, hd]; rfl
    have h2' : (L s).drop (i + 2) = t ++ r := by rw [show i + 2 = i + 1 + 1 from rfl, ← List.drop_drop, h1]; rfl
    have ht : ((L s).drop (i + 2)).takeWhile bin = t := by rw [h2']; exact take_app t r hw.2 (hr.no bin (by decide) (by decide) (by decide))
    refine ⟨?_, ⟨35, _, rfl, by decide, by decide, by decide, by decide, by decide, by decide, by decide⟩⟩; unfold Tok.tok; rw [get0_of hd]; simp only; rw [if_neg (by decide), if_neg (by decide), if_neg (by decide), if_pos trivial]; unfold Tok.bits; rw [get0_of h1, if_pos rfl]; simp only; rw [ht, if_neg hne]
    simp; omega
  rw [if_neg h5] at hw
  by_cases h6 : k = 6
  · subst h6; rw [if_pos rfl] at hw; rw [if_pos rfl] at hd ⊢
    have hd0 : (L s).drop i = 34 :: (q34 t ++ (34 :: r)) := by rw [hd]; simp [q34]
    have h1 : (L s).drop (i + 1) = q34 t ++ 34 :: r := by rw [← List.drop_drop, hd0]; rfl
    obtain ⟨c, m, rfl, hc⟩ := hr
    have hc34 : c ≠ 34 := by rcases hc with rfl | rfl | rfl <;> decide
    refine ⟨?_, ⟨34, _, rfl, by decide, by decide, by decide, by decide, by decide, by decide, by decide⟩⟩; unfold Tok.tok; rw [get0_of hd0]; simp only; rw [if_pos trivial]; unfold Tok.quoted; rw [h1, txt_q t c m [] (i + 1) hw hc34]
    simp [q34]; omega
  rw [if_neg h6] at hw hd ⊢
  by_cases h7 : k = 7
  · subst h7; rw [if_pos rfl] at hw; rw [if_pos rfl] at hd ⊢; rw [Bool.and_eq_true] at hw; have hne : t ≠ [] := of_decide_eq_true hw.1
    have h1 : (L s).drop (i + 1) = t ++ r := by rw [← List.drop_drop, hd]; rfl
    have hs : scan nm ((L s).drop (i + 1)) = t.length := by rw [h1]; exact scan_app t r hw.2 (hr.no nm (by decide) (by decide) (by decide))
    have hl : 0 < t.length := List.length_pos_iff.2 hne; refine ⟨?_, ⟨58, _, rfl, by decide, by decide, by decide, by decide, by decide, by decide, by decide⟩⟩; unfold Tok.tok; rw [get0_of hd]; simp only; rw [if_neg (by decide), if_neg (by decide), if_pos trivial]; unfold keyed; simp only; rw [hs, if_neg (by omega), ext_of h1]
    simp; omega
  · rw [if_neg h7] at hw; cases hw
end Go.Proofs.YtbeelgaganbblaaDoor.Rt
namespace Go.Proofs.YtbeelgaganbblaaDoor.Rt
open Go.RowKit Go.Proofs.YtbeelgaganbblaaDoor Go.Proofs.YtbeelgaganbblaaDoorW.PrintWords Go.Proofs.YtbeelgaganbblaaDoor.By Go.Proofs.YtbeelgaganbblaaDoor.Tok Go.Proofs.YtbeelgaganbblaaDoor.Tree Go.Proofs.YtbeelgaganbblaaDoor.Gp Go.Proofs.YtbeelgaganbblaaDoor.PFnExactGoodTree
set_option linter.unusedVariables false
set_option linter.unusedSimpArgs false
set_option maxRecDepth 100000
inductive KidsD : Nat → Nat → List Nd → List Nd → List (List UInt8) → Prop
  | nil (h : Nat) (l : List Nd) : KidsD h 0 l l []
  | leaf {h n : Nat} {x : Nd} {l r : List Nd} {ts : List (List UInt8)} (hk : x.k ≠ 1) (hg : goodN x = true) (h2 : KidsD h n l r ts) : KidsD h (n + 1) (x :: l) r (leafT x :: ts)
  | list {h n : Nat} {x : Nd} {l r1 r : List Nd} {ts1 ts : List (List UInt8)} (hk : x.k = 1) (hg : goodN x = true) (hd : h < 200) (h1 : KidsD (h + 1) x.n.toNat l r1 ts1) (h2 : KidsD h n r1 r ts) : KidsD h (n + 1) (x :: l) r ((40 :: (joinS ts1 ++ [41])) :: ts)
theorem KidsD.plain : ∀ {h n l r ts}, KidsD h n l r ts → Tree.Kids n l r ts := by
  intro h n l r ts hK
  induction hK with
  | nil h l => exact .nil l
  | leaf hk hg _ ih => exact .leaf hk hg ih
  | list hk hg hd _ _ ih1 ih2 => exact .list hk hg ih1 ih2
def RestD : List Int → List Nd → Prop
  | [], l => ∃ n ts, KidsD 0 n l [] ts
  | a :: st, l => ∃ r ts, KidsD (st.length + 1) a.toNat l r ts ∧ RestD st r
theorem restD_pop : ∀ {st : List Int} {l : List Nd}, RestD (popZ st) l → RestD st l
  | [], l, h => h
  | a :: st, l, h => by
    unfold popZ at h
    split at h
    · rename_i e; subst e
      exact ⟨l, [], .nil _ l, restD_pop h⟩
    · exact h
theorem formD_rest : ∀ (l : List Nd) (st : List Int) (m : Nat), Nn st → specF l (popZ st) m = true → RestD (popZ st) l
  | [], st, m, hn, h => by
    unfold specF at h; rw [of_decide_eq_true h]; exact ⟨0, [], .nil 0 []⟩
  | x :: l, st, m, hn, h => by
    unfold specF at h
    split at h
    · cases h
    rename_i hx
    have hg : goodN x = true := by
      cases hb : goodN x with
      | true => rfl
      | false => exact absurd (.inr hb) hx
    have hxn : 0 ≤ x.n := by
      unfold goodN at hg; simp only [Bool.and_eq_true, decide_eq_true_eq] at hg; exact hg.1.1
    have hd := dec_nn hn; have one := (popZ_nn hn).2
    by_cases hk : x.k = 1
    · rw [if_pos hk] at h
      split at h
      · cases h
      rename_i hdp
      have hn2 : Nn (x.n :: dec1 (popZ st)) := fun a ha => by
        rcases List.mem_cons.1 ha with rfl | ha
        · exact hxn
        · exact hd a ha
      obtain ⟨r1, ts1, k1, hr⟩ := restD_pop (formD_rest l _ _ hn2 h)
      cases hp : popZ st with
      | nil =>
        rw [hp] at hr k1; obtain ⟨n, ts, k2⟩ := hr; exact ⟨n + 1, _, .list hk hg (by decide) k1 k2⟩
      | cons a s =>
        rw [hp] at hr k1 hdp; obtain ⟨r, ts, k2, hr2⟩ := hr; have ha := one a s hp; have hl : (dec1 (a :: s)).length = s.length + 1 := rfl; rw [hl] at k1 hdp; refine ⟨r, (40 :: (joinS ts1 ++ [41])) :: ts, ?_, hr2⟩; rw [show a.toNat = (a - 1).toNat + 1 by omega]; exact .list hk hg (by omega) k1 k2
    · rw [if_neg hk] at h; have hr := restD_pop (formD_rest l _ _ hd h)
      cases hp : popZ st with
      | nil =>
        rw [hp] at hr; obtain ⟨n, ts, k2⟩ := hr; exact ⟨n + 1, _, .leaf hk hg k2⟩
      | cons a s =>
        rw [hp] at hr; obtain ⟨r, ts, k2, hr2⟩ := hr; have ha := one a s hp; refine ⟨r, leafT x :: ts, ?_, hr2⟩; rw [show a.toNat = (a - 1).toNat + 1 by omega]; exact .leaf hk hg k2
theorem kidsD_len : ∀ {h n l r ts}, KidsD h n l r ts → r.length + n ≤ l.length := by
  intro h n l r ts hK
  induction hK with
  | nil h l => simp
  | leaf hk hg _ ih => rw [List.length_cons]; omega
  | list hk hg hd _ _ ih1 ih2 => rw [List.length_cons]; omega
def Rd (a : ByteArray) (x3 : List S43) (x4 : List Int) (i : Nat) (y3 : List S43) (y4 : List Int) (j : Nat) : Prop :=
  ∀ R, Evt (fun k => Zh.l0 k a y3 y4 (j : Int)) R → Evt (fun k => Zh.l0 k a x3 x4 (i : Int)) R
theorem Rd.refl (a : ByteArray) (x3 : List S43) (x4 : List Int) (i : Nat) : Rd a x3 x4 i x3 x4 i := fun R h => h
theorem Rd.trans {a : ByteArray} {x3 y3 z3 : List S43} {x4 y4 z4 : List Int} {i j m : Nat} (h : Rd a x3 x4 i y3 y4 j) (g : Rd a y3 y4 j z3 z4 m) : Rd a x3 x4 i z3 z4 m := fun R hR => h R (g R hR)
structure Inv (x3 : List S43) (x4 : List Int) : Prop where
  n : x3.length ≤ 8000
  d : x4.length ≤ 200
  e : ∀ e ∈ x4, 0 ≤ e ∧ e < (x3.length : Int)
  k : ∀ x ∈ x3, 0 ≤ x.f2 ∧ x.f2 ≤ (x3.length : Int)
theorem rd_mem' {xs : List Int} {i : Int} (h0 : 0 ≤ i) (h : i < (xs.length : Int)) : rd xs i ∈ xs := by
  unfold rd; rw [List.getD_eq_getElem?_getD, List.getElem?_eq_getElem (show i.toNat < xs.length by omega), Option.getD_some]; exact List.getElem_mem _
theorem rdT_mem' {l : List S43} {a : Int} (h0 : 0 ≤ a) (h : a < (l.length : Int)) : Z5 l a ∈ l := by
  unfold Z5; rw [List.getD_eq_getElem?_getD, List.getElem?_eq_getElem (show a.toNat < l.length by omega)]; exact List.getElem_mem _
def up (x : S43) (n : Nat) : S43 := ⟨x.f0, x.f1, x.f2 + n, x.f3⟩
def bumpN (n : Nat) (x3 : List S43) (x4 : List Int) : List S43 :=
  if (x4.length : Int) > 0 then x3.set (rd x4 ((x4.length : Int) - 1)).toNat (up (Z5 x3 (rd x4 ((x4.length : Int) - 1))) n) else x3
theorem bumpN_len (n : Nat) (x3 : List S43) (x4 : List Int) : (bumpN n x3 x4).length = x3.length := by unfold bumpN; split <;> simp
theorem up_up (x : S43) (n m : Nat) : up (up x n) m = up x (n + m) := by unfold up; simp only; congr 1; omega
theorem rdT_set {l : List S43} {a : Int} (h0 : 0 ≤ a) (h : a < (l.length : Int)) (y : S43) : Z5 (l.set a.toNat y) a = y := by
  unfold Z5; rw [List.getD_eq_getElem?_getD, List.getElem?_set_self (by omega)]; rfl
theorem rdT_app {l m : List S43} {a : Int} (h0 : 0 ≤ a) (h : a < (l.length : Int)) : Z5 (l ++ m) a = Z5 l a := by
  unfold Z5; rw [List.getD_eq_getElem?_getD, List.getD_eq_getElem?_getD, List.getElem?_append_left (by omega)]
theorem bumpN_zero {x3 : List S43} {x4 : List Int} (hi : Inv x3 x4) : bumpN 0 x3 x4 = x3 := by
  unfold bumpN
  split
  · next hp =>
    obtain ⟨g0, g1⟩ := hi.e _ (rd_mem' (i := (x4.length : Int) - 1) (by omega) (by omega)); generalize rd x4 ((x4.length : Int) - 1) = e at g0 g1
    have : up (Z5 x3 e) 0 = x3[e.toNat]'(by omega) := by
      unfold Z5 up; rw [List.getD_eq_getElem?_getD, List.getElem?_eq_getElem (by omega)]; simp
    rw [this, List.set_getElem_self]
  · rfl
theorem bumpN_app {x3 m : List S43} {x4 : List Int} (n : Nat) (he : ∀ e ∈ x4, 0 ≤ e ∧ e < (x3.length : Int)) : bumpN n (x3 ++ m) x4 = bumpN n x3 x4 ++ m := by
  unfold bumpN
  split
  · next hp =>
    obtain ⟨g0, g1⟩ := he _ (rd_mem' (i := (x4.length : Int) - 1) (by omega) (by omega)); rw [rdT_app g0 g1, List.set_append_left _ _ (by omega)]
  · rfl
theorem bumpN_add {x3 : List S43} {x4 : List Int} (n m : Nat) (he : ∀ e ∈ x4, 0 ≤ e ∧ e < (x3.length : Int)) : bumpN m (bumpN n x3 x4) x4 = bumpN (n + m) x3 x4 := by
  unfold bumpN
  split
  · next hp =>
    obtain ⟨g0, g1⟩ := he _ (rd_mem' (i := (x4.length : Int) - 1) (by omega) (by omega)); rw [rdT_set g0 g1, List.set_set, up_up]
  · rfl
theorem bumpN_new {x3 : List S43} {x4 : List Int} (n : Nat) (y : S43) : bumpN n (x3 ++ [y]) (x4 ++ [(x3.length : Int)]) = x3 ++ [up y n] := by
  unfold bumpN
  have e : rd (x4 ++ [(x3.length : Int)]) (((x4 ++ [(x3.length : Int)]).length : Int) - 1) = (x3.length : Int) := by
    unfold rd; rw [List.length_append, show (((x4.length + [(x3.length : Int)].length : Nat) : Int) - 1).toNat = x4.length by simp, List.getD_eq_getElem?_getD, List.getElem?_append_right (Nat.le_refl _)]; simp
  rw [if_pos (by simp), e]
  have e2 : Z5 (x3 ++ [y]) (x3.length : Int) = y := by
    unfold Z5; rw [Int.toNat_natCast, List.getD_eq_getElem?_getD, List.getElem?_append_right (Nat.le_refl _)]; simp
  rw [e2, Int.toNat_natCast, List.set_append_right _ _ (Nat.le_refl _)]; simp
theorem inv_push {x3 : List S43} {x4 : List Int} {y : S43} (hi : Inv x3 x4) (h8 : x3.length < 8000) (hy : y.f2 = 0) : Inv (bumpN 1 x3 x4 ++ [y]) x4 := by
  have hl : (bumpN 1 x3 x4 ++ [y]).length = x3.length + 1 := by rw [List.length_append, bumpN_len]; rfl
  refine ⟨by omega, hi.d, fun e he => ?_, fun x hx => ?_⟩
  · have := hi.e e he; rw [hl]; omega
  · rw [hl]
    rcases List.mem_append.1 hx with hx | hx
    · unfold bumpN at hx
      split at hx
      · next hp =>
        rcases List.mem_or_eq_of_mem_set hx with hx | rfl
        · have := hi.k x hx; omega
        · obtain ⟨g0, g1⟩ := hi.e _ (rd_mem' (i := (x4.length : Int) - 1) (by omega) (by omega)); have := hi.k _ (rdT_mem' g0 g1); show 0 ≤ _ + ((1 : Nat) : Int) ∧ _ + ((1 : Nat) : Int) ≤ _; omega
      · have := hi.k x hx; omega
    · rw [List.mem_singleton] at hx; subst hx; rw [hy]; omega
theorem inv_open {x3 : List S43} {x4 : List Int} {y : S43} (hi : Inv x3 x4) (h8 : x3.length < 8000) (hd : x4.length < 200) (hy : y.f2 = 0) : Inv (bumpN 1 x3 x4 ++ [y]) (x4 ++ [(x3.length : Int)]) := by
  obtain ⟨a, b, c, d⟩ := inv_push hi h8 hy
  have hl : (bumpN 1 x3 x4 ++ [y]).length = x3.length + 1 := by rw [List.length_append, bumpN_len]; rfl
  refine ⟨a, by rw [List.length_append]; simp; omega, fun e he => ?_, d⟩
  rcases List.mem_append.1 he with he | he
  · exact c e he
  · rw [List.mem_singleton] at he; subst he; rw [hl]; omega
theorem inv_pop {x3 : List S43} {x4 : List Int} {e : Int} (hi : Inv x3 (x4 ++ [e])) : Inv x3 x4 :=
  ⟨hi.n, by have := hi.d; rw [List.length_append] at this; omega, fun z hz => hi.e z (List.mem_append_left _ hz), hi.k⟩
def blkB (c : UInt8) : Bool := decide (c = 32 ∨ c = 9 ∨ c = 10 ∨ c = 13)
section
variable {a : ByteArray} {x3 : List S43} {x4 : List Int} {i : Nat} {c : UInt8} {m : List UInt8}
theorem lt_of (hd : (L a).drop i = c :: m) : i < a.size := by
  have h : ((L a).drop i).length = m.length + 1 := by rw [hd]; rfl
  rw [List.length_drop, L_length] at h; omega
theorem bt_of (hd : (L a).drop i = c :: m) : bt a (i : Int) = (c.toNat : Int) := by
  have hl := lt_of hd; rw [bt_get a i hl]; have := get0_of hd; rw [List.getElem?_eq_getElem (by rw [L_length]; exact hl)] at this; rw [Option.some.inj this]
theorem u8i {c : UInt8} (n : Nat) (hn : n < 256) : ((c.toNat : Int) = (n : Int)) ↔ c = UInt8.ofNat n := u8_eq n hn
theorem in_step (hs : a.size ≤ 20000) (hd : (L a).drop i = c :: m) (k : Nat) : Zh.l0 (k + 1) a x3 x4 (i : Int) = Zh.j1 k a x3 x4 (i : Int) (c.toNat : Int) (blkB c) := by
  have hl := lt_of hd; have e32 : (c.toNat : Int) = 32 ↔ c = 32 := u8i 32 (by decide); have e9 : (c.toNat : Int) = 9 ↔ c = 9 := u8i 9 (by decide); have e10 : (c.toNat : Int) = 10 ↔ c = 10 := u8i 10 (by decide); have e13 : (c.toNat : Int) = 13 ↔ c = 13 := u8i 13 (by decide); rw [Zh.l0, if_pos (by omega), if_pos (by omega), bt_of hd]; unfold blkB
  by_cases h1 : c = 32
  · rw [if_pos (e32.2 h1), decide_eq_true (.inl h1)]
  rw [if_neg (fun h => h1 (e32.1 h))]
  by_cases h2 : c = 9
  · rw [if_pos (e9.2 h2), decide_eq_true (.inr (.inl h2))]
  rw [if_neg (fun h => h2 (e9.1 h))]
  by_cases h3 : c = 10
  · rw [if_pos (e10.2 h3), decide_eq_true (.inr (.inr (.inl h3)))]
  rw [if_neg (fun h => h3 (e10.1 h))]
  congr 1
  by_cases h4 : c = 13
  · rw [decide_eq_true (.inr (.inr (.inr h4))), beq_iff_eq]; exact e13.2 h4
  · rw [decide_eq_false (by rintro (h | h | h | h); exact h1 h; exact h2 h; exact h3 h; exact h4 h), beq_eq_false_iff_ne]; exact fun h => h4 (e13.1 h)
theorem rd_blank (hs : a.size ≤ 20000) (hd : (L a).drop i = c :: m) (hc : c = 32 ∨ c = 10) : Rd a x3 x4 i x3 x4 (i + 1) := by
  intro R h; have hl := lt_of hd; have hw : wrap64 ((i : Int) + 1) = ((i + 1 : Nat) : Int) := wrap_ok (by omega) (by omega)
  have hb : blkB c = true := by rcases hc with rfl | rfl <;> rfl
  refine Evt.succ (fun k => in_step hs hd k) (Evt.succ (fun k => ?_) h); rw [hb, Zh.j1, if_pos rfl, hw]
theorem close_step {c0 : Int} (hs : a.size ≤ 20000) (hi : Inv x3 (x4 ++ [c0])) (hd : (L a).drop i = 41 :: m) : Rd a x3 (x4 ++ [c0]) i x3 x4 (i + 1) := by
  intro R h; have hl := lt_of hd; have hd4 := hi.d; rw [List.length_append, List.length_cons, List.length_nil] at hd4; have hw : wrap64 ((i : Int) + 1) = ((i + 1 : Nat) : Int) := wrap_ok (by omega) (by omega)
  have hlen : ((x4 ++ [c0]).length : Int) = (x4.length : Int) + 1 := by rw [List.length_append]; simp
  have hw2 : wrap64 (((x4 ++ [c0]).length : Int) - 1) = (x4.length : Int) := by rw [hlen]; exact (wrap_ok (by omega) (by omega)).trans (by omega)
  refine Evt.succ (fun k => in_step hs hd k) (Evt.succ (fun k => ?_) h); rw [show blkB 41 = false from rfl, Zh.j1, if_neg (by decide), if_neg (by decide), if_pos (by decide), if_neg (by omega), hw2, if_pos (by omega), if_pos (by omega), hw, Int.toNat_natCast, List.take_left' rfl]
theorem push_j3 (hi : Inv x3 x4) (h8 : x3.length < 8000) (c : Int) (nx t : Int) (s : ByteArray) (k : Nat) (hc : c = 40 → x4.length < 200) :
    Zh.j3 (k + 2) a x3 x4 (i : Int) c nx t s 0 (i : Int) = Zh.l0 k a (bumpN 1 x3 x4 ++ [⟨t, s, 0, (i : Int)⟩]) (if c = 40 then x4 ++ [(x3.length : Int)] else x4) nx := by
  obtain ⟨i1, i2, i3, i4⟩ := hi
  have j3e : Zh.j4 (k + 1) a x3 x4 (i : Int) c nx false t s 0 (i : Int) = Zh.l0 k a (bumpN 1 x3 x4 ++ [⟨t, s, 0, (i : Int)⟩]) (if c = 40 then x4 ++ [(x3.length : Int)] else x4) nx := by
    rw [Zh.j4, if_neg (by decide)]; unfold bumpN up
    by_cases hp : (x4.length : Int) > 0
    · have e : wrap64 ((x4.length : Int) - 1) = (x4.length : Int) - 1 := wrap_ok (by omega) (by omega); obtain ⟨g0, g1⟩ := i3 _ (rd_mem' (i := (x4.length : Int) - 1) (by omega) (by omega)); have hk := i4 _ (rdT_mem' g0 g1); rw [if_pos hp, e, if_pos (by omega), if_pos (by omega), if_pos g0, if_pos g1, wrap_ok (z := (Z5 x3 (rd x4 ((x4.length : Int) - 1))).f2 + 1) (by omega) (by omega)]; simp only [Option.bind_some, if_pos hp, List.length_set]
      by_cases h4 : c = 40
      · rw [if_pos h4, if_pos (by omega), if_pos (by omega), if_pos h4]; rfl
      · rw [if_neg h4, if_pos (by omega), if_neg h4]; rfl
    · rw [if_neg hp]; simp only [if_neg hp]
      by_cases h4 : c = 40
      · rw [if_pos h4, if_pos (by omega), if_pos (by omega), if_pos h4]
      · rw [if_neg h4, if_pos (by omega), if_neg h4]
  rw [Zh.j3, if_neg (by omega)]
  by_cases h4 : c = 40
  · rw [if_pos h4, show decide ((x4.length : Int) ≥ 200) = false from decide_eq_false (by have := hc h4; omega)]; exact j3e
  · rw [if_neg h4]; exact j3e
theorem open_step (hs : a.size ≤ 20000) (hi : Inv x3 x4) (h8 : x3.length < 8000) (hd4 : x4.length < 200) (hd : (L a).drop i = 40 :: m) : Rd a x3 x4 i (bumpN 1 x3 x4 ++ [⟨1, ⟨#[]⟩, 0, (i : Int)⟩]) (x4 ++ [(x3.length : Int)]) (i + 1) := by
  intro R h; have hl := lt_of hd; have hw : wrap64 ((i : Int) + 1) = ((i + 1 : Nat) : Int) := wrap_ok (by omega) (by omega); refine Evt.succ (fun k => in_step hs hd k) (Evt.succ (g := fun k => Zh.j3 k a x3 x4 (i : Int) 40 (((i + 1 : Nat) : Int)) 1 ⟨#[]⟩ 0 (i : Int)) (fun k => ?_) ?_)
  · rw [show blkB 40 = false from rfl, Zh.j1, if_neg (by decide), if_neg (by decide), if_neg (by decide), if_pos (by decide), hw]; rfl
  · obtain ⟨k0, hk⟩ := h; refine ⟨k0 + 2, fun k hle => ?_⟩; obtain ⟨j, rfl⟩ : ∃ j, k = j + 2 := ⟨k - 2, by omega⟩; show Zh.j3 (j + 2) a x3 x4 (i : Int) 40 _ 1 ⟨#[]⟩ 0 (i : Int) = some R; rw [push_j3 hi h8 40 _ _ _ j (fun _ => hd4), if_pos rfl]; exact hk j (by omega)
theorem tok_step (hs : a.size ≤ 20000) (hi : Inv x3 x4) (h8 : x3.length < 8000) {kd : Int} {t : ByteArray} {j : Nat} (hw : Word (c :: m)) (hd : (L a).drop i = c :: m) (hk : kd ≠ 0) (ht : Tok.tok a i = (kd, t, (j : Int))) :
    Rd a x3 x4 i (bumpN 1 x3 x4 ++ [⟨kd, t, 0, (i : Int)⟩]) x4 j := by
  intro R h; have hl := lt_of hd; obtain ⟨c', m', e, q40, q41, q59, q32, q9, q10, q13⟩ := hw; obtain ⟨rfl, rfl⟩ := List.cons.inj e
  have hb : blkB c = false := by unfold blkB; exact decide_eq_false (by rintro (h | h | h | h); exact q32 h; exact q9 h; exact q10 h; exact q13 h)
  have n59 : ¬ (c.toNat : Int) = 59 := fun h => q59 ((u8i 59 (by decide)).1 h)
  have n41 : ¬ (c.toNat : Int) = 41 := fun h => q41 ((u8i 41 (by decide)).1 h)
  have n40 : ¬ (c.toNat : Int) = 40 := fun h => q40 ((u8i 40 (by decide)).1 h)
  have ti : impl_oneToken.f a (i : Int) = some (kd, t, (j : Int)) := by
    unfold impl_oneToken.f tokF; rw [if_pos ⟨by omega, by omega, by omega⟩, Int.toNat_natCast, ht]
  refine Evt.succ (fun k => in_step hs hd k) (Evt.succ (g := fun k => Zh.j3 k a x3 x4 (i : Int) (c.toNat : Int) (j : Int) kd t 0 (i : Int)) (fun k => ?_) ?_)
  · rw [hb, Zh.j1, if_neg (by decide), if_neg n59, if_neg n41, if_neg n40, ti, Option.bind_some]; simp only; rw [if_neg hk]
  · obtain ⟨k0, hk0⟩ := h; refine ⟨k0 + 2, fun k hle => ?_⟩; obtain ⟨j', rfl⟩ : ∃ j, k = j + 2 := ⟨k - 2, by omega⟩; show Zh.j3 (j' + 2) a x3 x4 (i : Int) (c.toNat : Int) _ kd t 0 (i : Int) = some R; rw [push_j3 hi h8 _ _ _ _ j' (fun h => absurd h n40), if_neg n40]; exact hk0 j' (by omega)
end
def lay (b : List UInt8) (c : UInt8) : List (List UInt8) → List UInt8
  | [] => []
  | t :: ts => b ++ t ++ ts.flatMap (fun u => c :: u)
theorem lay_tail (c : UInt8) (ts : List (List UInt8)) : ts.flatMap (fun u => c :: u) = lay [c] c ts := by
  cases ts with
  | nil => rfl
  | cons t ts => rw [List.flatMap_cons]; rfl
theorem lay_join (ts : List (List UInt8)) : joinS ts = lay [] 32 ts := by cases ts <;> rfl
theorem lay_delim {c : UInt8} (hc : c = 32 ∨ c = 10) (ts : List (List UInt8)) {r : List UInt8} (hr : Delim r) : Delim (lay [c] c ts ++ r) := by
  cases ts with
  | nil => exact hr
  | cons t ts => exact ⟨c, _, rfl, by rcases hc with h | h; exact .inl h; exact .inr (.inl h)⟩
theorem goodN_facts {x : Nd} (hg : goodN x = true) : 0 ≤ x.n ∧ (x.k ≠ 1 → x.n = 0) ∧ (x.k = 1 → x.t = []) := by
  unfold goodN at hg; rw [Bool.and_eq_true, Bool.and_eq_true, decide_eq_true_eq] at hg; refine ⟨hg.1.1, fun hk => ?_, fun hk => ?_⟩
  · have := hg.1.2; rw [decide_eq_false hk, Bool.false_or, decide_eq_true_eq] at this; exact this
  · have := hg.2; unfold word at this; rw [if_pos hk] at this; exact of_decide_eq_true this
theorem good_kind {x : Nd} (hg : goodN x = true) : x.k ≠ 0 := by
  intro h; unfold goodN word at hg; rw [h] at hg
  simp at hg
theorem rd_kids (a : ByteArray) (hs : a.size ≤ 20000) : ∀ {h n l r ts}, KidsD h n l r ts → ∀ (c : UInt8) (b : List UInt8) (i : Nat) (x3 : List S43) (x4 : List Int) (rest : List UInt8), (c = 32 ∨ c = 10) → (b = [] ∨ b = [c]) → x4.length = h → Inv x3 x4 → x3.length + (l.length - r.length) ≤ 8000 →
    (L a).drop i = lay b c ts ++ rest → Delim rest → ∃ p : List S43, l = nds p ++ r ∧ Inv (bumpN n x3 x4 ++ p) x4 ∧ Rd a x3 x4 i (bumpN n x3 x4 ++ p) x4 (i + (lay b c ts).length) := by
  intro h n l r ts hK
  induction hK with
  | nil h l =>
    intro c b i x3 x4 rest hc hb hh hi hl hd hr; refine ⟨[], rfl, ?_, ?_⟩
    · rw [bumpN_zero hi, List.append_nil]; exact hi
    · rw [bumpN_zero hi, List.append_nil]; exact Rd.refl _ _ _ _
  | @leaf h n x l r ts hk hg hK ih =>
    intro c b i x3 x4 rest hc hb hh hi hl hd hr; have hkl := kidsD_len hK; rw [List.length_cons] at hl; have h8 : x3.length < 8000 := (by omega)
    have hlay : lay b c (leafT x :: ts) = b ++ leafT x ++ lay [c] c ts := by rw [← lay_tail]; rfl
    rw [hlay] at hd ⊢
 
    have hblank : Rd a x3 x4 i x3 x4 (i + b.length) ∧ (L a).drop (i + b.length) = leafT x ++ (lay [c] c ts ++ rest) := by
      rcases hb with rfl | rfl
      · exact ⟨Rd.refl _ _ _ _, by rw [List.length_nil, Nat.add_zero, hd]; simp⟩
      · have hd0 : (L a).drop i = c :: (leafT x ++ (lay [c] c ts ++ rest)) := by rw [hd]; simp
        exact ⟨rd_blank hs hd0 hc, by rw [List.length_cons, List.length_nil, ← List.drop_drop, hd0]; rfl⟩
    obtain ⟨hR1, hd1⟩ := hblank; have hdl : Delim (lay [c] c ts ++ rest) := lay_delim hc ts hr; obtain ⟨ht, hw⟩ := leaf_tok a (i + b.length) x _ hk hg hd1 hdl; obtain ⟨c1, m1, e1, _⟩ := id hw; have hR2 := tok_step hs hi h8 (by rw [← e1]; exact hw) (hd1.trans e1) (good_kind hg) ht; have hi2 := inv_push (y := ⟨x.k, ⟨x.t.toArray⟩, 0, ((i + b.length : Nat) : Int)⟩) hi h8 rfl; have hd2 : (L a).drop (i + b.length + (leafT x).length) = lay [c] c ts ++ rest := drop_of hd1; obtain ⟨p, e, hi3, hR3⟩ := ih c [c] (i + b.length + (leafT x).length) _ x4 rest hc (.inr rfl) hh hi2 (by rw [List.length_append, bumpN_len, List.length_cons, List.length_nil]; omega) hd2 hr
    have hbe : ∀ e ∈ x4, 0 ≤ e ∧ e < ((bumpN 1 x3 x4).length : Int) := by rw [bumpN_len]; exact hi.e
    have hfin : bumpN n (bumpN 1 x3 x4 ++ [⟨x.k, ⟨x.t.toArray⟩, 0, ((i + b.length : Nat) : Int)⟩]) x4 ++ p = bumpN (n + 1) x3 x4 ++ (⟨x.k, ⟨x.t.toArray⟩, 0, ((i + b.length : Nat) : Int)⟩ :: p) := by
      rw [bumpN_app n hbe, bumpN_add 1 n hi.e, Nat.add_comm 1 n]; simp
    rw [hfin] at hi3 hR3; refine ⟨⟨x.k, ⟨x.t.toArray⟩, 0, ((i + b.length : Nat) : Int)⟩ :: p, ?_, hi3, ?_⟩
    · have hx0 := (goodN_facts hg).2.1 hk; show x :: l = nd _ :: (nds p ++ r); rw [← e]
      congr 1
      unfold nd; simp only [L_mk]; rw [← hx0]
    · have hpos : i + (b ++ leafT x ++ lay [c] c ts).length = i + b.length + (leafT x).length + (lay [c] c ts).length := by rw [List.length_append, List.length_append]; omega
      rw [hpos]; exact (hR1.trans hR2).trans hR3
  | @list h n x l r1 r ts1 ts hk hg hdp h1 h2 ih1 ih2 =>
    intro c b i x3 x4 rest hc hb hh hi hl hd hr; have hk1 := kidsD_len h1; have hk2 := kidsD_len h2; rw [List.length_cons] at hl; have h8 : x3.length < 8000 := (by omega)
    have hlay : lay b c ((40 :: (joinS ts1 ++ [41])) :: ts) = b ++ (40 :: (joinS ts1 ++ [41])) ++ lay [c] c ts := by rw [← lay_tail]; rfl
    rw [hlay] at hd ⊢
    have hblank : Rd a x3 x4 i x3 x4 (i + b.length) ∧ (L a).drop (i + b.length) = 40 :: (lay [] 32 ts1 ++ (41 :: (lay [c] c ts ++ rest))) := by
      rw [← lay_join]
      rcases hb with rfl | rfl
      · exact ⟨Rd.refl _ _ _ _, by rw [List.length_nil, Nat.add_zero, hd]; simp⟩
      · have hd0 : (L a).drop i = c :: (40 :: (joinS ts1 ++ (41 :: (lay [c] c ts ++ rest)))) := by rw [hd]; simp
        exact ⟨rd_blank hs hd0 hc, by rw [List.length_cons, List.length_nil, ← List.drop_drop, hd0]; rfl⟩
    obtain ⟨hR1, hd1⟩ := hblank; have hR2 := open_step hs hi h8 (by omega) hd1; have hi2 := inv_open (y := ⟨1, ⟨#[]⟩, 0, ((i + b.length : Nat) : Int)⟩) hi h8 (by omega) rfl
    have hd2 : (L a).drop (i + b.length + 1) = lay [] 32 ts1 ++ (41 :: (lay [c] c ts ++ rest)) := by rw [← List.drop_drop, hd1]; rfl
    obtain ⟨p1, e1, hi3, hR3⟩ := ih1 32 [] (i + b.length + 1) _ _ _ (.inl rfl) (.inl rfl) (by rw [List.length_append, hh]; rfl) hi2 (by rw [List.length_append, bumpN_len, List.length_cons, List.length_nil]; omega) hd2 ⟨41, _, rfl, .inr (.inr rfl)⟩
    have hlx : (x3.length : Int) = ((bumpN 1 x3 x4).length : Int) := by rw [bumpN_len]
    rw [hlx, bumpN_new] at hi3 hR3; rw [← hlx] at hi3 hR3; have hd3 : (L a).drop (i + b.length + 1 + (lay [] 32 ts1).length) = 41 :: (lay [c] c ts ++ rest) := drop_of hd2; have hR4 := close_step hs hi3 hd3; have hi4 := inv_pop hi3
    have hd4 : (L a).drop (i + b.length + 1 + (lay [] 32 ts1).length + 1) = lay [c] c ts ++ rest := by rw [← List.drop_drop, hd3]; rfl
    have hp1 : (nds p1).length = p1.length := by unfold nds; rw [List.length_map]
    have hel : l.length = p1.length + r1.length := by rw [e1, List.length_append, hp1]
    obtain ⟨p2, e2, hi5, hR5⟩ := ih2 c [c] (i + b.length + 1 + (lay [] 32 ts1).length + 1) _ x4 rest hc (.inr rfl) hh hi4 (by rw [List.length_append, List.length_append, bumpN_len, List.length_cons, List.length_nil]; omega) hd4 hr
    have hbe : ∀ e ∈ x4, 0 ≤ e ∧ e < ((bumpN 1 x3 x4).length : Int) := by rw [bumpN_len]; exact hi.e
    obtain ⟨y, hy⟩ : ∃ y, up (⟨1, ⟨#[]⟩, 0, ((i + b.length : Nat) : Int)⟩ : S43) x.n.toNat = y := ⟨_, rfl⟩; rw [hy] at hi5 hR5 hR3 hR4
    have hfin : bumpN n (bumpN 1 x3 x4 ++ [y] ++ p1) x4 ++ p2 = bumpN (n + 1) x3 x4 ++ (y :: (p1 ++ p2)) := by
      rw [List.append_assoc, bumpN_app n hbe, bumpN_add 1 n hi.e, Nat.add_comm 1 n]; simp
    rw [hfin] at hi5 hR5; refine ⟨y :: (p1 ++ p2), ?_, hi5, ?_⟩
    · obtain ⟨f0, _, f2⟩ := goodN_facts hg
      have hyx : nd y = x := by
        rw [← hy]; obtain ⟨xk, xt, xn⟩ := x; have g1 : xk = 1 := hk; have g2 : xt = [] := f2 hk; have g3 : 0 ≤ xn := f0; subst g1; subst g2; unfold nd up; simp only
        congr 1
        omega
      show x :: l = nd y :: (nds (p1 ++ p2) ++ r); rw [hyx, e1, e2]; unfold nds; rw [List.map_append, List.append_assoc]
    · have hpos : i + (b ++ (40 :: (joinS ts1 ++ [41])) ++ lay [c] c ts).length = i + b.length + 1 + (lay [] 32 ts1).length + 1 + (lay [c] c ts).length := by
        rw [lay_join]; simp only [List.length_append, List.length_cons, List.length_nil]; omega
      rw [hpos]; exact (((hR1.trans hR2).trans hR3).trans hR4).trans hR5
theorem lay_top (ts : List (List UInt8)) : ts.flatMap (fun t => t ++ [10]) = lay [] 10 ts ++ (if ts = [] then [] else [10]) := by
  have go : ∀ ts : List (List UInt8), ts.flatMap (fun u => 10 :: u) ++ [10] = 10 :: ts.flatMap (fun t => t ++ [10]) := by
    intro ts
    induction ts with
    | nil => rfl
    | cons t ts ih => rw [List.flatMap_cons, List.flatMap_cons, List.append_assoc, ih]; simp
  cases ts with
  | nil => rfl
  | cons t ts =>
    rw [if_neg (by simp), List.flatMap_cons]; show _ = [] ++ t ++ ts.flatMap (fun u => 10 :: u) ++ [10]; rw [List.append_assoc ([] ++ t), go]; simp
theorem read_back {l : List Nd} {m : Nat} (hf : specF l [] m = true) (hn : l.length ≤ 8000) (a : ByteArray) (ha : L a = specW l [] []) (hs : a.size ≤ 20000) :
    ∃ p : List S43, nds p = l ∧ Evt (fun k => Zh.f k a) (0, 0, p) := by
  obtain ⟨n, ts, hK⟩ := formD_rest l [] m (fun a ha => by cases ha) hf
  have ht : L a = ts.flatMap (fun t => t ++ [10]) := by rw [ha, spec_whole hK.plain]
  rw [lay_top] at ht; have hi0 : Inv ([] : List S43) [] := ⟨by simp, by simp, (fun e he => by cases he), (fun x hx => by cases hx)⟩
  have fin : ∀ p : List S43, Evt (fun k => Zh.l0 k a p [] (a.size : Int)) (0, 0, p) := fun p => Evt.done fun k => by
    rw [Zh.l0, if_neg (by omega), if_neg (by simp)]
  have hf0 : ∀ {p : List S43}, Evt (fun k => Zh.l0 k a [] [] 0) (0, 0, p) → Evt (fun k => Zh.f k a) (0, 0, p) := fun h => Evt.same (fun k => by unfold Zh.f; rw [if_neg (by omega)]) h
  by_cases hne : ts = []
  · subst hne; cases hK; refine ⟨[], rfl, hf0 ?_⟩
    have hz : a.size = 0 := by rw [← L_length, ht]; rfl
    have := fin []; rw [hz] at this; exact this
  · rw [if_neg hne] at ht; obtain ⟨p, e, hi, hR⟩ := rd_kids a hs hK 10 [] 0 [] [] [10] (.inr rfl) (.inl rfl) rfl hi0 (by simp; omega) (by rw [List.drop_zero]; exact ht) ⟨10, [], rfl, .inr (.inl rfl)⟩
    have hb : bumpN n ([] : List S43) [] = [] := by unfold bumpN; rw [if_neg (by simp)]
    rw [hb, List.nil_append] at hR
    have hlen : a.size = (lay [] 10 ts).length + 1 := by rw [← L_length, ht, List.length_append]; rfl
    have hd : (L a).drop (0 + (lay [] 10 ts).length) = 10 :: [] := drop_of (by rw [List.drop_zero]; exact ht); have hR2 : Rd a p [] (0 + (lay [] 10 ts).length) p [] (0 + (lay [] 10 ts).length + 1) := rd_blank hs hd (.inr rfl); refine ⟨p, by rw [e, List.append_nil], hf0 ?_⟩; have := (hR.trans hR2) (0, 0, p) (by rw [show 0 + (lay [] 10 ts).length + 1 = a.size by omega]; exact fin p); exact this
end Go.Proofs.YtbeelgaganbblaaDoor.Rt
namespace Go.Proofs.YtbeelgaganbblaaDoor.Wt
open Go.RowKit Go.Proofs.YtbeelgaganbblaaDoor Go.Proofs.YtbeelgaganbblaaDoorW.PrintWords Go.Proofs.YtbeelgaganbblaaDoor.Gp Go.Proofs.YtbeelgaganbblaaDoor.By Go.Proofs.YtbeelgaganbblaaDoor.Tok Go.Proofs.YtbeelgaganbblaaDoor.Tree Go.Proofs.YtbeelgaganbblaaDoor.Gn Go.Proofs.YtbeelgaganbblaaDoor.PFnExactGoodTree
set_option linter.unusedVariables false
set_option linter.unusedSimpArgs false
set_option maxRecDepth 100000
theorem builder_below {T e : TypeId} {B b : Nat} {bs : List Value} {W W' : World} (h : Lib.IsBuilderF T e B b bs W) (hb : Below W.heap.size W W') : Lib.IsBuilderF T e B b bs W' := by
  have one : ∀ p, Lib.BuilderAtF T e B b p bs W → Lib.BuilderAtF T e B b p bs W' := by
    intro p h; have hlt := h.lt; obtain ⟨hB, v, hv, hown, hne⟩ := h; exact ⟨hB, v, (hb.block b hlt).trans hv, hown.kept (row := none) ⟨hb.os, hb.tape, hb.output, hb.size, fun k hk _ => hb.block k hk⟩ (Classical.em _), hne⟩
  exact h.elim (fun x => .inl (one _ x)) (fun x => .inr (one _ x))
theorem repl_quote : ∀ l : List UInt8, Lib.replaceK [34] [34, 34] (Lib.count l [34]) l = l.flatMap (fun c => if c = 34 then [34, 34] else [c])
  | [] => by rw [Lib.count_one]; rfl
  | c :: l => by
    have ih := repl_quote l; rw [List.flatMap_cons]
    by_cases hc : c = 34
    · subst hc
      have hi : Lib.index ((34 : UInt8) :: l) [34] = ((0 : Nat) : Int) := by rw [Lib.index_one]; simp [Lib.indexByte]
      rw [Lib.count_cons_eq, Nat.add_comm, Lib.replaceK_hit _ _ _ _ 0 hi, if_pos rfl, ← ih]; rfl
    · rw [Lib.count_cons_ne c 34 l hc, if_neg hc, ← ih]
      cases hk : Lib.count l [34] with
      | zero => rfl
      | succ k =>
        obtain ⟨i, hi⟩ := Lib.index_of_count (show 0 < Lib.count l [34] by omega)
        have hi2 : Lib.index (c :: l) [34] = ((i + 1 : Nat) : Int) := by
          rw [Lib.index_one] at hi ⊢; have e : (c == (34 : UInt8)) = false := beq_eq_false_iff_ne.2 hc; unfold Lib.indexByte; simp only [e]
          simp [hi]
        rw [Lib.replaceK_hit _ _ _ _ (i + 1) hi2, Lib.replaceK_hit _ _ _ _ i hi]; rfl
theorem repl_all (l : List UInt8) : Lib.replaceAll l [34] [34, 34] = l.flatMap (fun c => if c = 34 then [34, 34] else [c]) := by
  unfold Lib.replaceAll Lib.replace Lib.replaceNum; rw [if_neg (by decide), if_pos (.inl (by decide)), repl_quote]
structure St (W0 : World) (A0 : Option Addr) (c0 n : Nat) (b1 b2 b3 : Nat) (out : List UInt8) (w : World) : Prop where
  bel : Below W0.heap.size W0 w
  n1 : w.heap[b1]? = some (.cells #[.slice A0 n c0] 25 (0, 0))
  n3 : w.heap[b3]? = some (.cells #[.func (.func 27) #[] #[.pointer (some ⟨b1, 0, none⟩), .pointer (some ⟨b2, 0, none⟩), .pointer (some ⟨b3, 0, none⟩)]] 52 (0, 0))
  bu : Lib.IsBuilderF 51 5 W0.heap.size b2 (Lib.byteCells out) w
theorem lt_of_some {w : World} {b : Nat} {o : Obj} (h : w.heap[b]? = some o) : b < w.heap.size := by
  rcases Nat.lt_or_ge b w.heap.size with h' | h'
  · exact h'
  · rw [Array.getElem?_eq_none h'] at h; cases h
section
variable {W0 : World} {A0 : Option Addr} {c0 n b1 b2 b3 : Nat} {out : List UInt8} {w w' : World}
theorem St.below (h : St W0 A0 c0 n b1 b2 b3 out w) (hb : Below w.heap.size w w') : St W0 A0 c0 n b1 b2 b3 out w' :=
  ⟨h.bel.trans (hb.mono h.bel.size), (hb.block b1 (lt_of_some h.n1)).trans h.n1, (hb.block b3 (lt_of_some h.n3)).trans h.n3, builder_below h.bu hb⟩
theorem St.alloc (h : St W0 A0 c0 n b1 b2 b3 out w) (o : Obj) : St W0 A0 c0 n b1 b2 b3 out (w.alloc o) := h.below ((Below.refl _ _).alloc (Nat.le_refl _) o)
theorem ne_builder (h : St W0 A0 c0 n b1 b2 b3 out w) : b1 ≠ b2 ∧ b3 ≠ b2 := by
  obtain ⟨p, hB, v, hv, _, _⟩ : ∃ p, Lib.BuilderAtF 51 5 W0.heap.size b2 p (Lib.byteCells out) w := h.bu.elim (fun x => ⟨_, x⟩) (fun x => ⟨_, x⟩)
  constructor
  · intro e; subst e; have := h.n1.symm.trans hv; injection this with this; injection this with _ this _; exact absurd this (by decide)
  · intro e; subst e; have := h.n3.symm.trans hv; injection this with this; injection this with _ this _; exact absurd this (by decide)
theorem St.wrote {bs : List Value} {o2 : List UInt8} (h : St W0 A0 c0 n b1 b2 b3 out w) (hbu : Lib.BuilderAtF 51 5 W0.heap.size b2 (.pointer (some ⟨b2, 0, none⟩)) bs w') (hbe : Below W0.heap.size w w') (hk : Lib.OthersKept 5 (some b2) w w') (e : bs = Lib.byteCells o2) : St W0 A0 c0 n b1 b2 b3 o2 w' := by
  obtain ⟨e1, e3⟩ := ne_builder h; refine ⟨h.bel.trans hbe, hk _ _ h.n1 (fun h => e1 (Option.some.inj h)) ?_, hk _ _ h.n3 (fun h => e3 (Option.some.inj h)) ?_, .inr (e ▸ hbu)⟩
  · intro c fz h; injection h with _ h _; exact absurd h (by decide)
  · intro c fz h; injection h with _ h _; exact absurd h (by decide)
end
theorem cells_byte (l : List UInt8) (c : UInt8) : Lib.byteCells l ++ [.int .u8 (c.toNat : Int)] = Lib.byteCells (l ++ [c]) := by
  unfold Lib.byteCells; rw [List.map_append]; rfl
theorem cells_str (l : List UInt8) (s : ByteArray) : Lib.byteCells l ++ Lib.strCells s = Lib.byteCells (l ++ L s) := by
  unfold Lib.byteCells Lib.strCells; rw [List.map_append]; rfl
section
variable {W0 w : World} {A0 : Option Addr} {c0 b1 b2 b3 : Nat} {l0 : List S43} {out : List UInt8}
theorem wr_k3 (hr0 : Kd.C k43 W0 A0 l0.length l0) (i : Int) (h0 : 0 ≤ i) (h1 : i < l0.length) (t : ByteArray) (n a : Int) (hx : Z5 l0 i = ⟨3, t, n, a⟩)
    (hs : St W0 A0 c0 l0.length b1 b2 b3 out w) (ht : t.size ≤ 1048576) (hsz : out.length + 2 * t.size ≤ 100000000) (hl : l0.length ≤ 1048576) :
    Calls Tryd.prog 27 #[.int .i64 i, .pointer (some ⟨b1, 0, none⟩), .pointer (some ⟨b2, 0, none⟩), .pointer (some ⟨b3, 0, none⟩)] w fun e w' => e = .returned (.int .i64 (i + 1)) ∧ St W0 A0 c0 l0.length b1 b2 b3 (out ++ L t) w' := by
  obtain ⟨ad, eA, hx0, hx1, hx2, hx3⟩ := at_T43 (Kd.C_below hr0 hs.bel) i h0 h1; subst eA; rw [hx] at hx0 hx1 hx2 hx3; have cN := cell_of_one hs.n1; have HS := Lib.hid hs; clear hs hx; have hB : W0.heap.size ≤ w.heap.size := HS.out.bel.size; go_enter Tryd.func27, Tryd.ntmps27; go_wp2_with (go_at_call 29; refine (Tryd.Builder_WriteString_k W0.heap.size b2 (Lib.byteCells out) t _ (HS.out.alloc _).bu (by rw [Lib.byteCells_length]; omega) (by have := hB; simp; omega)).mono ?_; rintro e w1 ⟨rfl, hbu, hbe, hok⟩); go_ret; exact ⟨rfl, (HS.out.alloc _).wrote hbu hbe hok (by rw [cells_str])⟩
theorem wr_k4 (hr0 : Kd.C k43 W0 A0 l0.length l0) (i : Int) (h0 : 0 ≤ i) (h1 : i < l0.length) (t : ByteArray) (n a : Int) (hx : Z5 l0 i = ⟨4, t, n, a⟩)
    (hs : St W0 A0 c0 l0.length b1 b2 b3 out w) (ht : t.size ≤ 1048576) (hsz : out.length + 2 * t.size ≤ 100000000) (hl : l0.length ≤ 1048576) :
    Calls Tryd.prog 27 #[.int .i64 i, .pointer (some ⟨b1, 0, none⟩), .pointer (some ⟨b2, 0, none⟩), .pointer (some ⟨b3, 0, none⟩)] w fun e w' => e = .returned (.int .i64 (i + 1)) ∧ St W0 A0 c0 l0.length b1 b2 b3 (out ++ L t) w' := by
  obtain ⟨ad, eA, hx0, hx1, hx2, hx3⟩ := at_T43 (Kd.C_below hr0 hs.bel) i h0 h1; subst eA; rw [hx] at hx0 hx1 hx2 hx3; have cN := cell_of_one hs.n1; have HS := Lib.hid hs; clear hs hx; have hB : W0.heap.size ≤ w.heap.size := HS.out.bel.size; go_enter Tryd.func27, Tryd.ntmps27; go_wp2_with (go_at_call 29; refine (Tryd.Builder_WriteString_k W0.heap.size b2 (Lib.byteCells out) t _ (HS.out.alloc _).bu (by rw [Lib.byteCells_length]; omega) (by have := hB; simp; omega)).mono ?_; rintro e w1 ⟨rfl, hbu, hbe, hok⟩); go_ret; exact ⟨rfl, (HS.out.alloc _).wrote hbu hbe hok (by rw [cells_str])⟩
theorem wr_k5 (hr0 : Kd.C k43 W0 A0 l0.length l0) (i : Int) (h0 : 0 ≤ i) (h1 : i < l0.length) (t : ByteArray) (n a : Int) (hx : Z5 l0 i = ⟨5, t, n, a⟩)
    (hs : St W0 A0 c0 l0.length b1 b2 b3 out w) (ht : t.size ≤ 1048576) (hsz : out.length + 2 * t.size ≤ 100000000) (hl : l0.length ≤ 1048576) :
    Calls Tryd.prog 27 #[.int .i64 i, .pointer (some ⟨b1, 0, none⟩), .pointer (some ⟨b2, 0, none⟩), .pointer (some ⟨b3, 0, none⟩)] w fun e w' => e = .returned (.int .i64 (i + 1)) ∧ St W0 A0 c0 l0.length b1 b2 b3 (out ++ (35 :: 98 :: L t)) w' := by
  obtain ⟨ad, eA, hx0, hx1, hx2, hx3⟩ := at_T43 (Kd.C_below hr0 hs.bel) i h0 h1; subst eA; rw [hx] at hx0 hx1 hx2 hx3; have cN := cell_of_one hs.n1; have HS := Lib.hid hs; clear hs hx; have hB : W0.heap.size ≤ w.heap.size := HS.out.bel.size; go_enter Tryd.func27, Tryd.ntmps27; go_wp2_with (go_at_call 29; refine (Tryd.Builder_WriteString_k W0.heap.size b2 (Lib.byteCells out) ((⟨#[35, 98]⟩ : ByteArray) ++ t) _ (HS.out.alloc _).bu (by rw [Lib.byteCells_length]; rw [ByteArray.size_append, show (⟨#[35, 98]⟩ : ByteArray).size = 2 from rfl]; omega) (by have := hB; simp; omega)).mono ?_; rintro e w1 ⟨rfl, hbu, hbe, hok⟩); go_ret; exact ⟨rfl, (HS.out.alloc _).wrote hbu hbe hok (by rw [cells_str, L_append]; rfl)⟩
theorem wr_k7 (hr0 : Kd.C k43 W0 A0 l0.length l0) (i : Int) (h0 : 0 ≤ i) (h1 : i < l0.length) (t : ByteArray) (n a : Int) (hx : Z5 l0 i = ⟨7, t, n, a⟩)
    (hs : St W0 A0 c0 l0.length b1 b2 b3 out w) (ht : t.size ≤ 1048576) (hsz : out.length + 2 * t.size ≤ 100000000) (hl : l0.length ≤ 1048576) :
    Calls Tryd.prog 27 #[.int .i64 i, .pointer (some ⟨b1, 0, none⟩), .pointer (some ⟨b2, 0, none⟩), .pointer (some ⟨b3, 0, none⟩)] w fun e w' => e = .returned (.int .i64 (i + 1)) ∧ St W0 A0 c0 l0.length b1 b2 b3 (out ++ (58 :: L t)) w' := by
  obtain ⟨ad, eA, hx0, hx1, hx2, hx3⟩ := at_T43 (Kd.C_below hr0 hs.bel) i h0 h1; subst eA; rw [hx] at hx0 hx1 hx2 hx3; have cN := cell_of_one hs.n1; have HS := Lib.hid hs; clear hs hx; have hB : W0.heap.size ≤ w.heap.size := HS.out.bel.size; go_enter Tryd.func27, Tryd.ntmps27; go_wp2_with (go_at_call 29; refine (Tryd.Builder_WriteString_k W0.heap.size b2 (Lib.byteCells out) ((⟨#[58]⟩ : ByteArray) ++ t) _ (HS.out.alloc _).bu (by rw [Lib.byteCells_length]; rw [ByteArray.size_append, show (⟨#[58]⟩ : ByteArray).size = 1 from rfl]; omega) (by have := hB; simp; omega)).mono ?_; rintro e w1 ⟨rfl, hbu, hbe, hok⟩); go_ret; exact ⟨rfl, (HS.out.alloc _).wrote hbu hbe hok (by rw [cells_str, L_append]; rfl)⟩
theorem wr_k2 (hr0 : Kd.C k43 W0 A0 l0.length l0) (i : Int) (h0 : 0 ≤ i) (h1 : i < l0.length) (t : ByteArray) (n a : Int) (hx : Z5 l0 i = ⟨2, t, n, a⟩)
    (hs : St W0 A0 c0 l0.length b1 b2 b3 out w) (ht : t.size ≤ 1048576) (hsz : out.length + 2 * t.size ≤ 100000000) (hl : l0.length ≤ 1048576) :
    Calls Tryd.prog 27 #[.int .i64 i, .pointer (some ⟨b1, 0, none⟩), .pointer (some ⟨b2, 0, none⟩), .pointer (some ⟨b3, 0, none⟩)] w fun e w' => e = .returned (.int .i64 (i + 1)) ∧ St W0 A0 c0 l0.length b1 b2 b3 (out ++ leafT ⟨2, L t, n⟩) w' := by
  obtain ⟨ad, eA, hx0, hx1, hx2, hx3⟩ := at_T43 (Kd.C_below hr0 hs.bel) i h0 h1; subst eA; rw [hx] at hx0 hx1 hx2 hx3; have cN := cell_of_one hs.n1; have HS := Lib.hid hs; clear hs hx; have hB : W0.heap.size ≤ w.heap.size := HS.out.bel.size; obtain ⟨r, hev, hr⟩ := sym_is t ht n; obtain ⟨kr, hkr⟩ := hev.get
  have hrs : r.size ≤ 2 * t.size + 7 := by
    have := leaf_len ⟨2, L t, n⟩; rw [← hr, L_length] at this; simp only [L_length] at this; omega
  have HR := Lib.hid hr
  have HY : Hid (∀ W, Calls Tryd.prog 30 #[.string t] W fun e w' => e = .returned (.string r) ∧ Drawn0 W w') := fun W => impl_symText.calls kr t r W hkr
  clear hr hkr hev; go_enter Tryd.func27, Tryd.ntmps27; go_wp2_with (first | (go_at_call 30; refine (HY.out _).mono ?_; rintro e w' ⟨rfl, ⟨nq, rfl⟩⟩) | (go_at_call 29; refine (Tryd.Builder_WriteString_k W0.heap.size b2 (Lib.byteCells out) r _ ((HS.out.alloc _).below (Z0 (Below.refl _ _) _)).bu (by rw [Lib.byteCells_length]; omega) (by have := hB; simp; omega)).mono ?_; rintro e w1 ⟨rfl, hbu, hbe, hok⟩)); go_ret; exact ⟨rfl, ((HS.out.alloc _).below (Z0 (Below.refl _ _) _)).wrote hbu hbe hok (by rw [cells_str, HR.out])⟩
theorem wr_k6 (hr0 : Kd.C k43 W0 A0 l0.length l0) (i : Int) (h0 : 0 ≤ i) (h1 : i < l0.length) (t : ByteArray) (n a : Int) (hx : Z5 l0 i = ⟨6, t, n, a⟩)
    (hs : St W0 A0 c0 l0.length b1 b2 b3 out w) (ht : t.size ≤ 1048576) (hsz : out.length + 2 * t.size ≤ 100000000) (hl : l0.length ≤ 1048576) (hT : Tab W0) :
    Calls Tryd.prog 27 #[.int .i64 i, .pointer (some ⟨b1, 0, none⟩), .pointer (some ⟨b2, 0, none⟩), .pointer (some ⟨b3, 0, none⟩)] w fun e w' => e = .returned (.int .i64 (i + 1)) ∧ St W0 A0 c0 l0.length b1 b2 b3 (out ++ leafT ⟨6, L t, n⟩) w' := by
  obtain ⟨ad, eA, hx0, hx1, hx2, hx3⟩ := at_T43 (Kd.C_below hr0 hs.bel) i h0 h1; subst eA; rw [hx] at hx0 hx1 hx2 hx3; have cN := cell_of_one hs.n1; have HS := Lib.hid hs; clear hs hx; have hB : W0.heap.size ≤ w.heap.size := HS.out.bel.size; obtain ⟨m, hm⟩ := hT.here HS.out.bel; have hwl := (hT.here HS.out.bel).lt; obtain ⟨r, hr⟩ : ∃ r : ByteArray, (⟨(Lib.replaceAll t.data.toList (⟨#[34]⟩ : ByteArray).data.toList (⟨#[34, 34]⟩ : ByteArray).data.toList).toArray⟩ : ByteArray) = r := ⟨_, rfl⟩
  have hL : L r = (L t).flatMap (fun c => if c = 34 then [34, 34] else [c]) := by rw [← hr, L_mk]; exact repl_all (L t)
  have hrs : r.size ≤ 2 * t.size := by rw [← L_length, hL]; have := quote_len (L t); rw [L_length] at this; exact this
  have HR : Hid (leafT ⟨6, L t, n⟩ = 34 :: (L r ++ [34])) := by show leafT ⟨6, L t, n⟩ = 34 :: (L r ++ [34]); rw [hL]; unfold leafT; rfl
  have HY : Hid (∀ W, W.cell? ⟨0, 0, none⟩ = some (.int .i64 m) → Calls Tryd.prog 31 #[.string t, .string ⟨#[34]⟩, .string ⟨#[34, 34]⟩] W fun e w' => e = .returned (.string r) ∧ Below W.heap.size W w') := fun W hW => by
    have := Tryd.strings_ReplaceAll t ⟨#[34]⟩ ⟨#[34, 34]⟩ m W (by omega) hW (by decide) (by
      have := Lib.countB_le ⟨#[34]⟩ (by decide) t.size t (Nat.le_refl _)
      rw [show (⟨#[34, 34]⟩ : ByteArray).size = 2 from rfl]; omega)
    rw [hr] at this; exact this
  have ARM : Hid (∀ cs T, (w.alloc (.cells cs T)).cell? ⟨0, 0, none⟩ = some (.int .i64 m)) := fun cs T => (((Below.refl w.heap.size w).alloc (Nat.le_refl _) _).cell hwl).trans hm
  clear hL hr hm hwl hT; go_enter Tryd.func27, Tryd.ntmps27; go_wp2_with fail; refine (HY.out _ (ARM.out _ _)).mono ?_; rintro e w2 ⟨rfl, hb2⟩; have h9 : ¬ 9223372036854775807 < 1 + r.size := (by omega); have h9b : ¬ 9223372036854775807 < 1 + r.size + 1 := (by omega); have HB2 := Lib.hid hb2
  have hz : W0.heap.size ≤ w2.heap.size := by have h3 := hb2.size; simp at h3; omega
  clear hb2; go_wp2_with fail; refine (Tryd.Builder_WriteString_k W0.heap.size b2 (Lib.byteCells out) ((⟨#[34]⟩ : ByteArray) ++ r ++ (⟨#[34]⟩ : ByteArray)) _ ((HS.out.alloc _).below HB2.out).bu (by rw [Lib.byteCells_length, ByteArray.size_append, ByteArray.size_append, show (⟨#[34]⟩ : ByteArray).size = 1 from rfl]; omega) hz).mono ?_; rintro e w1 ⟨rfl, hbu, hbe, hok⟩; go_wp2; go_ret; exact ⟨rfl, ((HS.out.alloc _).below HB2.out).wrote hbu hbe hok (by rw [cells_str, HR.out, L_append, L_append]; rfl)⟩
end
def LRel (W0 : World) (A0 : Option Addr) (c0 N b1 b2 b3 : Nat) (ND l1 r : List Nd) (ts : List (List UInt8)) (out : List UInt8) (n : Int) (v0 v24 : Value) (wr : World) : Prop :=
  ∃ (K J : Int) (m : Nat) (l' : List Nd) (ts' : List (List UInt8)) (P : List UInt8), 0 ≤ K ∧ K + m = n ∧ v24 = .int .i64 K ∧ v0 = .int .i64 J ∧ J = (N : Int) - l'.length ∧ l'.length ≤ N ∧ Tree.Kids m l' r ts' ∧
    P ++ (if K = 0 then joinS ts' else ts'.flatMap (fun u => 32 :: u)) = joinS ts ∧ (K = 0 → P = []) ∧ ND.drop J.toNat = l' ∧ l'.length ≤ l1.length ∧ P.length + cost l' ≤ cost l1 ∧ St W0 A0 c0 N b1 b2 b3 (out ++ 40 :: P) wr
theorem ret_i {a b : Int} (h : a = b) : Ending.returned (.int .i64 a) = .returned (.int .i64 b) := by rw [h]
theorem texts_cons {m : Nat} {l r : List Nd} {ts : List (List UInt8)} (h : Tree.Kids (m + 1) l r ts) : ∃ u us, ts = u :: us := by
  have := kids_texts h
  cases ts with
  | nil => simp at this
  | cons u us => exact ⟨u, us, rfl⟩
theorem texts_nil {l r : List Nd} {ts : List (List UInt8)} (h : Tree.Kids 0 l r ts) : ts = [] ∧ l = r := by
  cases h; exact ⟨rfl, rfl⟩
theorem one_len {l m : List Nd} {u : List UInt8} (h : Tree.Kids 1 l m [u]) : m.length < l.length ∧ u.length + 1 + cost m ≤ cost l := by
  obtain ⟨p, e, hp⟩ := kids_drop h; have := kids_cost h; rw [sumL_cons] at this; refine ⟨by rw [e, List.length_append]; omega, by simp [sumL] at this; omega⟩
theorem drop_next {ND l m p : List Nd} {J N : Nat} (hN : ND.length = N) (h : ND.drop J = l) (e : l = p ++ m) : ND.drop (N - m.length) = m := by
  have hl : l.length = N - J := by rw [← h, List.length_drop, hN]
  by_cases hJ : J ≤ N
  · have e2 : N - m.length = J + p.length := by rw [e, List.length_append] at hl; omega
    rw [e2, ← List.drop_drop, h, e, List.drop_left]
  · have : l = [] := List.eq_nil_of_length_eq_zero (by omega); rw [this] at e; have hm : m = [] := (List.append_eq_nil_iff.1 e.symm).2; rw [hm]; simp [← hN]
theorem new_kept {W0 w w1 : World} {A0 : Option Addr} {c0 N b1 b2 b3 : Nat} {out : List UInt8} (h : St W0 A0 c0 N b1 b2 b3 out w) (cs : Array Value) (hk : Lib.OthersKept 5 (some b2) (w.alloc (.cells cs 43)) w1) : w1.heap[w.heap.size]? = some (.cells cs 43 (0, 0)) := by
  have hb : b2 < w.heap.size := h.bu.elim (fun x => x.lt) (fun x => x.lt); refine hk _ _ ?_ (fun e => ?_) ?_
  · show (w.heap.push _)[w.heap.size]? = _; rw [Array.getElem?_push, if_pos rfl]
  · have := Option.some.inj e; omega
  · intro c fz h; injection h with _ h _; exact absurd h (by decide)
section
variable {W0 w : World} {A0 : Option Addr} {c0 b1 b2 b3 : Nat} {l0 : List S43} {out : List UInt8}
theorem wr_list (hr0 : Kd.C k43 W0 A0 l0.length l0) (i : Int) (h0 : 0 ≤ i) (h1 : i < l0.length) (t : ByteArray) (n a : Int) (hx : Z5 l0 i = ⟨1, t, n, a⟩) (hn : 0 ≤ n) (hn2 : n ≤ 1048576)
    (l1 r : List Nd) (ts : List (List UInt8)) (hl1 : (nds l0).drop (i + 1).toNat = l1) (hK : Tree.Kids n.toNat l1 r ts) (hl : l0.length ≤ 1048576) (hr : r.length ≤ l1.length)
    (hs : St W0 A0 c0 l0.length b1 b2 b3 out w) (hsz : out.length + 2 + cost l1 ≤ 100000000)
    (IH : ∀ (l' m : List Nd) (u : List UInt8), l'.length ≤ l1.length → Tree.Kids 1 l' m [u] → ∀ (j : Int) (o : List UInt8) (W : World), 0 ≤ j → (nds l0).drop j.toNat = l' → St W0 A0 c0 l0.length b1 b2 b3 o W → o.length + cost l' ≤ 100000000 →
      Calls Tryd.prog 27 #[.int .i64 j, .pointer (some ⟨b1, 0, none⟩), .pointer (some ⟨b2, 0, none⟩), .pointer (some ⟨b3, 0, none⟩)] W fun e w' => e = .returned (.int .i64 ((l0.length : Int) - m.length)) ∧ St W0 A0 c0 l0.length b1 b2 b3 (o ++ u) w') :
    Calls Tryd.prog 27 #[.int .i64 i, .pointer (some ⟨b1, 0, none⟩), .pointer (some ⟨b2, 0, none⟩), .pointer (some ⟨b3, 0, none⟩)] w fun e w' => e = .returned (.int .i64 ((l0.length : Int) - r.length)) ∧ St W0 A0 c0 l0.length b1 b2 b3 (out ++ 40 :: (joinS ts ++ [41])) w' := by
  obtain ⟨ad, eA, hx0, hx1, hx2, hx3⟩ := at_T43 (Kd.C_below hr0 hs.bel) i h0 h1; subst eA; rw [hx] at hx0 hx1 hx2 hx3; have cN := cell_of_one hs.n1; have HS := Lib.hid hs
  have hND : (nds l0).length = l0.length := by unfold nds; rw [List.length_map]
  have hlen : l1.length = l0.length - (i + 1).toNat := by rw [← hl1, List.length_drop, hND]
  have hi1 : i + 1 = (l0.length : Int) - l1.length := (by omega); have HND := Lib.hid hND; have HL1 := Lib.hid hl1; have HKK := Lib.hid hK; have HI := Lib.hid hi1; have HIH := Lib.hid IH; clear hs hx hND hl1 hK hi1 IH hlen; have hB : W0.heap.size ≤ w.heap.size := HS.out.bel.size; go_enter Tryd.func27, Tryd.ntmps27; go_wp2_with (go_at_call 28; refine (Tryd.Builder_WriteByte_k W0.heap.size b2 (Lib.byteCells out) _ _ (HS.out.alloc _).bu (by rw [Lib.byteCells_length]; omega) (by have := hB; simp; omega)).mono ?_; rintro e w1 ⟨rfl, hbu, hbe, hok⟩; have cK : w1.cell? ⟨w.heap.size, 2, none⟩ = some (.int .i64 n) := by rw [Lib.cell_of_heap (new_kept HS.out _ hok)]; rfl); have HS1 := Lib.hid ((HS.out.alloc _).wrote hbu hbe hok (cells_byte out 40)); clear hbu hbe hok HS hB cN; go_loopw [0, 24] (fun v0 v24 wr => LRel W0 (some ad) c0 l0.length b1 b2 b3 (nds l0) l1 r ts out n v0 v24 wr) (fun v0 v24 _ => (n - intOf v24).toNat)
  case atStart => exact ⟨0, i + 1, n.toNat, l1, ts, [], by omega, by omega, rfl, rfl, HI.out, by have := HI.out; omega, HKK.out, by simp, fun _ => rfl, HL1.out, Nat.le_refl _, by simp, HS1.out⟩
  case round =>
    obtain ⟨K, J, m, l', ts', P, hK0, hKm, rfl, rfl, hJ, hlN, hk1, hP, hP0, hdr, hll, hcost, hst⟩ := hrel; have HST := Lib.hid hst; have HJ := Lib.hid hJ; have hJ0 : 0 ≤ J := (by omega); clear hst hJ
    by_cases hlt : K < n
    · obtain ⟨m', rfl⟩ : ∃ m', m = m' + 1 := ⟨m - 1, by omega⟩; obtain ⟨u, us, rfl⟩ := texts_cons hk1; obtain ⟨mm, ku, kr⟩ := kids_split hk1; obtain ⟨hml, hcm⟩ := one_len ku; obtain ⟨p, hp, _⟩ := kids_drop ku; have HNX := Lib.hid (drop_next HND.out hdr hp)
      have HC : Hid (∀ (o : List UInt8) (W : World), St W0 (some ad) c0 l0.length b1 b2 b3 o W → o.length + cost l' ≤ 100000000 →
          Calls Tryd.prog 27 #[.int .i64 J, .pointer (some ⟨b1, 0, none⟩), .pointer (some ⟨b2, 0, none⟩), .pointer (some ⟨b3, 0, none⟩)] W fun e w' => e = .returned (.int .i64 ((l0.length : Int) - mm.length)) ∧ St W0 (some ad) c0 l0.length b1 b2 b3 (o ++ u) w') :=
        fun o W h1 h2 => HIH.out l' mm u hll ku J o W hJ0 hdr h1 h2
      have HKR := Lib.hid kr; have cW := cell_of_one HST.out.n3; have hKm' : K + 1 + (m' : Int) = n := (by omega); have hout : (out ++ 40 :: P).length = out.length + 1 + P.length := (by simp; omega); have HO := Lib.hid hout; have hmN : mm.length ≤ l0.length := (by omega); have hmm : mm.length ≤ l1.length := (by omega)
      have HDJ : Hid ((nds l0).drop ((l0.length : Int) - mm.length).toNat = mm) := by
        show (nds l0).drop ((l0.length : Int) - mm.length).toNat = mm; rw [show ((l0.length : Int) - mm.length).toNat = l0.length - mm.length by omega]; exact HNX.out
      clear hk1 hp hdr kr ku hout HNX hJ0
      rcases (by omega : K = 0 ∨ 0 < K) with hz | hz
      · have hPn := hP0 hz; subst hz hPn; have HPP := Lib.hid (show u ++ us.flatMap (fun u => 32 :: u) = joinS ts from hP); clear hP hP0; go_wp2_with (go_at_call 27; refine (HC.out _ _ HST.out (by rw [HO.out]; simp; omega)).mono ?_; rintro e w2 ⟨rfl, hs2⟩)
        go_roundw
        case rel => exact ⟨1, (l0.length : Int) - mm.length, m', mm, us, u, by omega, by omega, by first | rfl | go_num, rfl, rfl, hmN, HKR.out, by rw [if_neg (by decide)]; exact HPP.out, fun h => absurd h (by decide), HDJ.out, hmm, by omega, by have := hs2; simpa using this⟩
        case measure => simp [intOf]; omega
      · have HPP := Lib.hid (show P ++ (u :: us).flatMap (fun u => 32 :: u) = joinS ts by rw [if_neg (by omega)] at hP; exact hP); clear hP hP0; have hBr : W0.heap.size ≤ wr.heap.size := HST.out.bel.size; go_wp2_with (first | (go_at_call 27; refine (HC.out _ _ HS2 (by rw [List.length_append, HO.out]; simp; omega)).mono ?_; rintro e w2 ⟨rfl, hs2⟩) | (go_at_call 28; refine (Tryd.Builder_WriteByte_k W0.heap.size b2 (Lib.byteCells (out ++ 40 :: P)) _ _ HST.out.bu (by rw [Lib.byteCells_length, HO.out]; omega) hBr).mono ?_; rintro e w1 ⟨rfl, hbu, hbe, hok⟩; have HS2 := HST.out.wrote hbu hbe hok (cells_byte (out ++ 40 :: P) 32); clear hbu hbe hok; have cW1 := cell_of_one HS2.n3))
        go_roundw
        case rel => exact ⟨K + 1, (l0.length : Int) - mm.length, m', mm, us, P ++ 32 :: u, by omega, hKm', by first | rfl | go_num, rfl, rfl, hmN, HKR.out, by rw [if_neg (by omega)]; have := HPP.out; simpa using this, fun h => absurd h (by omega), HDJ.out, hmm, by rw [List.length_append, List.length_cons]; omega, by have := hs2; simpa using this⟩
        case measure => simp [intOf]; omega
    · obtain rfl : m = 0 := by omega
      obtain ⟨rfl, rfl⟩ := texts_nil hk1
      have hPP : P = joinS ts := by
        have := hP
        by_cases hz : K = 0
        · rw [if_pos hz] at this; simpa [joinS] using this
        · rw [if_neg hz] at this; simpa using this
      have HPP := Lib.hid hPP; have hout : (out ++ 40 :: P).length = out.length + 1 + P.length := (by simp; omega); have HO := Lib.hid hout; have hBr : W0.heap.size ≤ wr.heap.size := HST.out.bel.size; clear hP hP0 hdr hk1 hPP hout; go_wp2_with (go_at_call 28; refine (Tryd.Builder_WriteByte_k W0.heap.size b2 (Lib.byteCells (out ++ 40 :: P)) _ _ HST.out.bu (by rw [Lib.byteCells_length, HO.out]; omega) hBr).mono ?_; rintro e w2 ⟨rfl, hbu, hbe, hok⟩); go_ret; exact ⟨ret_i HJ.out, by have := HST.out.wrote hbu hbe hok (cells_byte (out ++ 40 :: P) 41); rw [HPP.out] at this; simpa using this⟩
theorem head_of {j : Int} {x : Nd} {r : List Nd} (h0 : 0 ≤ j) (h : (nds l0).drop j.toNat = x :: r) : j < l0.length ∧ nd (Z5 l0 j) = x ∧ Z5 l0 j ∈ l0 ∧ (nds l0).drop (j + 1).toNat = r ∧ (l0.length : Int) - r.length = j + 1 := by
  have hl : (nds l0).length = l0.length := by unfold nds; rw [List.length_map]
  have h1 : ((nds l0).drop j.toNat).length = r.length + 1 := by rw [h]; rfl
  rw [List.length_drop, hl] at h1; have hj : j.toNat < l0.length := (by omega)
  have hg : (nds l0)[j.toNat]? = some x := by
    have := congrArg (fun l => l[0]?) h
    simpa using this
  have hr : Z5 l0 j = l0[j.toNat] := by
    unfold Z5; rw [List.getD_eq_getElem?_getD, List.getElem?_eq_getElem hj]; rfl
  refine ⟨by omega, ?_, by rw [hr]; exact List.getElem_mem hj, ?_, by omega⟩
  · unfold nds at hg; rw [List.getElem?_map, List.getElem?_eq_getElem hj] at hg; rw [hr]; exact Option.some.inj hg
  · rw [show (j + 1).toNat = j.toNat + 1 by omega, ← List.drop_drop, h]; rfl
theorem write_one (hr0 : Kd.C k43 W0 A0 l0.length l0) (hT : Tab W0) (hl : l0.length ≤ 1048576) (ht : ∀ x ∈ l0, x.f1.size ≤ 1048576) : ∀ (d : Nat) (l r : List Nd) (u : List UInt8), l.length ≤ d → Tree.Kids 1 l r [u] →
    ∀ (j : Int) (o : List UInt8) (W : World), 0 ≤ j → (nds l0).drop j.toNat = l → St W0 A0 c0 l0.length b1 b2 b3 o W → o.length + cost l ≤ 100000000 →
      Calls Tryd.prog 27 #[.int .i64 j, .pointer (some ⟨b1, 0, none⟩), .pointer (some ⟨b2, 0, none⟩), .pointer (some ⟨b3, 0, none⟩)] W fun e w' => e = .returned (.int .i64 ((l0.length : Int) - r.length)) ∧ St W0 A0 c0 l0.length b1 b2 b3 (o ++ u) w'
  | 0, l, r, u, hd, hk, _, _, _, _, _, _, _ => by have := (one_len hk).1; omega
  | d + 1, l, r, u, hd, hk, j, o, W, h0, hdr, hs, hsz => by
    rcases kids_one hk with ⟨x, rfl, hx1, hg, rfl⟩ | ⟨x, l1, ts, rfl, hx1, hg, hk1, rfl⟩
    · obtain ⟨hj, hx, hmem, hd2, hlen⟩ := head_of h0 hdr; have hty := ht _ hmem; rw [hlen]; rw [cost_cons] at hsz; subst hx; obtain ⟨k, t, n, a, hy⟩ : ∃ k t n a, Z5 l0 j = ⟨k, t, n, a⟩ := ⟨_, _, _, _, rfl⟩; rw [hy] at hty hx1 hg hsz ⊢; simp only [nd] at hx1 hg hsz ⊢; simp only [L_length] at hsz; simp only at hty
      have hw : word k (L t) = true := by
        unfold goodN at hg; rw [Bool.and_eq_true] at hg; exact hg.2
      unfold word at hw; rw [if_neg hx1] at hw
      by_cases h2 : k = 2
      · subst h2; exact wr_k2 hr0 j h0 hj t n a hy hs hty (by omega) hl
      rw [if_neg h2] at hw
      by_cases h3 : k = 3
      · subst h3; have := wr_k3 hr0 j h0 hj t n a hy hs hty (by omega) hl; exact this
      rw [if_neg h3] at hw
      by_cases h4 : k = 4
      · subst h4; have := wr_k4 hr0 j h0 hj t n a hy hs hty (by omega) hl; exact this
      rw [if_neg h4] at hw
      by_cases h5 : k = 5
      · subst h5; have := wr_k5 hr0 j h0 hj t n a hy hs hty (by omega) hl; exact this
      rw [if_neg h5] at hw
      by_cases h6 : k = 6
      · subst h6; exact wr_k6 hr0 j h0 hj t n a hy hs hty (by omega) hl hT
      rw [if_neg h6] at hw
      by_cases h7 : k = 7
      · subst h7; have := wr_k7 hr0 j h0 hj t n a hy hs hty (by omega) hl; exact this
      rw [if_neg h7] at hw; cases hw
    · obtain ⟨hj, hx, hmem, hd2, hlen⟩ := head_of h0 hdr; rw [cost_cons] at hsz; subst hx; obtain ⟨k, t, n, a, hy⟩ : ∃ k t n a, Z5 l0 j = ⟨k, t, n, a⟩ := ⟨_, _, _, _, rfl⟩; rw [hy] at hx1 hg hsz hk1; simp only [nd] at hx1 hg hsz hk1; subst hx1
      have hn : 0 ≤ n := by
        unfold goodN at hg; simp only [Bool.and_eq_true, decide_eq_true_eq] at hg; exact hg.1.1
      obtain ⟨p, hp, hpl⟩ := kids_drop hk1
      have hlp : p.length + r.length = l1.length := by rw [hp, List.length_append]
      rw [List.length_cons] at hd
      exact wr_list hr0 j h0 hj t n a hy hn (by omega) l1 r ts hd2 hk1 hl (by omega) hs (by omega)
        (fun l' m v hll hkv j' o' W' hj' hdr' hs' hsz' => write_one hr0 hT hl ht d l' m v (by omega) hkv j' o' W' hj' hdr' hs' hsz')
end
def TRel (W0 : World) (A0 : Option Addr) (c0 N b1 b2 b3 : Nat) (ND : List Nd) (T : List UInt8) (v5 : Value) (wr : World) : Prop :=
  ∃ (J : Int) (m : Nat) (l' : List Nd) (ts' : List (List UInt8)) (out : List UInt8), v5 = .int .i64 J ∧ J = (N : Int) - l'.length ∧ l'.length ≤ N ∧ Tree.Kids m l' [] ts' ∧ out ++ ts'.flatMap (fun t => t ++ [10]) = T ∧ ND.drop J.toNat = l' ∧ out.length + cost l' ≤ 1000000 ∧ St W0 A0 c0 N b1 b2 b3 out wr
theorem kids_end {m : Nat} {l : List Nd} {ts : List (List UInt8)} (h : Tree.Kids m l [] ts) : (l = [] ∧ ts = []) ∨ (∃ m', m = m' + 1 ∧ l ≠ []) := by
  cases m with
  | zero => obtain ⟨h1, h2⟩ := texts_nil h; exact .inl ⟨h2, h1⟩
  | succ m' =>
    refine .inr ⟨m', rfl, fun e => ?_⟩; obtain ⟨p, hp, hl⟩ := kids_drop h; rw [e] at hp; have := (List.append_eq_nil_iff.1 hp.symm).1; rw [this] at hl; simp at hl
theorem ret_s {a b : ByteArray} (h : a = b) : Ending.returned (.string a) = .returned (.string b) := by rw [h]
theorem heap_new (w : World) (o : Obj) : (w.alloc o).heap[w.heap.size]? = some o := by
  show (w.heap.push _)[w.heap.size]? = _; rw [Array.getElem?_push, if_pos rfl]
theorem fresh_at (B : Nat) (W : World) (hB : B ≤ W.heap.size) : Lib.IsBuilderF 51 5 B W.heap.size (Lib.byteCells []) (W.alloc (.cells #[.pointer none, .slice none 0 0] 51)) :=
  .inl ⟨hB, .slice none 0 0, heap_new _ _, ⟨rfl, .inl ⟨rfl, rfl⟩⟩, by simp [Value.ownBlock]⟩
theorem St.start {W0 w1 : World} {A0 : Option Addr} {c0 N : Nat} (hb1 : Below (W0.alloc (.cells #[.slice A0 N c0] 25)).heap.size (W0.alloc (.cells #[.slice A0 N c0] 25)) w1) :
    St W0 A0 c0 N W0.heap.size w1.heap.size (w1.heap.size + 1) [] ((w1.alloc (.cells #[.pointer none, .slice none 0 0] 51)).alloc
      (.cells #[.func (.func 27) #[] #[.pointer (some ⟨W0.heap.size, 0, none⟩), .pointer (some ⟨w1.heap.size, 0, none⟩), .pointer (some ⟨w1.heap.size + 1, 0, none⟩)]] 52)) := by
  have hz : W0.heap.size + 1 ≤ w1.heap.size := by have := hb1.size; simp at this; exact this
  refine ⟨?_, ?_, ?_, ?_⟩
  · exact ((((Below.refl _ _).alloc (Nat.le_refl _) _).trans (hb1.mono (by simp))).alloc (by omega) _).alloc (by simp; omega) _
  · rw [Below.heap_alloc _ _ _ (by simp; omega), Below.heap_alloc _ _ _ (by omega), hb1.block _ (by simp)]; exact heap_new _ _
  · have := heap_new (w1.alloc (.cells #[.pointer none, .slice none 0 0] 51)) (.cells #[.func (.func 27) #[] #[.pointer (some ⟨W0.heap.size, 0, none⟩), .pointer (some ⟨w1.heap.size, 0, none⟩), .pointer (some ⟨w1.heap.size + 1, 0, none⟩)]] 52); rw [show (w1.alloc (.cells #[.pointer none, .slice none 0 0] 51)).heap.size = w1.heap.size + 1 by simp] at this; exact this
  · exact (fresh_at _ _ (by omega)).alloc _
section
variable {w : World} {A0 : Option Addr} {c0 : Nat} {l0 : List S43}
theorem writeTree_any (hr0 : Kd.C k43 w A0 l0.length l0) (hc0 : l0.length ≤ c0) (hT : Tab w) (hl : l0.length ≤ 1048576) (hB : ∀ x ∈ l0, x.f1.size ≤ 1048576 ∧ x.f2 ≤ 9223372036854775807) :
    Calls Tryd.prog 13 #[.slice A0 l0.length c0] w fun e w' => e = .returned (.string ⟨(treeText (nds l0)).toArray⟩) ∧ Below w.heap.size w w' := by
  have hmf : ∀ (fn : Fn) (first cap : Array Value) (w : World), (Instr.makeFunc fn first cap).run Tryd.prog w = .ok (.func fn first cap) w := fun _ _ _ _ => rfl
  obtain ⟨kr, hkr⟩ := (right_is hB).get
  have hnl : (nds l0).length = l0.length := by unfold nds; rw [List.length_map]
  have HR : Hid (∀ W, Below w.heap.size w W → Calls Tryd.prog 25 #[.slice A0 l0.length c0] W fun e w' => e = .returned (.bool (decide (l0.length ≤ 8000) && implR (nds l0) [] 0)) ∧ Below W.heap.size W w') :=
    fun W hb => Zk.calls kr A0 c0 l0 _ W (hT.here hb) (Kd.C_below hr0 hb) hc0 hkr
  clear hkr
  cases hv : (decide (l0.length ≤ 8000) && implR (nds l0) [] 0) with
  | false =>
    rw [hv] at HR
    have e : treeText (nds l0) = [] := by unfold treeText; rw [hnl, hv]; rfl
    rw [e]; clear hv e hnl; go_enter Tryd.func13, Tryd.ntmps13; go_wp2_with (go_at_call 25; refine (HR.out _ ((Below.refl _ _).alloc (Nat.le_refl _) _)).mono ?_; rintro e w1 ⟨rfl, hb1⟩); go_ret; exact ⟨rfl, ((Below.refl _ _).alloc (Nat.le_refl _) _).trans (hb1.mono (by simp))⟩
  | true =>
    rw [hv] at HR
    have e : treeText (nds l0) = specW (nds l0) [] [] := by unfold treeText; rw [hnl, hv]; rfl
    rw [e]; rw [Bool.and_eq_true, decide_eq_true_eq, ← form_right] at hv; obtain ⟨n, ts, hK⟩ := form_kids hv.2; have hW := spec_whole hK; have htot := form_total _ _ _ (by omega) hv.2; rw [hnl] at htot; have hl8 := hv.1; rw [hW]; clear e hv hW; go_enter Tryd.func13, Tryd.ntmps13; go_wp2_with (go_at_call 25; refine (HR.out _ ((Below.refl _ _).alloc (Nat.le_refl _) _)).mono ?_; rintro e w1 ⟨rfl, hb1⟩); have HS := Lib.hid (St.start hb1); have HND := Lib.hid hnl; have HK := Lib.hid hK; clear hb1 HR hnl hK; go_loopw [5] (fun v5 wr => TRel w A0 c0 l0.length w.heap.size w1.heap.size (w1.heap.size + 1) (nds l0) (ts.flatMap (fun t => t ++ [10])) v5 wr) (fun v5 _ => l0.length - (intOf v5).toNat)
    case atStart => exact ⟨0, n, nds l0, ts, [], rfl, by rw [HND.out]; omega, by rw [HND.out]; omega, HK.out, rfl, rfl, by simp; omega, HS.out⟩
    case round =>
      obtain ⟨J, m, l', ts', out, rfl, hJ, hlN, hk1, hT2, hdr, hcost, hst⟩ := hrel; have HST := Lib.hid hst; have hJ0 : 0 ≤ J := (by omega); have cN := cell_of_one hst.n1; have cW := cell_of_one hst.n3; clear hst
      rcases kids_end hk1 with ⟨rfl, rfl⟩ | ⟨m', rfl, hne⟩
      · have hJN : J = (l0.length : Int) := by simpa using hJ
        have HT2 := Lib.hid (show out = ts.flatMap (fun t => t ++ [10]) by simpa using hT2); clear hT2 hdr hk1 hJ; have hge : ¬ J < (l0.length : Int) := (by omega); have hB2 : w.heap.size ≤ wr.heap.size := HST.out.bel.size; clear hJN; go_wp2_with (go_at_call 32; refine (Tryd.Builder_String_any_k w.heap.size w1.heap.size out _ HST.out.bu hB2).mono ?_; rintro e w2 ⟨rfl, hbu, hbe, hok⟩); go_ret; exact ⟨ret_s (by rw [HT2.out]), HST.out.bel.trans hbe⟩
      · obtain ⟨u, us, rfl⟩ := texts_cons hk1; obtain ⟨mm, ku, kr⟩ := kids_split hk1; obtain ⟨hml, hcm⟩ := one_len ku; obtain ⟨p, hp, _⟩ := kids_drop ku; have hlt : J < (l0.length : Int) := (by omega); have HNX := Lib.hid (drop_next HND.out hdr hp)
        have HC : Hid (∀ (o : List UInt8) (W : World), St w A0 c0 l0.length w.heap.size w1.heap.size (w1.heap.size + 1) o W → o.length + cost l' ≤ 100000000 →
            Calls Tryd.prog 27 #[.int .i64 J, .pointer (some ⟨w.heap.size, 0, none⟩), .pointer (some ⟨w1.heap.size, 0, none⟩), .pointer (some ⟨w1.heap.size + 1, 0, none⟩)] W fun e w' => e = .returned (.int .i64 ((l0.length : Int) - mm.length)) ∧ St w A0 c0 l0.length w.heap.size w1.heap.size (w1.heap.size + 1) (o ++ u) w') :=
          fun o W h1 h2 => write_one hr0 hT hl (fun x hx => (hB x hx).1) l'.length l' mm u (Nat.le_refl _) ku J o W hJ0 hdr h1 h2
        have HKR := Lib.hid kr; have hmN : mm.length ≤ l0.length := (by omega)
        have HDJ : Hid ((nds l0).drop ((l0.length : Int) - mm.length).toNat = mm) := by
          show (nds l0).drop ((l0.length : Int) - mm.length).toNat = mm; rw [show ((l0.length : Int) - mm.length).toNat = l0.length - mm.length by omega]; exact HNX.out
        have HT2 := Lib.hid (show out ++ u ++ [10] ++ us.flatMap (fun t => t ++ [10]) = ts.flatMap (fun t => t ++ [10]) by rw [← hT2]; simp); have hB2 : w.heap.size ≤ wr.heap.size := HST.out.bel.size; have HJ := Lib.hid hJ; have hou : (out ++ u).length = out.length + u.length := (by simp); have HOU := Lib.hid hou; clear hk1 hp hdr kr ku HNX hT2 hJ hou; go_wp2_with (first | (go_at_call 27; refine (HC.out _ _ HST.out (by omega)).mono ?_; rintro e w2 ⟨rfl, hs2⟩; have HS2 := Lib.hid hs2; have hz2 : w.heap.size ≤ w2.heap.size := hs2.bel.size; clear hs2) | (go_at_call 28; refine (Tryd.Builder_WriteByte_k w.heap.size w1.heap.size (Lib.byteCells (out ++ u)) _ _ HS2.out.bu (by rw [Lib.byteCells_length, HOU.out]; omega) hz2).mono ?_; rintro e w3 ⟨rfl, hbu, hbe, hok⟩))
        go_roundw
        case rel => exact ⟨(l0.length : Int) - mm.length, m', mm, us, out ++ u ++ [10], rfl, rfl, hmN, HKR.out, HT2.out, HDJ.out, by rw [List.length_append, HOU.out]; simp; omega, HS2.out.wrote hbu hbe hok (cells_byte (out ++ u) 10)⟩
        case measure => have := HJ.out; simp [intOf]; omega
end
end Go.Proofs.YtbeelgaganbblaaDoor.Wt
namespace Go.Proofs.YtbeelgaganbblaaDoor
open Go.RowKit Go.Proofs.YtbeelgaganbblaaDoorW.PrintWords Go.Proofs.YtbeelgaganbblaaDoor.By Go.Proofs.YtbeelgaganbblaaDoor.Tree Go.Proofs.YtbeelgaganbblaaDoor.Gn Go.Proofs.YtbeelgaganbblaaDoor.Gp Go.Proofs.YtbeelgaganbblaaDoor.PFnExactGoodTree
def impl_WriteTree.f (l0 : List S43) : Option ByteArray := if l0.length ≤ 1048576 ∧ (∀ x ∈ l0, x.f1.size ≤ 1048576 ∧ x.f2 ≤ 9223372036854775807) then some (⟨(treeText (nds l0)).toArray⟩ : ByteArray) else none
theorem impl_WriteTree.calls (A0 : Option Addr) (c0 : Nat) (l0 : List S43) (r : ByteArray) (w : World) (hT : Tab w) (hr0 : Kd.C k43 w A0 l0.length l0) (hc0 : l0.length ≤ c0) (h : impl_WriteTree.f l0 = some r) :
    Calls Tryd.prog 13 #[.slice A0 l0.length c0] w fun e w' => e = .returned (.string r) ∧ Below w.heap.size w w' := by
  unfold impl_WriteTree.f at h
  split at h
  · rename_i hc
    rw [← Option.some.inj h]; exact Wt.writeTree_any hr0 hc0 hT hc.1 hc.2
  · cases h
end Go.Proofs.YtbeelgaganbblaaDoor
namespace Go.Proofs.YtbeelgaganbblaaDoor.PFnExactGoodTree
open Go.RowKit Go.Proofs.YtbeelgaganbblaaDoorW.PrintWords Go.Proofs.YtbeelgaganbblaaDoorW.PrintLast Go.Proofs.YtbeelgaganbblaaDoorW.PrintMore
attribute [local go_sem] max2_int min2_int max_two min_two max_three min_three max_four min_four
set_option linter.unusedVariables false
set_option linter.unusedSimpArgs false
def impl_GoodTree.f (k : Nat) (l0 : List (S43)) : Option (Bool) := (Zk.f k l0).bind fun t218 => (if t218 = true then ((impl_WriteTree.f l0).bind fun t219 => (some (decide ((t219.size : Int) ≤ 20000)))) else (some false))
set_option maxHeartbeats 8000000 in
set_option maxRecDepth 100000 in
theorem impl_GoodTree.calls (k : Nat) (A0 : Option Addr) (c0 : Nat) (l0 : List (S43)) (r : Bool) (w : World) (hT : Gn.Tab w) (hr0 : Kd.C k43 w A0 l0.length l0) (hc0 : l0.length ≤ c0) (h : impl_GoodTree.f k l0 = some r) :
    Calls Tryd.prog 10 #[.slice A0 l0.length c0] w fun e w' => e = .returned (.bool r) ∧ Below w.heap.size w w' := by
  have HR0 := Z2.mk hr0; have HC0 := Z2.mk hc0; clear hr0 hc0; have HT := Z2.mk hT; clear hT; have HB := Z2.mk (Below.refl w.heap.size w); have H : ((Zk.f k l0).bind fun t218 => (if t218 = true then ((impl_WriteTree.f l0).bind fun t219 => (some (decide ((t219.size : Int) ≤ 20000)))) else (some false))) = some r := h; clear h; replace H := Option.bind_eq_some_iff.mp H; obtain ⟨t218, A20, H⟩ := H; replace H : (if t218 = true then ((impl_WriteTree.f l0).bind fun t219 => (some (decide ((t219.size : Int) ≤ 20000)))) else (some false)) = some r := H; have A2 := Z2.mk A20; clear A20
  by_cases c3 : t218 = true
  · subst c3
    have H1 : ((impl_WriteTree.f l0).bind fun t219 => (some (decide ((t219.size : Int) ≤ 20000)))) = some r := by rw [if_pos rfl] at H; exact H
    clear H; have H := H1; clear H1; replace H := Option.bind_eq_some_iff.mp H; obtain ⟨t219, A40, H⟩ := H; replace H : (some (decide ((t219.size : Int) ≤ 20000))) = some r := H; have A4 := Z2.mk A40; clear A40; obtain rfl := Option.some.inj H; go_enter Tryd.func10, Tryd.ntmps10; go_wp2_with (first | ((with_reducible refine Zu (f := 25) rfl ?_); refine ZL (some 4) rfl rfl Tryd.func25 (by kernel_rfl) rfl #[.slice A0 l0.length c0] rfl (by (try simp only [List.map_toArray, List.map_cons, List.map_nil]); first | done | rfl | (simp only [List.length_drop, List.length_take]; rfl)) ?_; (with_reducible refine (Zk.calls k _ _ l0 true _ (HT.out.here (by repeat (first | (with_reducible first | exact HB.out | apply Z3 | apply Z0 | apply Z4) | exact HB.out))) ?side1 ?side2 A2.out).mono ?_); (case side1 => repeat (first | exact HR0.out | (with_reducible refine Kd.C_alloc ?_ _) | (with_reducible refine Kd.C_drewN ?_ _) | (with_reducible refine Kd.C_drew ?_))); (case side2 => exact HC0.out); rintro e w5 ⟨rfl, hb⟩; refine ⟨_, rfl, ?_⟩; have n0_ := Z2.mk (Zt (by repeat (first | (with_reducible first | exact HB.out | apply Z3 | apply Z0 | apply Z4) | exact HB.out)) hb); clear HB; have HB := n0_; clear n0_; (try clear hb); (try clear hb2); (try clear hk); (try clear hi)) | (go_at_call 13; (with_reducible refine (impl_WriteTree.calls _ _ l0 t219 _ (HT.out.here (by repeat (first | (with_reducible first | exact HB.out | apply Z3 | apply Z0 | apply Z4) | exact HB.out))) ?side1 ?side2 A4.out).mono ?_); (case side1 => repeat (first | exact (Kd.C_below HR0.out HB.out) | (with_reducible refine Kd.C_alloc ?_ _) | (with_reducible refine Kd.C_drewN ?_ _) | (with_reducible refine Kd.C_drew ?_))); (case side2 => exact HC0.out); rintro e w6 ⟨rfl, hb⟩; have n0_ := Z2.mk (Zt (by repeat (first | (with_reducible first | exact HB.out | apply Z3 | apply Z0 | apply Z4) | exact HB.out)) hb); clear HB; have HB := n0_; clear n0_; (try clear hb); (try clear hb2); (try clear hk); (try clear hi))); go_ret; exact ⟨by first | rfl | (simp [Zj, Zi] <;> rfl) | (simp [*, Zj, Zi] <;> rfl), by repeat (first | (with_reducible first | exact HB.out | apply Z3 | apply Z0 | apply Z4) | exact HB.out)⟩
  · replace c3 := Bool.eq_false_iff.mpr c3; subst c3
    have H1 : (some false) = some r := by rw [if_neg (show ¬ (false = true) by decide)] at H; exact H
    clear H; have H := H1; clear H1; obtain rfl := Option.some.inj H; go_enter Tryd.func10, Tryd.ntmps10; go_wp2_with (first | ((with_reducible refine Zu (f := 25) rfl ?_); refine ZL (some 4) rfl rfl Tryd.func25 (by kernel_rfl) rfl #[.slice A0 l0.length c0] rfl (by (try simp only [List.map_toArray, List.map_cons, List.map_nil]); first | done | rfl | (simp only [List.length_drop, List.length_take]; rfl)) ?_; (with_reducible refine (Zk.calls k _ _ l0 false _ (HT.out.here (by repeat (first | (with_reducible first | exact HB.out | apply Z3 | apply Z0 | apply Z4) | exact HB.out))) ?side1 ?side2 A2.out).mono ?_); (case side1 => repeat (first | exact HR0.out | (with_reducible refine Kd.C_alloc ?_ _) | (with_reducible refine Kd.C_drewN ?_ _) | (with_reducible refine Kd.C_drew ?_))); (case side2 => exact HC0.out); rintro e w7 ⟨rfl, hb⟩; refine ⟨_, rfl, ?_⟩; have n0_ := Z2.mk (Zt (by repeat (first | (with_reducible first | exact HB.out | apply Z3 | apply Z0 | apply Z4) | exact HB.out)) hb); clear HB; have HB := n0_; clear n0_; (try clear hb); (try clear hb2); (try clear hk); (try clear hi))); go_ret; exact ⟨by first | rfl | (simp [Zj, Zi] <;> rfl) | (simp [*, Zj, Zi] <;> rfl), by repeat (first | (with_reducible first | exact HB.out | apply Z3 | apply Z0 | apply Z4) | exact HB.out)⟩
def spec_WriteTree.f (k : Nat) (l0 : List (S43)) : Option (ByteArray) := (Zp.f k l0).bind fun t101 => (if t101 = true then ((Zo.f k l0).bind fun t102 => (some t102)) else (some (⟨#[]⟩ : ByteArray)))
set_option maxHeartbeats 8000000 in
set_option maxRecDepth 100000 in
theorem spec_WriteTree.calls (k : Nat) (A0 : Option Addr) (c0 : Nat) (l0 : List (S43)) (r : ByteArray) (w : World) (hr0 : Kd.C k43 w A0 l0.length l0) (hc0 : l0.length ≤ c0) (h : spec_WriteTree.f k l0 = some r) :
    Calls Tryd.prog 12 #[.slice A0 l0.length c0] w fun e w' => e = .returned (.string r) ∧ Below w.heap.size w w' := by
  have HR0 := Z2.mk hr0; have HC0 := Z2.mk hc0; clear hr0 hc0; have HB := Z2.mk (Below.refl w.heap.size w); have H : ((Zp.f k l0).bind fun t101 => (if t101 = true then ((Zo.f k l0).bind fun t102 => (some t102)) else (some (⟨#[]⟩ : ByteArray)))) = some r := h; clear h; replace H := Option.bind_eq_some_iff.mp H; obtain ⟨t101, A20, H⟩ := H; replace H : (if t101 = true then ((Zo.f k l0).bind fun t102 => (some t102)) else (some (⟨#[]⟩ : ByteArray))) = some r := H; have A2 := Z2.mk A20; clear A20
  by_cases c3 : t101 = true
  · subst c3
    have H1 : ((Zo.f k l0).bind fun t102 => (some t102)) = some r := by rw [if_pos rfl] at H; exact H
    clear H; have H := H1; clear H1; replace H := Option.bind_eq_some_iff.mp H; obtain ⟨t102, A40, H⟩ := H; replace H : (some t102) = some r := H; have A4 := Z2.mk A40; clear A40; obtain rfl := Option.some.inj H; go_enter Tryd.func12, Tryd.ntmps12; go_wp2_with (first | ((with_reducible refine Zu (f := 22) rfl ?_); refine ZL (some 4) rfl rfl Tryd.func22 (by kernel_rfl) rfl #[.slice A0 l0.length c0] rfl (by (try simp only [List.map_toArray, List.map_cons, List.map_nil]); first | done | rfl | (simp only [List.length_drop, List.length_take]; rfl)) ?_; (with_reducible refine (Zp.calls k _ _ l0 true _ ?side1 ?side2 A2.out).mono ?_); (case side1 => repeat (first | exact HR0.out | (with_reducible refine Kd.C_alloc ?_ _) | (with_reducible refine Kd.C_drewN ?_ _) | (with_reducible refine Kd.C_drew ?_))); (case side2 => exact HC0.out); rintro e w5 ⟨rfl, hb⟩; refine ⟨_, rfl, ?_⟩; have n0_ := Z2.mk (Zt (by repeat (first | (with_reducible first | exact HB.out | apply Z3 | apply Z0 | apply Z4) | exact HB.out)) hb); clear HB; have HB := n0_; clear n0_; (try clear hb); (try clear hb2); (try clear hk); (try clear hi)) | ((with_reducible refine Zu (f := 23) rfl ?_); refine ZL (some 7) rfl rfl Tryd.func23 (by kernel_rfl) rfl #[.slice A0 l0.length c0] rfl (by (try simp only [List.map_toArray, List.map_cons, List.map_nil]); first | done | rfl | (simp only [List.length_drop, List.length_take]; rfl)) ?_; (with_reducible refine (Zo.calls k _ _ l0 t102 _ ?side1 ?side2 A4.out).mono ?_); (case side1 => repeat (first | exact (Kd.C_below HR0.out HB.out) | (with_reducible refine Kd.C_alloc ?_ _) | (with_reducible refine Kd.C_drewN ?_ _) | (with_reducible refine Kd.C_drew ?_))); (case side2 => exact HC0.out); rintro e w6 ⟨rfl, hb⟩; refine ⟨_, rfl, ?_⟩; have n0_ := Z2.mk (Zt (by repeat (first | (with_reducible first | exact HB.out | apply Z3 | apply Z0 | apply Z4) | exact HB.out)) hb); clear HB; have HB := n0_; clear n0_; (try clear hb); (try clear hb2); (try clear hk); (try clear hi))); go_ret; exact ⟨by first | rfl | (simp [Zj, Zi] <;> rfl) | (simp [*, Zj, Zi] <;> rfl), by repeat (first | (with_reducible first | exact HB.out | apply Z3 | apply Z0 | apply Z4) | exact HB.out)⟩
  · replace c3 := Bool.eq_false_iff.mpr c3; subst c3
    have H1 : (some (⟨#[]⟩ : ByteArray)) = some r := by rw [if_neg (show ¬ (false = true) by decide)] at H; exact H
    clear H; have H := H1; clear H1; obtain rfl := Option.some.inj H; go_enter Tryd.func12, Tryd.ntmps12; go_wp2_with (first | ((with_reducible refine Zu (f := 22) rfl ?_); refine ZL (some 4) rfl rfl Tryd.func22 (by kernel_rfl) rfl #[.slice A0 l0.length c0] rfl (by (try simp only [List.map_toArray, List.map_cons, List.map_nil]); first | done | rfl | (simp only [List.length_drop, List.length_take]; rfl)) ?_; (with_reducible refine (Zp.calls k _ _ l0 false _ ?side1 ?side2 A2.out).mono ?_); (case side1 => repeat (first | exact HR0.out | (with_reducible refine Kd.C_alloc ?_ _) | (with_reducible refine Kd.C_drewN ?_ _) | (with_reducible refine Kd.C_drew ?_))); (case side2 => exact HC0.out); rintro e w7 ⟨rfl, hb⟩; refine ⟨_, rfl, ?_⟩; have n0_ := Z2.mk (Zt (by repeat (first | (with_reducible first | exact HB.out | apply Z3 | apply Z0 | apply Z4) | exact HB.out)) hb); clear HB; have HB := n0_; clear n0_; (try clear hb); (try clear hb2); (try clear hk); (try clear hi))); go_ret; exact ⟨by first | rfl | (simp [Zj, Zi] <;> rfl) | (simp [*, Zj, Zi] <;> rfl), by repeat (first | (with_reducible first | exact HB.out | apply Z3 | apply Z0 | apply Z4) | exact HB.out)⟩
end Go.Proofs.YtbeelgaganbblaaDoor.PFnExactGoodTree
namespace Go.Proofs.YtbeelgaganbblaaDoor.Gl
open Go.RowKit Go.Proofs.YtbeelgaganbblaaDoor Go.Proofs.YtbeelgaganbblaaDoorW.PrintWords Go.Proofs.YtbeelgaganbblaaDoor.By Go.Proofs.YtbeelgaganbblaaDoor.Tok Go.Proofs.YtbeelgaganbblaaDoor.Tree Go.Proofs.YtbeelgaganbblaaDoor.Gn Go.Proofs.YtbeelgaganbblaaDoor.Gp Go.Proofs.YtbeelgaganbblaaDoor.PFnExactGoodTree
set_option linter.unusedVariables false
set_option linter.unusedSimpArgs false
set_option maxRecDepth 100000
def goodB (N : List Nd) : Bool := (decide (N.length ≤ 8000) && implR N [] 0) && decide ((treeText N).length ≤ 20000)
theorem nds_len (l : List S43) : (nds l).length = l.length := by unfold nds; rw [List.length_map]
section
variable {l : List S43}
theorem spec_good (hB : ∀ x ∈ l, x.f1.size ≤ 1048576 ∧ x.f2 ≤ 9223372036854775807) : Evt (fun k => spec_GoodTree.f k l) (goodB (nds l)) := by
  have hf := form_is hB; rw [form_right] at hf; unfold goodB treeText; rw [nds_len]
  cases hv : (decide (l.length ≤ 8000) && implR (nds l) [] 0) with
  | false =>
    rw [hv] at hf; rw [Bool.false_and]; exact Evt.bind hf (Evt.pure fun k => by rw [if_neg (by decide)])
  | true =>
    rw [hv] at hf; rw [Bool.and_eq_true, decide_eq_true_eq, ← form_right] at hv; have ht := form_total _ _ _ (by omega) hv.2; rw [nds_len] at ht; have hw := write_is hv.1 hB hv.2 (by omega); rw [if_pos rfl, Bool.true_and]; refine Evt.bind hf (Evt.same (fun k => by rw [if_pos rfl]) (Evt.bind hw (Evt.pure fun k => ?_)))
    congr 1
    exact decide_eq_decide.2 (by rw [mk_size]; omega)
theorem impl_good (hl : l.length ≤ 1048576) (hB : ∀ x ∈ l, x.f1.size ≤ 1048576 ∧ x.f2 ≤ 9223372036854775807) : Evt (fun k => impl_GoodTree.f k l) (goodB (nds l)) := by
  have hf := right_is hB
  have hw : impl_WriteTree.f l = some (⟨(treeText (nds l)).toArray⟩ : ByteArray) := by unfold impl_WriteTree.f; rw [if_pos ⟨hl, hB⟩]
  unfold goodB; rw [nds_len]
  cases hv : (decide (l.length ≤ 8000) && implR (nds l) [] 0) with
  | false =>
    rw [hv] at hf; rw [Bool.false_and]; exact Evt.bind hf (Evt.pure fun k => by rw [if_neg (by decide)])
  | true =>
    rw [hv] at hf; rw [Bool.true_and]; refine Evt.bind hf (Evt.pure fun k => ?_); rw [if_pos rfl, hw, Option.bind_some]
    congr 1
    exact decide_eq_decide.2 (by rw [mk_size]; omega)
end
section
variable {l : List S43}
theorem spec_write (hB : ∀ x ∈ l, x.f1.size ≤ 1048576 ∧ x.f2 ≤ 9223372036854775807) : Evt (fun k => spec_WriteTree.f k l) (⟨(treeText (nds l)).toArray⟩ : ByteArray) := by
  have hf := form_is hB; rw [form_right] at hf; unfold treeText; rw [nds_len]
  cases hv : (decide (l.length ≤ 8000) && implR (nds l) [] 0) with
  | false =>
    rw [hv] at hf; exact Evt.bind hf (Evt.pure fun k => by rw [if_neg (by decide)]; rfl)
  | true =>
    rw [hv] at hf; rw [Bool.and_eq_true, decide_eq_true_eq, ← form_right] at hv; have ht := form_total _ _ _ (by omega) hv.2; rw [nds_len] at ht; have hw := write_is hv.1 hB hv.2 (by omega); rw [if_pos rfl]; exact Evt.bind hf (Evt.same (fun k => by rw [if_pos rfl]) (Evt.bind hw (Evt.pure fun k => rfl)))
end
end Go.Proofs.YtbeelgaganbblaaDoor.Gl
namespace Go.Proofs.YtbeelgaganbblaaDoor.Tl
open Go.RowKit Go.Proofs.YtbeelgaganbblaaDoor Go.Proofs.YtbeelgaganbblaaDoorW.PrintWords Go.Proofs.YtbeelgaganbblaaDoorW.PrintLast Go.Proofs.YtbeelgaganbblaaDoor.By Go.Proofs.YtbeelgaganbblaaDoor.Tree Go.Proofs.YtbeelgaganbblaaDoor.Gp Go.Proofs.YtbeelgaganbblaaDoor.Dr Go.Proofs.YtbeelgaganbblaaDoor.Rt Go.Proofs.YtbeelgaganbblaaDoor.PFnExactGoodTree
set_option linter.unusedVariables false
set_option linter.unusedSimpArgs false
set_option maxRecDepth 100000
theorem draw_any (A0 : Option Addr) (c0 : Nat) (l : List Int) (w : World) (hr0 : Kd.C (Kd.int .u8) w A0 l.length l) (hc0 : l.length ≤ c0) (hcd : Cd l) (hl : l.length ≤ 140737488355328) :
    Calls Tryd.prog 19 #[.slice A0 l.length c0] w (Out w) := by
  have H : Hid (Calls Tryd.prog 42 #[.slice A0 l.length c0] w (Out w)) := nodes_any A0 c0 l w hr0 hc0 hcd hl; clear hr0 hcd; go_enter Tryd.func19, Tryd.ntmps19; go_wp2_with (fail); refine H.out.mono ?_; intro e w1 hO; obtain ⟨v, nl, rfl, hR, hnb, hlen, hB⟩ := hO; have HR := Lib.hid hR; have HNB := Lib.hid hnb; have HB := Lib.hid hB; clear hR hnb hB; go_wp2_with (fail); go_ret; exact Out.of rfl HR.out HNB.out hlen HB.out
theorem good_parts {N : List Nd} (h : Gl.goodB N = true) : N.length ≤ 8000 ∧ specF N [] 0 = true ∧ treeText N = specW N [] [] ∧ (treeText N).length ≤ 20000 := by
  unfold Gl.goodB at h; rw [Bool.and_eq_true] at h; have h1 := h.1; rw [Bool.and_eq_true, decide_eq_true_eq, ← form_right] at h1; refine ⟨h1.1, h1.2, ?_, of_decide_eq_true h.2⟩; unfold treeText; rw [if_pos h.1]
theorem nds_at {p l : List S43} (h : nds p = nds l) {j : Nat} (hj : j < l.length) : (Z5 p (j : Int)).f0 = (Z5 l (j : Int)).f0 ∧ (Z5 p (j : Int)).f1 = (Z5 l (j : Int)).f1 ∧ (Z5 p (j : Int)).f2 = (Z5 l (j : Int)).f2 := by
  have hlen : p.length = l.length := by have := congrArg List.length h; unfold nds at this; rw [List.length_map, List.length_map] at this; exact this
  have e := congrArg (fun x => x[j]?) h; unfold nds at e; simp only [List.getElem?_map] at e; rw [List.getElem?_eq_getElem (by omega), List.getElem?_eq_getElem hj] at e; have e2 : nd p[j] = nd l[j] := Option.some.inj e
  have r1 : Z5 p (j : Int) = p[j] := by unfold Z5; rw [Int.toNat_natCast, List.getD_eq_getElem?_getD, List.getElem?_eq_getElem (by omega)]; rfl
  have r2 : Z5 l (j : Int) = l[j] := by unfold Z5; rw [Int.toNat_natCast, List.getD_eq_getElem?_getD, List.getElem?_eq_getElem hj]; rfl
  rw [r1, r2]; unfold nd at e2
  injection e2 with q1 q2 q3
  exact ⟨q1, L_ext q2, q3⟩
set_option maxHeartbeats 8000000 in
theorem law_any (A0 : Option Addr) (c0 : Nat) (l : List Int) (w : World) (hT : Gn.Tab w) (hr0 : Kd.C (Kd.int .u8) w A0 l.length l) (hc0 : l.length ≤ c0) (hcd : Cd l) (hl : l.length ≤ 9223372036854775807) :
    Calls Tryd.prog 6 #[.slice A0 l.length c0] w fun e w' => e = .returned (.bool true) ∧ Below w.heap.size w w' := by
  by_cases hbig : 1048576 < l.length
  · have t0 : decide ((1048576 : Int) < (l.length : Int)) = true := decide_eq_true (by omega); clear hr0 hcd hT; go_enter Tryd.func6, Tryd.ntmps6; go_wp2_with (fail); go_ret; exact ⟨rfl, Below.refl _ _⟩
  have t0 : decide ((1048576 : Int) < (l.length : Int)) = false := decide_eq_false (by omega); have HD : Hid (Calls Tryd.prog 19 #[.slice A0 l.length c0] w (Out w)) := draw_any A0 c0 l w hr0 hc0 hcd (by omega); have HTB := Lib.hid hT; clear hr0 hcd hT; have hu40 := Tryd.underlying40; have hu43 := Tryd.underlying43; go_enter Tryd.func6, Tryd.ntmps6; go_wp2_with (fail); refine HD.out.mono ?_; intro e w1 hO; obtain ⟨v, nl, rfl, hR, hnb, hlen, hB⟩ := hO; obtain ⟨A1, c1, rfl⟩ := Kd.R_slice hR; obtain ⟨-, hc1, hC1⟩ := Kd.R_reads' hR
  have hbd : ∀ x ∈ nl, x.f1.size ≤ 1048576 ∧ x.f2 ≤ 9223372036854775807 := fun x hx => ⟨by have := (hnb x hx).1; omega, (hnb x hx).2⟩
  obtain ⟨k1, hk1⟩ := Gl.spec_good hbd; have HG1 : Hid (spec_GoodTree.f k1 nl = some (Gl.goodB (nds nl))) := hk1 k1 (Nat.le_refl _); have HC1 := Lib.hid hC1; have HB := Lib.hid hB; have HBD := Lib.hid hbd; clear HD hR hnb hB hC1 hk1 hbd; go_wp2_with (fail); refine (spec_GoodTree.calls k1 A1 c1 nl _ w1 HC1.out hc1 HG1.out).mono ?_; rintro e w2 ⟨rfl, hb2⟩; have HC2 := Lib.hid (Kd.C_below HC1.out hb2); have HB2 := Lib.hid (Zt HB.out hb2); have HT2 := Lib.hid (Gn.Tab.here HTB.out HB2.out); clear hb2 HG1 HC1 HB; cases hg : Gl.goodB (nds nl)
  · obtain ⟨k2, hk2⟩ := Gl.impl_good (by omega) HBD.out; rw [hg] at hk2; have HG2 : Hid (impl_GoodTree.f k2 nl = some false) := hk2 k2 (Nat.le_refl _); clear hk2 hg; go_wp2_with (fail); refine (impl_GoodTree.calls k2 A1 c1 nl false w2 HT2.out HC2.out hc1 HG2.out).mono ?_; rintro e w3 ⟨rfl, hb3⟩; have HB3 := Lib.hid (Zt HB2.out hb3); clear hb3; go_wp2_with (fail); go_ret; exact ⟨rfl, HB3.out⟩
  obtain ⟨g1, g2, g3, g4⟩ := good_parts hg; obtain ⟨T, hTx⟩ : ∃ T : ByteArray, (⟨(treeText (nds nl)).toArray⟩ : ByteArray) = T := ⟨_, rfl⟩
  have HW2 : Hid (impl_WriteTree.f nl = some T) := by show _ = _; unfold impl_WriteTree.f; rw [if_pos ⟨by omega, HBD.out⟩, hTx]
  obtain ⟨k3, hk3⟩ := Gl.spec_write HBD.out; rw [hTx] at hk3; have HW3 : Hid (spec_WriteTree.f k3 nl = some T) := hk3 k3 (Nat.le_refl _)
  have hLT : L T = specW (nds nl) [] [] := by rw [← hTx, L_mk, g3]
  have hTs : T.size ≤ 20000 := by rw [← L_length, hLT, ← g3]; exact g4
  rw [Gl.nds_len] at g1; obtain ⟨p, hp, k4, hk4⟩ := read_back g2 (by rw [Gl.nds_len]; exact g1) T hLT hTs; have HRD : Hid (Zh.f k4 T = some (0, 0, p)) := hk4 k4 (Nat.le_refl _)
  have hpl : p.length = nl.length := by have := congrArg List.length hp; rw [Gl.nds_len, Gl.nds_len] at this; exact this
  have hpb : ∀ x ∈ p, x.f1.size ≤ 1048576 ∧ x.f2 ≤ 9223372036854775807 := by
    intro x hx
    have hm : nd x ∈ nds nl := by rw [← hp]; exact List.mem_map_of_mem hx
    obtain ⟨y, hy, he⟩ := List.mem_map.1 hm; obtain ⟨b1, b2⟩ := HBD.out y hy; unfold nd at he
    injection he with q1 q2 q3
    rw [← L_ext q2, ← q3]; exact ⟨b1, b2⟩
  have HW5 : Hid (impl_WriteTree.f p = some T) := by show _ = _; unfold impl_WriteTree.f; rw [if_pos ⟨by omega, hpb⟩, hp, hTx]
  have HP := Lib.hid hp; have HPL := Lib.hid hpl; clear hTx hk3 hLT hk4 g2 g3 g4 hp hpl hpb hg; go_wp2_with (fail); refine (impl_WriteTree.calls A1 c1 nl T w2 HT2.out HC2.out hc1 HW2.out).mono ?_; rintro e w3 ⟨rfl, hb3⟩; have HC3 := Lib.hid (Kd.C_below HC2.out hb3); have HB3 := Lib.hid (Zt HB2.out hb3); clear hb3 HC2 HB2 HT2 HW2; go_wp2_with (fail); refine (spec_WriteTree.calls k3 A1 c1 nl T w3 HC3.out hc1 HW3.out).mono ?_; rintro e w4 ⟨rfl, hb4⟩; have HC4 := Lib.hid (Kd.C_below HC3.out hb4); have HB4 := Lib.hid (Zt HB3.out hb4); clear hb4 HC3 HB3 HW3; have tT : (T.toList != T.toList) = false := (by simp); go_wp2_with (fail); refine (Zh.calls k4 T 0 0 p w4 HRD.out).mono ?_; rintro e w5 ⟨v5, rfl, hR5, hb5⟩; obtain ⟨A5, c5, rfl⟩ := Kd.R_slice hR5; obtain ⟨-, hc5, hC5⟩ := Kd.R_reads' hR5; rw [HPL.out] at hC5 hc5 ⊢; have HC5n := Lib.hid (Kd.C_below HC4.out hb5); have HC5p := Lib.hid hC5; have HB5 := Lib.hid (Zt HB4.out hb5); clear hR5 hb5 hC5 HC4 HB4 HRD tT
  go_upto_region 10 with (fail)
  have hblk : (w5.alloc (.cells #[.int .i64 0, .int .i64 0, .slice A5 nl.length c5] 40)).heap[w5.heap.size]? = some (.cells #[.int .i64 0, .int .i64 0, .slice A5 nl.length c5] 40 (0, 0)) := heap_alloc_new w5 _; have hbA := Z3 (Below.refl w5.heap.size w5) (.cells #[.int .i64 0, .int .i64 0, .slice A5 nl.length c5] 40); obtain ⟨w6, hw6⟩ : ∃ w6, (w5.alloc (.cells #[.int .i64 0, .int .i64 0, .slice A5 nl.length c5] 40)) = w6 := ⟨_, rfl⟩; obtain ⟨b, hb⟩ : ∃ b, w5.heap.size = b := ⟨_, rfl⟩; rw [hw6] at hblk hbA ⊢; rw [hb] at hblk ⊢; have HC6n := Lib.hid (Kd.C_below HC5n.out hbA); have HC6p := Lib.hid (Kd.C_below HC5p.out hbA); have HB6 := Lib.hid (Zt HB5.out hbA); have HBK := Lib.hid hblk; clear hbA hw6 hb HC5n HC5p HB5
  have e0 : w6.cell? ⟨b, 0, none⟩ = some (.int .i64 0) := by rw [Lib.cell_of_heap hblk]; rfl
  have e2 : w6.cell? ⟨b, 2, none⟩ = some (.slice A5 nl.length c5) := by rw [Lib.cell_of_heap hblk]; rfl
  clear hblk; go_wp2_with (fail); go_loopw [40] (fun v40 wr => ∃ j : Nat, j ≤ nl.length ∧ v40 = .int .i64 j ∧ Hid (Below w6.heap.size w6 wr)) (fun v40 _ => nl.length - (intOf v40).toNat)
  case atStart => exact ⟨0, Nat.zero_le _, by first | rfl | go_num, Below.refl _ _⟩
  case round =>
    obtain ⟨j, hj, rfl, HBr⟩ := hrel; clear e0 e2
    have f2 : wr.cell? ⟨b, 2, none⟩ = some (.slice A5 nl.length c5) := by
      have hk := HBr.out.block b (blk_lt HBK.out); rw [HBK.out] at hk; rw [Lib.cell_of_heap hk]; rfl
    by_cases hlj : j < nl.length
    · have d1 : decide (j < nl.length) = true := decide_eq_true hlj; have d2 : decide ((j : Int) < (nl.length : Int)) = true := decide_eq_true (by omega); obtain ⟨n1, n2, n3⟩ := nds_at HP.out hlj; have hCp := Kd.C_below HC6p.out HBr.out; have hCn := Kd.C_below HC6n.out HBr.out; obtain ⟨ad5, ea5, y0, y1, y2, y3⟩ := at_T43 hCp (j : Int) (by omega) (by omega); obtain ⟨ad1, ea1, x0, x1, x2, x3⟩ := at_T43 hCn (j : Int) (by omega) (by omega); cases ea5; cases ea1; rw [n1] at y0; rw [n2] at y1; rw [n3] at y2; rw [show ((j : Int)).toNat = j from rfl] at x0 x1 x2 x3 y0 y1 y2 y3; generalize (Z5 nl (j : Int)).f0 = q0 at x0 y0; generalize (Z5 nl (j : Int)).f1 = q1 at x1 y1; generalize (Z5 nl (j : Int)).f2 = q2 at x2 y2; generalize (Z5 p (j : Int)).f3 = q3 at y3; clear hCp hCn n1 n2 n3 x3
      go_upto_region 16 with (fail)
      have hbk : (wr.alloc (.cells #[.int .i64 q0, .string q1, .int .i64 q2, .int .i64 q3] 43)).heap[wr.heap.size]? = some (.cells #[.int .i64 q0, .string q1, .int .i64 q2, .int .i64 q3] 43 (0, 0)) := heap_alloc_new wr _; have hbA := Z3 (Below.refl wr.heap.size wr) (.cells #[.int .i64 q0, .string q1, .int .i64 q2, .int .i64 q3] 43); obtain ⟨w8, hw8⟩ : ∃ w8, (wr.alloc (.cells #[.int .i64 q0, .string q1, .int .i64 q2, .int .i64 q3] 43)) = w8 := ⟨_, rfl⟩; rw [hw8] at hbk hbA ⊢
      have z0 : w8.cell? ⟨wr.heap.size, 0, none⟩ = some (.int .i64 q0) := by rw [Lib.cell_of_heap hbk]; rfl
      have z1 : w8.cell? ⟨wr.heap.size, 1, none⟩ = some (.string q1) := by rw [Lib.cell_of_heap hbk]; rfl
      have z2 : w8.cell? ⟨wr.heap.size, 2, none⟩ = some (.int .i64 q2) := by rw [Lib.cell_of_heap hbk]; rfl
      have v0 : w8.cell? (ad1.add (j * 4)) = some (.int .i64 q0) := by rw [hbA.cell (World.block_lt_of_cell? wr _ x0)]; exact x0
      have v1 : w8.cell? ⟨(ad1.add (j * 4)).block, (ad1.add (j * 4)).off + 1, none⟩ = some (.string q1) := by rw [hbA.cell (World.block_lt_of_cell? wr _ x1)]; exact x1
      have v2 : w8.cell? ⟨(ad1.add (j * 4)).block, (ad1.add (j * 4)).off + 2, none⟩ = some (.int .i64 q2) := by rw [hbA.cell (World.block_lt_of_cell? wr _ x2)]; exact x2
      have HB8 : Hid (Below w6.heap.size w6 w8) := Zt HBr.out hbA; obtain ⟨q, hq⟩ : ∃ q, wr.heap.size = q := ⟨_, rfl⟩; rw [hq] at z0 z1 z2 ⊢; have u0 : (q0 != q0) = false := (by simp); have u1 : (q1.toList != q1.toList) = false := (by simp); have u2 : (q2 != q2) = false := (by simp); clear x0 x1 x2 y0 y1 y2 y3 hbk hbA hw8 hq f2 HBr; go_quiet (fail); go_wp2_with (fail); go_round
      case rel => exact ⟨j + 1, by omega, by go_num, Z0 HB8.out _⟩
      case measure => simp [intOf]; omega
    · have d1 : decide (j < nl.length) = false := decide_eq_false hlj; have d2 : decide ((j : Int) < (nl.length : Int)) = false := decide_eq_false (by omega); have HBx := Lib.hid (Zt HB6.out HBr.out); have HCx := Lib.hid (Kd.C_below HC6p.out HBr.out); have HTx := Lib.hid (Gn.Tab.here HTB.out HBx.out)
      have HWP : Hid (Calls Tryd.prog 13 #[.slice A5 nl.length c5] wr fun e w' => e = .returned (.string T) ∧ Below wr.heap.size wr w') := by
        have hx := HCx.out; have hy := hc5; rw [← HPL.out] at hx hy; have h := impl_WriteTree.calls A5 c5 p T wr HTx.out hx hy HW5.out; rw [HPL.out] at h; exact h
      go_wp2_with (fail); refine HWP.out.mono ?_; rintro e w7 ⟨rfl, hb7⟩; have HB7 := Lib.hid (Zt HBx.out hb7); clear hb7; go_wp2_with (fail); go_ret; exact ⟨by first | rfl | simp, HB7.out⟩
end Go.Proofs.YtbeelgaganbblaaDoor.Tl
namespace Go.Proofs.YtbeelgaganbblaaDoor.Lt
open Go.ChangeShapes Go.WideShapes Go.ChangeAt Go.RowKit Go.Proofs.YtbeelgaganbblaaDoor
set_option linter.unusedVariables false
set_option linter.unusedSimpArgs false
set_option maxRecDepth 100000
theorem tabs {W : World} (hs : W.ShapedOpen Tryd.prog) : Gn.Tab W :=
  Go.Proofs.cell_of_shapedOpen_int (g := 0) (t := 3) (zero := #[.int .i64 0]) hs (of_decide_eq_true (by kernel_rfl)) (by kernel_rfl) rfl (by kernel_rfl) (by kernel_rfl) Tryd.underlying3
noncomputable def row (W : World) (g : Nat) (l : List Int) (k : IntKind) : World :=
  { W with heap := W.heap.modify g fun
      | .cells _ t frozen => .cells (l.map fun z => Value.int k z).toArray t frozen
      | o => o }
def ranges : List Int := [128, 191, 160, 191, 128, 159, 144, 191, 128, 143, 0, 0, 0, 0, 0, 0, 0, 0, 0, 0, 0, 0, 0, 0, 0, 0, 0, 0, 0, 0, 0, 0]
noncomputable def laidWorld (os : Os) : World :=
  row (row (World.holding Tryd.prog os ⟨#[], #[], []⟩) 2 ranges .u8) 1 (Go.Pinned.utf8FirstZ.map fun (n : Nat) => (n : Int)) .u8
end Go.Proofs.YtbeelgaganbblaaDoor.Lt
namespace Go.Proofs.YtbeelgaganbblaaDoor.Opn
open Go.RowKit Go.Proofs.YtbeelgaganbblaaDoorW.PrintWords
set_option linter.unusedVariables false
set_option linter.unusedSimpArgs false
def Opens {H α : Type} (enc : TypeId × Value → H) (P : Program) (w : World) (base : Nat) (spare : Nat → Bool) (held : Bool) (d : Kd α) (G : α → Prop) (t : TypeId) : Prop :=
  ∀ fuel cs x, DataW.trod enc P w base spare held fuel t cs = some x → ∃ a, d.K w a cs ∧ G a
section
variable {H α : Type} {enc : TypeId × Value → H} {P : Program} {w : World} {base : Nat} {spare : Nat → Bool} {held : Bool}
theorem opens_int {t : TypeId} {k : IntKind} (ht : P.underlying t = some (.int k)) : Opens enc P w base spare held (Kd.int k) (fun n => (Lit.int k n).wf = true) t := by
  intro fuel cs x h
  cases fuel with
  | zero => simp [DataW.trod] at h
  | succ n =>
    unfold DataW.trod at h; rw [ht] at h
    split at h <;> simp_all
    obtain ⟨⟨rfl, h1⟩, h2⟩ := h; exact ⟨_, rfl, h1⟩
theorem opens_slice {d : Kd α} {G : α → Prop} {t e : TypeId} (e' : Nat) (ht : P.underlying t = some (.slice e)) (hc : P.cellsOf e = d.sz) (h : Opens enc P w base spare held d G e) :
    Opens enc P w base spare held (Kd.slice e' d) (fun l => l.length ≤ maxLen ∧ ∀ a ∈ l, G a) t := by
  intro fuel cs x hx
  rcases DataW.trod_slice ht hx with ⟨rfl, _⟩ | ⟨a, len, cap, elems, rest, n, _, rfl, _, hb, hl, hm, hlen, hel, _, _⟩
  · exact ⟨[], ⟨none, 0, rfl, Nat.le_refl _, ⟨rfl, by simp, fun h => absurd h (by simp)⟩⟩, by simp [maxLen], by simp⟩
  · have each : ∀ i, i < len → ∃ y c, w.cells? base (a.add (i * d.sz)) d.sz = some c ∧ d.K w y c ∧ G y := by
      intro i hi; have h1 := hel i hi; rw [List.getElem?_eq_getElem (by omega), hc] at h1; obtain ⟨c, hc1, hc2⟩ := Option.bind_eq_some_iff.1 h1; obtain ⟨y, hy, hg⟩ := h _ _ _ hc2; exact ⟨y, c, hc1, hy, hg⟩
    obtain ⟨l, hl1, hl2⟩ : ∃ l : List α, l.length = len ∧ ∀ i y, l[i]? = some y → ∃ c, w.cells? base (a.add (i * d.sz)) d.sz = some c ∧ d.K w y c ∧ G y := by
      have all : ∀ m, m ≤ len → ∃ l : List α, l.length = m ∧ ∀ i y, l[i]? = some y → ∃ c, w.cells? base (a.add (i * d.sz)) d.sz = some c ∧ d.K w y c ∧ G y := by
        intro m
        induction m with
        | zero => intro _; exact ⟨[], rfl, by simp⟩
        | succ m ih =>
          intro hm1; obtain ⟨l, h1, h2⟩ := ih (by omega); obtain ⟨y, c, hy⟩ := each m (by omega); refine ⟨l ++ [y], by simp [h1], fun i z hz => ?_⟩
          by_cases hi : i < m
          · rw [List.getElem?_append_left (by omega)] at hz; exact h2 i z hz
          · have hi2 : i = m := by
              have := (List.getElem?_eq_some_iff.1 hz).1
              simp at this; omega
            subst hi2; rw [List.getElem?_append_right (by omega), h1, Nat.sub_self] at hz
            simp at hz
            subst hz; exact ⟨c, hy⟩
      exact all len (Nat.le_refl _)
    subst hl1; refine ⟨l, ⟨some a, cap, rfl, hl, rfl, by unfold maxLen at hm; omega, fun _ => ⟨a, rfl, fun j p hp => ?_⟩⟩, by omega, fun y hy => ?_⟩
    · obtain ⟨c, hc1, hc2, _⟩ := hl2 j p hp; obtain ⟨_, hs, hcell⟩ := World.cells?_some hc1; refine ⟨c, hs, hc2, fun i u hu => ?_⟩; have hi := (List.getElem?_eq_some_iff.1 hu).1; rw [← Addr.add_add, hcell i (by omega)]; exact hu
    · obtain ⟨i, hi⟩ := List.mem_iff_getElem?.1 hy; obtain ⟨_, _, _, hg⟩ := hl2 i y hi; exact hg
end
end Go.Proofs.YtbeelgaganbblaaDoor.Opn
namespace Go.Proofs.YtbeelgaganbblaaDoor.fnTrees
open Go.ChangeShapes Go.WideShapes Go.ChangeAt Go.RowKit Go.Proofs.YtbeelgaganbblaaDoor Go.Proofs.YtbeelgaganbblaaDoor.Opn Go.Proofs.YtbeelgaganbblaaDoor.PFnExactGoodTree Go.Proofs.YtbeelgaganbblaaDoor.Lt Go.Proofs.YtbeelgaganbblaaDoorW.PrintWords Go.Proofs.YtbeelgaganbblaaDoor.Dr Go.Proofs.YtbeelgaganbblaaDoor.Tl
set_option linter.unusedVariables false
set_option linter.unusedSimpArgs false
set_option maxRecDepth 100000
theorem own : ownKnob Tryd.prog.godebug = none := by kernel_rfl
theorem laidOut : laidOutB Tryd.prog = true := by kernel_rfl
theorem laid_met (os : Os) (args : Array Value) : laidMet Tryd.prog Rows.fnTreesRow.laid ((laidWorld os).forCall (fun _ _ => 0) ⟨#[], args, []⟩).memory :=
  laidMet_of_run' 8 (by kernel_rfl) (by kernel_rfl)
theorem contract (H : Type) (enc : TypeId × Value → H) (W : World) (base : Nat) (args : Array Value) (ds gs : List (DataW H)) (before : List MemPlace)
    (hval : ∀ (j : Nat) t v, Tryd.f6.params[j]? = some t → args[j]? = some v → Value.okWide Tryd.prog W .any base t v)
    (hW : DataW.Whole enc Tryd.prog Tryd.f6.params.toList Rows.fnTreesSpec.vars false W args.toList ds gs before) (hsh : W.ShapedOpen Tryd.prog) :
    Calls Tryd.prog 6 args W fun e W' => ∃ v, e = .returned v ∧ Rows.fnTreesSpec.post enc Tryd.prog Tryd.f6 false true false false W args v W' := by
  have hW' := hW; obtain ⟨p, q, hA0, hV, rfl, hfz, hnd⟩ := hW; have hA : DataW.TrodAll enc Tryd.prog W 0 (fun _ => true) true Tryd.f6.params.toList args.toList ds p := hA0; rw [Tryd.params6] at hA hval; obtain ⟨v0, vs0, d0, ds0, p0, q0, hargs, rfl, rfl, h0, r0⟩ := trodAll_cons hA; obtain ⟨rfl, rfl, rfl⟩ := trodAll_nil r0
  obtain rfl : args = #[v0] := by cases args; simp_all
  obtain ⟨rfl, rfl⟩ := trodVars_none hV; obtain ⟨a0, len0, cap0, rfl⟩ := okWide_slice Tryd.underlying37 (hval 0 37 v0 rfl rfl); have k0 := h0
  have lt0 : ∀ x ∈ p0, x.block < W.heap.size := by obtain ⟨m, hm⟩ := k0; exact DataW.trod_lt m _ _ _ hm
  obtain ⟨l, hl, hle, hC, hn, hG⟩ : ∃ l : List Int, l.length = len0 ∧ l.length ≤ cap0 ∧ Kd.C (Kd.int .u8) W a0 l.length l ∧ l.length ≤ 9223372036854775807 ∧ Cd l := by
    obtain ⟨fuel, hf⟩ := h0; obtain ⟨l, ⟨A, c, hcs, hlc, hC⟩, hG⟩ := opens_slice (enc := enc) 5 Tryd.underlying37 (by kernel_rfl) (opens_int Tryd.underlying5) _ _ _ hf
    simp [Value.cells] at hcs
    obtain ⟨rfl, rfl, rfl⟩ := hcs
    have hm : maxLen ≤ 9223372036854775807 := by unfold maxLen; omega
    refine ⟨l, rfl, hlc, hC, Nat.le_trans hG.1 hm, fun x hx => ?_⟩; have h2 : (decide (IntKind.u8.min ≤ x) && decide (x ≤ IntKind.u8.max)) = true := hG.2 x hx; rw [Bool.and_eq_true, decide_eq_true_eq, decide_eq_true_eq] at h2; exact h2
  subst hl; have hT : Gn.Tab W := tabs hsh; clear hA0
  refine (law_any a0 cap0 l W hT hC hle hG hn).mono fun e W' ⟨he, bel⟩ => ?_
  subst he; exact ⟨_, rfl, _, _, _, [], _, [], hW', trodAll_mk1 (shut_bool Tryd.underlying4 _), (trodAll_cons_mk (Below.trod laidOut (by kernel_rfl) (of_decide_eq_true (by kernel_rfl)) k0 bel lt0) trodAll_mk0), rfl, bel.frame _, fun h => by cases h⟩
theorem reads (os : Os) {H : Type} (enc : TypeId × Value → H) : ∃ places, DataW.whole enc Tryd.prog ((laidWorld os).forCall (fun _ _ => 0) ⟨#[], #[.slice none 0 0], []⟩).memory Tryd.f6.params.toList Rows.fnTreesSpec.vars false #[Value.slice none 0 0].toList 8 = some ([.nil], [], places) :=
  ⟨[], by kernel_rfl⟩
theorem lifted (os : Os) (started : os.Started) (H : Type) (enc : TypeId × Value → H) (F : Stop.Interp) :
    ReturnsInHanded {} Tryd.checked os 6 .any ((OpenSpec.ofChange Rows.fnTreesSpec).preRow enc Tryd.prog Tryd.f6 Rows.fnTreesRow.domain false Rows.fnTreesRow.laid) (((OpenSpec.ofChange Rows.fnTreesSpec).at F).post enc Tryd.prog Tryd.f6 false true false false) := by
  obtain ⟨places, hx⟩ := reads os enc
  refine returnsInHanded_of_row (C := Tryd.checked) (s := OpenSpec.ofChange Rows.fnTreesSpec) own started (by kernel_rfl) Tryd.func6
    (witness_row_at (enc := enc) (C := Tryd.checked) false (laidWorld os) #[.slice none 0 0] rfl (by kernel_rfl) (by kernel_rfl) (by kernel_rfl)
      (OpenSpec.preRow_of_cond 8 hx (by kernel_rfl) (fun k hk => by cases hk) (by kernel_rfl) (laid_met os _))) ?_
  intro W base args ds gs before hval hW _ _ _ hL hsh _; exact contract H enc W base args ds gs before hval hW hsh
theorem said : Rows.FnTreesSaid :=
  OpenClaim.holds_of_cond 6 Tryd.f6 rfl rfl rfl rfl rfl rfl rfl ⟨rfl, rfl, rfl, rfl, rfl⟩ rfl rfl rfl rfl rfl (by kernel_rfl) Tryd.func6 (by kernel_rfl)
    (of_decide_eq_true (by kernel_rfl)) (by unfold Func.isWrapper; first | (rw [if_pos (by decide +kernel)]; kernel_rfl) | (rw [if_neg (by decide +kernel)]; exact ⟨rfl, rfl⟩))
    (fun os started H enc _ F => by rw [OpenClaim.pre_eq_preRow]; exact lifted os started H enc F)
theorem plain (f : FuncId) (fn : Func) (hf : Tryd.pinned.checked.prog.funcNamed "loop.example/g00007/laws.FnTrees" = some f) (hfn : Tryd.pinned.checked.prog.funcs[f]? = some fn) :
    false = Tryd.pinned.checked.prog.looks [] ∧ ∀ (j : Nat) t, fn.params[j]? = some t → Tryd.pinned.checked.prog.wantsStandIn t = false := by
  obtain rfl : f = 6 := Option.some.inj ((show Tryd.prog.funcNamed "loop.example/g00007/laws.FnTrees" = some 6 by kernel_rfl).symm.trans hf) |>.symm
  obtain rfl : fn = Tryd.f6 := (Option.some.inj (Tryd.func6.symm.trans hfn)).symm; refine ⟨by kernel_rfl, fun j t ht => ?_⟩; rw [Tryd.params6] at ht
  have ht2 : t = 37 := by simpa using Array.mem_of_getElem? ht
  rw [ht2]; exact (show Tryd.prog.wantsStandIn 37 = false by kernel_rfl)
theorem card : Rows.FnTreesCardSaid :=
  Claim7.holds_tied_plain_at .later [] _ _ _ _ said (fun _ h => by cases h) (by kernel_rfl) (fun _ h => by cases h) fnTrees_row_tie rfl ⟨rfl, rfl⟩ (by kernel_rfl) rfl plain (by kernel_rfl)
#print axioms card
end Go.Proofs.YtbeelgaganbblaaDoor.fnTrees
namespace Go.Proofs.YtbeelgaganbblaaDoor
theorem fnTrees_card : Rows.FnTreesCardSaid := fnTrees.card
end Go.Proofs.YtbeelgaganbblaaDoor

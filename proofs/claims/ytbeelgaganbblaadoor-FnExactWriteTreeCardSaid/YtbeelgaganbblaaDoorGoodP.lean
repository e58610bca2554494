/- Plain law on the printed functions of the tree laws: a node's test, the row's test, what is written (no walk in it). Conditions: texts of at most 2^20 bytes, rows of at most 2^20 nodes. -/
import Derived.Test.YtbeelgaganbblaaDoorPFnExactGoodTreex7
import Derived.Test.YtbeelgaganbblaaDoorPFnExactGoodTreex8
import Derived.Test.YtbeelgaganbblaaDoorPFnExactGoodTreex5
import Derived.Lib.LazyBuf
import Derived.Lib.IndexMore
import Derived.Lib.IndexBytes
namespace Go.Proofs.YtbeelgaganbblaaDoor.Gp
open Go.RowKit Go.Proofs.YtbeelgaganbblaaDoor Go.Proofs.YtbeelgaganbblaaDoorW.PrintWords Go.Proofs.YtbeelgaganbblaaDoor.By Go.Proofs.YtbeelgaganbblaaDoor.Tok Go.Proofs.YtbeelgaganbblaaDoor.Tree Go.Proofs.YtbeelgaganbblaaDoor.Gn Go.Proofs.YtbeelgaganbblaaDoor.PFnExactGoodTree
set_option linter.unusedVariables false
set_option linter.unusedSimpArgs false
set_option maxRecDepth 100000
/-- from some count of rounds on -/
def Evt {α : Type} (f : Nat → Option α) (r : α) : Prop := ∃ k0, ∀ k, k0 ≤ k → f k = some r
theorem Evt.pure {α : Type} {f : Nat → Option α} {r : α} (h : ∀ k, f k = some r) : Evt f r := ⟨0, fun k _ => h k⟩
theorem Evt.succ {α : Type} {f g : Nat → Option α} {r : α} (h : ∀ k, f (k + 1) = g k) (hg : Evt g r) : Evt f r := by
  obtain ⟨k0, hk⟩ := hg
  refine ⟨k0 + 1, fun k hle => ?_⟩
  obtain ⟨j, rfl⟩ : ∃ j, k = j + 1 := ⟨k - 1, by omega⟩
  rw [h]; exact hk j (by omega)
theorem Evt.same {α : Type} {f g : Nat → Option α} {r : α} (h : ∀ k, f k = g k) (hg : Evt g r) : Evt f r := by
  obtain ⟨k0, hk⟩ := hg
  exact ⟨k0, fun k hle => by rw [h]; exact hk k hle⟩
theorem Evt.bind {α β : Type} {f : Nat → Option α} {g : Nat → α → Option β} {a : α} {r : β} (hf : Evt f a) (hg : Evt (fun k => g k a) r) : Evt (fun k => (f k).bind (g k)) r := by
  obtain ⟨k0, h0⟩ := hf
  obtain ⟨k1, h1⟩ := hg
  refine ⟨max k0 k1, fun k hle => ?_⟩
  show (f k).bind (g k) = some r
  rw [h0 k (by omega)]; exact h1 k (by omega)
theorem Evt.get {α : Type} {f : Nat → Option α} {r : α} (h : Evt f r) : ∃ k, f k = some r := by
  obtain ⟨k0, hk⟩ := h
  exact ⟨k0, hk k0 (Nat.le_refl _)⟩
theorem Evt.done {α : Type} {f : Nat → Option α} {r : α} (h : ∀ k, f (k + 1) = some r) : Evt f r := Evt.succ (g := fun _ => some r) h (Evt.pure fun _ => rfl)
theorem wrap_ok {z : Int} (h0 : -9223372036854775808 ≤ z) (h1 : z ≤ 9223372036854775807) : wrap64 z = z := by unfold wrap64; omega
theorem digB (c : UInt8) : impl_digitB.f (c.toNat : Int) = some (dig c) := by
  unfold impl_digitB.f dig
  by_cases h : (c.toNat : Int) ≥ 48
  · rw [if_pos h]; congr 1; rw [decide_eq_true (by omega : 48 ≤ c.toNat), Bool.true_and]; exact decide_eq_decide.2 (by omega)
  · rw [if_neg h, decide_eq_false (by omega : ¬ 48 ≤ c.toNat), Bool.false_and]
theorem digS (c : UInt8) : spec_l3Digit.f (c.toNat : Int) = some (dig c) := by
  unfold spec_l3Digit.f dig
  by_cases h : (c.toNat : Int) ≥ 48
  · rw [if_pos h]; congr 1; rw [decide_eq_true (by omega : 48 ≤ c.toNat), Bool.true_and]; exact decide_eq_decide.2 (by omega)
  · rw [if_neg h, decide_eq_false (by omega : ¬ 48 ≤ c.toNat), Bool.false_and]
theorem nameB_of (c : UInt8) : impl_nameB.f (c.toNat : Int) = some (nm c) := by
  have := c.toNat_lt
  unfold impl_nameB.f; rw [if_pos (by omega)]; rfl
theorem nameS_of (c : UInt8) : spec_l3NameByte.f (c.toNat : Int) = some (nm c) := by
  have := c.toNat_lt
  unfold spec_l3NameByte.f; rw [if_pos (by omega)]; rfl
/-- a name that needs no bars -/
def plainT (l : List UInt8) : Bool := decide (l ≠ []) && !((l[0]?).any dig) && l.all nm
theorem bare_l0 (s : ByteArray) (hs : s.size ≤ 1048576) : ∀ (d i : Nat), i ≤ s.size → s.size - i = d → Evt (fun k => impl_bare.l0 k s (s.size : Int) (i : Int)) (((L s).drop i).all nm) := by
  intro d
  induction d with
  | zero =>
    intro i hi hd
    rw [drop_all s i (by omega), List.all_nil]
    exact Evt.done (fun k => by simp only [impl_bare.l0]; rw [if_neg (by omega)])
  | succ d ih =>
    intro i hi hd
    have hlt : i < s.size := by omega
    have hw1 : wrap64 ((i : Int) + 1) = ((i + 1 : Nat) : Int) := wrap_ok (by omega) (by omega)
    rw [drop_cons s i hlt, List.all_cons]
    cases hb : nm ((L s)[i]'(by rw [L_length]; exact hlt)) with
    | false => exact Evt.done (fun k => by simp only [impl_bare.l0]; rw [if_pos (by omega), if_pos (by omega), if_pos (by omega), bt_get s i hlt, nameB_of, hb]; rfl)
    | true => rw [Bool.true_and]; exact Evt.succ (fun k => by simp only [impl_bare.l0]; rw [if_pos (by omega), if_pos (by omega), if_pos (by omega), bt_get s i hlt, nameB_of, hb, Option.bind_some, if_pos rfl, hw1]) (ih (i + 1) (by omega) (by omega))
theorem first_of (s : ByteArray) (h : 0 < s.size) : ∃ x m, L s = x :: m ∧ bt s 0 = (x.toNat : Int) := by
  have hc := drop_cons s 0 h
  rw [List.drop_zero] at hc
  obtain ⟨x, m, e⟩ : ∃ x m, L s = x :: m := ⟨_, _, hc⟩
  refine ⟨x, m, e, ?_⟩
  have := bt_get s 0 h
  rw [show ((0 : Nat) : Int) = 0 from rfl] at this
  rw [this]; simp only [e]; rfl
theorem bare_is (s : ByteArray) (hs : s.size ≤ 1048576) : Evt (fun k => impl_bare.f k s) (plainT (L s)) := by
  have jt : Evt (fun k => impl_bare.j0 k s true) false := Evt.done (fun k => by simp only [impl_bare.j0]; rw [if_pos trivial])
  have jf : Evt (fun k => impl_bare.j0 k s false) ((L s).all nm) := Evt.succ (fun k => by simp only [impl_bare.j0]; rw [if_neg (by decide)]; rfl) (bare_l0 s hs _ 0 (by omega) rfl)
  by_cases h0 : s.size = 0
  · rw [List.length_eq_zero_iff.1 ((L_length s).trans h0)]
    exact Evt.same (fun k => by unfold impl_bare.f; rw [if_pos ((nil_iff s).2 h0)]) jt
  · obtain ⟨x, m, e, hx⟩ := first_of s (by omega)
    rw [e] at jf ⊢
    show Evt _ (decide (x :: m ≠ []) && !(Option.any dig (some x)) && (x :: m).all nm)
    rw [decide_eq_true (by simp), Bool.true_and, Option.any_some]
    cases hd : dig x with
    | true => rw [Bool.not_true, Bool.false_and]; exact Evt.same (fun k => by unfold impl_bare.f; rw [if_neg (fun h => h0 ((nil_iff s).1 h)), if_pos (by omega), hx, digB, hd, Option.bind_some]) jt
    | false => rw [Bool.not_false, Bool.true_and]; exact Evt.same (fun k => by unfold impl_bare.f; rw [if_neg (fun h => h0 ((nil_iff s).1 h)), if_pos (by omega), hx, digB, hd, Option.bind_some]) jf
theorem plain_l0 (s : ByteArray) (hs : s.size ≤ 1048576) : ∀ (d i : Nat), i ≤ s.size → s.size - i = d → Evt (fun k => spec_l3Plain.l0 k s (i : Int)) (((L s).drop i).all nm) := by
  intro d
  induction d with
  | zero =>
    intro i hi hd
    rw [drop_all s i (by omega), List.all_nil]
    exact Evt.done (fun k => by simp only [spec_l3Plain.l0]; rw [if_neg (by omega)])
  | succ d ih =>
    intro i hi hd
    have hlt : i < s.size := by omega
    have hw1 : wrap64 ((i : Int) + 1) = ((i + 1 : Nat) : Int) := wrap_ok (by omega) (by omega)
    rw [drop_cons s i hlt, List.all_cons]
    cases hb : nm ((L s)[i]'(by rw [L_length]; exact hlt)) with
    | false => exact Evt.done (fun k => by simp only [spec_l3Plain.l0]; rw [if_pos (by omega), if_pos (by omega), bt_get s i hlt, nameS_of, hb]; rfl)
    | true => rw [Bool.true_and]; exact Evt.succ (fun k => by simp only [spec_l3Plain.l0]; rw [if_pos (by omega), if_pos (by omega), bt_get s i hlt, nameS_of, hb, Option.bind_some, if_pos rfl, hw1]) (ih (i + 1) (by omega) (by omega))
theorem plain_is (s : ByteArray) (hs : s.size ≤ 1048576) : Evt (fun k => spec_l3Plain.f k s) (plainT (L s)) := by
  have jt : Evt (fun k => spec_l3Plain.j0 k s true) false := Evt.done (fun k => by simp only [spec_l3Plain.j0]; rw [if_pos trivial])
  have jf : Evt (fun k => spec_l3Plain.j0 k s false) ((L s).all nm) := Evt.succ (fun k => by simp only [spec_l3Plain.j0]; rw [if_neg (by decide)]; rfl) (plain_l0 s hs _ 0 (by omega) rfl)
  by_cases h0 : s.size = 0
  · rw [List.length_eq_zero_iff.1 ((L_length s).trans h0)]
    exact Evt.same (fun k => by unfold spec_l3Plain.f; rw [if_pos (by omega)]) jt
  · obtain ⟨x, m, e, hx⟩ := first_of s (by omega)
    rw [e] at jf ⊢
    show Evt _ (decide (x :: m ≠ []) && !(Option.any dig (some x)) && (x :: m).all nm)
    rw [decide_eq_true (by simp), Bool.true_and, Option.any_some]
    cases hd : dig x with
    | true => rw [Bool.not_true, Bool.false_and]; exact Evt.same (fun k => by unfold spec_l3Plain.f; rw [if_neg (by omega), if_pos (by omega), hx, digS, hd, Option.bind_some]) jt
    | false => rw [Bool.not_false, Bool.true_and]; exact Evt.same (fun k => by unfold spec_l3Plain.f; rw [if_neg (by omega), if_pos (by omega), hx, digS, hd, Option.bind_some]) jf
theorem L_append (a b : ByteArray) : L (a ++ b) = L a ++ L b := by unfold L; rw [ByteArray.data_append, Array.toList_append]
theorem bars_L (s : ByteArray) : L ((⟨#[124]⟩ : ByteArray) ++ s ++ (⟨#[124]⟩ : ByteArray)) = 124 :: (L s ++ [124]) := by
  rw [L_append, L_append]; rfl
/-- a node as the plain law has it -/
def nd (x : S43) : Nd := ⟨x.f0, L x.f1, x.f2⟩
def nds (l : List S43) : List Nd := l.map nd
theorem leaf_name (n : Int) (l : List UInt8) : leafT ⟨2, l, n⟩ = if plainT l = true then l else 124 :: (l ++ [124]) := by
  unfold leafT plainT; rfl
theorem sym_is (s : ByteArray) (hs : s.size ≤ 1048576) (n : Int) : ∃ r, Evt (fun k => impl_symText.f k s) r ∧ L r = leafT ⟨2, L s, n⟩ := by
  rw [leaf_name]
  cases hp : plainT (L s) with
  | true =>
    refine ⟨s, ?_, rfl⟩
    have := bare_is s hs
    rw [hp] at this
    exact Evt.bind this (Evt.pure fun k => by rw [if_pos rfl])
  | false =>
    refine ⟨(⟨#[124]⟩ : ByteArray) ++ s ++ (⟨#[124]⟩ : ByteArray), ?_, bars_L s⟩
    have := bare_is s hs
    rw [hp] at this
    have e1 : ((⟨#[124]⟩ : ByteArray) ++ s).size = 1 + s.size := by rw [ByteArray.size_append]; rfl
    exact Evt.bind this (Evt.pure fun k => by rw [if_neg (by decide), if_pos (by omega), if_pos (by omega)])
/-! ### a node's test -/
theorem word_l0 (s : ByteArray) (hs : s.size ≤ 1048576) : ∀ (d i : Nat), i ≤ s.size → s.size - i = d → Evt (fun k => spec_l3Word.l0 k s (i : Int)) (((L s).drop i).all inb) := by
  intro d
  induction d with
  | zero =>
    intro i hi hd
    rw [drop_all s i (by omega), List.all_nil]
    exact Evt.done (fun k => by simp only [spec_l3Word.l0]; rw [if_neg (by omega)])
  | succ d ih =>
    intro i hi hd
    have hlt : i < s.size := by omega
    have hw1 : wrap64 ((i : Int) + 1) = ((i + 1 : Nat) : Int) := wrap_ok (by omega) (by omega)
    rw [drop_cons s i hlt, List.all_cons]
    have hbt := bt_get s i hlt
    generalize hc : (L s)[i]'(by rw [L_length]; exact hlt) = c at hbt ⊢
    cases hb : inb c with
    | false =>
      refine Evt.done (fun k => ?_)
      simp only [spec_l3Word.l0]
      rw [if_pos (by omega), if_pos (by omega), hbt, Bool.false_and]
      rcases inb_no hb rfl with h | h | h | h
      · rw [if_pos h]
      · by_cases h1 : (c.toNat : Int) < 32
        · rw [if_pos h1]
        · rw [if_neg h1, if_pos h]
      · rw [if_neg (by omega), if_neg (by omega), if_pos h]
      · rw [if_neg (by omega), if_neg (by omega), if_neg (by omega), if_pos h]
    | true =>
      obtain ⟨h1, h2, h3, h4⟩ := inb_yes hb rfl
      rw [Bool.true_and]
      exact Evt.succ (fun k => by simp only [spec_l3Word.l0]; rw [if_pos (by omega), if_pos (by omega), hbt, if_neg (by omega), if_neg (by omega), if_neg h3, if_neg h4, hw1]) (ih (i + 1) (by omega) (by omega))
theorem inq_yes {c : UInt8} (h : inq c = true) : (c.toNat : Int) = 10 ∨ (¬ (c.toNat : Int) = 10 ∧ 32 ≤ (c.toNat : Int) ∧ (c.toNat : Int) ≤ 126) := by
  rw [← inqI_of] at h
  unfold inqI at h
  simp only [Bool.or_eq_true, Bool.and_eq_true, decide_eq_true_eq] at h
  omega
theorem inq_no {c : UInt8} (h : inq c = false) : ¬ (c.toNat : Int) = 10 ∧ ((c.toNat : Int) < 32 ∨ 126 < (c.toNat : Int)) := by
  rw [← inqI_of] at h
  unfold inqI at h
  simp only [Bool.or_eq_false_iff, Bool.and_eq_false_iff, decide_eq_false_iff_not] at h
  omega
theorem word_l1 (s : ByteArray) (hs : s.size ≤ 1048576) : ∀ (d i : Nat), i ≤ s.size → s.size - i = d → Evt (fun k => spec_l3Word.l1 k s (i : Int)) (((L s).drop i).all inq) := by
  intro d
  induction d with
  | zero =>
    intro i hi hd
    rw [drop_all s i (by omega), List.all_nil]
    exact Evt.done (fun k => by simp only [spec_l3Word.l1]; rw [if_neg (by omega)])
  | succ d ih =>
    intro i hi hd
    have hlt : i < s.size := by omega
    have hw1 : wrap64 ((i : Int) + 1) = ((i + 1 : Nat) : Int) := wrap_ok (by omega) (by omega)
    rw [drop_cons s i hlt, List.all_cons]
    have hbt := bt_get s i hlt
    generalize hc : (L s)[i]'(by rw [L_length]; exact hlt) = c at hbt ⊢
    cases hb : inq c with
    | false =>
      refine Evt.done (fun k => ?_)
      simp only [spec_l3Word.l1]
      rw [if_pos (by omega), if_pos (by omega), hbt, Bool.false_and]
      obtain ⟨h0, h⟩ := inq_no hb
      rw [if_neg h0]
      by_cases h1 : (c.toNat : Int) < 32
      · rw [if_pos h1]
      · rw [if_neg h1, if_pos (by omega)]
    | true =>
      rw [Bool.true_and]
      rcases inq_yes hb with h | ⟨h0, h1, h2⟩
      · exact Evt.succ (fun k => by simp only [spec_l3Word.l1]; rw [if_pos (by omega), if_pos (by omega), hbt, if_pos h, hw1]) (ih (i + 1) (by omega) (by omega))
      · exact Evt.succ (fun k => by simp only [spec_l3Word.l1]; rw [if_pos (by omega), if_pos (by omega), hbt, if_neg h0, if_neg (by omega), if_neg (by omega), hw1]) (ih (i + 1) (by omega) (by omega))
theorem word_l2 (s : ByteArray) (hs : s.size ≤ 1048576) : ∀ (d i : Nat), i ≤ s.size → s.size - i = d → Evt (fun k => spec_l3Word.l2 k s (i : Int)) (((L s).drop i).all nm && decide (0 < s.size)) := by
  intro d
  induction d with
  | zero =>
    intro i hi hd
    rw [drop_all s i (by omega), List.all_nil, Bool.true_and]
    exact Evt.done (fun k => by simp only [spec_l3Word.l2]; rw [if_neg (by omega)]; congr 1; exact decide_eq_decide.2 (by omega))
  | succ d ih =>
    intro i hi hd
    have hlt : i < s.size := by omega
    have hw1 : wrap64 ((i : Int) + 1) = ((i + 1 : Nat) : Int) := wrap_ok (by omega) (by omega)
    rw [drop_cons s i hlt, List.all_cons]
    have hbt := bt_get s i hlt
    generalize hc : (L s)[i]'(by rw [L_length]; exact hlt) = c at hbt ⊢
    cases hb : nm c with
    | false => exact Evt.done (fun k => by simp only [spec_l3Word.l2]; rw [if_pos (by omega), if_pos (by omega), hbt, nameS_of, hb]; rfl)
    | true =>
      rw [Bool.true_and]
      exact Evt.succ (fun k => by simp only [spec_l3Word.l2]; rw [if_pos (by omega), if_pos (by omega), hbt, nameS_of, hb, Option.bind_some, if_pos rfl, hw1]) (ih (i + 1) (by omega) (by omega))
theorem bin_yes {c : UInt8} (h : bin c = true) : (c.toNat : Int) = 48 ∨ (¬ (c.toNat : Int) = 48 ∧ (c.toNat : Int) = 49) := by
  rw [← binI_of] at h
  unfold binI at h
  simp only [Bool.or_eq_true, decide_eq_true_eq] at h
  omega
theorem bin_no {c : UInt8} (h : bin c = false) : ¬ (c.toNat : Int) = 48 ∧ ¬ (c.toNat : Int) = 49 := by
  rw [← binI_of] at h
  unfold binI at h
  simp only [Bool.or_eq_false_iff, decide_eq_false_iff_not] at h
  exact h
theorem word_l3 (s : ByteArray) (hs : s.size ≤ 1048576) : ∀ (d i : Nat), i ≤ s.size → s.size - i = d → Evt (fun k => spec_l3Word.l3 k s (i : Int)) (((L s).drop i).all bin && decide (0 < s.size)) := by
  intro d
  induction d with
  | zero =>
    intro i hi hd
    rw [drop_all s i (by omega), List.all_nil, Bool.true_and]
    exact Evt.done (fun k => by simp only [spec_l3Word.l3]; rw [if_neg (by omega)]; congr 1; exact decide_eq_decide.2 (by omega))
  | succ d ih =>
    intro i hi hd
    have hlt : i < s.size := by omega
    have hw1 : wrap64 ((i : Int) + 1) = ((i + 1 : Nat) : Int) := wrap_ok (by omega) (by omega)
    rw [drop_cons s i hlt, List.all_cons]
    have hbt := bt_get s i hlt
    generalize hc : (L s)[i]'(by rw [L_length]; exact hlt) = c at hbt ⊢
    cases hb : bin c with
    | false =>
      obtain ⟨h1, h2⟩ := bin_no hb
      exact Evt.done (fun k => by simp only [spec_l3Word.l3]; rw [if_pos (by omega), if_pos (by omega), hbt, if_neg h1, if_neg h2]; rfl)
    | true =>
      rw [Bool.true_and]
      rcases bin_yes hb with h | ⟨h0, h⟩
      · exact Evt.succ (fun k => by simp only [spec_l3Word.l3]; rw [if_pos (by omega), if_pos (by omega), hbt, if_pos h, hw1]) (ih (i + 1) (by omega) (by omega))
      · exact Evt.succ (fun k => by simp only [spec_l3Word.l3]; rw [if_pos (by omega), if_pos (by omega), hbt, if_neg h0, if_pos h, hw1]) (ih (i + 1) (by omega) (by omega))
/-! numbers -/
theorem cut_spec {l : List UInt8} (h : (Lib.cut l [46]).2.2 = true) : ∃ a b, l = a ++ 46 :: b ∧ (Lib.cut l [46]).1 = a ∧ (Lib.cut l [46]).2.1 = b := by
  unfold Lib.cut at h ⊢
  by_cases h0 : 0 ≤ Lib.index l [46]
  · rw [if_pos h0]
    rcases Lib.index_spec l [46] with ⟨h1, _⟩ | ⟨i, h1, h2, h3, _⟩
    · omega
    · rw [h1, Int.toNat_natCast]
      unfold Lib.occAt at h3
      obtain ⟨t, ht⟩ := List.isPrefixOf_iff_prefix.1 h3
      have ht2 : l.drop i = 46 :: t := ht.symm
      have e : l.drop (i + ([46] : List UInt8).length) = t := by
        show l.drop (i + 1) = t
        rw [← List.drop_drop, ht2]; rfl
      exact ⟨l.take i, t, by rw [← ht2, List.take_append_drop], rfl, e⟩
  · rw [if_neg h0] at h; cases h
theorem index_dig : ∀ (a b : List UInt8), a.all dig = true → Lib.index (a ++ 46 :: b) [46] = (a.length : Nat)
  | [], b, _ => by rw [Lib.index_one]; simp [Lib.indexByte]
  | c :: a, b, h => by
    rw [List.all_cons, Bool.and_eq_true] at h
    have ih := index_dig a b h.2
    rw [Lib.index_one] at ih ⊢
    have e : (c == (46 : UInt8)) = false := beq_eq_false_iff_ne.2 (fun e => by rw [e] at h; exact absurd h.1 (by decide))
    rw [List.cons_append]
    unfold Lib.indexByte
    simp only [e]
    simp [ih]
theorem cut_dig {a b : List UInt8} (h : a.all dig = true) : Lib.cut (a ++ 46 :: b) [46] = (a, b, true) := by
  unfold Lib.cut
  rw [index_dig a b h, if_pos (by omega), Int.toNat_natCast, List.take_left]
  show (a, (a ++ 46 :: b).drop (a.length + 1), true) = _
  rw [← List.drop_drop, List.drop_left]; rfl
theorem all_takeWhile (p : UInt8 → Bool) (l : List UInt8) : (l.takeWhile p).all p = true := by
  induction l with
  | nil => rfl
  | cons c l ih =>
    rw [List.takeWhile_cons]
    split
    · rename_i h; rw [List.all_cons, h, ih]; rfl
    · rfl
theorem head_dropWhile {p : UInt8 → Bool} {l : List UInt8} {c : UInt8} {q : List UInt8} (h : l.dropWhile p = c :: q) : p c = false := by
  induction l with
  | nil => cases h
  | cons a l ih =>
    rw [List.dropWhile_cons] at h
    split at h
    · exact ih h
    · rename_i hn
      obtain ⟨rfl, _⟩ := List.cons.inj h
      simpa using hn
theorem tw_stop {p q : List UInt8} {c : UInt8} (hp : p.all dig = true) (hc : dig c = false) : (p ++ c :: q).takeWhile dig = p := by
  induction p with
  | nil => rw [List.nil_append, List.takeWhile_cons, hc]; rfl
  | cons a p ih =>
    rw [List.all_cons, Bool.and_eq_true] at hp
    rw [List.cons_append, List.takeWhile_cons, hp.1, if_pos rfl, ih hp.2]
theorem decT_no {l p q : List UInt8} {c : UInt8} (hp : p.all dig = true) (hl : l = p ++ c :: q) (hc : dig c = false) (h46 : c ≠ 46) : decT l = false := by
  cases hd : decT l with
  | false => rfl
  | true =>
    exfalso
    unfold decT at hd
    rw [Bool.and_eq_true, Bool.and_eq_true, Bool.and_eq_true] at hd
    obtain ⟨a, b, e1, e2, e3⟩ := cut_spec hd.1.1.1
    have ha : a.all dig = true := by
      have := hd.1.1.2
      rw [e2] at this
      unfold wholeT at this
      rw [Bool.and_eq_true] at this
      exact this.2
    rw [hl] at e1
    have t1 : (p ++ c :: q).takeWhile dig = p := tw_stop hp hc
    have t2 : (a ++ 46 :: b).takeWhile dig = a := tw_stop ha (by decide)
    have : p = a := by rw [← t1, e1, t2]
    subst this
    have := List.append_cancel_left e1
    exact h46 (List.cons.inj this).1
theorem decT_digs {l : List UInt8} (h : l.all dig = true) : decT l = false := by
  cases hd : decT l with
  | false => rfl
  | true =>
    exfalso
    unfold decT at hd
    rw [Bool.and_eq_true, Bool.and_eq_true, Bool.and_eq_true] at hd
    obtain ⟨a, b, e1, _⟩ := cut_spec hd.1.1.1
    rw [e1, List.all_append, List.all_cons, show dig 46 = false by decide] at h
    simp at h
theorem decT_dot {p q : List UInt8} (hp : p.all dig = true) : decT (p ++ 46 :: q) = (wholeT p && decide (q ≠ []) && q.all dig) := by
  unfold decT; rw [cut_dig hp]; simp
theorem scan_len (p : UInt8 → Bool) (l : List UInt8) : decide (scan p l = l.length) = l.all p := by
  induction l with
  | nil => rfl
  | cons c l ih =>
    cases hc : p c with
    | false => rw [scan_no hc, List.all_cons, hc, Bool.false_and]; simp
    | true => rw [scan_yes hc, List.all_cons, hc, Bool.true_and, ← ih]; exact decide_eq_decide.2 (by rw [List.length_cons]; omega)
/-- the token of a numeral, as a test -/
theorem num_tok (s : ByteArray) (x : UInt8) (m : List UInt8) (e : L s = x :: m) (hd : dig x = true) :
    ((Tok.tok s 0).1 = 3 ∧ (Tok.tok s 0).2.2 = (s.size : Int) ↔ wholeT (L s) = true) ∧ ((Tok.tok s 0).1 = 4 ∧ (Tok.tok s 0).2.2 = (s.size : Int) ↔ decT (L s) = true) := by
  have hsz : s.size = m.length + 1 := by rw [← L_length, e]; rfl
  have ht : Tok.tok s 0 = numeral s 0 := by
    unfold Tok.tok
    rw [e]
    show (if x = 34 then _ else if x = 124 then _ else if x = 58 then _ else if x = 35 then _ else if dig x = true then _ else _) = _
    rw [if_neg (by intro h; rw [h] at hd; exact absurd hd (by decide)), if_neg (by intro h; rw [h] at hd; exact absurd hd (by decide)), if_neg (by intro h; rw [h] at hd; exact absurd hd (by decide)), if_neg (by intro h; rw [h] at hd; exact absurd hd (by decide)), if_pos hd]
  have hk : 0 + 1 + scan dig ((L s).drop (0 + 1)) = scan dig (L s) := by
    rw [e, scan_yes hd]; show 0 + 1 + scan dig m = _; omega
  have hp := all_takeWhile dig (L s)
  have hsc : scan dig (L s) = ((L s).takeWhile dig).length := rfl
  have hsplit : L s = (L s).takeWhile dig ++ (L s).dropWhile dig := (List.takeWhile_append_dropWhile (p := dig)).symm
  have h1 : 1 ≤ scan dig (L s) := by rw [e, scan_yes hd]; omega
  have h48 : ∀ p r, L s = p ++ r → 1 ≤ p.length → (p[0]? = some 48 ↔ (L s)[0]? = some 48) := by
    intro p r hpr hl
    rw [hpr, List.getElem?_append_left (by omega)]
  rw [ht]
  unfold numeral
  simp only
  rw [hk]
  cases hr : (L s).dropWhile dig with
  | nil =>
    rw [hr, List.append_nil] at hsplit
    have hall : (L s).all dig = true := by rw [hsplit]; exact hp
    have hlen : scan dig (L s) = s.size := by rw [hsc, ← hsplit, L_length]
    have hw : wholeT (L s) = !(decide ((L s)[0]? = some 48) && decide (1 < s.size)) := by
      unfold wholeT
      rw [hall, Bool.and_true, L_length, decide_eq_true (by rw [e]; simp), Bool.true_and]
    rw [decT_digs hall, hw, hlen]
    by_cases hz : 0 + 1 < s.size ∧ (L s)[0]? = some 48
    · rw [if_pos hz, decide_eq_true hz.2, decide_eq_true (by omega : 1 < s.size)]
      exact ⟨⟨fun h => absurd h.1 (by decide), fun h => absurd h (by decide)⟩, ⟨fun h => absurd h.1 (by decide), fun h => absurd h (by decide)⟩⟩
    · rw [if_neg hz, if_neg (by rw [get_end s s.size (Nat.le_refl _)]; intro h; exact absurd h.1 (by simp))]
      refine ⟨⟨fun _ => ?_, fun _ => ⟨rfl, rfl⟩⟩, ⟨fun h => absurd (show (3 : Int) = 4 from h.1) (by decide), fun h => absurd h (by decide)⟩⟩
      rw [Bool.not_eq_true', Bool.and_eq_false_iff, decide_eq_false_iff_not, decide_eq_false_iff_not]
      by_cases h0 : (L s)[0]? = some 48
      · right; intro h2; exact hz ⟨by omega, h0⟩
      · left; exact h0
  | cons c q =>
    rw [hr] at hsplit
    have hcd := head_dropWhile hr
    generalize hP : (L s).takeWhile dig = p at hp hsc hsplit
    have hpl : p.length < s.size := by rw [← L_length, hsplit, List.length_append, List.length_cons]; omega
    have hsq : s.size = p.length + 1 + q.length := by rw [← L_length, hsplit, List.length_append, List.length_cons]; omega
    have hw : wholeT (L s) = false := by
      unfold wholeT
      rw [hsplit, List.all_append, List.all_cons, hcd]; simp
    have hat : (L s)[scan dig (L s)]? = some c := by
      rw [hsc]; conv => lhs; rw [hsplit]
      rw [List.getElem?_append_right (Nat.le_refl _), Nat.sub_self]; rfl
    rw [hw]
    have n3 : ∀ z : Int, (3 : Int) = 3 ∧ ((scan dig (L s) : Nat) : Int) = (s.size : Int) ↔ false = true := fun _ => ⟨fun h => by have := h.2; rw [hsc] at this; omega, fun h => by cases h⟩
    by_cases h46 : c = 46
    · subst h46
      have hd2 : decT (L s) = (wholeT p && decide (q ≠ []) && q.all dig) := by rw [hsplit]; exact decT_dot hp
      have hnext : (L s)[scan dig (L s) + 1]? = q[0]? := by
        rw [hsc]; conv => lhs; rw [hsplit]
        rw [List.getElem?_append_right (by omega), show p.length + 1 - p.length = 1 by omega]; rfl
      have hdrop : (L s).drop (scan dig (L s) + 1) = q := by
        rw [hsc]; conv => lhs; rw [hsplit]
        rw [← List.drop_drop, List.drop_left]; rfl
      have hwp : wholeT p = !(decide ((L s)[0]? = some 48) && decide (1 < p.length)) := by
        unfold wholeT
        have hpn : p ≠ [] := fun h => by rw [h] at hsc; simp at hsc; omega
        rw [hp, Bool.and_true, decide_eq_true hpn, Bool.true_and, decide_eq_decide.2 (h48 p _ hsplit (by omega))]
      rw [hd2, hwp]
      by_cases hz : 0 + 1 < scan dig (L s) ∧ (L s)[0]? = some 48
      · rw [if_pos hz, decide_eq_true hz.2, decide_eq_true (by omega : 1 < p.length)]
        exact ⟨⟨fun h => absurd h.1 (by decide), fun h => by cases h⟩, ⟨fun h => absurd h.1 (by decide), fun h => by simp at h⟩⟩
      · rw [if_neg hz]
        have hz2 : (!(decide ((L s)[0]? = some 48) && decide (1 < p.length))) = true := by
          rw [Bool.not_eq_true', Bool.and_eq_false_iff, decide_eq_false_iff_not, decide_eq_false_iff_not]
          by_cases h0 : (L s)[0]? = some 48
          · right; intro h2; exact hz ⟨by omega, h0⟩
          · left; exact h0
        rw [hz2, Bool.true_and, hat, hnext]
        cases q with
        | nil =>
          rw [if_neg (by intro h; exact absurd h.2 (by simp))]
          exact ⟨n3 0, ⟨fun h => absurd (show (3 : Int) = 4 from h.1) (by decide), fun h => by simp at h⟩⟩
        | cons y q =>
          cases hy : dig y with
          | false =>
            rw [if_neg (by intro h; have := h.2; simp [hy] at this)]
            exact ⟨n3 0, ⟨fun h => absurd (show (3 : Int) = 4 from h.1) (by decide), fun h => by simp [hy] at h⟩⟩
          | true =>
            rw [if_pos ⟨rfl, by simp [hy]⟩, hdrop]
            refine ⟨⟨fun h => absurd (show (4 : Int) = 3 from h.1) (by decide), fun h => by cases h⟩, ?_⟩
            rw [decide_eq_true (by simp : y :: q ≠ []), Bool.true_and, ← scan_len, decide_eq_true_eq]
            rw [List.length_cons] at hsq
            constructor
            · rintro ⟨_, h⟩
              have h' : ((scan dig (L s) + 1 + scan dig (y :: q) : Nat) : Int) = (s.size : Int) := h
              rw [List.length_cons]; omega
            · intro h
              rw [List.length_cons] at h
              refine ⟨rfl, ?_⟩
              show ((scan dig (L s) + 1 + scan dig (y :: q) : Nat) : Int) = (s.size : Int)
              omega
    · rw [decT_no hp hsplit hcd h46]
      by_cases hz : 0 + 1 < scan dig (L s) ∧ (L s)[0]? = some 48
      · rw [if_pos hz]
        exact ⟨⟨fun h => absurd h.1 (by decide), fun h => by cases h⟩, ⟨fun h => absurd h.1 (by decide), fun h => by cases h⟩⟩
      · rw [if_neg hz, hat, if_neg (by intro h; exact h46 (Option.some.inj h.1))]
        exact ⟨n3 0, ⟨fun h => absurd (show (3 : Int) = 4 from h.1) (by decide), fun h => by cases h⟩⟩
theorem ne_size (s : ByteArray) : decide (L s ≠ []) = decide (0 < s.size) := by
  refine decide_eq_decide.2 ?_
  rw [← L_length]
  constructor
  · intro h; exact List.length_pos_iff.2 h
  · intro h e; rw [e] at h; exact absurd h (by decide)
/-- l3Word is `word` -/
theorem word_is (f0 f2 f3 : Int) (s : ByteArray) (hs : s.size ≤ 1048576) : Evt (fun k => spec_l3Word.f k f0 s f2 f3) (word f0 (L s)) := by
  unfold word
  by_cases h1 : f0 = 1
  · rw [if_pos h1]
    refine Evt.pure (fun k => ?_)
    unfold spec_l3Word.f
    rw [if_pos h1]
    congr 1
    rw [Bool.eq_iff_iff, beq_iff_eq, decide_eq_true_eq, toList_L]
  rw [if_neg h1]
  by_cases h2 : f0 = 2
  · rw [if_pos h2]
    exact Evt.same (fun k => by unfold spec_l3Word.f; rw [if_neg h1, if_pos h2]; rfl) (word_l0 s hs _ 0 (by omega) rfl)
  rw [if_neg h2]
  have num : ∀ b : Bool, b = true → (f0 = 3 ∨ f0 = 4) → Evt (fun k => spec_l3Word.j4 k s b f0 s f2 f3) (if f0 = 3 then wholeT (L s) else decT (L s)) := by
    intro b hb hf
    subst hb
    by_cases h0 : s.size = 0
    · have e : (if f0 = 3 then wholeT (L s) else decT (L s)) = false := by
        rw [List.length_eq_zero_iff.1 ((L_length s).trans h0)]
        split <;> rfl
      rw [e]
      exact Evt.done (fun k => by simp only [spec_l3Word.j4]; rw [if_pos trivial, if_pos (by omega)])
    · obtain ⟨x, m, e, hx⟩ := first_of s (by omega)
      cases hd : dig x with
      | false =>
        have e2 : (if f0 = 3 then wholeT (L s) else decT (L s)) = false := by
          split
          · unfold wholeT; rw [e, List.all_cons, hd]; simp
          · by_cases h46 : x = 46
            · subst h46
              have : decT ([] ++ 46 :: m) = _ := decT_dot (p := []) (q := m) rfl
              rw [e]; rw [List.nil_append] at this; rw [this]; rfl
            · exact decT_no (p := []) rfl e hd h46
        rw [e2]
        exact Evt.done (fun k => by simp only [spec_l3Word.j4]; rw [if_pos trivial, if_neg (by omega), if_pos (by omega), hx, digS, hd, Option.bind_some, if_neg (by decide)])
      | true =>
        obtain ⟨t3, t4⟩ := num_tok s x m e hd
        have ht : spec_l3Token.f s 0 = some (Tok.tok s 0) := by
          unfold spec_l3Token.f tokF
          rw [if_pos ⟨by omega, by omega, by omega⟩]; rfl
        refine Evt.done (fun k => ?_)
        simp only [spec_l3Word.j4]
        rw [if_pos trivial, if_neg (by omega), if_pos (by omega), hx, digS, hd, Option.bind_some, if_pos rfl, ht, Option.bind_some]
        have fin : ∀ (K : Int) (b : Bool), ((Tok.tok s 0).1 = K ∧ (Tok.tok s 0).2.2 = (s.size : Int) ↔ b = true) → (if (Tok.tok s 0).1 = K then some ((Tok.tok s 0).2.2 == (s.size : Int)) else some false) = some b := by
          intro K b hb
          by_cases hk : (Tok.tok s 0).1 = K
          · rw [if_pos hk]
            congr 1
            rw [Bool.eq_iff_iff, beq_iff_eq, ← hb]
            exact ⟨fun h => ⟨hk, h⟩, fun h => h.2⟩
          · rw [if_neg hk]
            cases b with
            | false => rfl
            | true => exact absurd (hb.2 rfl).1 hk
        rcases hf with h | h
        · rw [if_pos h, h]; exact fin 3 _ t3
        · subst h; rw [if_neg (show ¬ (4 : Int) = 3 by decide)]; exact fin 4 _ t4
  by_cases h3 : f0 = 3
  · have := num (f0 == 3) (beq_iff_eq.2 h3) (.inl h3)
    rw [if_pos h3] at this ⊢
    exact Evt.same (fun k => by unfold spec_l3Word.f; rw [if_neg h1, if_neg h2, if_neg (by omega), if_neg (by omega), if_neg (by omega), if_pos h3]) this
  rw [if_neg h3]
  by_cases h4 : f0 = 4
  · have := num (f0 == 4) (beq_iff_eq.2 h4) (.inr h4)
    rw [if_neg h3] at this
    rw [if_pos h4]
    exact Evt.same (fun k => by unfold spec_l3Word.f; rw [if_neg h1, if_neg h2, if_neg (by omega), if_neg (by omega), if_neg (by omega), if_neg h3]) this
  rw [if_neg h4]
  by_cases h5 : f0 = 5
  · rw [if_pos h5, ne_size, Bool.and_comm]
    exact Evt.same (fun k => by unfold spec_l3Word.f; rw [if_neg h1, if_neg h2, if_neg (by omega), if_neg (by omega), if_pos h5]; rfl) (word_l3 s hs _ 0 (by omega) rfl)
  rw [if_neg h5]
  by_cases h6 : f0 = 6
  · rw [if_pos h6]
    exact Evt.same (fun k => by unfold spec_l3Word.f; rw [if_neg h1, if_neg h2, if_pos h6]; rfl) (word_l1 s hs _ 0 (by omega) rfl)
  rw [if_neg h6]
  by_cases h7 : f0 = 7
  · rw [if_pos h7, ne_size, Bool.and_comm]
    exact Evt.same (fun k => by unfold spec_l3Word.f; rw [if_neg h1, if_neg h2, if_neg (by omega), if_pos h7]; rfl) (word_l2 s hs _ 0 (by omega) rfl)
  rw [if_neg h7]
  have hf : Evt (fun k => spec_l3Word.j4 k s (f0 == 4) f0 s f2 f3) false := by
    rw [show (f0 == 4) = false from beq_eq_false_iff_ne.2 h4]
    exact Evt.done (fun k => by simp only [spec_l3Word.j4]; rw [if_neg (by decide)])
  exact Evt.same (fun k => by unfold spec_l3Word.f; rw [if_neg h1, if_neg h2, if_neg h6, if_neg h7, if_neg h5, if_neg h3]) hf
/-! ### the stack -/
theorem top_idx (a : Int) (st : List Int) (h : st.length ≤ 1000000) : wrap64 ((((a :: st).reverse).length : Int) - 1) = (st.length : Int) := by
  rw [List.length_reverse, List.length_cons]; unfold wrap64; omega
theorem rd_top (a : Int) (st : List Int) : rd (a :: st).reverse (st.length : Int) = a := by
  unfold rd; rw [Int.toNat_natCast, List.reverse_cons, List.getD_eq_getElem?_getD, List.getElem?_append_right (by simp)]; simp
theorem take_top (a : Int) (st : List Int) : (a :: st).reverse.take ((st.length : Int)).toNat = st.reverse := by
  rw [Int.toNat_natCast, List.reverse_cons, List.take_left' (by simp)]
theorem set_top (a v : Int) (st : List Int) : (a :: st).reverse.set ((st.length : Int)).toNat v = (v :: st).reverse := by
  rw [Int.toNat_natCast, List.reverse_cons, List.reverse_cons, List.set_append_right _ _ (by simp)]; simp
theorem len_rev (a : Int) (st : List Int) : (((a :: st).reverse).length : Int) = (st.length : Int) + 1 := by rw [List.length_reverse, List.length_cons]; omega
def Bn (st : List Int) : Prop := ∀ a ∈ st, a ≤ 9223372036854775807
theorem popZ_bn : ∀ {st : List Int}, Bn st → Bn (popZ st)
  | [], _ => fun a h => by cases h
  | a :: st, h => by
    unfold popZ
    split
    · exact popZ_bn fun b hb => h b (List.mem_cons_of_mem _ hb)
    · exact h
theorem popZ_len : ∀ (st : List Int), (popZ st).length ≤ st.length
  | [] => Nat.le_refl _
  | a :: st => by
    unfold popZ
    split
    · have := popZ_len st; rw [List.length_cons]; omega
    · exact Nat.le_refl _
theorem dec_len (st : List Int) : (dec1 st).length = st.length := by cases st <;> rfl
theorem dec_bn {st : List Int} (h : Bn st) : Bn (dec1 st) := by
  cases st with
  | nil => exact h
  | cons a s =>
    intro b hb
    rcases List.mem_cons.1 hb with rfl | hb
    · have := h a (List.mem_cons_self ..); omega
    · exact h b (List.mem_cons_of_mem _ hb)
/-- the row's element at a place -/
theorem elem_at {l : List S43} {i : Nat} {x : S43} {r : List S43} (h : l.drop i = x :: r) : i < l.length ∧ rd_T43 l (i : Int) = x ∧ x ∈ l ∧ l.drop (i + 1) = r := by
  have h1 : (l.drop i).length = r.length + 1 := by rw [h]; rfl
  rw [List.length_drop] at h1
  have hj : i < l.length := by omega
  have hg : l[i]? = some x := by
    have := congrArg (fun l => l[0]?) h
    simpa using this
  have hx : l[i] = x := by rw [List.getElem?_eq_getElem hj] at hg; exact Option.some.inj hg
  refine ⟨hj, ?_, by rw [← hx]; exact List.getElem_mem hj, by rw [← List.drop_drop, h]; rfl⟩
  unfold rd_T43
  rw [Int.toNat_natCast, List.getD_eq_getElem?_getD, hg]; rfl
section
variable {l : List S43}
theorem right_l1 {r : Bool} (m len i f0 f2 f3 : Int) (f1 : ByteArray) : ∀ (st : List Int), st.length ≤ 1000000 → Evt (fun k => impl_rightTree.j2 k m (popZ st).reverse l len i f0 f1 f2 f3) r → Evt (fun k => impl_rightTree.l1 k m st.reverse l len i f0 f1 f2 f3) r
  | [], _, h => Evt.succ (fun k => by simp only [impl_rightTree.l1]; rw [if_neg (by simp)]; rfl) h
  | a :: st, hs, h => by
    rw [List.length_cons] at hs
    have h1 := top_idx a st (by omega)
    have h2 := len_rev a st
    unfold popZ at h
    by_cases ha : a = 0
    · rw [if_pos ha] at h
      exact Evt.succ (fun k => by simp only [impl_rightTree.l1]; rw [if_pos (by omega), h1, if_pos (by omega), if_pos (by omega), rd_top, if_pos ha, if_pos (by omega), take_top]) (right_l1 m len i f0 f2 f3 f1 st (by omega) h)
    · rw [if_neg ha] at h
      exact Evt.succ (fun k => by simp only [impl_rightTree.l1]; rw [if_pos (by omega), h1, if_pos (by omega), if_pos (by omega), rd_top, if_neg ha]) h
theorem all_pos (X : List Int) (m : Int) : ∀ (d i : Nat), i ≤ X.length → X.length - i = d → X.length ≤ 1000000 → Evt (fun k => impl_rightTree.l2 k m X (X.length : Int) (i : Int)) ((X.drop i).all (fun a => decide (a ≤ 0)) && decide (m ≤ 20000)) := by
  intro d
  induction d with
  | zero =>
    intro i hi hd hX
    rw [List.drop_eq_nil_of_le (by omega), List.all_nil, Bool.true_and]
    exact Evt.done (fun k => by simp only [impl_rightTree.l2]; rw [if_neg (by omega)])
  | succ d ih =>
    intro i hi hd hX
    have hlt : i < X.length := by omega
    have hw1 : wrap64 ((i : Int) + 1) = ((i + 1 : Nat) : Int) := wrap_ok (by omega) (by omega)
    have hrd : rd X (i : Int) = X[i] := by unfold rd; rw [Int.toNat_natCast, List.getD_eq_getElem?_getD, List.getElem?_eq_getElem hlt]; rfl
    rw [List.drop_eq_getElem_cons hlt, List.all_cons]
    by_cases hz : X[i] > 0
    · rw [decide_eq_false (by omega : ¬ X[i] ≤ 0), Bool.false_and, Bool.false_and]
      exact Evt.done (fun k => by simp only [impl_rightTree.l2]; rw [if_pos (by omega), if_pos (by omega), if_pos (by omega), hrd, if_pos hz])
    · rw [decide_eq_true (by omega : X[i] ≤ 0), Bool.true_and]
      exact Evt.succ (fun k => by simp only [impl_rightTree.l2]; rw [if_pos (by omega), if_pos (by omega), if_pos (by omega), hrd, if_neg hz, hw1]) (ih (i + 1) (by omega) (by omega) hX)
/-- rightTree is `implR` -/
theorem right_l0 (hl : l.length ≤ 8000) (hB : ∀ x ∈ l, x.f1.size ≤ 1048576 ∧ x.f2 ≤ 9223372036854775807) : ∀ (rest : List S43) (i : Nat) (st : List Int) (m : Nat), l.drop i = rest → i ≤ l.length → Nn st → Bn st → st.length ≤ 200 → m ≤ i * 1048576 →
    Evt (fun k => impl_rightTree.l0 k (m : Int) st.reverse l (l.length : Int) (i : Int)) (implR (nds rest) st m)
  | [], i, st, m, hd, hi, hn, hb, hs, hm => by
    have hil : i = l.length := by
      have := congrArg List.length hd
      rw [List.length_drop] at this; simp at this; omega
    have hall := all_pos st.reverse (m : Int) _ 0 (by omega) rfl (by rw [List.length_reverse]; omega)
    rw [List.drop_zero, List.all_reverse] at hall
    show Evt _ (st.all (fun a => decide (a ≤ 0)) && decide (m ≤ 20000))
    rw [show decide (m ≤ 20000) = decide ((m : Int) ≤ 20000) from decide_eq_decide.2 (by omega)]
    exact Evt.succ (fun k => by simp only [impl_rightTree.l0]; rw [if_neg (by omega)]; rfl) hall
  | x :: rest, i, st, m, hd, hi, hn, hb, hs, hm => by
    obtain ⟨hlt, hx, hmem, hd2⟩ := elem_at hd
    obtain ⟨hx1, hx2⟩ := hB x hmem
    have hw1 : wrap64 ((i : Int) + 1) = ((i + 1 : Nat) : Int) := wrap_ok (by omega) (by omega)
    have hwm : wrap64 ((m : Int) + (x.f1.size : Int)) = ((m + x.f1.size : Nat) : Int) := by rw [wrap_ok (by omega) (by omega)]; omega
    have hpl := popZ_len st
    have hdn := dec_nn hn
    have hdb := dec_bn (popZ_bn hb)
    have hdl := dec_len (popZ st)
    obtain ⟨hpn, hp1⟩ := popZ_nn hn
    have hpb := popZ_bn hb
    refine Evt.succ (g := fun k => impl_rightTree.l1 k (m : Int) st.reverse l (l.length : Int) (i : Int) x.f0 x.f1 x.f2 x.f3) (fun k => by simp only [impl_rightTree.l0]; rw [if_pos (by omega), if_pos (by omega), if_pos (by omega), hx]) ?_
    refine right_l1 _ _ _ _ _ _ _ st (by omega) ?_
    show Evt _ (implR (nd x :: nds rest) st m)
    unfold implR
    have hgf : impl_goodNode.f x.f0 x.f1 x.f2 x.f3 = some (goodN (nd x)) := by unfold impl_goodNode.f; rw [if_pos hx1]; rfl
    cases hg : goodN (nd x) with
    | false =>
      rw [if_pos rfl]
      exact Evt.done (fun k => by simp only [impl_rightTree.j2]; rw [hgf, hg, Option.bind_some, if_neg (by decide)])
    | true =>
      rw [if_neg (by decide)]
      have hf2 : 0 ≤ x.f2 := by
        unfold goodN at hg
        simp only [Bool.and_eq_true, decide_eq_true_eq] at hg
        exact hg.1.1
      have hlen : (nd x).t.length = x.f1.size := L_length x.f1
      rw [hlen]
      -- what follows the decrement
      have fin : Evt (fun k => impl_rightTree.j3 k ((m + x.f1.size : Nat) : Int) (dec1 (popZ st)).reverse l (l.length : Int) (i : Int) x.f0 x.f1 x.f2 x.f3)
          (if (nd x).k = 1 then (if 200 < (dec1 (popZ st)).length + 1 then false else implR (nds rest) ((nd x).n :: dec1 (popZ st)) (m + x.f1.size)) else implR (nds rest) (dec1 (popZ st)) (m + x.f1.size)) := by
        by_cases hk : x.f0 = 1
        · rw [if_pos (show (nd x).k = 1 from hk)]
          have hpush : (dec1 (popZ st)).reverse ++ [x.f2] = (x.f2 :: dec1 (popZ st)).reverse := by rw [List.reverse_cons]
          by_cases h2 : 200 < (dec1 (popZ st)).length + 1
          · rw [if_pos h2]
            exact Evt.done (fun k => by simp only [impl_rightTree.j3]; rw [if_pos hk, if_pos (by rw [List.length_reverse]; omega), Option.bind_some, hpush, if_pos (by rw [len_rev]; omega)])
          · rw [if_neg h2]
            refine Evt.succ (fun k => by simp only [impl_rightTree.j3]; rw [if_pos hk, if_pos (by rw [List.length_reverse]; omega), Option.bind_some, hpush, if_neg (by rw [len_rev]; omega), hw1])
              (right_l0 hl hB rest (i + 1) (x.f2 :: dec1 (popZ st)) (m + x.f1.size) hd2 (by omega) ?_ ?_ (by rw [List.length_cons]; omega) (by omega))
            · intro a ha
              rcases List.mem_cons.1 ha with rfl | ha
              · exact hf2
              · exact hdn a ha
            · intro a ha
              rcases List.mem_cons.1 ha with rfl | ha
              · exact hx2
              · exact hdb a ha
        · rw [if_neg (show ¬ (nd x).k = 1 from hk)]
          exact Evt.succ (fun k => by simp only [impl_rightTree.j3]; rw [if_neg hk, hw1])
            (right_l0 hl hB rest (i + 1) (dec1 (popZ st)) (m + x.f1.size) hd2 (by omega) hdn hdb (by omega) (by omega))
      cases hp : popZ st with
      | nil =>
        rw [hp] at fin
        exact Evt.succ (fun k => by simp only [impl_rightTree.j2]; rw [hgf, hg, Option.bind_some, if_pos rfl, if_neg (by simp), hwm]; rfl) fin
      | cons a s =>
        rw [hp] at fin hpl hpb
        rw [List.length_cons] at hpl
        have ha := hp1 a s hp
        have hab := hpb a (List.mem_cons_self ..)
        have hwa : wrap64 (a - 1) = a - 1 := wrap_ok (by omega) (by omega)
        have h1 := top_idx a s (by omega)
        have h2 := len_rev a s
        exact Evt.succ (fun k => by simp only [impl_rightTree.j2]; rw [hgf, hg, Option.bind_some, if_pos rfl, if_pos (by omega), h1, if_pos (by omega), if_pos (by omega), rd_top, hwa, set_top, hwm]; rfl) fin
theorem right_is (hB : ∀ x ∈ l, x.f1.size ≤ 1048576 ∧ x.f2 ≤ 9223372036854775807) : Evt (fun k => impl_rightTree.f k l) (decide (l.length ≤ 8000) && implR (nds l) [] 0) := by
  by_cases hl : l.length ≤ 8000
  · rw [decide_eq_true hl, Bool.true_and]
    have := right_l0 hl hB l 0 [] 0 rfl (by omega) (fun a h => by cases h) (fun a h => by cases h) (by simp) (by omega)
    exact Evt.same (fun k => by unfold impl_rightTree.f; rw [if_neg (by omega)]; rfl) this
  · rw [decide_eq_false hl, Bool.false_and]
    exact Evt.pure (fun k => by unfold impl_rightTree.f; rw [if_pos (by omega)])
end
/-! ### the reference's test of a row -/
section
variable {l : List S43}
theorem form_l1 {r : Bool} (m len i : Int) : ∀ (st : List Int), st.length ≤ 1000000 → Evt (fun k => spec_l3Form.l0 k (popZ st).reverse m l len (wrap64 (i + 1))) r → Evt (fun k => spec_l3Form.l1 k st.reverse m l len i) r
  | [], _, h => Evt.succ (fun k => by simp only [spec_l3Form.l1]; rw [if_neg (by simp)]; rfl) h
  | a :: st, hs, h => by
    rw [List.length_cons] at hs
    have h1 := top_idx a st (by omega)
    have h2 := len_rev a st
    unfold popZ at h
    by_cases ha : a = 0
    · rw [if_pos ha] at h
      exact Evt.succ (fun k => by simp only [spec_l3Form.l1]; rw [if_pos (by omega), h1, if_pos (by omega), if_pos (by omega), rd_top, if_pos ha, if_pos (by omega), take_top]) (form_l1 m len i st (by omega) h)
    · rw [if_neg ha] at h
      exact Evt.succ (fun k => by simp only [spec_l3Form.l1]; rw [if_pos (by omega), h1, if_pos (by omega), if_pos (by omega), rd_top, if_neg ha]) h
theorem form_l0 (hl : l.length ≤ 8000) (hB : ∀ x ∈ l, x.f1.size ≤ 1048576 ∧ x.f2 ≤ 9223372036854775807) : ∀ (rest : List S43) (i : Nat) (st : List Int) (m : Nat), l.drop i = rest → i ≤ l.length → Nn st → Bn st → st.length ≤ 200 → m ≤ 20000 →
    Evt (fun k => spec_l3Form.l0 k (popZ st).reverse (m : Int) l (l.length : Int) (i : Int)) (specF (nds rest) (popZ st) m)
  | [], i, st, m, hd, hi, hn, hb, hs, hm => by
    have hil : i = l.length := by
      have := congrArg List.length hd
      rw [List.length_drop] at this; simp at this; omega
    show Evt _ (decide (popZ st = []))
    refine Evt.done (fun k => ?_)
    simp only [spec_l3Form.l0]
    rw [if_neg (by omega)]
    congr 1
    rw [Bool.eq_iff_iff, beq_iff_eq, decide_eq_true_eq, List.length_reverse]
    constructor
    · intro h; exact List.length_eq_zero_iff.1 (by omega)
    · intro h; rw [h]; rfl
  | x :: rest, i, st, m, hd, hi, hn, hb, hs, hm => by
    obtain ⟨hlt, hx, hmem, hd2⟩ := elem_at hd
    obtain ⟨hx1, hx2⟩ := hB x hmem
    have hw1 : wrap64 ((i : Int) + 1) = ((i + 1 : Nat) : Int) := wrap_ok (by omega) (by omega)
    have hwm : wrap64 ((m : Int) + (x.f1.size : Int)) = ((m + x.f1.size : Nat) : Int) := by rw [wrap_ok (by omega) (by omega)]; omega
    have hpl := popZ_len st
    have hdn := dec_nn hn
    have hdb := dec_bn (popZ_bn hb)
    have hdl := dec_len (popZ st)
    obtain ⟨hpn, hp1⟩ := popZ_nn hn
    have hpb := popZ_bn hb
    show Evt _ (specF (nd x :: nds rest) (popZ st) m)
    unfold specF
    have hlen : (nd x).t.length = x.f1.size := L_length x.f1
    rw [hlen]
    have no : Evt (fun k => spec_l3Form.j1 k (popZ st).reverse ((m + x.f1.size : Nat) : Int) l (l.length : Int) (i : Int) true x.f0 x.f1 x.f2 x.f3) false := Evt.done (fun k => by simp only [spec_l3Form.j1]; rw [if_pos trivial])
    by_cases hbig : 20000 < m + x.f1.size
    · rw [if_pos (.inl hbig)]
      exact Evt.succ (fun k => by simp only [spec_l3Form.l0]; rw [if_pos (by omega), if_pos (by omega), if_pos (by omega), hx, hwm, if_pos (by omega)]) no
    have hw := word_is x.f0 x.f2 x.f3 x.f1 hx1
    -- the test of the node
    have step : ∀ b r, Evt (fun k => spec_l3Form.j1 k (popZ st).reverse ((m + x.f1.size : Nat) : Int) l (l.length : Int) (i : Int) b x.f0 x.f1 x.f2 x.f3) r → b = !goodN (nd x) → Evt (fun k => spec_l3Form.l0 k (popZ st).reverse (m : Int) l (l.length : Int) (i : Int)) r := by
      intro b r hj hbv
      refine Evt.succ (g := fun k => (spec_l3Word.f k x.f0 x.f1 x.f2 x.f3).bind fun t => if t = true then (if x.f2 < 0 then (spec_l3Form.j1 k (popZ st).reverse ((m + x.f1.size : Nat) : Int) l (l.length : Int) (i : Int) true x.f0 x.f1 x.f2 x.f3) else (if x.f0 = 1 then (spec_l3Form.j1 k (popZ st).reverse ((m + x.f1.size : Nat) : Int) l (l.length : Int) (i : Int) false x.f0 x.f1 x.f2 x.f3) else (spec_l3Form.j1 k (popZ st).reverse ((m + x.f1.size : Nat) : Int) l (l.length : Int) (i : Int) (x.f2 != 0) x.f0 x.f1 x.f2 x.f3))) else (spec_l3Form.j1 k (popZ st).reverse ((m + x.f1.size : Nat) : Int) l (l.length : Int) (i : Int) true x.f0 x.f1 x.f2 x.f3))
        (fun k => by simp only [spec_l3Form.l0]; rw [if_pos (by omega), if_pos (by omega), if_pos (by omega), hx, hwm, if_neg (by omega)]) ?_
      refine Evt.bind hw ?_
      have hgd : goodN (nd x) = (decide (0 ≤ x.f2) && (decide (x.f0 = 1) || decide (x.f2 = 0)) && word x.f0 (L x.f1)) := rfl
      cases hwv : word x.f0 (L x.f1) with
      | false =>
        rw [hwv, Bool.and_false] at hgd
        rw [hgd] at hbv
        subst hbv
        exact Evt.same (fun k => by rw [if_neg (by decide)]; rfl) hj
      | true =>
        rw [hwv, Bool.and_true] at hgd
        by_cases h0 : x.f2 < 0
        · rw [decide_eq_false (by omega : ¬ 0 ≤ x.f2), Bool.false_and] at hgd
          rw [hgd] at hbv
          subst hbv
          exact Evt.same (fun k => by rw [if_pos rfl, if_pos h0]; rfl) hj
        · rw [decide_eq_true (by omega : 0 ≤ x.f2), Bool.true_and] at hgd
          by_cases hk : x.f0 = 1
          · rw [decide_eq_true hk, Bool.true_or] at hgd
            rw [hgd] at hbv
            subst hbv
            exact Evt.same (fun k => by rw [if_pos rfl, if_neg h0, if_pos hk]; rfl) hj
          · rw [decide_eq_false hk, Bool.false_or] at hgd
            have : b = (x.f2 != 0) := by
              rw [hbv, hgd]
              by_cases hz : x.f2 = 0
              · rw [hz]; rfl
              · rw [decide_eq_false hz, bne_iff_ne.2 hz]; rfl
            subst this
            exact Evt.same (fun k => by rw [if_pos rfl, if_neg h0, if_neg hk]) hj
    cases hg : goodN (nd x) with
    | false =>
      rw [if_pos (.inr rfl)]
      rw [hg] at step
      exact step true false no rfl
    | true =>
      rw [if_neg (by rintro (h | h); exact hbig h; cases h)]
      have hf2 : 0 ≤ x.f2 := by
        unfold goodN at hg
        simp only [Bool.and_eq_true, decide_eq_true_eq] at hg
        exact hg.1.1
      rw [hg] at step
      refine step false _ ?_ rfl
      have fin : Evt (fun k => spec_l3Form.j2 k (dec1 (popZ st)).reverse ((m + x.f1.size : Nat) : Int) l (l.length : Int) (i : Int) x.f0 x.f1 x.f2 x.f3)
          (if (nd x).k = 1 then (if 200 < (dec1 (popZ st)).length + 1 then false else specF (nds rest) (popZ ((nd x).n :: dec1 (popZ st))) (m + x.f1.size)) else specF (nds rest) (popZ (dec1 (popZ st))) (m + x.f1.size)) := by
        by_cases hk : x.f0 = 1
        · rw [if_pos (show (nd x).k = 1 from hk)]
          have hpush : (dec1 (popZ st)).reverse ++ [x.f2] = (x.f2 :: dec1 (popZ st)).reverse := by rw [List.reverse_cons]
          by_cases h2 : 200 < (dec1 (popZ st)).length + 1
          · rw [if_pos h2]
            exact Evt.done (fun k => by simp only [spec_l3Form.j2]; rw [if_pos hk, if_pos (by rw [List.length_reverse]; omega), Option.bind_some, hpush, if_pos (by rw [len_rev]; omega)])
          · rw [if_neg h2]
            refine Evt.succ (fun k => by simp only [spec_l3Form.j2]; rw [if_pos hk, if_pos (by rw [List.length_reverse]; omega), Option.bind_some, hpush, if_neg (by rw [len_rev]; omega)]) ?_
            refine Evt.succ (fun k => by simp only [spec_l3Form.j3]; rfl) ?_
            refine form_l1 _ _ _ (x.f2 :: dec1 (popZ st)) (by rw [List.length_cons]; omega) ?_
            rw [hw1]
            refine form_l0 hl hB rest (i + 1) (x.f2 :: dec1 (popZ st)) (m + x.f1.size) hd2 (by omega) ?_ ?_ (by rw [List.length_cons]; omega) (by omega)
            · intro a ha
              rcases List.mem_cons.1 ha with rfl | ha
              · exact hf2
              · exact hdn a ha
            · intro a ha
              rcases List.mem_cons.1 ha with rfl | ha
              · exact hx2
              · exact hdb a ha
        · rw [if_neg (show ¬ (nd x).k = 1 from hk)]
          refine Evt.succ (fun k => by simp only [spec_l3Form.j2]; rw [if_neg hk]) ?_
          refine Evt.succ (fun k => by simp only [spec_l3Form.j3]; rfl) ?_
          refine form_l1 _ _ _ (dec1 (popZ st)) (by omega) ?_
          rw [hw1]
          exact form_l0 hl hB rest (i + 1) (dec1 (popZ st)) (m + x.f1.size) hd2 (by omega) hdn hdb (by omega) (by omega)
      cases hp : popZ st with
      | nil =>
        rw [hp] at fin
        exact Evt.succ (fun k => by simp only [spec_l3Form.j1]; rw [if_neg (by decide), if_neg (by simp)]; rfl) fin
      | cons a s =>
        rw [hp] at fin hpl hpb
        rw [List.length_cons] at hpl
        have ha := hp1 a s hp
        have hab := hpb a (List.mem_cons_self ..)
        have hwa : wrap64 (a - 1) = a - 1 := wrap_ok (by omega) (by omega)
        have h1 := top_idx a s (by omega)
        have h2 := len_rev a s
        exact Evt.succ (fun k => by simp only [spec_l3Form.j1]; rw [if_neg (by decide), if_pos (by omega), h1, if_pos (by omega), if_pos (by omega), rd_top, hwa, set_top]; rfl) fin
theorem form_is (hB : ∀ x ∈ l, x.f1.size ≤ 1048576 ∧ x.f2 ≤ 9223372036854775807) : Evt (fun k => spec_l3Form.f k l) (decide (l.length ≤ 8000) && specF (nds l) [] 0) := by
  by_cases hl : l.length ≤ 8000
  · rw [decide_eq_true hl, Bool.true_and]
    have := form_l0 hl hB l 0 [] 0 rfl (by omega) (fun a h => by cases h) (fun a h => by cases h) (by simp) (by omega)
    exact Evt.same (fun k => by unfold spec_l3Form.f; rw [if_neg (by omega)]; rfl) this
  · rw [decide_eq_false hl, Bool.false_and]
    exact Evt.pure (fun k => by unfold spec_l3Form.f; rw [if_pos (by omega)])
theorem form_right (N : List Nd) : specF N [] 0 = implR N [] 0 := spec_impl N [] 0 (fun a h => by cases h) (by omega)
end
/-! ### what is written -/
theorem leaf_le (x : Nd) : (leafT x).length ≤ 2 * x.t.length + 2 := by
  have := quote_len x.t
  unfold leafT
  generalize x.t.flatMap (fun c => if c = 34 then [34, 34] else [c]) = q at this
  repeat' split
  all_goals (try rw [List.length_cons])
  all_goals (try rw [List.length_cons])
  all_goals (try rw [List.length_append, show ([124] : List UInt8).length = 1 from rfl])
  all_goals (try rw [List.length_append, show ([34] : List UInt8).length = 1 from rfl])
  all_goals omega
theorem ints_app (a b : List UInt8) : ints (a ++ b) = ints a ++ ints b := by unfold ints; rw [List.map_append]
theorem written_l0 (s : ByteArray) (hs : s.size ≤ 1048576) (f0 f2 f3 : Int) : ∀ (d i : Nat) (acc : List UInt8), i ≤ s.size → s.size - i = d → acc.length ≤ 2 * i + 1 →
    Evt (fun k => spec_l3Written.l0 k (ints acc) (i : Int) f0 s f2 f3) (strOfNums (ints (acc ++ ((L s).drop i).flatMap (fun c => if c = 34 then [34, 34] else [c]) ++ [34]))) := by
  intro d
  induction d with
  | zero =>
    intro i acc hi hd ha
    rw [drop_all s i (by omega), List.flatMap_nil, List.append_nil]
    refine Evt.done (fun k => ?_)
    simp only [spec_l3Written.l0]
    rw [if_neg (by omega), if_pos (by rw [ints_len]; omega), ints_app]; rfl
  | succ d ih =>
    intro i acc hi hd ha
    have hlt : i < s.size := by omega
    have hw1 : wrap64 ((i : Int) + 1) = ((i + 1 : Nat) : Int) := wrap_ok (by omega) (by omega)
    rw [drop_cons s i hlt, List.flatMap_cons]
    have hbt := bt_get s i hlt
    generalize hc : (L s)[i]'(by rw [L_length]; exact hlt) = c at hbt ⊢
    have h34 : (c.toNat : Int) = 34 ↔ c = 34 := u8_eq (c := c) 34 (by decide)
    by_cases hq : c = 34
    · have hq2 := h34.2 hq
      have e : ints acc ++ [34] ++ [bt s (i : Int)] = ints (acc ++ [34, 34]) := by rw [hbt, hq2, ints_app, List.append_assoc]; rfl
      have := ih (i + 1) (acc ++ [34, 34]) (by omega) (by omega) (by rw [List.length_append]; simp; omega)
      rw [if_pos hq, ← List.append_assoc]
      refine Evt.succ (fun k => ?_) this
      simp only [spec_l3Written.l0]
      rw [if_pos (by omega), if_pos (by omega), hbt, if_pos hq2, if_pos (by rw [ints_len]; omega), Option.bind_some, if_pos (by rw [List.length_append, ints_len]; simp; omega), hw1, ← hbt, e]
    · have hq2 : ¬ (c.toNat : Int) = 34 := fun h => hq (h34.1 h)
      have e : ints acc ++ [bt s (i : Int)] = ints (acc ++ [c]) := by rw [hbt, ints_app]; rfl
      have := ih (i + 1) (acc ++ [c]) (by omega) (by omega) (by rw [List.length_append]; simp; omega)
      rw [if_neg hq, ← List.append_assoc]
      refine Evt.succ (fun k => ?_) this
      simp only [spec_l3Written.l0]
      rw [if_pos (by omega), if_pos (by omega), hbt, if_neg hq2, if_pos (by rw [ints_len]; omega), hw1, ← hbt, e]
theorem written_is (x : S43) (hs : x.f1.size ≤ 1048576) (hk : x.f0 ≠ 1) (hg : goodN (nd x) = true) : ∃ r, Evt (fun k => spec_l3Written.f k x.f0 x.f1 x.f2 x.f3) r ∧ L r = leafT (nd x) := by
  have hw : word x.f0 (L x.f1) = true := by
    unfold goodN at hg
    rw [Bool.and_eq_true] at hg
    exact hg.2
  have hleaf : leafT (nd x) = leafT ⟨x.f0, L x.f1, x.f2⟩ := rfl
  rw [hleaf]
  by_cases h2 : x.f0 = 2
  · rw [show leafT ⟨x.f0, L x.f1, x.f2⟩ = leafT ⟨2, L x.f1, x.f2⟩ by rw [h2], leaf_name]
    cases hp : plainT (L x.f1) with
    | true =>
      refine ⟨x.f1, ?_, rfl⟩
      have := plain_is x.f1 hs
      rw [hp] at this
      refine Evt.same (g := fun k => (spec_l3Plain.f k x.f1).bind _) (fun k => by unfold spec_l3Written.f; rw [if_pos h2]) (Evt.bind this (Evt.pure fun k => by rw [if_pos rfl]))
    | false =>
      refine ⟨(⟨#[124]⟩ : ByteArray) ++ x.f1 ++ (⟨#[124]⟩ : ByteArray), ?_, bars_L x.f1⟩
      have := plain_is x.f1 hs
      rw [hp] at this
      have e1 : ((⟨#[124]⟩ : ByteArray) ++ x.f1).size = 1 + x.f1.size := by rw [ByteArray.size_append]; rfl
      refine Evt.same (g := fun k => (spec_l3Plain.f k x.f1).bind _) (fun k => by unfold spec_l3Written.f; rw [if_pos h2]) (Evt.bind this (Evt.pure fun k => by rw [if_neg (by decide), if_pos (by omega), if_pos (by omega)]))
  by_cases h6 : x.f0 = 6
  · have := written_l0 x.f1 hs x.f0 x.f2 x.f3 _ 0 [34] (by omega) rfl (by simp)
    rw [List.drop_zero, str_ints] at this
    refine ⟨_, Evt.same (fun k => by unfold spec_l3Written.f; rw [if_neg h2, if_pos h6]; rfl) this, ?_⟩
    rw [L_mk, h6]; unfold leafT; rfl
  by_cases h7 : x.f0 = 7
  · refine ⟨(⟨#[58]⟩ : ByteArray) ++ x.f1, Evt.pure (fun k => by unfold spec_l3Written.f; rw [if_neg h2, if_neg h6, if_pos h7, if_pos (by omega)]), ?_⟩
    rw [L_append, h7]; unfold leafT; rfl
  by_cases h5 : x.f0 = 5
  · refine ⟨(⟨#[35, 98]⟩ : ByteArray) ++ x.f1, Evt.pure (fun k => by unfold spec_l3Written.f; rw [if_neg h2, if_neg h6, if_neg h7, if_pos h5, if_pos (by omega)]), ?_⟩
    rw [L_append, h5]; unfold leafT; rfl
  · refine ⟨x.f1, Evt.pure (fun k => by unfold spec_l3Written.f; rw [if_neg h2, if_neg h6, if_neg h7, if_neg h5]), ?_⟩
    unfold leafT
    simp only
    rw [if_neg h2, if_neg h6, if_neg h7, if_neg h5]
theorem bytesOf_ints (r : ByteArray) : bytesOf r = ints (L r) := rfl
theorem normW_spec : ∀ (st : List Int) (out : List UInt8), Nn st → (normW st out).1.length ≤ st.length ∧ (normW st out).2.length + (normW st out).1.length = out.length + st.length ∧ Nn (normW st out).1 ∧ (∀ a s, (normW st out).1 = a :: s → 1 ≤ a) ∧ (out ≠ [] → (normW st out).2 ≠ [])
  | [], out, _ => ⟨Nat.le_refl _, rfl, (fun a h => by cases h), (fun a s h => by cases h), fun h => h⟩
  | a :: st, out, hn => by
    have hn2 : Nn st := fun b hb => hn b (List.mem_cons_of_mem _ hb)
    unfold normW
    split
    · obtain ⟨h1, h2, h3, h4, h5⟩ := normW_spec st (out ++ [41]) hn2
      refine ⟨by rw [List.length_cons]; omega, ?_, h3, h4, fun _ => h5 (by simp)⟩
      rw [h2, List.length_append, List.length_cons]; simp; omega
    · rename_i hne
      refine ⟨Nat.le_refl _, rfl, hn, fun b s e => ?_, fun h => h⟩
      obtain ⟨rfl, _⟩ := List.cons.inj e
      have := hn a (List.mem_cons_self ..)
      omega
theorem normW_bn : ∀ (st : List Int) (out : List UInt8), Bn st → Bn (normW st out).1
  | [], out, _ => fun a h => by cases h
  | a :: st, out, hn => by
    unfold normW
    split
    · exact normW_bn st _ (fun b hb => hn b (List.mem_cons_of_mem _ hb))
    · exact hn
section
variable {l : List S43}
theorem write_l1 {r : ByteArray} (len i : Int) : ∀ (st : List Int) (out : List UInt8), st.length ≤ 1000000 → out.length + st.length ≤ 1000000000 →
    Evt (fun k => spec_l3Write.l0 k (ints (nlT (normW st out)).2) (nlT (normW st out)).1.reverse l len (wrap64 (i + 1))) r → Evt (fun k => spec_l3Write.l1 k (ints out) st.reverse l len i) r
  | [], out, hs, ho, h => by
    rw [List.length_nil] at ho
    have e : ints out ++ [10] = ints (out ++ [10]) := by rw [ints_app]; rfl
    refine Evt.succ (fun k => ?_) h
    simp only [spec_l3Write.l1]
    rw [if_neg (by simp), if_pos (by simp), if_pos (by rw [ints_len]; omega), e]; rfl
  | a :: st, out, hs, ho, h => by
    rw [List.length_cons] at hs ho
    have h1 := top_idx a st (by omega)
    have h2 := len_rev a st
    unfold normW at h
    by_cases ha : a = 0
    · rw [if_pos ha] at h
      have e : ints out ++ [41] = ints (out ++ [41]) := by rw [ints_app]; rfl
      exact Evt.succ (fun k => by simp only [spec_l3Write.l1]; rw [if_pos (by omega), h1, if_pos (by omega), if_pos (by omega), rd_top, if_pos ha, if_pos (by rw [ints_len]; omega), if_pos (by omega), take_top, e]) (write_l1 len i st (out ++ [41]) (by omega) (by rw [List.length_append]; simp; omega) h)
    · rw [if_neg ha, show nlT (a :: st, out) = (a :: st, out) by unfold nlT; simp] at h
      exact Evt.succ (fun k => by simp only [spec_l3Write.l1]; rw [if_pos (by omega), h1, if_pos (by omega), if_pos (by omega), rd_top, if_neg ha, if_neg (by omega)]) h
theorem rd_last (out : List UInt8) (c : UInt8) (hc : out.getLast? = some c) : rd (ints out) ((out.length : Int) - 1) = (c.toNat : Int) := by
  obtain ⟨o, rfl⟩ : ∃ o, out = o ++ [c] := by
    rcases List.eq_nil_or_concat out with h | ⟨o, d, h⟩
    · rw [h] at hc; cases hc
    · rw [List.concat_eq_append] at h
      rw [h, List.getLast?_concat] at hc
      exact ⟨o, by rw [h, Option.some.inj hc]⟩
  unfold rd
  rw [show (((o ++ [c]).length : Int) - 1).toNat = o.length by rw [List.length_append]; simp, ints_app, List.getD_eq_getElem?_getD, List.getElem?_append_right (by rw [ints_len]; omega), ints_len, Nat.sub_self]; rfl
theorem write_l0 (hl : l.length ≤ 8000) (hB : ∀ x ∈ l, x.f1.size ≤ 1048576 ∧ x.f2 ≤ 9223372036854775807) (hG : ∀ x ∈ l, goodN (nd x) = true) : ∀ (rest : List S43) (i : Nat) (st : List Int) (out : List UInt8), l.drop i = rest → i ≤ l.length → Nn st → Bn st → (∀ a s, st = a :: s → 1 ≤ a) → st.length ≤ i →
    (st ≠ [] → out ≠ []) → out.length + st.length + cost (nds rest) ≤ 900000000 →
    Evt (fun k => spec_l3Write.l0 k (ints out) st.reverse l (l.length : Int) (i : Int)) (⟨(specW (nds rest) st out).toArray⟩ : ByteArray)
  | [], i, st, out, hd, hi, hn, hb, h1, hs, hne, hc => by
    have hil : i = l.length := by
      have := congrArg List.length hd
      rw [List.length_drop] at this; simp at this; omega
    exact Evt.done (fun k => by simp only [spec_l3Write.l0]; rw [if_neg (by omega), str_ints]; rfl)
  | x :: rest, i, st, out, hd, hi, hn, hb, h1, hs, hne, hc => by
    obtain ⟨hlt, hx, hmem, hd2⟩ := elem_at hd
    obtain ⟨hx1, hx2⟩ := hB x hmem
    have hg := hG x hmem
    have hw1 : wrap64 ((i : Int) + 1) = ((i + 1 : Nat) : Int) := wrap_ok (by omega) (by omega)
    have hcc : cost (nds (x :: rest)) = 2 * x.f1.size + 8 + cost (nds rest) := by
      show cost (nd x :: nds rest) = _
      rw [cost_cons, show (nd x).t.length = x.f1.size from L_length x.f1]
    rw [hcc] at hc
    have hf2 : 0 ≤ x.f2 := by
      unfold goodN at hg
      simp only [Bool.and_eq_true, decide_eq_true_eq] at hg
      exact hg.1.1
    have hdl := dec_len st
    have hdb := dec_bn hb
    have hdn : Nn (dec1 st) := by
      cases st with
      | nil => intro a h; cases h
      | cons a s =>
        have := h1 a s rfl
        intro b hbm
        rcases List.mem_cons.1 hbm with rfl | hbm
        · omega
        · exact hn b (List.mem_cons_of_mem _ hbm)
    have hsep : (sepT st out).length ≤ out.length + 1 := by
      unfold sepT; split
      · rw [List.length_append]; simp
      · omega
    -- behind the separator
    have fin : Evt (fun k => spec_l3Write.j1 k (ints (sepT st out)) (dec1 st).reverse l (l.length : Int) (i : Int) x.f0 x.f1 x.f2 x.f3) (⟨(specW (nds (x :: rest)) st out).toArray⟩ : ByteArray) := by
      by_cases hk : x.f0 = 1
      · have e1 : ints (sepT st out) ++ [40] = ints (sepT st out ++ [40]) := by rw [ints_app]; rfl
        have hpush : (dec1 st).reverse ++ [x.f2] = (x.f2 :: dec1 st).reverse := by rw [List.reverse_cons]
        have hspec : specW (nds (x :: rest)) st out = specW (nds rest) (nlT (normW (x.f2 :: dec1 st) (sepT st out ++ [40]))).1 (nlT (normW (x.f2 :: dec1 st) (sepT st out ++ [40]))).2 := by
          have e : specW (nd x :: nds rest) st out = specW (nds rest) (nlT (if (nd x).k = 1 then normW ((nd x).n :: dec1 st) (sepT st out ++ [40]) else normW (dec1 st) (sepT st out ++ leafT (nd x)))).1
            (nlT (if (nd x).k = 1 then normW ((nd x).n :: dec1 st) (sepT st out ++ [40]) else normW (dec1 st) (sepT st out ++ leafT (nd x)))).2 := rfl
          rw [if_pos (show (nd x).k = 1 from hk)] at e
          exact e
        rw [hspec]
        have hN : Nn (x.f2 :: dec1 st) := by
          intro a ha
          rcases List.mem_cons.1 ha with rfl | ha
          · exact hf2
          · exact hdn a ha
        have hBB : Bn (x.f2 :: dec1 st) := by
          intro a ha
          rcases List.mem_cons.1 ha with rfl | ha
          · exact hx2
          · exact hdb a ha
        obtain ⟨n1, n2, n3, n4, n5⟩ := normW_spec (x.f2 :: dec1 st) (sepT st out ++ [40]) hN
        have n6 := normW_bn (x.f2 :: dec1 st) (sepT st out ++ [40]) hBB
        rw [List.length_append, List.length_cons] at n2
        rw [List.length_cons] at n1
        simp only [List.length_cons, List.length_nil] at n2
        refine Evt.succ (g := fun k => spec_l3Write.j2 k (ints (sepT st out ++ [40])) (x.f2 :: dec1 st).reverse l (l.length : Int) (i : Int)) (fun k => by simp only [spec_l3Write.j1]; rw [if_pos hk, if_pos (by rw [ints_len]; omega), if_pos (by rw [List.length_reverse]; omega), e1, hpush]) ?_
        refine Evt.succ (g := fun k => spec_l3Write.l1 k (ints (sepT st out ++ [40])) (x.f2 :: dec1 st).reverse l (l.length : Int) (i : Int)) (fun k => by simp only [spec_l3Write.j2]) ?_
        refine write_l1 _ _ _ _ (by rw [List.length_cons]; omega) (by rw [List.length_append, List.length_cons]; simp; omega) ?_
        rw [hw1]
        refine write_l0 hl hB hG rest (i + 1) _ _ hd2 (by omega) n3 n6 n4 (by show (normW _ _).1.length ≤ _; omega) ?_ ?_
        · intro hne2
          show (if (normW _ _).1 = [] then _ else _) ≠ []
          split
          · simp
          · exact n5 (by simp)
        · show (if (normW _ _).1 = [] then _ else _ : List UInt8).length + (normW _ _).1.length + _ ≤ _
          split
          · rw [List.length_append]; simp; omega
          · omega
      · obtain ⟨r, hr, hrL⟩ := written_is x hx1 hk hg
        have hrl := leaf_le (nd x)
        rw [show (nd x).t.length = x.f1.size from L_length x.f1] at hrl
        have hrs : r.size = (leafT (nd x)).length := by rw [← hrL, L_length]
        have e1 : ints (sepT st out) ++ bytesOf r = ints (sepT st out ++ leafT (nd x)) := by rw [bytesOf_ints, hrL, ints_app]
        have hspec : specW (nds (x :: rest)) st out = specW (nds rest) (nlT (normW (dec1 st) (sepT st out ++ leafT (nd x)))).1 (nlT (normW (dec1 st) (sepT st out ++ leafT (nd x)))).2 := by
          have e : specW (nd x :: nds rest) st out = specW (nds rest) (nlT (if (nd x).k = 1 then normW ((nd x).n :: dec1 st) (sepT st out ++ [40]) else normW (dec1 st) (sepT st out ++ leafT (nd x)))).1
            (nlT (if (nd x).k = 1 then normW ((nd x).n :: dec1 st) (sepT st out ++ [40]) else normW (dec1 st) (sepT st out ++ leafT (nd x)))).2 := rfl
          rw [if_neg (show ¬ (nd x).k = 1 from hk)] at e
          exact e
        rw [hspec]
        obtain ⟨n1, n2, n3, n4, n5⟩ := normW_spec (dec1 st) (sepT st out ++ leafT (nd x)) hdn
        have n6 := normW_bn (dec1 st) (sepT st out ++ leafT (nd x)) hdb
        rw [List.length_append] at n2
        have hln := (good_last (x := nd x) hk hg).1
        refine Evt.succ (g := fun k => (spec_l3Written.f k x.f0 x.f1 x.f2 x.f3).bind fun t => if (ints (sepT st out)).length + t.size < 140737488355328 then spec_l3Write.j2 k (ints (sepT st out) ++ bytesOf t) (dec1 st).reverse l (l.length : Int) (i : Int) else none) (fun k => by simp only [spec_l3Write.j1]; rw [if_neg hk]) ?_
        refine Evt.bind hr ?_
        refine Evt.same (fun k => by rw [if_pos (by rw [ints_len]; omega), e1]) ?_
        refine Evt.succ (g := fun k => spec_l3Write.l1 k (ints (sepT st out ++ leafT (nd x))) (dec1 st).reverse l (l.length : Int) (i : Int)) (fun k => by simp only [spec_l3Write.j2]) ?_
        refine write_l1 _ _ _ _ (by omega) (by rw [List.length_append]; omega) ?_
        rw [hw1]
        refine write_l0 hl hB hG rest (i + 1) _ _ hd2 (by omega) n3 n6 n4 (by show (normW _ _).1.length ≤ _; omega) ?_ ?_
        · intro hne2
          show (if (normW _ _).1 = [] then _ else _) ≠ []
          split
          · simp
          · exact n5 (by intro h; exact hln (List.append_eq_nil_iff.1 h).2)
        · show (if (normW _ _).1 = [] then _ else _ : List UInt8).length + (normW _ _).1.length + _ ≤ _
          split
          · rw [List.length_append]; simp; omega
          · omega
    cases hst : st with
    | nil =>
      rw [hst] at fin
      refine Evt.succ (fun k => ?_) fin
      simp only [spec_l3Write.l0]
      rw [if_pos (by omega), if_pos (by omega), if_pos (by omega), hx, if_neg (by simp)]; rfl
    | cons a s =>
      have ho : out ≠ [] := hne (by rw [hst]; simp)
      obtain ⟨c, hcl⟩ : ∃ c, out.getLast? = some c := by
        cases h : out.getLast? with
        | none => exact absurd (List.getLast?_eq_none_iff.1 h) ho
        | some c => exact ⟨c, rfl⟩
      have hol : 1 ≤ out.length := List.length_pos_iff.2 ho
      have ha := h1 a s hst
      have hab := hb a (by rw [hst]; exact List.mem_cons_self ..)
      have hwa : wrap64 (a - 1) = a - 1 := wrap_ok (by omega) (by omega)
      have hsl : s.length + 1 ≤ i := by rw [hst, List.length_cons] at hs; exact hs
      have g1 := top_idx a s (by omega)
      have g2 := len_rev a s
      have hw3 : wrap64 ((out.length : Int) - 1) = (out.length : Int) - 1 := wrap_ok (by omega) (by omega)
      have hlast := rd_last out c hcl
      have h40 : (c.toNat : Int) = 40 ↔ c = 40 := u8_eq (c := c) 40 (by decide)
      have hdec : dec1 (a :: s) = (a - 1) :: s := rfl
      rw [hst] at fin
      rw [hdec] at fin
      refine Evt.succ (fun k => ?_) fin
      simp only [spec_l3Write.l0]
      rw [if_pos (by omega), if_pos (by omega), if_pos (by omega), hx, if_pos (by omega), g1, if_pos (by omega), if_pos (by omega), rd_top, hwa, set_top, Option.bind_some, ints_len, hw3, if_pos (by omega), if_pos (by omega), hlast]
      by_cases hc40 : c = 40
      · rw [if_pos (h40.2 hc40)]
        have : sepT (a :: s) out = out := by unfold sepT; rw [if_neg (by rintro ⟨_, h⟩; exact h (by rw [hcl, hc40]))]
        rw [this]
      · rw [if_neg (fun h => hc40 (h40.1 h)), if_pos (by omega)]
        have : sepT (a :: s) out = out ++ [32] := by unfold sepT; rw [if_pos ⟨by simp, by rw [hcl]; intro h; exact hc40 (Option.some.inj h)⟩]
        rw [this, ints_app]; rfl
theorem form_good : ∀ (N : List Nd) (st : List Int) (m : Nat), specF N st m = true → ∀ x ∈ N, goodN x = true
  | [], _, _, _, x, hx => by cases hx
  | y :: N, st, m, h, x, hx => by
    unfold specF at h
    split at h
    · cases h
    rename_i hy
    have hg : goodN y = true := by
      cases hb : goodN y with
      | true => rfl
      | false => exact absurd (.inr hb) hy
    have tl : ∀ x ∈ N, goodN x = true := by
      split at h
      · split at h
        · cases h
        · exact form_good N _ _ h
      · exact form_good N _ _ h
    rcases List.mem_cons.1 hx with rfl | hx
    · exact hg
    · exact tl x hx
theorem write_is (hl : l.length ≤ 8000) (hB : ∀ x ∈ l, x.f1.size ≤ 1048576 ∧ x.f2 ≤ 9223372036854775807) (hF : specF (nds l) [] 0 = true) (hc : cost (nds l) ≤ 900000000) : Evt (fun k => spec_l3Write.f k l) (⟨(specW (nds l) [] []).toArray⟩ : ByteArray) := by
  have := write_l0 hl hB (fun x hx => form_good (nds l) [] 0 hF (nd x) (List.mem_map_of_mem hx)) l 0 [] [] rfl (by omega) (fun a h => by cases h) (fun a h => by cases h) (fun a s h => by cases h) (by simp) (fun h => absurd rfl h) (by simp; exact hc)
  exact Evt.same (fun k => by unfold spec_l3Write.f; rfl) this
end
theorem form_total : ∀ (N : List Nd) (st : List Int) (m : Nat), m ≤ 20000 → specF N st m = true → 2 * m + cost N ≤ 40000 + 8 * N.length
  | [], _, m, hm, _ => by show 2 * m + 0 ≤ _; simp; omega
  | y :: N, st, m, hm, h => by
    rw [cost_cons, List.length_cons]
    unfold specF at h
    split at h
    · cases h
    rename_i hy
    have hb : m + y.t.length ≤ 20000 := by
      by_cases hh : 20000 < m + y.t.length
      · exact absurd (.inl hh) hy
      · omega
    split at h
    · split at h
      · cases h
      · have := form_total N _ _ hb h; omega
    · have := form_total N _ _ hb h; omega
/-- the text of a row of trees; none: the empty text -/
def treeText (N : List Nd) : List UInt8 := if (decide (N.length ≤ 8000) && implR N [] 0) = true then specW N [] [] else []
end Go.Proofs.YtbeelgaganbblaaDoor.Gp

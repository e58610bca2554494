/- impl.bare and impl.isSymbol: what they compute. -/
import Derived.Test.YthfjiaodhladmaaDoorPFnExactReadSortx8
import Derived.Test.YthfjiaodhladmaaDoorSrt
import Derived.OwnWalk
import Derived.Outline
namespace Go.Proofs.YthfjiaodhladmaaDoor.RS
open Go.RowKit Go.Proofs.YthfjiaodhladmaaDoor Go.Proofs.YthfjiaodhladmaaDoorW.PrintWords Go.Proofs.YthfjiaodhladmaaDoorW.PrintLast Go.Proofs.YthfjiaodhladmaaDoorW.PrintMore Go.Proofs.YthfjiaodhladmaaDoor.By Go.Proofs.YthfjiaodhladmaaDoor.PFnExactReadSort Go.Proofs.YthfjiaodhladmaaDoor.Srt
set_option linter.unusedVariables false
set_option linter.unusedSimpArgs false
set_option maxRecDepth 100000
theorem wrap_ok {z : Int} (h0 : -9223372036854775808 ≤ z) (h1 : z ≤ 9223372036854775807) : wrap64 z = z := by unfold wrap64; omega
theorem nmB_nmU (c : UInt8) : nmB (c.toNat : Int) = nmU c := by
  unfold nmB nmU signs sgn
  rw [Int.toNat_natCast]
  congr 1
  congr 1
  congr 1
  all_goals exact decide_eq_decide.2 (by omega)
theorem digB (c : UInt8) : impl_digitB.f (c.toNat : Int) = some (dig c) := by
  unfold impl_digitB.f dig
  by_cases h : (c.toNat : Int) ≥ 48
  · rw [if_pos h]; congr 1; rw [decide_eq_true (by omega : 48 ≤ c.toNat), Bool.true_and]; exact decide_eq_decide.2 (by omega)
  · rw [if_neg h, decide_eq_false (by omega : ¬ 48 ≤ c.toNat), Bool.false_and]
theorem barsB (c : UInt8) : impl_inBars.f (c.toNat : Int) = some (inU c) := by
  have hu : ∀ n : Nat, n < 256 → (((c.toNat : Int) = n) ↔ c = UInt8.ofNat n) := by
    intro n hn
    constructor
    · intro h
      have h2 : c.toNat = n := by omega
      rw [← h2, UInt8.ofNat_toNat]
    · intro h
      subst h
      simp
      omega
  unfold impl_inBars.f impl_printed.f inU
  by_cases h : (c.toNat : Int) ≥ 32
  · rw [if_pos h, decide_eq_true (by omega : 32 ≤ c.toNat), Bool.true_and, Option.bind_some]
    by_cases h2 : (c.toNat : Int) ≤ 126
    · rw [decide_eq_true h2, if_pos rfl, decide_eq_true (by omega : c.toNat ≤ 126), Bool.true_and]
      by_cases h3 : (c.toNat : Int) = 124
      · rw [if_pos h3, (hu 124 (by omega)).1 h3]; rfl
      · rw [if_neg h3, show (c == 124) = false from beq_eq_false_iff_ne.2 (fun e => h3 ((hu 124 (by omega)).2 e))]
        congr 1
        by_cases h4 : (c.toNat : Int) = 92
        · rw [(hu 92 (by omega)).1 h4]; rfl
        · rw [show ((c.toNat : Int) != 92) = true from bne_iff_ne.2 h4, show (c == 92) = false from beq_eq_false_iff_ne.2 (fun e => h4 ((hu 92 (by omega)).2 e))]; rfl
    · rw [decide_eq_false h2, if_neg (by decide), decide_eq_false (by omega : ¬ c.toNat ≤ 126)]; rfl
  · rw [if_neg h, decide_eq_false (by omega : ¬ 32 ≤ c.toNat)]; rfl
theorem nameB_of (c : UInt8) : impl_nameB.f (c.toNat : Int) = some (nmU c) := by
  have := c.toNat_lt
  unfold impl_nameB.f; rw [if_pos (by omega), nmB_nmU]
theorem bare_l0 (s : ByteArray) (hs : s.size ≤ 1048576) : ∀ (d i : Nat), i ≤ s.size → s.size - i = d → Evt (fun k => impl_bare.l0 k s (s.size : Int) (i : Int)) (((L s).drop i).all nmU) := by
  intro d
  induction d with
  | zero =>
    intro i hi hd
    rw [drop_all s i (by omega), List.all_nil]
    exact Evt.succ (g := fun _ => some true) (fun k => by simp only [impl_bare.l0]; rw [if_neg (by omega)]) (Evt.pure fun _ => rfl)
  | succ d ih =>
    intro i hi hd
    have hlt : i < s.size := by omega
    have hw1 : wrap64 ((i : Int) + 1) = ((i + 1 : Nat) : Int) := wrap_ok (by omega) (by omega)
    rw [drop_cons s i hlt, List.all_cons]
    cases hb : nmU ((L s)[i]'(by rw [L_length]; exact hlt)) with
    | false => exact Evt.succ (g := fun _ => some false) (fun k => by simp only [impl_bare.l0]; rw [if_pos (by omega), if_pos (by omega), if_pos (by omega), bt_get s i hlt, nameB_of, hb]; rfl) (Evt.pure fun _ => by simp)
    | true => rw [Bool.true_and]; exact Evt.succ (fun k => by simp only [impl_bare.l0]; rw [if_pos (by omega), if_pos (by omega), if_pos (by omega), bt_get s i hlt, nameB_of, hb, Option.bind_some, if_pos rfl, hw1]) (ih (i + 1) (by omega) (by omega))
theorem bare_is (s : ByteArray) (hs : s.size ≤ 1048576) : Evt (fun k => impl_bare.f k s) (plain (L s)) := by
  have jt : Evt (fun k => impl_bare.j0 k s true) false := Evt.succ (g := fun _ => some false) (fun k => by simp only [impl_bare.j0]; rw [if_pos trivial]) (Evt.pure fun _ => rfl)
  have jf : Evt (fun k => impl_bare.j0 k s false) ((L s).all nmU) := Evt.succ (fun k => by simp only [impl_bare.j0]; rw [if_neg (by decide)]; rfl) (bare_l0 s hs _ 0 (by omega) rfl)
  by_cases h0 : s.size = 0
  · rw [List.length_eq_zero_iff.1 ((L_length s).trans h0)]
    exact Evt.same (fun k => by unfold impl_bare.f; rw [if_pos ((nil_iff s).2 h0)]) jt
  · have hc := drop_cons s 0 (by omega)
    rw [List.drop_zero] at hc
    obtain ⟨x, m, e⟩ : ∃ x m, L s = x :: m := ⟨_, _, hc⟩
    have hx : bt s 0 = (x.toNat : Int) := by
      have := bt_get s 0 (by omega)
      rw [show ((0 : Nat) : Int) = 0 from rfl] at this
      rw [this]; simp only [e]; rfl
    rw [e] at jf ⊢
    show Evt _ (!dig x && (x :: m).all nmU)
    cases hd : dig x with
    | true => rw [Bool.not_true, Bool.false_and]; exact Evt.same (fun k => by unfold impl_bare.f; rw [if_neg (fun h => h0 ((nil_iff s).1 h)), if_pos (by omega), hx, digB, hd, Option.bind_some]) jt
    | false => rw [Bool.not_false, Bool.true_and]; exact Evt.same (fun k => by unfold impl_bare.f; rw [if_neg (fun h => h0 ((nil_iff s).1 h)), if_pos (by omega), hx, digB, hd, Option.bind_some]) jf
theorem sym_l0 (s : ByteArray) (hs : s.size ≤ 1048576) : ∀ (d i : Nat), i ≤ s.size → s.size - i = d → Evt (fun k => impl_isSymbol.l0 k s (s.size : Int) (i : Int)) (((L s).drop i).all inU) := by
  intro d
  induction d with
  | zero =>
    intro i hi hd
    rw [drop_all s i (by omega), List.all_nil]
    exact Evt.succ (g := fun _ => some true) (fun k => by simp only [impl_isSymbol.l0]; rw [if_neg (by omega)]) (Evt.pure fun _ => rfl)
  | succ d ih =>
    intro i hi hd
    have hlt : i < s.size := by omega
    have hw1 : wrap64 ((i : Int) + 1) = ((i + 1 : Nat) : Int) := wrap_ok (by omega) (by omega)
    rw [drop_cons s i hlt, List.all_cons]
    cases hb : inU ((L s)[i]'(by rw [L_length]; exact hlt)) with
    | false => exact Evt.succ (g := fun _ => some false) (fun k => by simp only [impl_isSymbol.l0]; rw [if_pos (by omega), if_pos (by omega), if_pos (by omega), bt_get s i hlt, barsB, hb]; rfl) (Evt.pure fun _ => by simp)
    | true => rw [Bool.true_and]; exact Evt.succ (fun k => by simp only [impl_isSymbol.l0]; rw [if_pos (by omega), if_pos (by omega), if_pos (by omega), bt_get s i hlt, barsB, hb, Option.bind_some, if_pos rfl, hw1]) (ih (i + 1) (by omega) (by omega))
theorem sym_is (s : ByteArray) (hs : s.size ≤ 1048576) : Evt (fun k => impl_isSymbol.f k s) (isSym (L s)) := by
  have jt : Evt (fun k => impl_isSymbol.j0 k s true) false := Evt.succ (g := fun _ => some false) (fun k => by simp only [impl_isSymbol.j0]; rw [if_pos trivial]) (Evt.pure fun _ => rfl)
  have jf : Evt (fun k => impl_isSymbol.j0 k s false) ((L s).all inU) := Evt.succ (fun k => by simp only [impl_isSymbol.j0]; rw [if_neg (by decide)]; rfl) (sym_l0 s hs _ 0 (by omega) rfl)
  unfold isSym
  rw [L_length]
  by_cases h0 : s.size < 1
  · rw [decide_eq_false (by omega : ¬ 1 ≤ s.size), Bool.false_and, Bool.false_and]
    exact Evt.same (fun k => by unfold impl_isSymbol.f; rw [if_pos (by omega)]) jt
  · rw [decide_eq_true (by omega : 1 ≤ s.size), Bool.true_and]
    by_cases h1 : s.size ≤ 60
    · rw [decide_eq_true h1, Bool.true_and]
      exact Evt.same (fun k => by unfold impl_isSymbol.f; rw [if_neg (by omega), decide_eq_false (by omega)]) jf
    · rw [decide_eq_false h1, Bool.false_and]
      exact Evt.same (fun k => by unfold impl_isSymbol.f; rw [if_neg (by omega), decide_eq_true (by omega)]) jt
theorem bare_call (s : ByteArray) (hs : s.size ≤ 1048576) (w : World) : Calls Tryd.prog 27 #[.string s] w fun e w' => e = .returned (.bool (plain (L s))) ∧ Below w.heap.size w w' := by
  obtain ⟨k, hk⟩ := (bare_is s hs).get
  exact (impl_bare.calls k s _ w hk).mono fun e w' ⟨he, hd⟩ => ⟨he, hd.below⟩
theorem sym_call (s : ByteArray) (hs : s.size ≤ 1048576) (w : World) : Calls Tryd.prog 29 #[.string s] w fun e w' => e = .returned (.bool (isSym (L s))) ∧ Below w.heap.size w w' := by
  obtain ⟨k, hk⟩ := (sym_is s hs).get
  exact (impl_isSymbol.calls k s _ w hk).mono fun e w' ⟨he, hd⟩ => ⟨he, hd.below⟩
/-- is a sort's name listed? -/
def has (l : List ByteArray) (x : List UInt8) : Bool := l.any (fun s => decide (L s = x))
end Go.Proofs.YthfjiaodhladmaaDoor.RS

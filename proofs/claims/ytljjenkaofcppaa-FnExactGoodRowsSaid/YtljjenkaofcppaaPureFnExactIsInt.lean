/- The plain law of FnExactIsInt: the program's IsInt and the reference's answer alike at every string of at most 2^47 - 4096 bytes. -/
import Derived.Test.YtljjenkaofcppaaPFnExactIsIntx2
import Derived.Test.YtljjenkaofcppaaBytes
namespace Go.Proofs.Ytljjenkaofcppaa.Pure
open Go.RowKit Go.Proofs.Ytljjenkaofcppaa.PFnExactIsInt Go.Proofs.YtljjenkaofcppaaW.PrintWords Go.Proofs.YtljjenkaofcppaaW.PrintLast Go.Proofs.Ytljjenkaofcppaa.By

/-! the program's isInt and the reference's IsInt are `intText` -/
theorem spec_IsInt_l0 (s : ByteArray) (hn : s.size ≤ 140737488351232) (d : Nat) : ∀ (k i : Nat), i ≤ s.size → s.size - i = d → d < k →
    spec_IsInt.l0 k s (i : Int) = some (digs ((L s).drop i)) := by
  induction d with
  | zero =>
    intro k i hi hd hk
    obtain ⟨k, rfl⟩ : ∃ m, k = m + 1 := ⟨k - 1, by omega⟩
    rw [drop_all s i (by omega)]
    simp only [spec_IsInt.l0]
    rw [if_neg (by omega)]
    rfl
  | succ d ih =>
    intro k i hi hd hk
    obtain ⟨k, rfl⟩ : ∃ m, k = m + 1 := ⟨k - 1, by omega⟩
    have hlt : i < s.size := by omega
    have hw : wrap64 ((i : Int) + 1) = ((i + 1 : Nat) : Int) := by rw [wrap64_succ (by omega) (by omega)]; omega
    rw [drop_cons s i hlt, digs_cons]
    simp only [spec_IsInt.l0]
    rw [if_pos (by omega), if_pos (by omega), bt_get s i hlt, hw]
    by_cases h1 : (((L s)[i]'(by rw [L_length]; exact hlt)).toNat : Int) < 48
    · rw [if_pos h1, dig_lt h1]; rfl
    · rw [if_neg h1]
      by_cases h2 : (((L s)[i]'(by rw [L_length]; exact hlt)).toNat : Int) > 57
      · rw [if_pos h2, dig_gt h2]; rfl
      · rw [if_neg h2, dig_mid h1 h2, ih k (i + 1) (by omega) (by omega) (by omega), Bool.true_and]

theorem impl_isInt_l0 (s : ByteArray) (hn : s.size ≤ 140737488351232) (d : Nat) : ∀ (k i : Nat), i ≤ s.size → s.size - i = d → d < k →
    impl_isInt.l0 k s (s.size : Int) (i : Int) = some (digs ((L s).drop i)) := by
  induction d with
  | zero =>
    intro k i hi hd hk
    obtain ⟨k, rfl⟩ : ∃ m, k = m + 1 := ⟨k - 1, by omega⟩
    rw [drop_all s i (by omega)]
    simp only [impl_isInt.l0]
    rw [if_neg (by omega)]
    rfl
  | succ d ih =>
    intro k i hi hd hk
    obtain ⟨k, rfl⟩ : ∃ m, k = m + 1 := ⟨k - 1, by omega⟩
    have hlt : i < s.size := by omega
    have hw : wrap64 ((i : Int) + 1) = ((i + 1 : Nat) : Int) := by rw [wrap64_succ (by omega) (by omega)]; omega
    rw [drop_cons s i hlt, digs_cons]
    simp only [impl_isInt.l0]
    rw [if_pos (by omega), if_pos (by omega), if_pos (by omega), bt_get s i hlt, hw]
    by_cases h1 : (((L s)[i]'(by rw [L_length]; exact hlt)).toNat : Int) < 48
    · rw [if_pos h1, dig_lt h1]; rfl
    · rw [if_neg h1]
      by_cases h2 : (((L s)[i]'(by rw [L_length]; exact hlt)).toNat : Int) > 57
      · rw [if_pos h2, dig_gt h2]; rfl
      · rw [if_neg h2, dig_mid h1 h2, ih k (i + 1) (by omega) (by omega) (by omega), Bool.true_and]

theorem spec_IsInt_j1 (s : ByteArray) (hn : s.size ≤ 140737488351232) (k : Nat) (hk : s.size + 3 ≤ k) :
    spec_IsInt.j1 k s = some (natText 2500 (L s)) := by
  obtain ⟨k, rfl⟩ : ∃ m, k = m + 2 := ⟨k - 2, by omega⟩
  have hl := spec_IsInt_l0 s hn s.size k 0 (by omega) (by omega) (by omega)
  have hl' : spec_IsInt.l0 k s 0 = some (digs (L s)) := hl
  have hL := L_length s
  simp only [spec_IsInt.j1, spec_IsInt.j2, hl', Bool.false_eq_true, if_false, if_true]
  unfold natText
  rw [hL]
  by_cases h0 : s.size = 0
  · rw [if_pos (by omega)]; simp [h0]
  rw [if_neg (by omega)]
  by_cases h1 : s.size ≤ 2500
  · rw [if_neg (by omega)]
    by_cases h2 : 1 < s.size
    · rw [if_pos (by omega), if_pos (by omega)]
      have hb := bt_eq_iff s 0 (by omega) 48 (by omega)
      by_cases h3 : (L s)[0]? = some 48
      · have h4 : bt s 0 = 48 := hb.2 h3
        simp [h0, h1, h2, h3, h4]
      · have h4 : ¬ bt s 0 = 48 := fun e => h3 (hb.1 e)
        simp [h0, h1, h2, h3, h4]
    · rw [if_neg (by omega)]
      simp [h0, h1, h2]
  · rw [if_pos (by omega)]; simp [h1]

theorem impl_isInt_j1 (s : ByteArray) (hn : s.size ≤ 140737488351232) (D : Nat) (k : Nat) (hk : s.size + 3 ≤ k) :
    impl_isInt.j1 k s (D : Int) = some (natText D (L s)) := by
  obtain ⟨k, rfl⟩ : ∃ m, k = m + 2 := ⟨k - 2, by omega⟩
  have hl := impl_isInt_l0 s hn s.size k 0 (by omega) (by omega) (by omega)
  have hl' : impl_isInt.l0 k s (s.size : Int) 0 = some (digs (L s)) := hl
  have hL := L_length s
  simp only [impl_isInt.j1, impl_isInt.j2, hl', Bool.false_eq_true, if_false, if_true]
  unfold natText
  rw [hL]
  by_cases h0 : s.size = 0
  · rw [if_pos ((nil_iff s).2 h0)]; simp [h0]
  rw [if_neg (fun e => h0 ((nil_iff s).1 e))]
  by_cases h1 : s.size ≤ D
  · rw [if_neg (by omega), if_pos (by omega)]
    have hb := bt_eq_iff s 0 (by omega) 48 (by omega)
    by_cases h3 : (L s)[0]? = some 48
    · have h4 : bt s 0 = 48 := hb.2 h3
      rw [if_pos h4]
      by_cases h2 : 1 < s.size
      · simp [h0, h1, h2, h3]; intro h; omega
      · simp [h0, h1, h2, h3]; intro h; omega
    · have h4 : ¬ bt s 0 = 48 := fun e => h3 (hb.1 e)
      rw [if_neg h4]
      simp [h0, h1, h3]
  · rw [if_pos (by omega)]; simp [h1]

theorem spec_IsInt_is (s : ByteArray) (hn : s.size ≤ 140737488351232) (k : Nat) (hk : s.size + 4 ≤ k) :
    spec_IsInt.f k s = some (intText 2500 (L s)) := by
  obtain ⟨k, rfl⟩ : ∃ m, k = m + 1 := ⟨k - 1, by omega⟩
  have hL := L_length s
  unfold spec_IsInt.f intText
  by_cases h0 : s.size = 0
  · rw [if_neg (by omega)]
    simp only [spec_IsInt.j0, Bool.false_eq_true, if_false]
    rw [spec_IsInt_j1 s hn k (by omega), if_neg]
    rw [List.length_eq_zero_iff.1 (hL.trans h0)]; simp
  rw [if_pos (by omega), if_pos (by omega)]
  have hb := bt_eq_iff s 0 (by omega) 45 (by omega)
  by_cases h3 : (L s)[0]? = some 45
  · have h4 : bt s 0 = 45 := hb.2 h3
    have h5 : (bt s 0 == 45) = true := by rw [h4]; rfl
    rw [if_pos h3, h5]
    simp only [spec_IsInt.j0, if_true]
    rw [if_pos (by omega), toList_L, L_extract_end]
    by_cases h6 : (L s).drop 1 = [48]
    · rw [if_pos h6, if_pos h6]
    · rw [if_neg h6, if_neg h6, spec_IsInt_j1 _ (by rw [size_extract_end]; omega) k (by rw [size_extract_end]; omega), L_extract_end]
  · have h4 : ¬ bt s 0 = 45 := fun e => h3 (hb.1 e)
    have h5 : (bt s 0 == 45) = false := beq_eq_false_iff_ne.2 h4
    rw [if_neg h3, h5]
    simp only [spec_IsInt.j0, Bool.false_eq_true, if_false]
    rw [spec_IsInt_j1 s hn k (by omega)]

theorem impl_isInt_is (s : ByteArray) (hn : s.size ≤ 140737488351232) (D k : Nat) (hk : s.size + 4 ≤ k) :
    impl_isInt.f k s (D : Int) = some (intText D (L s)) := by
  obtain ⟨k, rfl⟩ : ∃ m, k = m + 1 := ⟨k - 1, by omega⟩
  have hL := L_length s
  unfold impl_isInt.f intText
  by_cases h0 : s.size = 0
  · rw [if_pos ((nil_iff s).2 h0)]
    simp only [impl_isInt.j0, Bool.false_eq_true, if_false]
    rw [impl_isInt_j1 s hn D k (by omega), if_neg]
    rw [List.length_eq_zero_iff.1 (hL.trans h0)]; simp
  rw [if_neg (fun e => h0 ((nil_iff s).1 e)), if_pos (by omega)]
  have hb := bt_eq_iff s 0 (by omega) 45 (by omega)
  by_cases h3 : (L s)[0]? = some 45
  · have h4 : bt s 0 = 45 := hb.2 h3
    have h5 : (bt s 0 == 45) = true := by rw [h4]; rfl
    rw [if_pos h3, h5]
    simp only [impl_isInt.j0, if_true]
    rw [if_pos (by omega), toList_L, L_extract_end]
    by_cases h6 : (L s).drop 1 = [48]
    · rw [if_pos h6, if_pos h6]
    · rw [if_neg h6, if_neg h6, impl_isInt_j1 _ (by rw [size_extract_end]; omega) D k (by rw [size_extract_end]; omega), L_extract_end]
  · have h4 : ¬ bt s 0 = 45 := fun e => h3 (hb.1 e)
    have h5 : (bt s 0 == 45) = false := beq_eq_false_iff_ne.2 h4
    rw [if_neg h3, h5]
    simp only [impl_isInt.j0, Bool.false_eq_true, if_false]
    rw [impl_isInt_j1 s hn D k (by omega)]

theorem FnExactIsInt : laws_FnExactIsInt.Pure := by
  intro s hn
  refine ⟨s.size + 4, ?_⟩
  unfold laws_FnExactIsInt.f impl_IsInt.f
  have h2 := impl_isInt_is s hn 2500 (s.size + 4) (Nat.le_refl _)
  have h2' : impl_isInt.f (s.size + 4) s 2500 = some (intText 2500 (L s)) := h2
  rw [spec_IsInt_is s hn _ (Nat.le_refl _), h2']
  simp

end Go.Proofs.Ytljjenkaofcppaa.Pure

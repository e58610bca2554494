/- The plain law of FnExactGoodRows: the program's GoodRows and the reference's answer alike at all rows; rows that were made anew compare equal. -/
import Derived.Test.YtljjenkaofcppaaPFnExactGoodRowsx5
import Derived.Test.YtljjenkaofcppaaBytes
namespace Go.Proofs.Ytljjenkaofcppaa.Pure
open Go.RowKit Go.Proofs.Ytljjenkaofcppaa Go.Proofs.Ytljjenkaofcppaa.PFnExactGoodRows Go.Proofs.YtljjenkaofcppaaW.PrintWords Go.Proofs.YtljjenkaofcppaaW.PrintLast Go.Proofs.YtljjenkaofcppaaW.PrintMore Go.Proofs.Ytljjenkaofcppaa.By
set_option linter.unusedVariables false
set_option linter.unusedSimpArgs false

namespace GR
/-! the program's isInt and the reference's IsInt are `intText` -/
theorem spec_IsInt_l0 (s : ByteArray) (hn : s.size ≤ 140737488351232) (d : Nat) : ∀ (k i : Nat), i ≤ s.size → s.size - i = d → d < k →
    spec_IsInt.l0 k s (i : Int) = some (digs ((L s).drop i)) := by
  induction d with
  | zero =>
    intro k i hi hd hk
    obtain ⟨k, rfl⟩ : ∃ m, k = m + 1 := ⟨k - 1, by omega⟩
    rw [drop_all s i (by omega)]
    simp only [spec_IsInt.l0]
    rw [if_neg (by omega)]
    rfl
  | succ d ih =>
    intro k i hi hd hk
    obtain ⟨k, rfl⟩ : ∃ m, k = m + 1 := ⟨k - 1, by omega⟩
    have hlt : i < s.size := by omega
    have hw : wrap64 ((i : Int) + 1) = ((i + 1 : Nat) : Int) := by rw [wrap64_succ (by omega) (by omega)]; omega
    rw [drop_cons s i hlt, digs_cons]
    simp only [spec_IsInt.l0]
    rw [if_pos (by omega), if_pos (by omega), bt_get s i hlt, hw]
    by_cases h1 : (((L s)[i]'(by rw [L_length]; exact hlt)).toNat : Int) < 48
    · rw [if_pos h1, dig_lt h1]; rfl
    · rw [if_neg h1]
      by_cases h2 : (((L s)[i]'(by rw [L_length]; exact hlt)).toNat : Int) > 57
      · rw [if_pos h2, dig_gt h2]; rfl
      · rw [if_neg h2, dig_mid h1 h2, ih k (i + 1) (by omega) (by omega) (by omega), Bool.true_and]

theorem impl_isInt_l0 (s : ByteArray) (hn : s.size ≤ 140737488351232) (d : Nat) : ∀ (k i : Nat), i ≤ s.size → s.size - i = d → d < k →
    impl_isInt.l0 k s (s.size : Int) (i : Int) = some (digs ((L s).drop i)) := by
  induction d with
  | zero =>
    intro k i hi hd hk
    obtain ⟨k, rfl⟩ : ∃ m, k = m + 1 := ⟨k - 1, by omega⟩
    rw [drop_all s i (by omega)]
    simp only [impl_isInt.l0]
    rw [if_neg (by omega)]
    rfl
  | succ d ih =>
    intro k i hi hd hk
    obtain ⟨k, rfl⟩ : ∃ m, k = m + 1 := ⟨k - 1, by omega⟩
    have hlt : i < s.size := by omega
    have hw : wrap64 ((i : Int) + 1) = ((i + 1 : Nat) : Int) := by rw [wrap64_succ (by omega) (by omega)]; omega
    rw [drop_cons s i hlt, digs_cons]
    simp only [impl_isInt.l0]
    rw [if_pos (by omega), if_pos (by omega), if_pos (by omega), bt_get s i hlt, hw]
    by_cases h1 : (((L s)[i]'(by rw [L_length]; exact hlt)).toNat : Int) < 48
    · rw [if_pos h1, dig_lt h1]; rfl
    · rw [if_neg h1]
      by_cases h2 : (((L s)[i]'(by rw [L_length]; exact hlt)).toNat : Int) > 57
      · rw [if_pos h2, dig_gt h2]; rfl
      · rw [if_neg h2, dig_mid h1 h2, ih k (i + 1) (by omega) (by omega) (by omega), Bool.true_and]

theorem spec_IsInt_j1 (s : ByteArray) (hn : s.size ≤ 140737488351232) (k : Nat) (hk : s.size + 3 ≤ k) :
    spec_IsInt.j1 k s = some (natText 2500 (L s)) := by
  obtain ⟨k, rfl⟩ : ∃ m, k = m + 2 := ⟨k - 2, by omega⟩
  have hl := spec_IsInt_l0 s hn s.size k 0 (by omega) (by omega) (by omega)
  have hl' : spec_IsInt.l0 k s 0 = some (digs (L s)) := hl
  have hL := L_length s
  simp only [spec_IsInt.j1, spec_IsInt.j2, hl', Bool.false_eq_true, if_false, if_true]
  unfold natText
  rw [hL]
  by_cases h0 : s.size = 0
  · rw [if_pos (by omega)]; simp [h0]
  rw [if_neg (by omega)]
  by_cases h1 : s.size ≤ 2500
  · rw [if_neg (by omega)]
    by_cases h2 : 1 < s.size
    · rw [if_pos (by omega), if_pos (by omega)]
      have hb := bt_eq_iff s 0 (by omega) 48 (by omega)
      by_cases h3 : (L s)[0]? = some 48
      · have h4 : bt s 0 = 48 := hb.2 h3
        simp [h0, h1, h2, h3, h4]
      · have h4 : ¬ bt s 0 = 48 := fun e => h3 (hb.1 e)
        simp [h0, h1, h2, h3, h4]
    · rw [if_neg (by omega)]
      simp [h0, h1, h2]
  · rw [if_pos (by omega)]; simp [h1]

theorem impl_isInt_j1 (s : ByteArray) (hn : s.size ≤ 140737488351232) (D : Nat) (k : Nat) (hk : s.size + 3 ≤ k) :
    impl_isInt.j1 k s (D : Int) = some (natText D (L s)) := by
  obtain ⟨k, rfl⟩ : ∃ m, k = m + 2 := ⟨k - 2, by omega⟩
  have hl := impl_isInt_l0 s hn s.size k 0 (by omega) (by omega) (by omega)
  have hl' : impl_isInt.l0 k s (s.size : Int) 0 = some (digs (L s)) := hl
  have hL := L_length s
  simp only [impl_isInt.j1, impl_isInt.j2, hl', Bool.false_eq_true, if_false, if_true]
  unfold natText
  rw [hL]
  by_cases h0 : s.size = 0
  · rw [if_pos ((nil_iff s).2 h0)]; simp [h0]
  rw [if_neg (fun e => h0 ((nil_iff s).1 e))]
  by_cases h1 : s.size ≤ D
  · rw [if_neg (by omega), if_pos (by omega)]
    have hb := bt_eq_iff s 0 (by omega) 48 (by omega)
    by_cases h3 : (L s)[0]? = some 48
    · have h4 : bt s 0 = 48 := hb.2 h3
      rw [if_pos h4]
      by_cases h2 : 1 < s.size
      · simp [h0, h1, h2, h3]; intro h; omega
      · simp [h0, h1, h2, h3]; intro h; omega
    · have h4 : ¬ bt s 0 = 48 := fun e => h3 (hb.1 e)
      rw [if_neg h4]
      simp [h0, h1, h3]
  · rw [if_pos (by omega)]; simp [h1]

theorem spec_IsInt_is (s : ByteArray) (hn : s.size ≤ 140737488351232) (k : Nat) (hk : s.size + 4 ≤ k) :
    spec_IsInt.f k s = some (intText 2500 (L s)) := by
  obtain ⟨k, rfl⟩ : ∃ m, k = m + 1 := ⟨k - 1, by omega⟩
  have hL := L_length s
  unfold spec_IsInt.f intText
  by_cases h0 : s.size = 0
  · rw [if_neg (by omega)]
    simp only [spec_IsInt.j0, Bool.false_eq_true, if_false]
    rw [spec_IsInt_j1 s hn k (by omega), if_neg]
    rw [List.length_eq_zero_iff.1 (hL.trans h0)]; simp
  rw [if_pos (by omega), if_pos (by omega)]
  have hb := bt_eq_iff s 0 (by omega) 45 (by omega)
  by_cases h3 : (L s)[0]? = some 45
  · have h4 : bt s 0 = 45 := hb.2 h3
    have h5 : (bt s 0 == 45) = true := by rw [h4]; rfl
    rw [if_pos h3, h5]
    simp only [spec_IsInt.j0, if_true]
    rw [if_pos (by omega), toList_L, L_extract_end]
    by_cases h6 : (L s).drop 1 = [48]
    · rw [if_pos h6, if_pos h6]
    · rw [if_neg h6, if_neg h6, spec_IsInt_j1 _ (by rw [size_extract_end]; omega) k (by rw [size_extract_end]; omega), L_extract_end]
  · have h4 : ¬ bt s 0 = 45 := fun e => h3 (hb.1 e)
    have h5 : (bt s 0 == 45) = false := beq_eq_false_iff_ne.2 h4
    rw [if_neg h3, h5]
    simp only [spec_IsInt.j0, Bool.false_eq_true, if_false]
    rw [spec_IsInt_j1 s hn k (by omega)]

theorem impl_isInt_is (s : ByteArray) (hn : s.size ≤ 140737488351232) (D k : Nat) (hk : s.size + 4 ≤ k) :
    impl_isInt.f k s (D : Int) = some (intText D (L s)) := by
  obtain ⟨k, rfl⟩ : ∃ m, k = m + 1 := ⟨k - 1, by omega⟩
  have hL := L_length s
  unfold impl_isInt.f intText
  by_cases h0 : s.size = 0
  · rw [if_pos ((nil_iff s).2 h0)]
    simp only [impl_isInt.j0, Bool.false_eq_true, if_false]
    rw [impl_isInt_j1 s hn D k (by omega), if_neg]
    rw [List.length_eq_zero_iff.1 (hL.trans h0)]; simp
  rw [if_neg (fun e => h0 ((nil_iff s).1 e)), if_pos (by omega)]
  have hb := bt_eq_iff s 0 (by omega) 45 (by omega)
  by_cases h3 : (L s)[0]? = some 45
  · have h4 : bt s 0 = 45 := hb.2 h3
    have h5 : (bt s 0 == 45) = true := by rw [h4]; rfl
    rw [if_pos h3, h5]
    simp only [impl_isInt.j0, if_true]
    rw [if_pos (by omega), toList_L, L_extract_end]
    by_cases h6 : (L s).drop 1 = [48]
    · rw [if_pos h6, if_pos h6]
    · rw [if_neg h6, if_neg h6, impl_isInt_j1 _ (by rw [size_extract_end]; omega) D k (by rw [size_extract_end]; omega), L_extract_end]
  · have h4 : ¬ bt s 0 = 45 := fun e => h3 (hb.1 e)
    have h5 : (bt s 0 == 45) = false := beq_eq_false_iff_ne.2 h4
    rw [if_neg h3, h5]
    simp only [impl_isInt.j0, Bool.false_eq_true, if_false]
    rw [impl_isInt_j1 s hn D k (by omega)]


/-- from some count of rounds on -/
def Ev {α : Type} (f : Nat → Option α) (r : α) : Prop := ∃ k0, ∀ k, k0 ≤ k → f k = some r
theorem Ev.pure {α : Type} {f : Nat → Option α} {r : α} (h : ∀ k, f k = some r) : Ev f r := ⟨0, fun k _ => h k⟩
theorem Ev.succ {α : Type} {f g : Nat → Option α} {r : α} (h : ∀ k, f (k + 1) = g k) (hg : Ev g r) : Ev f r := by
  obtain ⟨k0, hk⟩ := hg
  refine ⟨k0 + 1, fun k hle => ?_⟩
  obtain ⟨j, rfl⟩ : ∃ j, k = j + 1 := ⟨k - 1, by omega⟩
  rw [h]; exact hk j (by omega)
theorem Ev.same {α : Type} {f g : Nat → Option α} {r : α} (h : ∀ k, f k = g k) (hg : Ev g r) : Ev f r := by
  obtain ⟨k0, hk⟩ := hg
  exact ⟨k0, fun k hle => by rw [h]; exact hk k hle⟩
theorem Ev.bind {α β : Type} {f : Nat → Option α} {g : Nat → α → Option β} {a : α} {r : β} (hf : Ev f a) (hg : Ev (fun k => g k a) r) : Ev (fun k => (f k).bind (g k)) r := by
  obtain ⟨k0, h0⟩ := hf
  obtain ⟨k1, h1⟩ := hg
  refine ⟨max k0 k1, fun k hle => ?_⟩
  show (f k).bind (g k) = some r
  rw [h0 k (by omega)]; exact h1 k (by omega)
theorem wrap_ok {z : Int} (h0 : -9223372036854775808 ≤ z) (h1 : z ≤ 9223372036854775807) : wrap64 z = z := by unfold wrap64; omega
theorem rd_at {l : List ByteArray} {i : Nat} (h : i < l.length) : rdOf ByteArray.empty l (i : Int) = l[i] := by
  unfold rdOf; rw [Int.toNat_natCast, List.getD_eq_getElem?_getD, List.getElem?_eq_getElem h]; rfl
theorem rd59_at {l : List S59} {i : Nat} (h : i < l.length) : rd_T59 l (i : Int) = l[i] := by
  unfold rd_T59; rw [Int.toNat_natCast, List.getD_eq_getElem?_getD, List.getElem?_eq_getElem h]; rfl
theorem rd60_at {l : List S60} {i : Nat} (h : i < l.length) : rd_T60 l (i : Int) = l[i] := by
  unfold rd_T60; rw [Int.toNat_natCast, List.getD_eq_getElem?_getD, List.getElem?_eq_getElem h]; rfl
theorem mem_drop {α : Type} {l : List α} {i : Nat} (h : i < l.length) {x : α} : x ∈ l.drop i ↔ x = l[i] ∨ x ∈ l.drop (i + 1) := by
  rw [List.drop_eq_getElem_cons h, List.mem_cons]

/-! sizes -/
theorem szS_l0 (l : List ByteArray) (hl : l.length ≤ 9223372036854775807) (hs : ∀ s ∈ l, s.size ≤ 9223372036854775807) : ∀ (d i : Nat) (a : Int), i ≤ l.length → l.length - i = d → 0 ≤ a → a ≤ 1048576 →
    ∃ t, Ev (fun k => laws_szStringS.l0 k l a (i : Int)) t ∧ (t < 0 ∨ (0 ≤ t ∧ t ≤ a ∧ ∀ s ∈ l.drop i, (s.size : Int) ≤ a)) := by
  intro d
  induction d with
  | zero =>
    intro i a hi hd h0 h1
    refine ⟨a, Ev.succ (g := fun _ => some a) (fun k => ?_) (Ev.pure fun _ => rfl), .inr ⟨h0, Int.le_refl _, ?_⟩⟩
    · simp only [laws_szStringS.l0]; rw [if_neg (by omega)]
    · rw [List.drop_eq_nil_of_le (by omega)]; simp
  | succ d ih =>
    intro i a hi hd h0 h1
    have hlt : i < l.length := by omega
    have hz := hs _ (List.getElem_mem hlt)
    have hw : wrap64 (a - ((l[i].size : Nat) : Int)) = a - (l[i].size : Nat) := wrap_ok (by omega) (by omega)
    have hw1 : wrap64 ((i : Int) + 1) = ((i + 1 : Nat) : Int) := wrap_ok (by omega) (by omega)
    by_cases hneg : a - (l[i].size : Int) < 0
    · refine ⟨-1, Ev.succ (g := fun _ => some (-1)) (fun k => ?_) (Ev.pure fun _ => rfl), .inl (by omega)⟩
      simp only [laws_szStringS.l0]; rw [if_pos (by omega), if_pos (by omega), rd_at hlt, hw, if_pos hneg]
    · obtain ⟨t, ht, hc⟩ := ih (i + 1) (a - (l[i].size : Nat)) (by omega) (by omega) (by omega) (by omega)
      refine ⟨t, Ev.succ (fun k => ?_) ht, ?_⟩
      · simp only [laws_szStringS.l0]; rw [if_pos (by omega), if_pos (by omega), rd_at hlt, hw, if_neg hneg, hw1]
      · rcases hc with hc | ⟨c0, c1, c2⟩
        · exact .inl hc
        · refine .inr ⟨c0, by omega, fun s hm => ?_⟩
          rcases (mem_drop hlt).1 hm with rfl | hm
          · omega
          · have := c2 s hm; omega
theorem szS (l : List ByteArray) (hl : l.length ≤ 9223372036854775807) (hs : ∀ s ∈ l, s.size ≤ 9223372036854775807) (a : Int) (h0 : 0 ≤ a) (h1 : a ≤ 1048576) :
    ∃ t, Ev (fun k => laws_szStringS.f k l a) t ∧ (t < 0 ∨ (0 ≤ t ∧ t ≤ a ∧ (l.length : Int) ≤ a ∧ ∀ s ∈ l, (s.size : Int) ≤ a)) := by
  have hw : wrap64 (a - (l.length : Int)) = a - l.length := wrap_ok (by omega) (by omega)
  by_cases hneg : a - (l.length : Int) < 0
  · exact ⟨-1, Ev.pure fun k => by unfold laws_szStringS.f; rw [hw, if_pos hneg], .inl (by omega)⟩
  · obtain ⟨t, ht, hc⟩ := szS_l0 l hl hs _ 0 (a - l.length) (by omega) rfl (by omega) (by omega)
    refine ⟨t, Ev.same (fun k => ?_) ht, ?_⟩
    · unfold laws_szStringS.f; rw [hw, if_neg hneg]; rfl
    · rcases hc with hc | ⟨c0, c1, c2⟩
      · exact .inl hc
      · refine .inr ⟨c0, by omega, by omega, fun s hm => ?_⟩
        have := c2 s (by simpa using hm); omega
/-- what is told of a row's sizes -/
def Small (x : S59) (a : Int) : Prop := (x.f0.length : Int) ≤ a ∧ (∀ s ∈ x.f0, (s.size : Int) ≤ a) ∧ (x.f2.size : Int) ≤ a
def Fits (x : S59) : Prop := x.f0.length ≤ 9223372036854775807 ∧ (∀ s ∈ x.f0, s.size ≤ 9223372036854775807) ∧ x.f2.size ≤ 9223372036854775807
theorem szR (x : S59) (hx : Fits x) (a : Int) (h0 : 0 ≤ a) (h1 : a ≤ 1048576) :
    ∃ t, Ev (fun k => laws_szLinRow.f k x.f0 x.f1 x.f2 a) t ∧ (t < 0 ∨ (0 ≤ t ∧ t ≤ a ∧ Small x a)) := by
  obtain ⟨t, ht, hc⟩ := szS x.f0 hx.1 hx.2.1 a h0 h1
  by_cases hneg : t < 0
  · exact ⟨-1, Ev.bind ht (Ev.pure fun k => by rw [if_pos hneg]), .inl (by omega)⟩
  · obtain ⟨c0, c1, c2, c3⟩ := hc.resolve_left hneg
    have hz := hx.2.2
    have hw : wrap64 (t - (x.f2.size : Int)) = t - x.f2.size := wrap_ok (by omega) (by omega)
    by_cases hn2 : t - (x.f2.size : Int) < 0
    · exact ⟨-1, Ev.bind ht (Ev.pure fun k => by rw [if_neg hneg, hw, if_pos hn2]), .inl (by omega)⟩
    · exact ⟨t - x.f2.size, Ev.bind ht (Ev.pure fun k => by rw [if_neg hneg, hw, if_neg hn2]), .inr ⟨by omega, by omega, c2, c3, by omega⟩⟩
theorem szL_l0 (l : List S59) (hl : l.length ≤ 9223372036854775807) (hs : ∀ x ∈ l, Fits x) : ∀ (d i : Nat) (a : Int), i ≤ l.length → l.length - i = d → 0 ≤ a → a ≤ 1048576 →
    ∃ t, Ev (fun k => laws_szLinRowS.l0 k l a (i : Int)) t ∧ (t < 0 ∨ (0 ≤ t ∧ t ≤ a ∧ ∀ x ∈ l.drop i, Small x 1048576)) := by
  intro d
  induction d with
  | zero =>
    intro i a hi hd h0 h1
    refine ⟨a, Ev.succ (g := fun _ => some a) (fun k => ?_) (Ev.pure fun _ => rfl), .inr ⟨h0, Int.le_refl _, ?_⟩⟩
    · simp only [laws_szLinRowS.l0]; rw [if_neg (by omega)]
    · rw [List.drop_eq_nil_of_le (by omega)]; simp
  | succ d ih =>
    intro i a hi hd h0 h1
    have hlt : i < l.length := by omega
    obtain ⟨t1, ht1, hc1⟩ := szR _ (hs _ (List.getElem_mem hlt)) a h0 h1
    have hw1 : wrap64 ((i : Int) + 1) = ((i + 1 : Nat) : Int) := wrap_ok (by omega) (by omega)
    by_cases hneg : t1 < 0
    · refine ⟨-1, Ev.succ (fun k => ?_) (Ev.bind (g := fun k t => if t < 0 then some (-1) else laws_szLinRowS.l0 k l t (wrap64 ((i : Int) + 1))) ht1 (Ev.pure fun k => by rw [if_pos hneg])), .inl (by omega)⟩
      simp only [laws_szLinRowS.l0]; rw [if_pos (by omega), if_pos (by omega), rd59_at hlt]
    · obtain ⟨c0, c1, c2⟩ := hc1.resolve_left hneg
      obtain ⟨t, ht, hc⟩ := ih (i + 1) t1 (by omega) (by omega) c0 (by omega)
      refine ⟨t, Ev.succ (fun k => ?_) (Ev.bind (g := fun k t => if t < 0 then some (-1) else laws_szLinRowS.l0 k l t (wrap64 ((i : Int) + 1))) ht1 (Ev.same (fun k => by rw [if_neg hneg, hw1]) ht)), ?_⟩
      · simp only [laws_szLinRowS.l0]; rw [if_pos (by omega), if_pos (by omega), rd59_at hlt]
      · rcases hc with hc | ⟨d0, d1, d2⟩
        · exact .inl hc
        · refine .inr ⟨d0, by omega, fun x hm => ?_⟩
          rcases (mem_drop hlt).1 hm with rfl | hm
          · exact ⟨by have := c2.1; omega, fun s hs => by have := c2.2.1 s hs; omega, by have := c2.2.2; omega⟩
          · exact d2 x hm
theorem szL (l : List S59) (hl : l.length ≤ 9223372036854775807) (hs : ∀ x ∈ l, Fits x) :
    ∃ t, Ev (fun k => laws_szLinRowS.f k l 1048576) t ∧ (t < 0 ∨ (l.length ≤ 1048576 ∧ ∀ x ∈ l, Small x 1048576)) := by
  have hw : wrap64 (1048576 - (l.length : Int)) = 1048576 - l.length := wrap_ok (by omega) (by omega)
  by_cases hneg : 1048576 - (l.length : Int) < 0
  · exact ⟨-1, Ev.pure fun k => by unfold laws_szLinRowS.f; rw [hw, if_pos hneg], .inl (by omega)⟩
  · obtain ⟨t, ht, hc⟩ := szL_l0 l hl hs _ 0 (1048576 - l.length) (by omega) rfl (by omega) (by omega)
    refine ⟨t, Ev.same (fun k => ?_) ht, ?_⟩
    · unfold laws_szLinRowS.f; rw [hw, if_neg hneg]; rfl
    · rcases hc with hc | ⟨c0, c1, c2⟩
      · exact .inl hc
      · exact .inr ⟨by omega, fun x hm => c2 x (by simpa using hm)⟩

/-! rows made anew -/
theorem toS_l0 (l : List ByteArray) (hl : l.length ≤ 1048576) : ∀ (d i : Nat) (y : List ByteArray), i ≤ l.length → l.length - i = d → y.length = l.length → (∀ j, j < i → y[j]? = l[j]?) →
    Ev (fun k => laws_toStringS.l0 k l y (i : Int)) l := by
  intro d
  induction d with
  | zero =>
    intro i y hi hd hy hj
    have : y = l := List.ext_getElem? fun j => by
      by_cases h : j < i
      · exact hj j h
      · rw [List.getElem?_eq_none (by omega), List.getElem?_eq_none (by omega)]
    subst this
    exact Ev.succ (g := fun _ => some y) (fun k => by simp only [laws_toStringS.l0]; rw [if_neg (by omega)]) (Ev.pure fun _ => rfl)
  | succ d ih =>
    intro i y hi hd hy hj
    have hlt : i < l.length := by omega
    have hw1 : wrap64 ((i : Int) + 1) = ((i + 1 : Nat) : Int) := wrap_ok (by omega) (by omega)
    refine Ev.succ (fun k => ?_) (ih (i + 1) (y.set i l[i]) (by omega) (by omega) (by simp; exact hy) ?_)
    · simp only [laws_toStringS.l0]; rw [if_pos (by omega), if_pos (by omega), if_pos (by omega), rd_at hlt, hw1, Int.toNat_natCast]
    · intro j hji
      by_cases h : j = i
      · subst h
        rw [List.getElem?_set_self (by omega), List.getElem?_eq_getElem hlt]
      · rw [List.getElem?_set_ne (by omega)]; exact hj j (by omega)
theorem toS (l : List ByteArray) (hl : l.length ≤ 1048576) : Ev (fun k => laws_toStringS.f k l) l := by
  refine Ev.same (fun k => ?_) (toS_l0 l hl _ 0 (List.replicate l.length ⟨#[]⟩) (by omega) rfl (by simp) (fun j h => by omega))
  unfold laws_toStringS.f; rw [if_pos (by omega), if_pos (by omega)]; rfl
def conv (x : S59) : S60 := ⟨x.f0, x.f1, x.f2⟩
theorem toR (x : S59) (hx : x.f0.length ≤ 1048576) : Ev (fun k => laws_toLinRow.f k x.f0 x.f1 x.f2) (x.f0, x.f1, x.f2) :=
  Ev.bind (toS x.f0 hx) (Ev.pure fun k => rfl)
theorem toL_l0 (l : List S59) (hl : l.length ≤ 1048576) (hs : ∀ x ∈ l, x.f0.length ≤ 1048576) : ∀ (d i : Nat) (y : List S60), i ≤ l.length → l.length - i = d → y.length = l.length → (∀ j, j < i → y[j]? = (l.map conv)[j]?) →
    Ev (fun k => laws_toLinRowS.l0 k l y (i : Int)) (l.map conv) := by
  intro d
  induction d with
  | zero =>
    intro i y hi hd hy hj
    have : y = l.map conv := List.ext_getElem? fun j => by
      by_cases h : j < i
      · exact hj j h
      · rw [List.getElem?_eq_none (by omega), List.getElem?_eq_none (by rw [List.length_map]; omega)]
    subst this
    exact Ev.succ (g := fun _ => some (l.map conv)) (fun k => by simp only [laws_toLinRowS.l0]; rw [if_neg (by omega)]) (Ev.pure fun _ => rfl)
  | succ d ih =>
    intro i y hi hd hy hj
    have hlt : i < l.length := by omega
    have hw1 : wrap64 ((i : Int) + 1) = ((i + 1 : Nat) : Int) := wrap_ok (by omega) (by omega)
    refine Ev.succ (fun k => ?_) (Ev.bind (g := fun k bt => if (i : Int) < (y.length : Int) then laws_toLinRowS.l0 k l (y.set (i : Int).toNat (⟨bt.1, bt.2.1, bt.2.2⟩ : S60)) (wrap64 ((i : Int) + 1)) else none) (toR l[i] (hs _ (List.getElem_mem hlt)))
      (Ev.same (fun k => ?_) (ih (i + 1) (y.set i (conv l[i])) (by omega) (by omega) (by simp; exact hy) ?_)))
    · simp only [laws_toLinRowS.l0]; rw [if_pos (by omega), if_pos (by omega), rd59_at hlt]
    · show (if (i : Int) < (y.length : Int) then _ else none) = _
      rw [if_pos (by omega), hw1, Int.toNat_natCast]; rfl
    · intro j hji
      by_cases h : j = i
      · subst h
        rw [List.getElem?_set_self (by omega), List.getElem?_map, List.getElem?_eq_getElem hlt]; rfl
      · rw [List.getElem?_set_ne (by omega)]; exact hj j (by omega)
theorem toL (l : List S59) (hl : l.length ≤ 1048576) (hs : ∀ x ∈ l, x.f0.length ≤ 1048576) : Ev (fun k => laws_toLinRowS.f k l) (l.map conv) := by
  refine Ev.same (fun k => ?_) (toL_l0 l hl hs _ 0 (List.replicate l.length z60) (by omega) rfl (by simp) (fun j h => by omega))
  unfold laws_toLinRowS.f; rw [if_pos (by omega), if_pos (by omega)]; rfl

/-! comparing -/
theorem eqS_l0 (l : List ByteArray) (hl : l.length ≤ 1048576) : ∀ (d i : Nat), i ≤ l.length → l.length - i = d → Ev (fun k => laws_eqStringS.l0 k l l (i : Int)) true := by
  intro d
  induction d with
  | zero => intro i hi hd; exact Ev.succ (g := fun _ => some true) (fun k => by simp only [laws_eqStringS.l0]; rw [if_neg (by omega)]) (Ev.pure fun _ => rfl)
  | succ d ih =>
    intro i hi hd
    have hw1 : wrap64 ((i : Int) + 1) = ((i + 1 : Nat) : Int) := wrap_ok (by omega) (by omega)
    exact Ev.succ (fun k => by simp only [laws_eqStringS.l0]; rw [if_pos (by omega), if_pos (by omega), if_pos (by omega), if_pos trivial, hw1]) (ih (i + 1) (by omega) (by omega))
theorem eqS (l : List ByteArray) (hl : l.length ≤ 1048576) : Ev (fun k => laws_eqStringS.f k l l) true :=
  Ev.same (fun k => by unfold laws_eqStringS.f; rw [if_pos rfl]; rfl) (eqS_l0 l hl _ 0 (by omega) rfl)
theorem eqR (x : S60) (hx : x.f0.length ≤ 1048576) : Ev (fun k => laws_eqLinRow.f k x.f0 x.f1 x.f2 x.f0 x.f1 x.f2) true :=
  Ev.bind (eqS x.f0 hx) (Ev.pure fun k => by simp)
theorem eqL_l0 (l : List S60) (hl : l.length ≤ 1048576) (hs : ∀ x ∈ l, x.f0.length ≤ 1048576) : ∀ (d i : Nat), i ≤ l.length → l.length - i = d → Ev (fun k => laws_eqLinRowS.l0 k l l (i : Int)) true := by
  intro d
  induction d with
  | zero => intro i hi hd; exact Ev.succ (g := fun _ => some true) (fun k => by simp only [laws_eqLinRowS.l0]; rw [if_neg (by omega)]) (Ev.pure fun _ => rfl)
  | succ d ih =>
    intro i hi hd
    have hlt : i < l.length := by omega
    have hw1 : wrap64 ((i : Int) + 1) = ((i + 1 : Nat) : Int) := wrap_ok (by omega) (by omega)
    exact Ev.succ (fun k => by simp only [laws_eqLinRowS.l0]; rw [if_pos (by omega), if_pos (by omega), if_pos (by omega), rd60_at hlt]) (Ev.bind (g := fun k t => if t = true then laws_eqLinRowS.l0 k l l (wrap64 ((i : Int) + 1)) else some false) (eqR l[i] (hs _ (List.getElem_mem hlt))) (Ev.same (fun k => by rw [if_pos rfl, hw1]) (ih (i + 1) (by omega) (by omega))))
theorem eqL (l : List S60) (hl : l.length ≤ 1048576) (hs : ∀ x ∈ l, x.f0.length ≤ 1048576) : Ev (fun k => laws_eqLinRowS.f k l l) true :=
  Ev.same (fun k => by unfold laws_eqLinRowS.f; rw [if_pos rfl]; rfl) (eqL_l0 l hl hs _ 0 (by omega) rfl)

/-! the two -/
theorem one (s : ByteArray) (hs : s.size ≤ 1048576) : Ev (fun k => impl_GoodRows_1.f k s) (Limb.l12 (L s)) := by
  have hI : Ev (fun k => impl_IsInt.f k s) (intText 2500 (L s)) := by
    refine ⟨s.size + 4, fun k hk => ?_⟩
    show (impl_isInt.f k s 2500).bind _ = _
    have := impl_isInt_is s (by omega) 2500 k hk
    have h2 : impl_isInt.f k s 2500 = some (intText 2500 (L s)) := this
    rw [h2]; rfl
  refine Ev.bind hI ?_
  have hlen := L_length s
  have hd : impl_digits.f s = some ((Limb.digLen (L s) : Nat) : Int) := by
    unfold impl_digits.f Limb.digLen
    by_cases h0 : s.size = 0
    · rw [if_neg (by omega), if_neg (by rw [List.length_eq_zero_iff.1 (hlen.trans h0)]; simp), hlen]
    · rw [if_pos (by omega), if_pos (by omega)]
      have hq : bt s 0 = 45 ↔ (L s)[0]? = some 45 := bt_eq_iff s 0 (by omega) 45 (by omega)
      by_cases h3 : (L s)[0]? = some 45
      · rw [if_pos h3, if_pos (hq.2 h3), wrap_ok (by omega) (by omega), hlen]; congr 1; omega
      · rw [if_neg h3, if_neg (fun e => h3 (hq.1 e)), hlen]
  refine Ev.pure fun k => ?_
  rw [hd]
  unfold Limb.l12
  have hle : (L s).length ≤ Limb.digLen (L s) + 1 := by unfold Limb.digLen; split <;> omega
  cases hb : intText 2500 (L s) with
  | false => simp
  | true =>
    rw [if_pos rfl]
    show some _ = some _
    congr 1
    rw [Bool.true_and]
    by_cases h40 : Limb.digLen (L s) ≤ 40
    · rw [decide_eq_true (by omega), decide_eq_true (by omega), decide_eq_true h40]; rfl
    · rw [decide_eq_false (by omega), decide_eq_false h40, Bool.and_false]
def good1 (a : Int) (x : S60) : Bool := decide ((x.f0.length : Int) = a) && Limb.l12 (L x.f2) && x.f0.all (fun s => Limb.l12 (L s))
theorem all_drop {p : ByteArray → Bool} {l : List ByteArray} {i : Nat} (h : i < l.length) : (l.drop i).all p = (p l[i] && (l.drop (i + 1)).all p) := by
  rw [List.drop_eq_getElem_cons h, List.all_cons]
theorem allR_drop {p : S60 → Bool} {l : List S60} {i : Nat} (h : i < l.length) : (l.drop i).all p = (p l[i] && (l.drop (i + 1)).all p) := by
  rw [List.drop_eq_getElem_cons h, List.all_cons]

theorem spec_l1 (a : Int) (l : List S60) (hl : l.length ≤ 1048576) (x : List ByteArray) (hx : x.length ≤ 1048576) (hs : ∀ s ∈ x, s.size ≤ 1048576) (i : Nat) (hi : i < l.length) (r : Bool) (hr : Ev (fun k => spec_GoodRows.l0 k a l (l.length : Int) ((i + 1 : Nat) : Int)) r) : ∀ (d j : Nat), j ≤ x.length → x.length - j = d →
    Ev (fun k => spec_GoodRows.l1 k a l (l.length : Int) (i : Int) x (x.length : Int) (j : Int)) ((x.drop j).all (fun s => Limb.l12 (L s)) && r) := by
  have hwi : wrap64 ((i : Int) + 1) = ((i + 1 : Nat) : Int) := wrap_ok (by omega) (by omega)
  intro d
  induction d with
  | zero =>
    intro j hj hd
    rw [List.drop_eq_nil_of_le (by omega), List.all_nil, Bool.true_and]
    exact Ev.succ (fun k => by simp only [spec_GoodRows.l1]; rw [if_neg (by omega), hwi]) hr
  | succ d ih =>
    intro j hj hd
    have hlt : j < x.length := by omega
    have hwj : wrap64 ((j : Int) + 1) = ((j + 1 : Nat) : Int) := wrap_ok (by omega) (by omega)
    rw [all_drop hlt]
    refine Ev.succ (fun k => by simp only [spec_GoodRows.l1]; rw [if_pos (by omega), if_pos (by omega), if_pos (by omega), rd_at hlt]) (Ev.bind (g := fun k t => if t = true then spec_GoodRows.l1 k a l (l.length : Int) (i : Int) x (x.length : Int) (wrap64 ((j : Int) + 1)) else some false) (Ev.pure (f := fun _ => spec_l12Text.f x[j]) fun k => rfl) ?_)
    cases hb : Limb.l12 (L x[j]) with
    | false => exact Ev.pure fun k => by simp
    | true => exact Ev.same (fun k => by rw [if_pos rfl, hwj]) (by simpa using ih (j + 1) (by omega) (by omega))
theorem spec_l0 (a : Int) (l : List S60) (hl : l.length ≤ 1048576) (hs : ∀ x ∈ l, x.f0.length ≤ 1048576 ∧ (∀ s ∈ x.f0, s.size ≤ 1048576) ∧ x.f2.size ≤ 1048576) : ∀ (d i : Nat), i ≤ l.length → l.length - i = d →
    Ev (fun k => spec_GoodRows.l0 k a l (l.length : Int) (i : Int)) ((l.drop i).all (good1 a)) := by
  intro d
  induction d with
  | zero =>
    intro i hi hd
    rw [List.drop_eq_nil_of_le (by omega), List.all_nil]
    exact Ev.succ (g := fun _ => some true) (fun k => by simp only [spec_GoodRows.l0]; rw [if_neg (by omega)]) (Ev.pure fun _ => rfl)
  | succ d ih =>
    intro i hi hd
    have hlt : i < l.length := by omega
    have hx := hs _ (List.getElem_mem hlt)
    rw [allR_drop hlt]
    have hrest := spec_l1 a l hl l[i].f0 hx.1 hx.2.1 i hlt _ (ih (i + 1) (by omega) (by omega)) _ 0 (by omega) rfl
    have j2f : Ev (fun k => spec_GoodRows.j2 k a l (l.length : Int) (i : Int) true l[i].f0 l[i].f1 l[i].f2) false :=
      Ev.succ (g := fun _ => some false) (fun k => by simp only [spec_GoodRows.j2]; rw [if_pos trivial]) (Ev.pure fun _ => rfl)
    have j2t : Ev (fun k => spec_GoodRows.j2 k a l (l.length : Int) (i : Int) false l[i].f0 l[i].f1 l[i].f2) (l[i].f0.all (fun s => Limb.l12 (L s)) && (l.drop (i + 1)).all (good1 a)) :=
      Ev.succ (fun k => by simp only [spec_GoodRows.j2]; rw [if_neg (by decide)]; rfl) hrest
    by_cases ha : (l[i].f0.length : Int) = a
    · refine Ev.succ (fun k => by simp only [spec_GoodRows.l0]; rw [if_pos (by omega), if_pos (by omega), if_pos (by omega), rd60_at hlt, if_pos ha]) (Ev.bind (g := fun k t => spec_GoodRows.j2 k a l (l.length : Int) (i : Int) (!t) l[i].f0 l[i].f1 l[i].f2) (Ev.pure (f := fun _ => spec_l12Text.f l[i].f2) fun k => rfl) ?_)
      rw [show good1 a l[i] = (decide ((l[i].f0.length : Int) = a) && Limb.l12 (L l[i].f2) && l[i].f0.all (fun s => Limb.l12 (L s))) from rfl]
      rw [decide_eq_true ha, Bool.true_and]
      cases hb : Limb.l12 (L l[i].f2) with
      | false => simpa using j2f
      | true => simpa using j2t
    · refine Ev.succ (fun k => by simp only [spec_GoodRows.l0]; rw [if_pos (by omega), if_pos (by omega), if_pos (by omega), rd60_at hlt, if_neg ha]) ?_
      rw [show good1 a l[i] = (decide ((l[i].f0.length : Int) = a) && Limb.l12 (L l[i].f2) && l[i].f0.all (fun s => Limb.l12 (L s))) from rfl]
      rw [decide_eq_false ha]
      simpa using j2f
theorem spec_is (a : Int) (l : List S60) (hl : l.length ≤ 1048576) (hs : ∀ x ∈ l, x.f0.length ≤ 1048576 ∧ (∀ s ∈ x.f0, s.size ≤ 1048576) ∧ x.f2.size ≤ 1048576) :
    Ev (fun k => spec_GoodRows.f k a l) (decide (0 ≤ a) && decide (a ≤ 20) && decide (l.length ≤ 50) && l.all (good1 a)) := by
  have jt : Ev (fun k => spec_GoodRows.j0 k a l true) false := Ev.succ (g := fun _ => some false) (fun k => by simp only [spec_GoodRows.j0]; rw [if_pos trivial]) (Ev.pure fun _ => rfl)
  have jf : Ev (fun k => spec_GoodRows.j0 k a l false) (l.all (good1 a)) := Ev.succ (fun k => by simp only [spec_GoodRows.j0]; rw [if_neg (by decide)]; rfl) (spec_l0 a l hl hs _ 0 (by omega) rfl)
  by_cases h0 : a < 0
  · rw [decide_eq_false (by omega), Bool.false_and, Bool.false_and, Bool.false_and]
    exact Ev.same (fun k => by unfold spec_GoodRows.f; rw [if_pos h0]) jt
  · by_cases h1 : a > 20
    · rw [decide_eq_false (show ¬ a ≤ 20 by omega), Bool.and_false, Bool.false_and, Bool.false_and]
      exact Ev.same (fun k => by unfold spec_GoodRows.f; rw [if_neg h0, if_pos h1]) jt
    · by_cases h2 : l.length ≤ 50
      · rw [decide_eq_true (show 0 ≤ a by omega), decide_eq_true (show a ≤ 20 by omega), decide_eq_true h2, Bool.true_and, Bool.true_and, Bool.true_and]
        exact Ev.same (fun k => by unfold spec_GoodRows.f; rw [if_neg h0, if_neg h1, decide_eq_false (by omega)]) jf
      · rw [decide_eq_false h2, Bool.and_false, Bool.false_and]
        exact Ev.same (fun k => by unfold spec_GoodRows.f; rw [if_neg h0, if_neg h1, decide_eq_true (by omega)]) jt

theorem impl_l1 (a : Int) (l : List S60) (hl : l.length ≤ 1048576) (x : List ByteArray) (hx : x.length ≤ 1048576) (hs : ∀ s ∈ x, s.size ≤ 1048576) (i : Nat) (hi : i < l.length) (r : Bool) (hr : Ev (fun k => impl_GoodRows.l0 k a l (l.length : Int) ((i + 1 : Nat) : Int)) r) : ∀ (d j : Nat), j ≤ x.length → x.length - j = d →
    Ev (fun k => impl_GoodRows.l1 k a l (l.length : Int) (i : Int) x (x.length : Int) (j : Int)) ((x.drop j).all (fun s => Limb.l12 (L s)) && r) := by
  have hwi : wrap64 ((i : Int) + 1) = ((i + 1 : Nat) : Int) := wrap_ok (by omega) (by omega)
  intro d
  induction d with
  | zero =>
    intro j hj hd
    rw [List.drop_eq_nil_of_le (by omega), List.all_nil, Bool.true_and]
    exact Ev.succ (fun k => by simp only [impl_GoodRows.l1]; rw [if_neg (by omega), hwi]) hr
  | succ d ih =>
    intro j hj hd
    have hlt : j < x.length := by omega
    have hwj : wrap64 ((j : Int) + 1) = ((j + 1 : Nat) : Int) := wrap_ok (by omega) (by omega)
    rw [all_drop hlt]
    refine Ev.succ (fun k => by simp only [impl_GoodRows.l1]; rw [if_pos (by omega), if_pos (by omega), if_pos (by omega), rd_at hlt]) (Ev.bind (g := fun k t => if t = true then impl_GoodRows.l1 k a l (l.length : Int) (i : Int) x (x.length : Int) (wrap64 ((j : Int) + 1)) else some false) (one x[j] (hs _ (List.getElem_mem hlt))) ?_)
    cases hb : Limb.l12 (L x[j]) with
    | false => exact Ev.pure fun k => by simp
    | true => exact Ev.same (fun k => by rw [if_pos rfl, hwj]) (by simpa using ih (j + 1) (by omega) (by omega))
theorem impl_l0 (a : Int) (l : List S60) (hl : l.length ≤ 1048576) (hs : ∀ x ∈ l, x.f0.length ≤ 1048576 ∧ (∀ s ∈ x.f0, s.size ≤ 1048576) ∧ x.f2.size ≤ 1048576) : ∀ (d i : Nat), i ≤ l.length → l.length - i = d →
    Ev (fun k => impl_GoodRows.l0 k a l (l.length : Int) (i : Int)) ((l.drop i).all (good1 a)) := by
  intro d
  induction d with
  | zero =>
    intro i hi hd
    rw [List.drop_eq_nil_of_le (by omega), List.all_nil]
    exact Ev.succ (g := fun _ => some true) (fun k => by simp only [impl_GoodRows.l0]; rw [if_neg (by omega)]) (Ev.pure fun _ => rfl)
  | succ d ih =>
    intro i hi hd
    have hlt : i < l.length := by omega
    have hx := hs _ (List.getElem_mem hlt)
    rw [allR_drop hlt]
    have hrest := impl_l1 a l hl l[i].f0 hx.1 hx.2.1 i hlt _ (ih (i + 1) (by omega) (by omega)) _ 0 (by omega) rfl
    have j2f : Ev (fun k => impl_GoodRows.j2 k a l (l.length : Int) (i : Int) true l[i].f0 l[i].f1 l[i].f2) false :=
      Ev.succ (g := fun _ => some false) (fun k => by simp only [impl_GoodRows.j2]; rw [if_pos trivial]) (Ev.pure fun _ => rfl)
    have j2t : Ev (fun k => impl_GoodRows.j2 k a l (l.length : Int) (i : Int) false l[i].f0 l[i].f1 l[i].f2) (l[i].f0.all (fun s => Limb.l12 (L s)) && (l.drop (i + 1)).all (good1 a)) :=
      Ev.succ (fun k => by simp only [impl_GoodRows.j2]; rw [if_neg (by decide)]; rfl) hrest
    by_cases ha : (l[i].f0.length : Int) = a
    · refine Ev.succ (fun k => by simp only [impl_GoodRows.l0]; rw [if_pos (by omega), if_pos (by omega), if_pos (by omega), rd60_at hlt, if_pos ha]) (Ev.bind (g := fun k t => impl_GoodRows.j2 k a l (l.length : Int) (i : Int) (!t) l[i].f0 l[i].f1 l[i].f2) (one l[i].f2 hx.2.2) ?_)
      rw [show good1 a l[i] = (decide ((l[i].f0.length : Int) = a) && Limb.l12 (L l[i].f2) && l[i].f0.all (fun s => Limb.l12 (L s))) from rfl]
      rw [decide_eq_true ha, Bool.true_and]
      cases hb : Limb.l12 (L l[i].f2) with
      | false => simpa using j2f
      | true => simpa using j2t
    · refine Ev.succ (fun k => by simp only [impl_GoodRows.l0]; rw [if_pos (by omega), if_pos (by omega), if_pos (by omega), rd60_at hlt, if_neg ha]) ?_
      rw [show good1 a l[i] = (decide ((l[i].f0.length : Int) = a) && Limb.l12 (L l[i].f2) && l[i].f0.all (fun s => Limb.l12 (L s))) from rfl]
      rw [decide_eq_false ha]
      simpa using j2f
theorem impl_is (a : Int) (l : List S60) (hl : l.length ≤ 1048576) (hs : ∀ x ∈ l, x.f0.length ≤ 1048576 ∧ (∀ s ∈ x.f0, s.size ≤ 1048576) ∧ x.f2.size ≤ 1048576) :
    Ev (fun k => impl_GoodRows.f k a l) (decide (0 ≤ a) && decide (a ≤ 20) && decide (l.length ≤ 50) && l.all (good1 a)) := by
  have jt : Ev (fun k => impl_GoodRows.j0 k a l true) false := Ev.succ (g := fun _ => some false) (fun k => by simp only [impl_GoodRows.j0]; rw [if_pos trivial]) (Ev.pure fun _ => rfl)
  have jf : Ev (fun k => impl_GoodRows.j0 k a l false) (l.all (good1 a)) := Ev.succ (fun k => by simp only [impl_GoodRows.j0]; rw [if_neg (by decide)]; rfl) (impl_l0 a l hl hs _ 0 (by omega) rfl)
  by_cases h0 : a < 0
  · rw [decide_eq_false (by omega), Bool.false_and, Bool.false_and, Bool.false_and]
    exact Ev.same (fun k => by unfold impl_GoodRows.f; rw [if_pos h0]) jt
  · by_cases h1 : a > 20
    · rw [decide_eq_false (show ¬ a ≤ 20 by omega), Bool.and_false, Bool.false_and, Bool.false_and]
      exact Ev.same (fun k => by unfold impl_GoodRows.f; rw [if_neg h0, if_pos h1]) jt
    · by_cases h2 : l.length ≤ 50
      · rw [decide_eq_true (show 0 ≤ a by omega), decide_eq_true (show a ≤ 20 by omega), decide_eq_true h2, Bool.true_and, Bool.true_and, Bool.true_and]
        exact Ev.same (fun k => by unfold impl_GoodRows.f; rw [if_neg h0, if_neg h1, decide_eq_false (by omega)]) jf
      · rw [decide_eq_false h2, Bool.and_false, Bool.false_and]
        exact Ev.same (fun k => by unfold impl_GoodRows.f; rw [if_neg h0, if_neg h1, decide_eq_true (by omega)]) jt

theorem law (a : Int) (l : List S59) (hl : l.length ≤ 9223372036854775807) (hs : ∀ x ∈ l, Fits x) : ∃ k, laws_FnExactGoodRows.f k a l = some true := by
  obtain ⟨t, ht, hc⟩ := szL l hl hs
  suffices h : Ev (fun k => laws_FnExactGoodRows.f k a l) true by
    obtain ⟨k0, hk⟩ := h
    exact ⟨k0, hk k0 (Nat.le_refl _)⟩
  by_cases hneg : t < 0
  · exact Ev.bind ht (Ev.pure fun k => by rw [if_pos hneg])
  · obtain ⟨c0, c1⟩ := hc.resolve_left hneg
    have h0 : ∀ x ∈ l, x.f0.length ≤ 1048576 := fun x hx => by have := (c1 x hx).1; omega
    have hm : (l.map conv).length ≤ 1048576 := by rw [List.length_map]; exact c0
    have hM : ∀ x ∈ l.map conv, x.f0.length ≤ 1048576 ∧ (∀ s ∈ x.f0, s.size ≤ 1048576) ∧ x.f2.size ≤ 1048576 := by
      intro x hx
      obtain ⟨y, hy, rfl⟩ := List.mem_map.1 hx
      have := c1 y hy
      exact ⟨by have := this.1; show y.f0.length ≤ _; omega, fun s hs => by have := this.2.1 s hs; omega, by have := this.2.2; show y.f2.size ≤ _; omega⟩
    have hT := toL l c0 h0
    obtain ⟨k1, h1⟩ := ht
    obtain ⟨k2, h2⟩ := hT
    obtain ⟨k3, h3⟩ := spec_is a _ hm hM
    obtain ⟨k4, h4⟩ := impl_is a _ hm hM
    obtain ⟨k5, h5⟩ := eqL _ hm (fun x hx => (hM x hx).1)
    refine ⟨k1 + k2 + k3 + k4 + k5, fun k hk => ?_⟩
    show laws_FnExactGoodRows.f k a l = some true
    unfold laws_FnExactGoodRows.f
    rw [show laws_szLinRowS.f k l 1048576 = some t from h1 k (by omega), Option.bind_some, if_neg hneg,
      show laws_toLinRowS.f k l = some (l.map conv) from h2 k (by omega), Option.bind_some,
      show spec_GoodRows.f k a (l.map conv) = some _ from h3 k (by omega), Option.bind_some, Option.bind_some,
      show impl_GoodRows.f k a (l.map conv) = some _ from h4 k (by omega), Option.bind_some, if_neg (by simp), Option.bind_some,
      show laws_eqLinRowS.f k (l.map conv) (l.map conv) = some true from h5 k (by omega), Option.bind_some, if_pos rfl]
end GR
end Go.Proofs.Ytljjenkaofcppaa.Pure

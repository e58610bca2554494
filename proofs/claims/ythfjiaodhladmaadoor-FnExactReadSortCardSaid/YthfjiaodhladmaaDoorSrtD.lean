/- Plain law on sort texts: the reference's reader and the program's read the same, second part. -/
import Derived.Test.YthfjiaodhladmaaDoorSrtC
namespace Go.Proofs.YthfjiaodhladmaaDoor.Srt
open Go.Proofs.YthfjiaodhladmaaDoor.By Go.Proofs.YthfjiaodhladmaaDoor.RS Go.Proofs.YthfjiaodhladmaaDoor.Num Go.Proofs.YthfjiaodhladmaaDoor.Dig
set_option linter.unusedVariables false
set_option linter.unusedSimpArgs false
theorem hp_iff {l p : List UInt8} : Lib.hasPrefix l p = true ↔ ∃ t, l = p ++ t := by
  unfold Lib.hasPrefix
  rw [List.isPrefixOf_iff_prefix]
  exact ⟨fun ⟨t, h⟩ => ⟨t, h.symm⟩, fun ⟨t, h⟩ => ⟨t, h.symm⟩⟩
theorem hp_no {l p : List UInt8} (h : ∀ t, l ≠ p ++ t) : Lib.hasPrefix l p = false := by
  cases hb : Lib.hasPrefix l p with
  | false => rfl
  | true => obtain ⟨t, e⟩ := hp_iff.1 hb; exact absurd e (h t)
theorem index_at (r : List UInt8) : ∀ m : List UInt8, (∀ b ∈ m, b ≠ 41) → Lib.index (m ++ 41 :: r) [41] = m.length
  | [], _ => by simp [Lib.index, List.isPrefixOf]
  | x :: m, h => by
    have hx := h x (by simp)
    have ih := index_at r m (fun b hb => h b (by simp [hb]))
    show Lib.index (x :: (m ++ 41 :: r)) [41] = _
    unfold Lib.index
    have h1 : ([41] : List UInt8).isPrefixOf (x :: (m ++ 41 :: r)) = false := by
      show ((41 : UInt8) == x && _) = false
      rw [beq_eq_false_iff_ne.2 (fun e => hx e.symm), Bool.false_and]
    have hne : ((m.length : Int) == -1) = false := beq_eq_false_iff_ne.2 (by omega)
    rw [h1, if_neg (by decide), ih, hne, if_neg (by decide)]
    simp
theorem cut_at (m r : List UInt8) (h : ∀ b ∈ m, b ≠ 41) : Lib.cut (m ++ 41 :: r) [41] = (m, r, true) := by
  unfold Lib.cut
  rw [index_at r m h, if_pos (by omega), Int.toNat_natCast, List.take_left]
  congr 2
  show (m ++ 41 :: r).drop (m.length + 1) = r
  rw [show m ++ 41 :: r = (m ++ [41]) ++ r by simp, show m.length + 1 = (m ++ [41]).length by simp, List.drop_left]
theorem cut_split {l : List UInt8} (h : (Lib.cut l [41]).2.2 = true) : l = (Lib.cut l [41]).1 ++ 41 :: (Lib.cut l [41]).2.1 := by
  unfold Lib.cut at h ⊢
  by_cases h0 : 0 ≤ Lib.index l [41]
  · rw [if_pos h0]
    rcases Lib.index_spec l [41] with ⟨h1, _⟩ | ⟨i, h1, h2, h3, _⟩
    · omega
    · rw [h1, Int.toNat_natCast]
      unfold Lib.occAt at h3
      obtain ⟨t, ht⟩ := List.isPrefixOf_iff_prefix.1 h3
      have ht2 : l.drop i = 41 :: t := ht.symm
      have : l.drop (i + ([41] : List UInt8).length) = t := by
        show l.drop (i + 1) = t
        rw [← List.drop_drop, ht2]; rfl
      show l = l.take i ++ 41 :: l.drop (i + ([41] : List UInt8).length)
      rw [this, ← ht2, List.take_append_drop]
  · rw [if_neg h0] at h; cases h
theorem byte_at (r : List UInt8) : ∀ m : List UInt8, (∀ b ∈ m, b ≠ 124) → Lib.indexByte (m ++ 124 :: r) 124 = m.length
  | [], _ => by simp [Lib.indexByte]
  | x :: m, h => by
    have hx := h x (by simp)
    have ih := byte_at r m (fun b hb => h b (by simp [hb]))
    show Lib.indexByte (x :: (m ++ 124 :: r)) 124 = _
    unfold Lib.indexByte
    have hne : ((m.length : Int) == -1) = false := beq_eq_false_iff_ne.2 (by omega)
    rw [beq_eq_false_iff_ne.2 hx, if_neg (by decide), ih, hne, if_neg (by decide)]
    simp
theorem byte_split : ∀ {l : List UInt8}, ¬ Lib.indexByte l 124 < 0 → l = l.take (Lib.indexByte l 124).toNat ++ 124 :: l.drop ((Lib.indexByte l 124).toNat + 1)
  | [], h => by simp [Lib.indexByte] at h
  | x :: l, h => by
    unfold Lib.indexByte at h ⊢
    by_cases hx : (x == 124) = true
    · rw [if_pos hx]
      have : x = 124 := eq_of_beq hx
      subst this; rfl
    · rw [if_neg hx] at h ⊢
      by_cases h1 : (Lib.indexByte l 124 == -1) = true
      · rw [if_pos h1] at h; exact absurd (by decide) h
      · rw [if_neg h1] at h ⊢
        have hg := Lib.indexByte_ge l 124
        have h2 : Lib.indexByte l 124 ≠ -1 := fun e => h1 (by rw [e]; rfl)
        have ih := byte_split (l := l) (by omega)
        rw [show (Lib.indexByte l 124 + 1).toNat = (Lib.indexByte l 124).toNat + 1 by omega]
        rw [List.take_succ_cons, List.drop_succ_cons, List.cons_append, ← ih]
def Edge (rest : List UInt8) : Prop := rest = [] ∨ ∃ c s, rest = c :: s ∧ nmU c = false
theorem Edge.tw {rest : List UInt8} (h : Edge rest) : rest.takeWhile nmU = [] ∧ rest.dropWhile nmU = rest := by
  rcases h with rfl | ⟨c, s, rfl, hc⟩
  · exact ⟨rfl, rfl⟩
  · rw [List.takeWhile_cons, List.dropWhile_cons, hc]; exact ⟨rfl, rfl⟩
theorem tw_all {p rest : List UInt8} (hn : ∀ b ∈ p, nmU b = true) (h : Edge rest) : (p ++ rest).takeWhile nmU = p ∧ (p ++ rest).dropWhile nmU = rest := by
  rw [List.takeWhile_append_of_pos hn, List.dropWhile_append_of_pos hn, h.tw.1, h.tw.2, List.append_nil]
  exact ⟨rfl, rfl⟩
theorem rd_name {has : List UInt8 → Bool} {p rest : List UInt8} (hp : p ≠ []) (hn : ∀ b ∈ p, nmU b = true) (h : Edge rest) :
    rdS has (p ++ rest) = if p = tBool then ((1, 0), rest) else if p = tInt then ((2, 0), rest) else if p = tReal then ((3, 0), rest) else if plain p = true then fin has p rest else noRd := by
  obtain ⟨x, m, rfl⟩ : ∃ x m, p = x :: m := by cases p with | nil => exact absurd rfl hp | cons x m => exact ⟨x, m, rfl⟩
  have hx := nm_ne (hn x (by simp))
  unfold rdS rdName rdPlain
  rw [hp_no (fun t e => hx.2.1 (List.cons.inj e).1), if_neg (by decide), hp_no (fun t e => hx.2.2.2 (List.cons.inj e).1), if_neg (by decide), (tw_all hn h).1, (tw_all hn h).2]
theorem srt_rd {has : List UInt8 → Bool} {p : List UInt8} {k w : Int} (h : Srt has p k w) {rest : List UInt8} (hr : Edge rest) : rdS has (p ++ rest) = ((k, w), rest) := by
  cases h with
  | bool => rw [rd_name (by decide) (by decide) hr, if_pos rfl]
  | int => rw [rd_name (by decide) (by decide) hr, if_neg (by decide), if_pos rfl]
  | real => rw [rd_name (by decide) (by decide) hr, if_neg (by decide), if_neg (by decide), if_pos rfl]
  | bits m _ h =>
    have hm := dig41 (dec_ok h).2.2.2.1
    have e : pfxB ++ (m ++ [41]) ++ rest = pfxB ++ (m ++ 41 :: rest) := by simp
    rw [e]
    unfold rdS
    rw [if_pos (hp_iff.2 ⟨_, rfl⟩)]
    unfold rdBits
    have hd : (pfxB ++ (m ++ 41 :: rest)).drop 10 = m ++ 41 :: rest := rfl
    rw [hd, cut_at m rest (fun b hb => (hm b hb).1)]
    simp only
    rw [if_pos trivial, h]
  | bar m h1 h2 h3 =>
    have e : (124 :: (m ++ [124])) ++ rest = 124 :: (m ++ 124 :: rest) := by simp
    rw [e]
    unfold rdS rdName rdBar
    have hd : (124 :: (m ++ 124 :: rest)).drop 1 = m ++ 124 :: rest := rfl
    rw [hp_no (fun t e => by have := congrArg List.head? e; simp [pfxB] at this), if_neg (by decide), if_pos (show Lib.hasPrefix (124 :: (m ++ 124 :: rest)) [124] = true from hp_iff.2 ⟨m ++ 124 :: rest, rfl⟩), hd, byte_at rest m (sym_in h1), if_neg (by omega), Int.toNat_natCast, List.take_left, h2, if_neg (by decide)]
    have hd2 : (m ++ 124 :: rest).drop (m.length + 1) = rest := by
      rw [show m ++ 124 :: rest = (m ++ [124]) ++ rest by simp, show m.length + 1 = (m ++ [124]).length by simp, List.drop_left]
    rw [hd2]
    unfold fin
    rw [h1, h3]; rfl
  | name _ n1 n2 n3 h2 h1 h3 =>
    rw [rd_name (plain_nm h2).1 (plain_nm h2).2 hr, if_neg n1, if_neg n2, if_neg n3, if_pos h2]
    unfold fin
    rw [h1, h3]; rfl
theorem no0 {k w : Int} {rest : List UInt8} (hk : k ≠ 0) : noRd ≠ ((k, w), rest) := fun e => hk (by have := congrArg (fun x : Rd => x.1.1) e; exact this.symm)
theorem rd_srt {has : List UInt8 → Bool} {l rest : List UInt8} {k w : Int} (h : rdS has l = ((k, w), rest)) (hk : k ≠ 0) : ∃ p, l = p ++ rest ∧ Srt has p k w := by
  have hfin : ∀ s r : List UInt8, fin has s r = ((k, w), rest) → isSym s = true ∧ has s = true ∧ k = 5 ∧ w = 0 ∧ r = rest := fun s r e => by
    unfold fin at e
    split at e
    · rename_i hc
      rw [Bool.and_eq_true] at hc
      obtain ⟨e1, e2⟩ := Prod.mk.inj e
      obtain ⟨e3, e4⟩ := Prod.mk.inj e1
      exact ⟨hc.1, hc.2, e3.symm, e4.symm, e2⟩
    · exact absurd e (no0 hk)
  unfold rdS at h
  split at h
  · rename_i hp
    obtain ⟨t, rfl⟩ := hp_iff.1 hp
    unfold rdBits at h
    have hd : (pfxB ++ t).drop 10 = t := rfl
    rw [hd] at h
    simp only at h
    split at h
    · rename_i hc
      split at h
      · rename_i v hv
        obtain ⟨e1, e2⟩ := Prod.mk.inj h
        obtain ⟨e3, e4⟩ := Prod.mk.inj e1
        subst e3 e4
        exact ⟨_, by conv => lhs; rw [cut_split hc]
                     rw [e2]; simp, .bits _ _ hv⟩
      · exact absurd h (no0 hk)
    · exact absurd h (no0 hk)
  · unfold rdName at h
    split at h
    · rename_i hp
      obtain ⟨u, rfl⟩ := hp_iff.1 hp
      have hd : ([124] ++ u : List UInt8).drop 1 = u := rfl
      rw [hd] at h
      unfold rdBar at h
      split at h
      · exact absurd h (no0 hk)
      rename_i hi
      split at h
      · exact absurd h (no0 hk)
      rename_i hq
      obtain ⟨h1, h2, rfl, rfl, h3⟩ := hfin _ _ h
      refine ⟨_, ?_, .bar (u.take (Lib.indexByte u 124).toNat) h1 (by simpa using hq) h2⟩
      rw [← h3]
      have := byte_split hi
      conv => lhs; rw [this]
      simp
    · unfold rdPlain at h
      have ht := List.takeWhile_append_dropWhile (p := nmU) (l := l)
      split at h
      · rename_i e; rw [e] at ht
        obtain ⟨e1, e2⟩ := Prod.mk.inj h
        obtain ⟨e3, e4⟩ := Prod.mk.inj e1
        subst e3 e4 e2
        exact ⟨_, ht.symm, .bool⟩
      rename_i n1
      split at h
      · rename_i e; rw [e] at ht
        obtain ⟨e1, e2⟩ := Prod.mk.inj h
        obtain ⟨e3, e4⟩ := Prod.mk.inj e1
        subst e3 e4 e2
        exact ⟨_, ht.symm, .int⟩
      rename_i n2
      split at h
      · rename_i e; rw [e] at ht
        obtain ⟨e1, e2⟩ := Prod.mk.inj h
        obtain ⟨e3, e4⟩ := Prod.mk.inj e1
        subst e3 e4 e2
        exact ⟨_, ht.symm, .real⟩
      rename_i n3
      split at h
      · rename_i hp
        obtain ⟨h1, h2, rfl, rfl, h3⟩ := hfin _ _ h
        exact ⟨_, by rw [← h3]; exact ht.symm, .name _ n1 n2 n3 hp h1 h2⟩
      · exact absurd h (no0 hk)
theorem rd_zero {has : List UInt8 → Bool} {l : List UInt8} (h : (rdS has l).1.1 = 0) : rdS has l = noRd := by
  have hfin : ∀ s r : List UInt8, (fin has s r).1.1 = 0 → fin has s r = noRd := fun s r e => by
    unfold fin at e ⊢
    split
    · rename_i hc; rw [if_pos hc] at e; exact absurd e (by show (5 : Int) ≠ 0; decide)
    · rfl
  unfold rdS at h ⊢
  split
  · rename_i hp
    rw [if_pos hp] at h
    unfold rdBits at h ⊢
    simp only at h ⊢
    split
    · rename_i hc
      rw [if_pos hc] at h
      split
      · rename_i v hv; rw [hv] at h; exact absurd h (by show (4 : Int) ≠ 0; decide)
      · rfl
    · rfl
  · rename_i hp
    rw [if_neg hp] at h
    unfold rdName at h ⊢
    split
    · rename_i hq
      rw [if_pos hq] at h
      unfold rdBar at h ⊢
      split
      · rfl
      rename_i h1
      rw [if_neg h1] at h
      split
      · rfl
      rename_i h2
      rw [if_neg h2] at h
      exact hfin _ _ h
    · rename_i hq
      rw [if_neg hq] at h
      unfold rdPlain at h ⊢
      split
      · rename_i e; rw [if_pos e] at h; exact absurd h (by show (1 : Int) ≠ 0; decide)
      rename_i n1
      rw [if_neg n1] at h
      split
      · rename_i e; rw [if_pos e] at h; exact absurd h (by show (2 : Int) ≠ 0; decide)
      rename_i n2
      rw [if_neg n2] at h
      split
      · rename_i e; rw [if_pos e] at h; exact absurd h (by show (3 : Int) ≠ 0; decide)
      rename_i n3
      rw [if_neg n3] at h
      split
      · rename_i hp; rw [if_pos hp] at h; exact hfin _ _ h
      · rfl
theorem simple_zero {has : List UInt8 → Bool} {p : List UInt8} (h : (simpleL has p).1 = 0) : simpleL has p = (0, 0) := by
  unfold simpleL at h ⊢
  split
  · rename_i e; rw [if_pos e] at h; exact absurd h (by decide)
  rename_i n1
  rw [if_neg n1] at h
  split
  · rename_i e; rw [if_pos e] at h; exact absurd h (by decide)
  rename_i n2
  rw [if_neg n2] at h
  split
  · rename_i e; rw [if_pos e] at h; exact absurd h (by decide)
  rename_i n3
  rw [if_neg n3] at h
  split
  · rename_i hb
    rw [if_pos hb] at h
    split
    · rename_i hd; rw [if_pos hd] at h; exact absurd h (by show (4 : Int) ≠ 0; decide)
    · rfl
  · rename_i hb
    rw [if_neg hb] at h
    revert h
    generalize (if 2 ≤ p.length ∧ p[0]? = some 124 ∧ p[p.length - 1]? = some 124 then (p.drop 1).take (p.length - 1 - 1) else p) = nm
    intro h
    split
    · rename_i hs; rw [if_pos hs] at h; exact absurd h (by show (5 : Int) ≠ 0; decide)
    · rfl
/-- a whole text that is no array's -/
theorem whole (has : List UInt8 → Bool) (l : List UInt8) : (if (rdS has l).2 = [] then (rdS has l).1 else (0, 0)) = simpleL has l := by
  by_cases hk : (simpleL has l).1 = 0
  · rw [simple_zero hk]
    split
    · rename_i hr
      by_cases h0 : (rdS has l).1.1 = 0
      · rw [rd_zero h0]; rfl
      · obtain ⟨p, e, hs⟩ := rd_srt (has := has) (l := l) (k := (rdS has l).1.1) (w := (rdS has l).1.2) (rest := (rdS has l).2) rfl h0
        rw [hr, List.append_nil] at e
        subst e
        rw [srt_simple hs] at hk
        exact absurd hk h0
    · rfl
  · have hs := simple_srt (has := has) (p := l) (k := (simpleL has l).1) (w := (simpleL has l).2) rfl hk
    have := srt_rd hs (rest := []) (.inl rfl)
    rw [List.append_nil] at this
    rw [this, if_pos rfl]
end Go.Proofs.YthfjiaodhladmaaDoor.Srt

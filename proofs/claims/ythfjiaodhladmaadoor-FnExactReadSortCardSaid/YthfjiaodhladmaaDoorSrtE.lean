/- Plain law on sort texts: the reference's reader and the program's read the same, arrays and the whole. -/
import Derived.Test.YthfjiaodhladmaaDoorSrtD
namespace Go.Proofs.YthfjiaodhladmaaDoor.Srt
open Go.Proofs.YthfjiaodhladmaaDoor.By Go.Proofs.YthfjiaodhladmaaDoor.RS Go.Proofs.YthfjiaodhladmaaDoor.Num Go.Proofs.YthfjiaodhladmaaDoor.Dig
set_option linter.unusedVariables false
set_option linter.unusedSimpArgs false
abbrev Sr := Int × Int × List UInt8 × List UInt8
def zS : Sr := (0, 0, [], [])
/-- behind '(Array ', by the reference -/
def spArr (has : List UInt8 → Bool) (i : List UInt8) : Sr :=
  match partL i with
  | none => zS
  | some a =>
    if i[a]? = some 32 then
      (match partL (i.drop (a + 1)) with
       | none => zS
       | some b =>
         if a + 1 + b + 1 = i.length then
           (if (badK (simpleL has (i.take a)).1 || badK (simpleL has ((i.drop (a + 1)).take b)).1) = true then zS else (6, 0, i.take a, (i.drop (a + 1)).take b))
         else zS)
    else zS
/-- spec.ReadSort -/
def spS (has : List UInt8 → Bool) (l : List UInt8) : Sr :=
  if 8 < l.length ∧ l.take 7 = pfxA ∧ l[l.length - 1]? = some 41 then spArr has (l.drop 7) else ((simpleL has l).1, (simpleL has l).2, [], [])
/-- two sorts that an array may have -/
def Two (has : List UInt8 → Bool) (i q1 q2 : List UInt8) : Prop := ∃ k1 w1 k2 w2, i = q1 ++ 32 :: (q2 ++ [41]) ∧ Srt has q1 k1 w1 ∧ Srt has q2 k2 w2 ∧ k1 ≠ 1 ∧ k2 ≠ 1
theorem badK_no {k : Int} : badK k = false ↔ k ≠ 0 ∧ k ≠ 1 := by unfold badK; simp
theorem two_sp {has : List UInt8 → Bool} {i q1 q2 : List UInt8} (h : Two has i q1 q2) : spArr has i = (6, 0, q1, q2) := by
  obtain ⟨k1, w1, k2, w2, rfl, h1, h2, n1, n2⟩ := h
  unfold spArr
  have hd : (q1 ++ 32 :: (q2 ++ [41])).drop (q1.length + 1) = q2 ++ [41] := by
    rw [show q1 ++ 32 :: (q2 ++ [41]) = (q1 ++ [32]) ++ (q2 ++ [41]) by simp, show q1.length + 1 = (q1 ++ [32]).length by simp, List.drop_left]
  rw [h1.part (.inl rfl)]
  simp only
  rw [if_pos (by simp), hd, h2.part (.inr rfl)]
  simp only
  rw [if_pos (by simp; omega), List.take_left, List.take_left, srt_simple h1, srt_simple h2, badK_no.2 ⟨h1.ne0, n1⟩, badK_no.2 ⟨h2.ne0, n2⟩]
  rfl
theorem two_rd {has : List UInt8 → Bool} {i q1 q2 : List UInt8} (h : Two has i q1 q2) : rdArr has i = ((6, 0, q1, q2), []) := by
  obtain ⟨k1, w1, k2, w2, rfl, h1, h2, n1, n2⟩ := h
  have e1 := srt_rd h1 (rest := 32 :: (q2 ++ [41])) (.inr ⟨32, _, rfl, by decide⟩)
  have e2 := srt_rd h2 (rest := [41]) (.inr ⟨41, _, rfl, by decide⟩)
  have hd : (32 :: (q2 ++ [41])).drop 1 = q2 ++ [41] := rfl
  have hl1 : (q1 ++ 32 :: (q2 ++ [41])).length - (32 :: (q2 ++ [41])).length = q1.length := by simp
  have hl2 : (q2 ++ [41]).length - ([41] : List UInt8).length = q2.length := by simp
  unfold rdArr
  rw [e1]
  simp only
  rw [hd, e2]
  simp only
  rw [hl1, hl2, List.take_left, List.take_left, badK_no.2 ⟨h1.ne0, n1⟩, badK_no.2 ⟨h2.ne0, n2⟩]
  rfl
theorem sp_two {has : List UInt8 → Bool} {i : List UInt8} (hl : i[i.length - 1]? = some 41) (h : spArr has i ≠ zS) : ∃ q1 q2, Two has i q1 q2 := by
  unfold spArr at h
  split at h
  · exact absurd rfl h
  rename_i a ha
  split at h
  rotate_left
  · exact absurd rfl h
  rename_i h32
  split at h
  · exact absurd rfl h
  rename_i b hb
  split at h
  rotate_left
  · exact absurd rfl h
  rename_i hlen
  split at h
  · exact absurd rfl h
  rename_i hk
  have hk2 : badK (simpleL has (i.take a)).1 = false ∧ badK (simpleL has ((i.drop (a + 1)).take b)).1 = false := by
    cases h1 : badK (simpleL has (i.take a)).1 with
    | true => rw [h1, Bool.true_or] at hk; exact absurd rfl hk
    | false => rw [h1, Bool.false_or] at hk; exact ⟨rfl, by simpa using hk⟩
  obtain ⟨g1, g2⟩ := hk2
  have g1' := badK_no.1 g1
  have g2' := badK_no.1 g2
  have hlt : a < i.length := (List.getElem?_eq_some_iff.1 h32).1
  refine ⟨i.take a, (i.drop (a + 1)).take b, _, _, _, _, ?_, simple_srt (has := has) (Prod.eta _).symm g1'.1, simple_srt (has := has) (Prod.eta _).symm g2'.1, g1'.2, g2'.2⟩
  have hd2 : i.drop (a + 1) = (i.drop (a + 1)).take b ++ [41] := by
    have hx : (i.drop (a + 1))[(i.drop (a + 1)).length - 1]? = some 41 := by
      rw [List.getElem?_drop, List.length_drop, show a + 1 + (i.length - (a + 1) - 1) = i.length - 1 by omega]; exact hl
    have := last_split hx
    rwa [List.length_drop, show i.length - (a + 1) - 1 = b by omega] at this
  have hd1 : i.drop a = 32 :: i.drop (a + 1) := by
    rw [List.drop_eq_getElem_cons hlt]
    rw [List.getElem?_eq_getElem hlt] at h32
    rw [Option.some.inj h32]
  rw [← hd2, ← hd1, List.take_append_drop]
theorem hp1 {l : List UInt8} {c : UInt8} (h : Lib.hasPrefix l [c] = true) : l = c :: l.drop 1 := by
  obtain ⟨t, rfl⟩ := hp_iff.1 h; rfl
theorem rd_two {has : List UInt8 → Bool} {i : List UInt8} (h : (rdArr has i).2 = []) : ∃ q1 q2, Two has i q1 q2 := by
  have nz : ¬ noRdT.2 = [] := by decide
  unfold rdArr at h
  split at h
  · exact absurd h nz
  rename_i h1
  split at h
  · exact absurd h nz
  rename_i h2
  simp only [Bool.or_eq_true, Bool.not_eq_true', not_or, Bool.not_eq_true, Bool.not_eq_false] at h1 h2
  have g1 := badK_no.1 h1.1
  have g2 := badK_no.1 h2.1
  have e1 := hp1 h1.2
  have e2 := hp1 h2.2
  have e3 : (rdS has ((rdS has i).2.drop 1)).2.drop 1 = [] := h
  rw [e3] at e2
  obtain ⟨q1, hq1, s1⟩ := rd_srt (has := has) (l := i) (k := (rdS has i).1.1) (w := (rdS has i).1.2) (rest := (rdS has i).2) rfl g1.1
  obtain ⟨q2, hq2, s2⟩ := rd_srt (has := has) (l := (rdS has i).2.drop 1) (k := (rdS has ((rdS has i).2.drop 1)).1.1) (w := (rdS has ((rdS has i).2.drop 1)).1.2) (rest := (rdS has ((rdS has i).2.drop 1)).2) rfl g2.1
  exact ⟨q1, q2, _, _, _, _, by rw [e2] at hq2; rw [← hq2, ← e1]; exact hq1, s1, s2, g1.2, g2.2⟩
theorem arr_head {has : List UInt8 → Bool} {l : List UInt8} (h : ∃ t, l = pfxA ++ t) : (simpleL has l).1 = 0 := by
  obtain ⟨t, rfl⟩ := h
  refine Decidable.byContradiction fun hk => ?_
  have hs := simple_srt (has := has) (Prod.eta (simpleL has (pfxA ++ t))).symm hk
  generalize (simpleL has (pfxA ++ t)).1 = k at hs
  generalize (simpleL has (pfxA ++ t)).2 = w at hs
  generalize hg : pfxA ++ t = l at hs
  cases hs with
  | bool => exact absurd (congrArg List.head? hg) (by simp [pfxA, tBool])
  | int => exact absurd (congrArg List.head? hg) (by simp [pfxA, tInt])
  | real => exact absurd (congrArg List.head? hg) (by simp [pfxA, tReal])
  | bits m _ h => exact absurd (congrArg (fun l => l[1]?) hg) (by simp [pfxA, pfxB])
  | bar m h1 h2 h3 => exact absurd (congrArg List.head? hg) (by simp [pfxA])
  | name _ n1 n2 n3 h2 h1 h3 => exact absurd ((plain_nm h2).2 40 (by rw [← hg]; simp [pfxA])) (by decide)
theorem spS_eq (has : List UInt8 → Bool) (l : List UInt8) : spS has l = rdSort has l := by
  by_cases hA : ∃ t, l = pfxA ++ t
  · obtain ⟨i, rfl⟩ := hA
    have hd : (pfxA ++ i).drop 7 = i := rfl
    have hT : rdT has (pfxA ++ i) = rdArr has i := by
      unfold rdT
      rw [hp_no (fun t e => absurd (congrArg (fun l => l[1]?) e) (by simp [pfxA, pfxB])), if_neg (by decide), if_pos (hp_iff.2 ⟨i, rfl⟩), hd]
    have hrd : rdSort has (pfxA ++ i) = if (rdArr has i).2 = [] then (rdArr has i).1 else zS := by unfold rdSort; rw [hT]; rfl
    rw [hrd]
    by_cases h2 : ∃ q1 q2, Two has i q1 q2
    · obtain ⟨q1, q2, h2⟩ := h2
      rw [two_rd h2, if_pos rfl]
      have hi : i = q1 ++ 32 :: (q2 ++ [41]) := by obtain ⟨_, _, _, _, e, _⟩ := h2; exact e
      have hlast : (pfxA ++ i)[(pfxA ++ i).length - 1]? = some 41 := by
        rw [show pfxA ++ i = (pfxA ++ q1 ++ 32 :: q2) ++ [41] by rw [hi]; simp]
        rw [List.length_append]
        exact List.getElem?_concat_length ..
      unfold spS
      rw [if_pos ⟨by rw [hi]; simp [pfxA]; omega, rfl, hlast⟩, hd, two_sp h2]
    · rw [if_neg (fun h => h2 (rd_two h))]
      unfold spS
      split
      · rename_i hc
        rw [hd]
        refine Decidable.byContradiction fun hne => h2 (sp_two ?_ hne)
        have hlen : (pfxA ++ i).length = i.length + 7 := by simp [pfxA]
        have hl := hc.2.2
        rw [hlen, show i.length + 7 - 1 = pfxA.length + (i.length - 1) by simp [pfxA]; omega, List.getElem?_append_right (by omega)] at hl
        simpa using hl
      · have h0 := arr_head (has := has) (l := pfxA ++ i) ⟨i, rfl⟩
        rw [simple_zero h0]; rfl
  · have hA2 : Lib.hasPrefix l pfxA = false := hp_no (fun t e => hA ⟨t, e⟩)
    have h1 : spS has l = ((simpleL has l).1, (simpleL has l).2, [], []) := by
      unfold spS
      rw [if_neg (fun h => hA ⟨l.drop 7, by rw [← h.2.1, List.take_append_drop]⟩)]
    have h2 : rdT has l = lift (rdS has l) := by
      unfold rdT rdS
      split
      · rfl
      · rw [hA2, if_neg (by decide)]
    rw [h1, ← whole has l]
    unfold rdSort
    rw [h2]
    show _ = (if (rdS has l).2 = [] then ((rdS has l).1.1, (rdS has l).1.2, [], []) else (0, 0, [], []))
    split <;> rfl
end Go.Proofs.YthfjiaodhladmaaDoor.Srt

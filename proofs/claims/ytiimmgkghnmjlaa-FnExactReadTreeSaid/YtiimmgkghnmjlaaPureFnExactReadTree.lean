import Derived.Test.YtiimmgkghnmjlaaPFnExactReadTreex6
namespace Go.Proofs.Ytiimmgkghnmjlaa.Pure
open Go.RowKit Go.Proofs.Ytiimmgkghnmjlaa.PFnExactReadTree Go.Proofs.YtiimmgkghnmjlaaW.PrintWords Go.Proofs.YtiimmgkghnmjlaaW.PrintLast Go.Proofs.Ytiimmgkghnmjlaa Go.Proofs.Ytiimmgkghnmjlaa.Tok Go.Proofs.Ytiimmgkghnmjlaa.By
set_option linter.unusedVariables false
set_option linter.unusedSimpArgs false
set_option maxRecDepth 100000

/-! ### a token goes forward -/
theorem txt_gt : ∀ (l acc : List UInt8) (k : Nat) (o : List UInt8) (e : Nat), txt l acc k = some (o, e) → k < e
  | [], _, _, _, _, h => by simp [txt] at h
  | [c], acc, k, o, e, h => by
    simp only [txt] at h
    split at h
    · cases h; omega
    · cases h
  | c :: d :: t, acc, k, o, e, h => by
    simp only [txt] at h
    split at h
    · split at h
      · have := txt_gt t _ _ _ _ h; omega
      · cases h; omega
    · split at h
      · have := txt_gt (d :: t) _ _ _ _ h; omega
      · cases h
theorem tok_fwd (s : ByteArray) (i : Nat) (h : (Tok.tok s i).1 ≠ 0) : (i : Int) < (Tok.tok s i).2.2 := by
  have q : ∀ R, Tok.tok s i = R → R.1 ≠ 0 → (i : Int) < R.2.2 := by
    intro R hR h
    unfold Tok.tok at hR
    split at hR
    · subst hR; exact absurd rfl h
    · split at hR
      · unfold Tok.quoted at hR
        split at hR
        · rename_i o k hk; have := txt_gt _ _ _ _ _ hk; subst hR; show (i : Int) < (k : Int); omega
        · subst hR; exact absurd rfl h
      split at hR
      · unfold barred at hR; simp only at hR
        split at hR
        · subst hR; show (i : Int) < ((_ + 1 : Nat) : Int); omega
        · subst hR; exact absurd rfl h
      split at hR
      · unfold keyed at hR; simp only at hR
        split at hR
        · subst hR; exact absurd rfl h
        · subst hR; show (i : Int) < ((i + 1 + _ : Nat) : Int); omega
      split at hR
      · unfold Tok.bits at hR; simp only at hR
        split at hR
        · split at hR
          · subst hR; exact absurd rfl h
          · subst hR; show (i : Int) < ((i + 2 + _ : Nat) : Int); omega
        · split at hR
          · split at hR
            · subst hR; exact absurd rfl h
            · subst hR; show (i : Int) < ((i + 2 + _ : Nat) : Int); omega
          · subst hR; exact absurd rfl h
      split at hR
      · unfold numeral at hR; simp only at hR
        split at hR
        · subst hR; exact absurd rfl h
        · split at hR
          · subst hR; show (i : Int) < ((i + 1 + _ + 1 + _ : Nat) : Int); omega
          · subst hR; show (i : Int) < ((i + 1 + _ : Nat) : Int); omega
      split at hR
      · unfold named at hR; simp only at hR
        subst hR; show (i : Int) < ((i + 1 + _ : Nat) : Int); omega
      · subst hR; exact absurd rfl h
  exact q _ rfl h

/-! ### the two readers go the same way -/
def blk (c : Int) : Bool := decide (c = 32 ∨ c = 9 ∨ c = 10 ∨ c = 13)
theorem blank_eq (c : Int) : spec_l3Blank.f c = some (blk c) := by
  unfold spec_l3Blank.f blk
  by_cases h1 : c = 32
  · simp [h1]
  by_cases h2 : c = 9
  · simp [h2]
  by_cases h3 : c = 10
  · simp [h3]
  rw [if_neg h1, if_neg h2, if_neg h3]
  by_cases h4 : c = 13
  · simp [h4]
  · simp [h1, h2, h3, h4]
theorem impl_in {k : Nat} {a : ByteArray} {x3 : List S35} {x4 : List Int} {x5 : Int} (h0 : 0 ≤ x5) (h : x5 < (a.size : Int)) : impl_ReadTree.l0 (k + 1) a x3 x4 x5 = impl_ReadTree.j1 k a x3 x4 x5 (bt a x5) (blk (bt a x5)) := by
  rw [impl_ReadTree.l0, if_pos h, if_pos h0]
  generalize bt a x5 = c
  unfold blk
  by_cases h1 : c = 32
  · simp [h1]
  by_cases h2 : c = 9
  · simp [h2]
  by_cases h3 : c = 10
  · simp [h3]
  rw [if_neg h1, if_neg h2, if_neg h3]
  have e : (c == 13) = decide (c = 32 ∨ c = 9 ∨ c = 10 ∨ c = 13) := by
    by_cases h4 : c = 13
    · simp [h4]
    · simp [h1, h2, h3, h4]
  rw [e]
def Inv (x3 : List S35) (x4 : List Int) : Prop := x3.length ≤ 8000 ∧ x4.length ≤ 200 ∧ ∀ e ∈ x4, 0 ≤ e ∧ e < (x3.length : Int)
def Good (a : ByteArray) (x3 : List S35) (x4 : List Int) (x5 : Int) : Prop :=
  ∃ R : Int × Int × List S35, (∃ k, spec_ReadTree.l0 k a x3 x4 x5 = some R) ∧ (∃ k, impl_ReadTree.l0 k a x3 x4 x5 = some R) ∧ R.2.2.length ≤ 8000
theorem rd_mem {xs : List Int} {i : Int} (h0 : 0 ≤ i) (h : i < (xs.length : Int)) : rd xs i ∈ xs := by
  unfold rd
  rw [List.getD_eq_getElem?_getD, List.getElem?_eq_getElem (show i.toNat < xs.length by omega), Option.getD_some]
  exact List.getElem_mem _
theorem w64 {n : Int} (h0 : -9223372036854775808 ≤ n) (h : n ≤ 9223372036854775807) : wrap64 n = n := by unfold wrap64; omega
/-- the text is read -/
theorem out {a : ByteArray} {x3 : List S35} {x4 : List Int} {x5 : Int} (h : ¬ x5 < (a.size : Int)) (hi : Inv x3 x4) : Good a x3 x4 x5 := by
  obtain ⟨i1, i2, i3⟩ := hi
  by_cases hp : (x4.length : Int) > 0
  · have e : wrap64 ((x4.length : Int) - 1) = (x4.length : Int) - 1 := w64 (by omega) (by omega)
    obtain ⟨g0, g1⟩ := i3 _ (rd_mem (i := (x4.length : Int) - 1) (by omega) (by omega))
    refine ⟨(3, (rd_T35 x3 (rd x4 ((x4.length : Int) - 1))).f3, []), ⟨1, ?_⟩, ⟨1, ?_⟩, by simp⟩
    · rw [spec_ReadTree.l0, if_neg h, if_pos hp, e, if_pos (by omega), if_pos (by omega), if_pos g0, if_pos g1]
    · rw [impl_ReadTree.l0, if_neg h, if_pos hp, e, if_pos (by omega), if_pos (by omega), if_pos g0, if_pos g1]
  · refine ⟨(0, 0, x3), ⟨1, ?_⟩, ⟨1, ?_⟩, i1⟩
    · rw [spec_ReadTree.l0, if_neg h, if_neg hp]
    · rw [impl_ReadTree.l0, if_neg h, if_neg hp]
/-- the node above counts one more -/
def bump (x3 : List S35) (x4 : List Int) : List S35 :=
  let e := rd x4 ((x4.length : Int) - 1)
  if (x4.length : Int) > 0 then x3.set e.toNat ⟨(rd_T35 x3 e).f0, (rd_T35 x3 e).f1, wrap64 ((rd_T35 x3 e).f2 + 1), (rd_T35 x3 e).f3⟩ else x3
theorem bump_len (x3 : List S35) (x4 : List Int) : (bump x3 x4).length = x3.length := by unfold bump; simp only; split <;> simp
def opened (c : Int) (x3 : List S35) (x4 : List Int) : List Int := if c = 40 then x4 ++ [(x3.length : Int)] else x4
theorem inv_push {x3 : List S35} {x4 : List Int} {c : Int} {nd : S35} (hi : Inv x3 x4) (h8 : x3.length ≠ 8000) (h2 : ¬ (c = 40 ∧ x4.length = 200)) : Inv (bump x3 x4 ++ [nd]) (opened c x3 x4) := by
  obtain ⟨i1, i2, i3⟩ := hi
  refine ⟨by rw [List.length_append, bump_len]; simp; omega, ?_, ?_⟩
  · unfold opened; split
    · rename_i hc; rw [List.length_append]; simp; omega
    · exact i2
  · intro e he
    have el : ((bump x3 x4 ++ [nd]).length : Int) = (x3.length : Int) + 1 := by rw [List.length_append, bump_len]; simp
    rw [el]
    unfold opened at he; split at he
    · rcases List.mem_append.1 he with h | h
      · have := i3 e h; omega
      · have : e = (x3.length : Int) := by simpa using h
        omega
    · have := i3 e he; omega
theorem spec_push (k : Nat) (a : ByteArray) (x3 : List S35) (x4 : List Int) (x5 c t : Int) (s : ByteArray) (nx : Int) (hi : Inv x3 x4) :
    spec_ReadTree.j2 (k + 2) a x3 x4 x5 c t s nx = if x3.length = 8000 then some (5, x5, []) else if c = 40 ∧ x4.length = 200 then some (6, x5, []) else spec_ReadTree.l0 k a (bump x3 x4 ++ [⟨t, s, 0, x5⟩]) (opened c x3 x4) nx := by
  obtain ⟨i1, i2, i3⟩ := hi
  have j3e : ∀ b, (b = false) → spec_ReadTree.j3 (k + 1) a x3 x4 x5 c b t s nx = spec_ReadTree.l0 k a (bump x3 x4 ++ [⟨t, s, 0, x5⟩]) (opened c x3 x4) nx := by
    intro b hb
    rw [spec_ReadTree.j3, hb, if_neg (by decide)]
    unfold bump opened
    have e1 : ∀ z : List S35, z.length = x3.length → wrap64 (((z ++ [(⟨t, s, 0, x5⟩ : S35)]).length : Int) - 1) = (x3.length : Int) := by
      intro z hz; rw [List.length_append, hz]; simp; exact w64 (by omega) (by omega)
    by_cases hp : (x4.length : Int) > 0
    · have e : wrap64 ((x4.length : Int) - 1) = (x4.length : Int) - 1 := w64 (by omega) (by omega)
      obtain ⟨g0, g1⟩ := i3 _ (rd_mem (i := (x4.length : Int) - 1) (by omega) (by omega))
      rw [if_pos hp, e, if_pos (by omega), if_pos (by omega), if_pos g0, if_pos g1]
      simp only [Option.bind_some, if_pos hp, List.length_set]
      rw [if_pos (by omega)]
      by_cases h4 : c = 40
      · rw [if_pos h4, if_pos (by omega), if_pos h4, e1 _ (by simp)]
      · rw [if_neg h4, if_neg h4]
    · rw [if_neg hp, if_pos (by omega)]
      simp only [Option.bind_some, if_neg hp]
      by_cases h4 : c = 40
      · rw [if_pos h4, if_pos (by omega), if_pos h4, e1 _ rfl]
      · rw [if_neg h4, if_neg h4]
  rw [spec_ReadTree.j2]
  by_cases h8 : x3.length = 8000
  · rw [if_pos (by omega), if_pos h8]
  rw [if_neg (by omega), if_neg h8]
  by_cases h4 : c = 40
  · rw [if_pos h4]
    by_cases h2 : x4.length = 200
    · rw [if_pos ⟨h4, h2⟩, spec_ReadTree.j3, if_pos (by rw [beq_iff_eq]; omega)]
    · rw [if_neg (fun e => h2 e.2)]; exact j3e _ (by rw [beq_eq_false_iff_ne]; omega)
  · rw [if_neg h4, if_neg (fun e => h4 e.1)]; exact j3e _ rfl
theorem impl_push (k : Nat) (a : ByteArray) (x3 : List S35) (x4 : List Int) (x5 c t : Int) (s : ByteArray) (nx : Int) (hi : Inv x3 x4) :
    impl_ReadTree.j3 (k + 2) a x3 x4 x5 c nx t s 0 x5 = if x3.length = 8000 then some (5, x5, []) else if c = 40 ∧ x4.length = 200 then some (6, x5, []) else impl_ReadTree.l0 k a (bump x3 x4 ++ [⟨t, s, 0, x5⟩]) (opened c x3 x4) nx := by
  obtain ⟨i1, i2, i3⟩ := hi
  have j3e : ∀ b, (b = false) → impl_ReadTree.j4 (k + 1) a x3 x4 x5 c nx b t s 0 x5 = impl_ReadTree.l0 k a (bump x3 x4 ++ [⟨t, s, 0, x5⟩]) (opened c x3 x4) nx := by
    intro b hb
    rw [impl_ReadTree.j4, hb, if_neg (by decide)]
    unfold bump opened
    by_cases hp : (x4.length : Int) > 0
    · have e : wrap64 ((x4.length : Int) - 1) = (x4.length : Int) - 1 := w64 (by omega) (by omega)
      obtain ⟨g0, g1⟩ := i3 _ (rd_mem (i := (x4.length : Int) - 1) (by omega) (by omega))
      rw [if_pos hp, e, if_pos (by omega), if_pos (by omega), if_pos g0, if_pos g1]
      simp only [Option.bind_some, if_pos hp, List.length_set]
      by_cases h4 : c = 40
      · rw [if_pos h4, if_pos (by omega), if_pos (by omega), if_pos h4]
      · rw [if_neg h4, if_pos (by omega), if_neg h4]
    · rw [if_neg hp]
      simp only [if_neg hp]
      by_cases h4 : c = 40
      · rw [if_pos h4, if_pos (by omega), if_pos (by omega), if_pos h4]
      · rw [if_neg h4, if_pos (by omega), if_neg h4]
  rw [impl_ReadTree.j3]
  by_cases h8 : x3.length = 8000
  · rw [if_pos (by omega), if_pos h8]
  rw [if_neg (by omega), if_neg h8]
  by_cases h4 : c = 40
  · rw [if_pos h4]
    by_cases h2 : x4.length = 200
    · rw [if_pos ⟨h4, h2⟩, impl_ReadTree.j4, if_pos (by rw [decide_eq_true_eq]; omega)]
    · rw [if_neg (fun e => h2 e.2)]; exact j3e _ (by rw [decide_eq_false_iff_not]; omega)
  · rw [if_neg h4, if_neg (fun e => h4 e.1)]; exact j3e _ rfl
/-- a comment's end -/
theorem comment (a : ByteArray) (ha : a.size ≤ 20000) (x3 : List S35) (x4 : List Int) : ∀ (n : Nat) (x5 : Int), 0 ≤ x5 → (a.size : Int) - x5 ≤ n → ∃ y, x5 ≤ y ∧ (bt a y = 10 ∨ ¬ y < (a.size : Int)) ∧
    (∀ k R, spec_ReadTree.l0 k a x3 x4 y = some R → ∃ k', spec_ReadTree.l1 k' a x3 x4 x5 = some R) ∧ (∀ k R, impl_ReadTree.l0 k a x3 x4 y = some R → ∃ k', impl_ReadTree.l1 k' a x3 x4 x5 = some R)
  | 0, x5, h0, h => ⟨x5, Int.le_refl _, .inr (by omega), fun k R e => ⟨k + 1, by rw [spec_ReadTree.l1, if_neg (by omega)]; exact e⟩, fun k R e => ⟨k + 1, by rw [impl_ReadTree.l1, if_neg (by omega)]; exact e⟩⟩
  | n + 1, x5, h0, h => by
    by_cases hs : x5 < (a.size : Int)
    · by_cases hb : bt a x5 = 10
      · exact ⟨x5, Int.le_refl _, .inl hb, fun k R e => ⟨k + 1, by rw [spec_ReadTree.l1, if_pos hs, if_pos h0, if_pos hb]; exact e⟩, fun k R e => ⟨k + 1, by rw [impl_ReadTree.l1, if_pos hs, if_pos h0, if_pos hb]; exact e⟩⟩
      · obtain ⟨y, y0, y1, y2, y3⟩ := comment a ha x3 x4 n (x5 + 1) (by omega) (by omega)
        have e1 : wrap64 (x5 + 1) = x5 + 1 := w64 (by omega) (by omega)
        refine ⟨y, by omega, y1, fun k R e => ?_, fun k R e => ?_⟩
        · obtain ⟨k', e'⟩ := y2 k R e
          exact ⟨k' + 1, by rw [spec_ReadTree.l1, if_pos hs, if_pos h0, if_neg hb, e1]; exact e'⟩
        · obtain ⟨k', e'⟩ := y3 k R e
          exact ⟨k' + 1, by rw [impl_ReadTree.l1, if_pos hs, if_pos h0, if_neg hb, e1]; exact e'⟩
    · exact ⟨x5, Int.le_refl _, .inr hs, fun k R e => ⟨k + 1, by rw [spec_ReadTree.l1, if_neg hs]; exact e⟩, fun k R e => ⟨k + 1, by rw [impl_ReadTree.l1, if_neg hs]; exact e⟩⟩
theorem good (a : ByteArray) (ha : a.size ≤ 20000) : ∀ (n : Nat) (x3 : List S35) (x4 : List Int) (x5 : Int), 0 ≤ x5 → (a.size : Int) - x5 ≤ n → Inv x3 x4 → Good a x3 x4 x5
  | 0, x3, x4, x5, h0, h, hi => out (by omega) hi
  | n + 1, x3, x4, x5, h0, h, hi => by
    by_cases hn : ¬ x5 < (a.size : Int)
    · exact out hn hi
    have hs : x5 < (a.size : Int) := by omega
    have e1 : wrap64 (x5 + 1) = x5 + 1 := w64 (by omega) (by omega)
    have sp : ∀ k, spec_ReadTree.l0 (k + 1) a x3 x4 x5 = _ := fun k => by rw [spec_ReadTree.l0, if_pos hs, if_pos h0, blank_eq, Option.bind_some, e1]
    by_cases hb : blk (bt a x5) = true
    · obtain ⟨R, ⟨k1, h1⟩, ⟨k2, h2⟩, hl⟩ := good a ha n x3 x4 (x5 + 1) (by omega) (by omega) hi
      exact ⟨R, ⟨k1 + 1, by rw [sp, if_pos hb]; exact h1⟩, ⟨k2 + 2, by rw [impl_in h0 hs, impl_ReadTree.j1, if_pos hb, e1]; exact h2⟩, hl⟩
    have im : ∀ k, impl_ReadTree.l0 (k + 2) a x3 x4 x5 = _ := fun k => by rw [impl_in h0 hs, impl_ReadTree.j1, if_neg hb, e1]
    by_cases h59 : bt a x5 = 59
    · obtain ⟨y, y0, y1, y2, y3⟩ := comment a ha x3 x4 (n + 1) x5 h0 h
      have hy : x5 < y := by
        rcases y1 with g | g
        · have : y ≠ x5 := by intro e; rw [e, h59] at g; exact absurd g (by decide)
          omega
        · omega
      obtain ⟨R, ⟨k1, h1⟩, ⟨k2, h2⟩, hl⟩ := good a ha n x3 x4 y (by omega) (by omega) hi
      obtain ⟨k1', h1'⟩ := y2 _ _ h1
      obtain ⟨k2', h2'⟩ := y3 _ _ h2
      exact ⟨R, ⟨k1' + 1, by rw [sp, if_neg hb, if_pos h59]; exact h1'⟩, ⟨k2' + 2, by rw [im, if_pos h59]; exact h2'⟩, hl⟩
    by_cases h41 : bt a x5 = 41
    · by_cases hz : (x4.length : Int) = 0
      · exact ⟨(4, x5, []), ⟨1, by rw [sp, if_neg hb, if_neg h59, if_pos h41, if_pos hz]⟩, ⟨2, by rw [im, if_neg h59, if_pos h41, if_pos hz]⟩, by simp⟩
      · obtain ⟨i1, i2, i3⟩ := hi
        have e2 : wrap64 ((x4.length : Int) - 1) = (x4.length : Int) - 1 := w64 (by omega) (by omega)
        obtain ⟨R, ⟨k1, h1⟩, ⟨k2, h2⟩, hl⟩ := good a ha n x3 (x4.take ((x4.length : Int) - 1).toNat) (x5 + 1) (by omega) (by omega)
          ⟨i1, by rw [List.length_take]; omega, fun e he => i3 e (List.mem_of_mem_take he)⟩
        exact ⟨R, ⟨k1 + 1, by rw [sp, if_neg hb, if_neg h59, if_pos h41, if_neg hz, e2, if_pos (by omega), if_pos (by omega)]; exact h1⟩,
          ⟨k2 + 2, by rw [im, if_neg h59, if_pos h41, if_neg hz, e2, if_pos (by omega), if_pos (by omega)]; exact h2⟩, hl⟩
    have pushed : ∀ (t : Int) (s : ByteArray) (nx : Int), x5 < nx → ∃ R : Int × Int × List S35, (∃ k, spec_ReadTree.j2 k a x3 x4 x5 (bt a x5) t s nx = some R) ∧ (∃ k, impl_ReadTree.j3 k a x3 x4 x5 (bt a x5) nx t s 0 x5 = some R) ∧ R.2.2.length ≤ 8000 := by
      intro t s nx hnx
      by_cases h8 : x3.length = 8000
      · exact ⟨(5, x5, []), ⟨2, by rw [spec_push 0 _ _ _ _ _ _ _ _ hi, if_pos h8]⟩, ⟨2, by rw [impl_push 0 _ _ _ _ _ _ _ _ hi, if_pos h8]⟩, by simp⟩
      by_cases h2 : bt a x5 = 40 ∧ x4.length = 200
      · exact ⟨(6, x5, []), ⟨2, by rw [spec_push 0 _ _ _ _ _ _ _ _ hi, if_neg h8, if_pos h2]⟩, ⟨2, by rw [impl_push 0 _ _ _ _ _ _ _ _ hi, if_neg h8, if_pos h2]⟩, by simp⟩
      obtain ⟨R, ⟨k1, g1⟩, ⟨k2, g2⟩, hl⟩ := good a ha n (bump x3 x4 ++ [⟨t, s, 0, x5⟩]) (opened (bt a x5) x3 x4) nx (by omega) (by omega) (inv_push hi h8 h2)
      exact ⟨R, ⟨k1 + 2, by rw [spec_push k1 _ _ _ _ _ _ _ _ hi, if_neg h8, if_neg h2]; exact g1⟩, ⟨k2 + 2, by rw [impl_push k2 _ _ _ _ _ _ _ _ hi, if_neg h8, if_neg h2]; exact g2⟩, hl⟩
    by_cases h40 : bt a x5 = 40
    · obtain ⟨R, ⟨k1, g1⟩, ⟨k2, g2⟩, hl⟩ := pushed 1 ⟨#[]⟩ (x5 + 1) (by omega)
      exact ⟨R, ⟨k1 + 1, by rw [sp, if_neg hb, if_neg h59, if_neg h41, if_pos h40]; exact g1⟩, ⟨k2 + 2, by rw [im, if_neg h59, if_neg h41, if_pos h40]; exact g2⟩, hl⟩
    obtain ⟨i, rfl⟩ := Int.eq_ofNat_of_zero_le h0
    have ts : spec_l3Token.f a (i : Int) = some (Tok.tok a i) := by unfold spec_l3Token.f tokF; rw [if_pos ⟨h0, hs, by omega⟩, Int.toNat_natCast]
    have ti : impl_oneToken.f a (i : Int) = some (Tok.tok a i) := by unfold impl_oneToken.f tokF; rw [if_pos ⟨h0, hs, by omega⟩, Int.toNat_natCast]
    by_cases hz : (Tok.tok a i).1 = 0
    · exact ⟨(2, i, []), ⟨1, by rw [sp, if_neg hb, if_neg h59, if_neg h41, if_neg h40, ts, Option.bind_some, if_pos hz]⟩, ⟨2, by rw [im, if_neg h59, if_neg h41, if_neg h40, ti, Option.bind_some, if_pos hz]⟩, by simp⟩
    · obtain ⟨R, ⟨k1, g1⟩, ⟨k2, g2⟩, hl⟩ := pushed (Tok.tok a i).1 (Tok.tok a i).2.1 (Tok.tok a i).2.2 (tok_fwd a i hz)
      exact ⟨R, ⟨k1 + 1, by rw [sp, if_neg hb, if_neg h59, if_neg h41, if_neg h40, ts, Option.bind_some, if_neg hz]; exact g1⟩, ⟨k2 + 2, by rw [im, if_neg h59, if_neg h41, if_neg h40, ti, Option.bind_some, if_neg hz]; exact g2⟩, hl⟩
theorem both (a : ByteArray) : ∃ R : Int × Int × List S35, (∃ k, spec_ReadTree.f k a = some R) ∧ (∃ k, impl_ReadTree.f k a = some R) ∧ R.2.2.length ≤ 8000 := by
  unfold spec_ReadTree.f impl_ReadTree.f
  by_cases h : (a.size : Int) > 20000
  · exact ⟨(1, 0, []), ⟨0, by rw [if_pos h]⟩, ⟨0, by rw [if_pos h]⟩, by simp⟩
  · obtain ⟨R, ⟨k1, g1⟩, ⟨k2, g2⟩, hl⟩ := good a (by omega) a.size [] [] 0 (by omega) (by omega) ⟨by simp, by simp, by simp⟩
    exact ⟨R, ⟨k1, by rw [if_neg h]; exact g1⟩, ⟨k2, by rw [if_neg h]; exact g2⟩, hl⟩

/-! ### the marks -/
theorem up {α : Type} {f : Nat → Option α} (hm : ∀ k, LeO (f k) (f (k + 1))) {k : Nat} {r : α} (h : f k = some r) : ∀ k', k ≤ k' → f k' = some r := by
  intro k' hk
  obtain ⟨d, rfl⟩ := Nat.exists_eq_add_of_le hk
  clear hk
  induction d with
  | zero => exact h
  | succ d ih => exact hm (k + d) r ih
theorem mark_l : ∀ (d : Nat) (x : Int) (z : ByteArray), 0 ≤ x → x < ((10 ^ d : Nat) : Int) → d ≤ 18 → z.size + d ≤ 1000 → ∃ r, laws_markText.l0 (d + 1) x z = some r
  | 0, x, z, h0, h, _, hz => by
    rw [laws_markText.l0, if_neg (by simp at h; omega), if_pos (by omega)]; exact ⟨_, rfl⟩
  | d + 1, x, z, h0, h, hd, hz => by
    have hp : 10 ^ d ≤ 10 ^ 17 := Nat.pow_le_pow_right (by decide) (by omega)
    rw [Nat.pow_succ] at h
    obtain ⟨P, hP⟩ : ∃ P : Nat, 10 ^ d = P := ⟨_, rfl⟩
    rw [hP] at h hp
    rw [laws_markText.l0]
    by_cases hx0 : x > 0
    · rw [if_pos hx0, Option.bind_some]
      have e1 : Int.tdiv x 10 = x / 10 := Int.tdiv_eq_ediv_of_nonneg h0
      have s1 : (strOfNums [(wrap64 (48 + (Int.tmod x 10))) % 256]).size = 1 := rfl
      rw [e1, w64 (n := x / 10) (by omega) (by omega)]
      rw [s1, if_pos (by omega)]
      exact mark_l d _ _ (by omega) (by rw [hP]; omega) (by omega) (by rw [ByteArray.size_append, s1]; omega)
    · rw [if_neg hx0, if_pos (by omega)]; exact ⟨_, rfl⟩
def T (m : Int) : ByteArray := (laws_markText.f 19 m).getD ⟨#[]⟩
theorem mark_T {k : Nat} (hk : 19 ≤ k) {m : Int} (h : m < 10 ^ 18) : laws_markText.f k m = some (T m) := by
  refine up (f := fun k => laws_markText.f k m) (fun k => laws_markText.mono m k) (k := 19) ?_ k hk
  have : ∃ r, laws_markText.f 19 m = some r := by
    unfold laws_markText.f
    by_cases h0 : m ≤ 0
    · rw [if_pos h0]; exact ⟨_, rfl⟩
    · rw [if_neg h0]; exact mark_l 18 m _ (by omega) h (by omega) (by decide)
  obtain ⟨r, hr⟩ := this
  show laws_markText.f 19 m = some (T m)
  unfold T; rw [hr]; rfl
/-- what the marks lay -/
def mk : Nat → Int → List S35
  | 0, _ => []
  | n + 1, m => ⟨m, T (m + 1), m + 2, m + 3⟩ :: mk n (m + 4)
theorem mk_len : ∀ n m, (mk n m).length = n
  | 0, _ => rfl
  | n + 1, m => by rw [mk, List.length_cons, mk_len n]
theorem rd_pre (p r : List S35) (x : S35) {i : Int} (hi : i = (p.length : Int)) : rd_T35 (p ++ x :: r) i = x := by
  subst hi; unfold rd_T35; rw [Int.toNat_natCast, List.getD_eq_getElem?_getD, List.getElem?_append_right (Nat.le_refl _)]; simp
theorem set_pre (p r : List S35) (x y : S35) {i : Int} (hi : i = (p.length : Int)) : (p ++ x :: r).set i.toNat y = p ++ y :: r := by
  subst hi; rw [Int.toNat_natCast, List.set_append_right _ _ (Nat.le_refl _)]; simp
theorem mark_run : ∀ (r p : List S35) (m : Int) (k : Nat), 0 ≤ m → m + 4 * (r.length : Int) < 10 ^ 17 → p.length + r.length < 10 ^ 17 → laws_markNodeS.l0 (k + 20 + r.length) (p ++ r) m p.length = some (m + 4 * (r.length : Int), p ++ mk r.length m)
  | [], p, m, k, h0, h, hp => by
    rw [show k + 20 + ([] : List S35).length = k + 19 + 1 from rfl, laws_markNodeS.l0, if_neg (by simp)]
    simp [mk]
  | x :: r, p, m, k, h0, h, hp => by
    rw [List.length_cons] at h hp ⊢
    rw [show k + 20 + (r.length + 1) = (k + 20 + r.length) + 1 by omega, laws_markNodeS.l0, if_pos (by rw [List.length_append, List.length_cons]; omega), if_pos (by omega)]
    simp only [Option.bind_some, w64 (n := m + 1) (by omega) (by omega), w64 (n := m + 1 + 1) (by omega) (by omega), w64 (n := m + 1 + 1 + 1) (by omega) (by omega), w64 (n := m + 1 + 1 + 1 + 1) (by omega) (by omega), w64 (n := (p.length : Int) + 1) (by omega) (by omega)]
    rw [mark_T (by omega) (by omega)]
    simp only [Option.bind_some, set_pre p r _ _ rfl, rd_pre p r _ rfl]
    have ih := mark_run r (p ++ [⟨m, T (m + 1), m + 1 + 1, m + 1 + 1 + 1⟩]) (m + 1 + 1 + 1 + 1) k (by omega) (by omega) (by rw [List.length_append]; simp; omega)
    rw [List.length_append, List.append_assoc, List.append_assoc] at ih
    simp only [List.length_cons, List.length_nil, List.cons_append, List.nil_append] at ih
    rw [show ((p.length : Int) + 1) = ((p.length + (0 + 1) : Nat) : Int) by omega, ih, mk]
    congr 2
    · omega
    · congr 2
      · rw [S35.mk.injEq]; exact ⟨rfl, rfl, by omega, by omega⟩
      · congr 1; omega
theorem held_run : ∀ (n : Nat) (p : List S35) (m : Int) (k : Nat), 0 ≤ m → m + 4 * (n : Int) < 10 ^ 17 → p.length + n < 10 ^ 17 → laws_heldNodeS.l0 (k + 20 + n) (p ++ mk n m) m p.length = some (m + 4 * (n : Int))
  | 0, p, m, k, h0, h, hp => by
    rw [show k + 20 + 0 = k + 19 + 1 from rfl, laws_heldNodeS.l0, if_neg (by simp [mk])]
    simp
  | n + 1, p, m, k, h0, h, hp => by
    rw [show k + 20 + (n + 1) = (k + 20 + n) + 1 by omega, laws_heldNodeS.l0, mk, if_pos (by rw [List.length_append, List.length_cons]; omega), if_pos (by omega)]
    simp only [rd_pre p _ _ rfl, Option.bind_some, w64 (n := m + 1) (by omega) (by omega), w64 (n := m + 1 + 1) (by omega) (by omega), w64 (n := m + 1 + 1 + 1) (by omega) (by omega), w64 (n := m + 1 + 1 + 1 + 1) (by omega) (by omega), w64 (n := (p.length : Int) + 1) (by omega) (by omega)]
    rw [if_pos trivial, mark_T (by omega) (by omega), Option.bind_some, if_pos rfl, if_pos (by omega), if_pos (by omega)]
    have ih := held_run n (p ++ [⟨m, T (m + 1), m + 2, m + 3⟩]) (m + 4) k (by omega) (by omega) (by rw [List.length_append]; simp; omega)
    rw [List.length_append, List.append_assoc] at ih
    simp only [List.length_cons, List.length_nil, List.cons_append, List.nil_append] at ih
    rw [show ((p.length : Int) + 1) = ((p.length + (0 + 1) : Nat) : Int) by omega, show m + 1 + 1 + 1 + 1 = m + 4 by omega, ih]
    congr 1; omega
theorem eq_run : ∀ (r p : List S35) (k : Nat), p.length + r.length < 10 ^ 17 → laws_eqNodeS.l0 (k + 1 + r.length) (p ++ r) (p ++ r) p.length = some true
  | [], p, k, h => by rw [show k + 1 + ([] : List S35).length = k + 1 from rfl, laws_eqNodeS.l0, if_neg (by simp)]
  | x :: r, p, k, h => by
    rw [List.length_cons] at h ⊢
    rw [show k + 1 + (r.length + 1) = (k + 1 + r.length) + 1 by omega, laws_eqNodeS.l0, if_pos (by rw [List.length_append, List.length_cons]; omega), if_pos (by omega), if_pos (by rw [List.length_append, List.length_cons]; omega)]
    unfold laws_eqNode.f
    rw [if_pos rfl, if_pos rfl, if_pos rfl, if_pos rfl, Option.bind_some, if_pos rfl, w64 (by omega) (by omega)]
    have ih := eq_run r (p ++ [x]) k (by rw [List.length_append]; simp; omega)
    rw [List.length_append, List.append_assoc] at ih
    simp only [List.length_cons, List.length_nil, List.cons_append, List.nil_append] at ih
    rw [show ((p.length : Int) + 1) = ((p.length + (0 + 1) : Nat) : Int) by omega, ih]
theorem eq_same (a b : Int) (l : List S35) (hl : l.length ≤ 8000) {k : Nat} (hk : 8001 ≤ k) : laws_eqTreeRes.f k a b l a b l = some true := by
  obtain ⟨d, rfl⟩ := Nat.exists_eq_add_of_le hk
  have h := eq_run l [] (8000 + d - l.length) (by simp; omega)
  rw [show 8000 + d - l.length + 1 + l.length = 8001 + d by omega] at h
  unfold laws_eqTreeRes.f laws_eqNodeS.f
  rw [if_pos rfl, if_pos rfl, if_pos rfl]
  have h' : laws_eqNodeS.l0 (8001 + d) l l 0 = some true := h
  rw [h']; rfl

theorem FnExactReadTree : laws_FnExactReadTree.Pure := by
  intro a _
  by_cases hb : (a.size : Int) > 1048576
  · exact ⟨0, by unfold laws_FnExactReadTree.f; rw [if_pos hb]⟩
  obtain ⟨R, ⟨k1, g1⟩, ⟨k2, g2⟩, hl⟩ := both a
  have G1 := up (f := fun k => spec_ReadTree.f k a) (fun k => spec_ReadTree.mono a k) g1 (k1 + k2 + 9000) (by omega)
  have G2 := up (f := fun k => impl_ReadTree.f k a) (fun k => impl_ReadTree.mono a k) g2 (k1 + k2 + 9000) (by omega)
  refine ⟨k1 + k2 + 9000, ?_⟩
  have M : laws_markTreeRes.f (k1 + k2 + 9000) R.1 R.2.1 R.2.2 1 = some (1 + 4 * (R.2.2.length : Int), mk R.2.2.length 1) := by
    unfold laws_markTreeRes.f laws_markNodeS.f
    have h := mark_run R.2.2 [] 1 (k1 + k2 + 8980 - R.2.2.length) (by omega) (by omega) (by simp; omega)
    rw [show k1 + k2 + 8980 - R.2.2.length + 20 + R.2.2.length = k1 + k2 + 9000 by omega] at h
    have h' : laws_markNodeS.l0 (k1 + k2 + 9000) R.2.2 1 0 = some (1 + 4 * (R.2.2.length : Int), mk R.2.2.length 1) := h
    rw [h']; rfl
  have H : laws_heldTreeRes.f (k1 + k2 + 9000) R.1 R.2.1 (mk R.2.2.length 1) 1 = some (1 + 4 * (R.2.2.length : Int)) := by
    unfold laws_heldTreeRes.f laws_heldNodeS.f
    have h := held_run R.2.2.length [] 1 (k1 + k2 + 8980 - R.2.2.length) (by omega) (by omega) (by simp; omega)
    rw [show k1 + k2 + 8980 - R.2.2.length + 20 + R.2.2.length = k1 + k2 + 9000 by omega] at h
    have h' : laws_heldNodeS.l0 (k1 + k2 + 9000) (mk R.2.2.length 1) 1 0 = some (1 + 4 * (R.2.2.length : Int)) := h
    rw [h', Option.bind_some, if_neg (by omega)]
  unfold laws_FnExactReadTree.f
  have G1' : spec_ReadTree.f (k1 + k2 + 9000) a = some R := G1
  have G2' : impl_ReadTree.f (k1 + k2 + 9000) a = some R := G2
  rw [if_neg hb, G1', G2']
  simp only [Option.bind_some]
  rw [eq_same _ _ _ hl (by omega)]
  simp only [Option.bind_some, if_true, M, H]
  rw [if_neg (by omega), if_neg (by omega)]

end Go.Proofs.Ytiimmgkghnmjlaa.Pure

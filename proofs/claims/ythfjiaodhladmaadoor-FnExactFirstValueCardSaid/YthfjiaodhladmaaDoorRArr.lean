/- impl.readSort at an array's text, by a walk. -/
import Derived.Test.YthfjiaodhladmaaDoorRSort
import Derived.Test.YthfjiaodhladmaaDoorSrtB
namespace Go.Proofs.YthfjiaodhladmaaDoor.RS
open Go.RowKit Go.Proofs.YthfjiaodhladmaaDoor Go.Proofs.YthfjiaodhladmaaDoorW.PrintWords Go.Proofs.YthfjiaodhladmaaDoorW.PrintLast Go.Proofs.YthfjiaodhladmaaDoorW.PrintMore Go.Proofs.YthfjiaodhladmaaDoor.By Go.Proofs.YthfjiaodhladmaaDoor.PFnExactReadSort Go.Proofs.YthfjiaodhladmaaDoor.Srt
set_option linter.unusedVariables false
set_option linter.unusedSimpArgs false
set_option maxRecDepth 100000
/-- what impl.readSort returns, arrays too -/
def RetT (r : RdT) : Ending := .returned (.tuple #[.agg #[.int .i64 r.1.1, .int .i64 r.1.2.1, .string ⟨r.1.2.2.1.toArray⟩, .string ⟨r.1.2.2.2.toArray⟩], .string ⟨r.2.toArray⟩])
theorem ret_lift (r : Rd) : Ret r = RetT (lift r) := rfl
set_option maxHeartbeats 4000000 in
theorem arr_walk (A : Option Addr) (c : Nat) (l : List ByteArray) (s : ByteArray) (w : World) (hs : s.size ≤ 1048576) (hT : Tabs w) (hp : Lib.hasPrefix (L s) pfxB = false) (ha : Lib.hasPrefix (L s) pfxA = true) (hz : 7 ≤ s.size)
    (hl : Kd.C Kd.string w A l.length l) (hlc : l.length ≤ c)
    (H0 : Aside0 (∀ (s' : ByteArray) (W : World), s'.size ≤ 1048576 → Tabs W → Kd.C Kd.string W A l.length l → Calls Tryd.prog 15 #[.slice A l.length c, .string s', .bool false] W fun e w' => e = Ret (rdS (has l) (L s')) ∧ Below W.heap.size W w')) :
    Calls Tryd.prog 15 #[.slice A l.length c, .string s, .bool true] w fun e w' => e = RetT (rdArr (has l) ((L s).drop 7)) ∧ Below w.heap.size w w' := by
  have HB := Aside0.mk (box0 hT)
  have HL := Aside0.mk hl
  clear hT hl
  have HP : Aside0 (Lib.hasPrefix s.data.toList pfxB = false) := ⟨hp⟩
  have HPA : Aside0 (Lib.hasPrefix s.data.toList pfxA = true) := ⟨ha⟩
  clear hp ha
  go_enter Tryd.func15, Tryd.ntmps15
  go_wp2_with (fail)
  refine Calls.mono (Tryd.strings_HasPrefix s ⟨#[40, 95, 32, 66, 105, 116, 86, 101, 99, 32]⟩ _) ?_
  rintro e w1 ⟨rfl, hw1⟩
  rw [show Lib.hasPrefix s.data.toList (⟨#[40, 95, 32, 66, 105, 116, 86, 101, 99, 32]⟩ : ByteArray).data.toList = false from HP.out]
  have HB1 := Aside0.mk (hw1 ▸ HB.out : Box w w1)
  clear hw1 HB
  go_wp2_with (fail)
  refine Calls.mono (Tryd.strings_HasPrefix s ⟨#[40, 65, 114, 114, 97, 121, 32]⟩ _) ?_
  rintro e w2 ⟨rfl, hw2⟩
  rw [show Lib.hasPrefix s.data.toList (⟨#[40, 65, 114, 114, 97, 121, 32]⟩ : ByteArray).data.toList = true from HPA.out]
  have HB2 := Aside0.mk (hw2 ▸ HB1.out : Box w w2)
  clear hw2 HB1
  obtain ⟨s1, hs1⟩ : ∃ s1, s.extract 7 s.size = s1 := ⟨_, rfl⟩
  have LS1 : Aside0 (L s1 = (L s).drop 7) := ⟨by rw [← hs1, L_extract_end]⟩
  have hs1s : s1.size ≤ 1048576 := by rw [← hs1, size_extract_end]; omega
  obtain ⟨k1, e1, r1, hr1⟩ : ∃ k1 e1 r1, rdS (has l) (L s1) = ((k1, e1), r1) := ⟨_, _, _, rfl⟩
  have HR1 := Aside0.mk hr1
  have HA1 : Aside0 (rdArr (has l) ((L s).drop 7) = rdArr (has l) (L s1)) := ⟨by rw [LS1.out]⟩
  clear hr1
  obtain ⟨R1, hR1⟩ : ∃ R1 : ByteArray, (⟨r1.toArray⟩ : ByteArray) = R1 := ⟨_, rfl⟩
  have LR1 : Aside0 (L R1 = r1) := ⟨by rw [← hR1, L_mk]⟩
  have HRR1 := Aside0.mk hR1
  clear hR1
  go_wp2_with (fail)
  clear hs1
  refine Calls.mono (H0.out s1 w2 hs1s HB2.out.tabs (Kd.C_below HL.out HB2.out.below)) ?_
  rintro e w3 ⟨rfl, hb3⟩
  have HB3 := Aside0.mk (HB2.out.step hb3)
  clear hb3 HB2
  rw [HR1.out]
  unfold Ret
  rw [show (⟨((k1, e1), r1).2.toArray⟩ : ByteArray) = R1 from HRR1.out]
  obtain ⟨⟨c0, c1, c2, c3⟩, f0, f1, f2, f3⟩ := HB3.out.fa
  obtain ⟨d0, d1, d2, d3⟩ := HB3.out.fb
  have hlt0 : w.heap.size < w3.heap.size := by have := blk_lt HB3.out.a; exact this
  have hlt1 : w.heap.size + 1 < w3.heap.size := by have := blk_lt HB3.out.b; exact this
  by_cases h0 : k1 = 0
  · subst h0
    have HRN : Aside0 (rdArr (has l) ((L s).drop 7) = noRdT) := ⟨by rw [HA1.out]; unfold rdArr; rw [HR1.out]; rfl⟩
    go_wp2_with (fail)
    exact bodyPost_ret (v := .tuple #[.agg #[.int .i64 0, .int .i64 0, .string ⟨#[]⟩, .string ⟨#[]⟩], .string ⟨#[63]⟩]) (by simp [results, Tryd.results15, go_sem, c0, c1, c2, c3, f0, f1, f2, f3, hlt0]) rfl ⟨by rw [HRN.out]; rfl, by first | exact HB3.out.set4 _ _ _ _ | exact below_alloc (HB3.out.set4 _ _ _ _) _ | exact below_drew (HB3.out.set4 _ _ _ _)⟩
  · by_cases h1 : k1 = 1
    · subst h1
      have HRN : Aside0 (rdArr (has l) ((L s).drop 7) = noRdT) := ⟨by rw [HA1.out]; unfold rdArr; rw [HR1.out]; rfl⟩
      go_wp2_with (fail)
      exact bodyPost_ret (v := .tuple #[.agg #[.int .i64 0, .int .i64 0, .string ⟨#[]⟩, .string ⟨#[]⟩], .string ⟨#[63]⟩]) (by simp [results, Tryd.results15, go_sem, c0, c1, c2, c3, f0, f1, f2, f3, hlt0]) rfl ⟨by rw [HRN.out]; rfl, by first | exact HB3.out.set4 _ _ _ _ | exact below_alloc (HB3.out.set4 _ _ _ _) _ | exact below_drew (HB3.out.set4 _ _ _ _)⟩
    · have hb1 : badK k1 = false := by unfold badK; rw [decide_eq_false h0, decide_eq_false h1]; rfl
      have HK1 := Aside0.mk hb1
      have h0' : (k1 == 0) = false := beq_eq_false_iff_ne.2 h0
      have h1' : (k1 == 1) = false := beq_eq_false_iff_ne.2 h1
      have hlen : R1.size ≤ s1.size := by
        have := rdS_len (has l) (L s1) (by rw [HR1.out]; exact hb1)
        rw [HR1.out, ← LR1.out, L_length, L_length] at this
        exact this
      clear hb1
      go_wp2_with (fail)
      refine Calls.mono (Tryd.strings_HasPrefix R1 ⟨#[32]⟩ _) ?_
      rintro e w4 ⟨rfl, hw4⟩
      have HB4 := Aside0.mk (HB3.out.step (W' := w4) (hw4 ▸ below_alloc (Below.refl _ _) _))
      clear hw4 HB3 c0 c1 c2 c3 f0 f1 f2 f3 d0 d1 d2 d3 hlt0 hlt1
      obtain ⟨⟨c0, c1, c2, c3⟩, f0, f1, f2, f3⟩ := HB4.out.fa
      obtain ⟨d0, d1, d2, d3⟩ := HB4.out.fb
      obtain ⟨p1, hp1⟩ : ∃ p1, Lib.hasPrefix R1.data.toList (⟨#[32]⟩ : ByteArray).data.toList = p1 := ⟨_, rfl⟩
      have HP1 : Aside0 (Lib.hasPrefix r1 [32] = p1) := ⟨by rw [← LR1.out]; exact hp1⟩
      rw [hp1]
      clear hp1
      cases p1
      · have HRN : Aside0 (rdArr (has l) ((L s).drop 7) = noRdT) := ⟨by rw [HA1.out]; unfold rdArr; rw [HR1.out, HP1.out, if_pos (by rw [Bool.not_false, Bool.or_true])]⟩
        go_wp2_with (fail)
        exact bodyPost_ret (v := .tuple #[.agg #[.int .i64 0, .int .i64 0, .string ⟨#[]⟩, .string ⟨#[]⟩], .string ⟨#[63]⟩]) (by simp [results, Tryd.results15, go_sem, c0, c1, c2, c3, f0, f1, f2, f3]) rfl ⟨by rw [HRN.out]; rfl, by first | exact HB4.out.set4 _ _ _ _ | exact below_alloc (HB4.out.set4 _ _ _ _) _ | exact below_drew (HB4.out.set4 _ _ _ _)⟩
      · obtain ⟨q0, hq⟩ : ∃ q0 : Nat, s1.size = R1.size + q0 := ⟨s1.size - R1.size, by omega⟩
        have hR1 : 1 ≤ R1.size := by
          have := HP1.out
          rcases Nat.eq_zero_or_pos R1.size with h | h
          · rw [← LR1.out, List.length_eq_zero_iff.1 ((L_length R1).trans h)] at this; cases this
          · exact h
        have hq1 : (s1.size : Int) - R1.size = q0 := by omega
        have hq2 : (0 : Int) ≤ q0 := by omega
        have hq3 : (q0 : Int) ≤ s1.size := by omega
        have hR1i : (1 : Int) ≤ R1.size := by omega
        obtain ⟨s2, hs2⟩ : ∃ s2, R1.extract 1 R1.size = s2 := ⟨_, rfl⟩
        have LS2 : Aside0 (L s2 = r1.drop 1) := ⟨by rw [← hs2, L_extract_end, LR1.out]⟩
        have hs2s : s2.size ≤ 1048576 := by rw [← hs2, size_extract_end]; omega
        obtain ⟨I, hI⟩ : ∃ I, s1.extract 0 q0 = I := ⟨_, rfl⟩
        have LI : Aside0 (L I = (L s1).take ((L s1).length - r1.length)) := ⟨by
          rw [← hI, L_extract, List.drop_zero]; congr 1; rw [L_length, ← LR1.out, L_length]; omega⟩
        obtain ⟨k2, e2, r2, hr2⟩ : ∃ k2 e2 r2, rdS (has l) (L s2) = ((k2, e2), r2) := ⟨_, _, _, rfl⟩
        have HR2 := Aside0.mk hr2
        have HA2 : Aside0 (rdArr (has l) ((L s).drop 7) = if (badK k2 || !Lib.hasPrefix r2 [41]) = true then noRdT else ((6, 0, L I, (L s2).take ((L s2).length - r2.length)), r2.drop 1)) := ⟨by
          rw [HA1.out]; unfold rdArr
          rw [HR1.out]
          simp only
          rw [HK1.out, HP1.out, ← LS2.out, HR2.out, LI.out]
          rfl⟩
        clear hr2
        obtain ⟨R2, hR2⟩ : ∃ R2 : ByteArray, (⟨r2.toArray⟩ : ByteArray) = R2 := ⟨_, rfl⟩
        have LR2 : Aside0 (L R2 = r2) := ⟨by rw [← hR2, L_mk]⟩
        have HRR2 := Aside0.mk hR2
        clear hR2
        go_wp2_with (fail)
        clear hs2 hq1 hq2 hq3 hq
        refine Calls.mono (H0.out s2 w4 hs2s HB4.out.tabs (Kd.C_below HL.out HB4.out.below)) ?_
        rintro e w5 ⟨rfl, hb5⟩
        have HB5 := Aside0.mk (HB4.out.step hb5)
        clear hb5 HB4 c0 c1 c2 c3 f0 f1 f2 f3 d0 d1 d2 d3
        rw [HR2.out]
        unfold Ret
        rw [show (⟨((k2, e2), r2).2.toArray⟩ : ByteArray) = R2 from HRR2.out]
        obtain ⟨⟨c0, c1, c2, c3⟩, f0, f1, f2, f3⟩ := HB5.out.fa
        obtain ⟨d0, d1, d2, d3⟩ := HB5.out.fb
        have hlt0 : w.heap.size < w5.heap.size := by have := blk_lt HB5.out.a; exact this
        have hlt1 : w.heap.size + 1 < w5.heap.size := by have := blk_lt HB5.out.b; exact this
        by_cases h20 : k2 = 0
        · subst h20
          have HRN : Aside0 (rdArr (has l) ((L s).drop 7) = noRdT) := ⟨by rw [HA2.out]; rfl⟩
          go_wp2_with (fail)
          exact bodyPost_ret (v := .tuple #[.agg #[.int .i64 0, .int .i64 0, .string ⟨#[]⟩, .string ⟨#[]⟩], .string ⟨#[63]⟩]) (by simp [results, Tryd.results15, go_sem, c0, c1, c2, c3, f0, f1, f2, f3, hlt0]) rfl ⟨by rw [HRN.out]; rfl, by first | exact HB5.out.set4 _ _ _ _ | exact below_alloc (HB5.out.set4 _ _ _ _) _ | exact below_drew (HB5.out.set4 _ _ _ _)⟩
        · by_cases h21 : k2 = 1
          · subst h21
            have HRN : Aside0 (rdArr (has l) ((L s).drop 7) = noRdT) := ⟨by rw [HA2.out]; rfl⟩
            go_wp2_with (fail)
            exact bodyPost_ret (v := .tuple #[.agg #[.int .i64 0, .int .i64 0, .string ⟨#[]⟩, .string ⟨#[]⟩], .string ⟨#[63]⟩]) (by simp [results, Tryd.results15, go_sem, c0, c1, c2, c3, f0, f1, f2, f3, hlt0]) rfl ⟨by rw [HRN.out]; rfl, by first | exact HB5.out.set4 _ _ _ _ | exact below_alloc (HB5.out.set4 _ _ _ _) _ | exact below_drew (HB5.out.set4 _ _ _ _)⟩
          · have hb2 : badK k2 = false := by unfold badK; rw [decide_eq_false h20, decide_eq_false h21]; rfl
            have HK2 := Aside0.mk hb2
            have h20' : (k2 == 0) = false := beq_eq_false_iff_ne.2 h20
            have h21' : (k2 == 1) = false := beq_eq_false_iff_ne.2 h21
            have hlen2 : R2.size ≤ s2.size := by
              have := rdS_len (has l) (L s2) (by rw [HR2.out]; exact hb2)
              rw [HR2.out, ← LR2.out, L_length, L_length] at this
              exact this
            clear hb2
            go_wp2_with (fail)
            refine Calls.mono (Tryd.strings_HasPrefix R2 ⟨#[41]⟩ _) ?_
            rintro e w6 ⟨rfl, hw6⟩
            have HB6 := Aside0.mk (HB5.out.step (W' := w6) (hw6 ▸ below_alloc (Below.refl _ _) _))
            clear hw6 HB5 c0 c1 c2 c3 f0 f1 f2 f3 d0 d1 d2 d3 hlt0 hlt1
            obtain ⟨⟨c0, c1, c2, c3⟩, f0, f1, f2, f3⟩ := HB6.out.fa
            obtain ⟨d0, d1, d2, d3⟩ := HB6.out.fb
            obtain ⟨p2, hp2⟩ : ∃ p2, Lib.hasPrefix R2.data.toList (⟨#[41]⟩ : ByteArray).data.toList = p2 := ⟨_, rfl⟩
            have HP2 : Aside0 (Lib.hasPrefix r2 [41] = p2) := ⟨by rw [← LR2.out]; exact hp2⟩
            rw [hp2]
            clear hp2
            cases p2
            · have HRN : Aside0 (rdArr (has l) ((L s).drop 7) = noRdT) := ⟨by rw [HA2.out, HP2.out, if_pos (by rw [Bool.not_false, Bool.or_true])]⟩
              go_wp2_with (fail)
              exact bodyPost_ret (v := .tuple #[.agg #[.int .i64 0, .int .i64 0, .string ⟨#[]⟩, .string ⟨#[]⟩], .string ⟨#[63]⟩]) (by simp [results, Tryd.results15, go_sem, c0, c1, c2, c3, f0, f1, f2, f3]) rfl ⟨by rw [HRN.out]; rfl, by first | exact HB6.out.set4 _ _ _ _ | exact below_alloc (HB6.out.set4 _ _ _ _) _ | exact below_drew (HB6.out.set4 _ _ _ _)⟩
            · obtain ⟨q, hq⟩ : ∃ q : Nat, s2.size = R2.size + q := ⟨s2.size - R2.size, by omega⟩
              have hR2 : 1 ≤ R2.size := by
                have := HP2.out
                rcases Nat.eq_zero_or_pos R2.size with h | h
                · rw [← LR2.out, List.length_eq_zero_iff.1 ((L_length R2).trans h)] at this; cases this
                · exact h
              have hq1 : (s2.size : Int) - R2.size = q := by omega
              have hq2 : (0 : Int) ≤ q := by omega
              have hq3 : (q : Int) ≤ s2.size := by omega
              have hR2i : (1 : Int) ≤ R2.size := by omega
              obtain ⟨E, hE⟩ : ∃ E, s2.extract 0 q = E := ⟨_, rfl⟩
              obtain ⟨T, hT2⟩ : ∃ T, R2.extract 1 R2.size = T := ⟨_, rfl⟩
              have LE : Aside0 (L E = (L s2).take ((L s2).length - r2.length)) := ⟨by
                rw [← hE, L_extract, List.drop_zero]; congr 1; rw [L_length, ← LR2.out, L_length]; omega⟩
              have LT : Aside0 (L T = r2.drop 1) := ⟨by rw [← hT2, L_extract_end, LR2.out]⟩
              have HRY : Aside0 (rdArr (has l) ((L s).drop 7) = ((6, 0, L I, L E), L T)) := ⟨by
                rw [HA2.out, HK2.out, HP2.out, LE.out, LT.out]; rfl⟩
              go_wp2_with (fail)
              go_region
              go_wp2_with (fail)
              exact bodyPost_ret (v := .tuple #[.agg #[.int .i64 6, .int .i64 0, .string I, .string E], .string T]) (by simp [results, Tryd.results15, go_sem, c0, c1, c2, c3, f0, f1, f2, f3, hI, hE, hT2]) rfl ⟨by
                rw [HRY.out]; unfold RetT; rw [show (⟨(L T).toArray⟩ : ByteArray) = T from rfl, show (⟨(L I).toArray⟩ : ByteArray) = I from rfl, show (⟨(L E).toArray⟩ : ByteArray) = E from rfl], by first | exact HB6.out.set4 _ _ _ _ | exact below_drew (HB6.out.set4 _ _ _ _) | exact (HB6.out.step (below_drewN w6 1)).set4 _ _ _ _⟩
end Go.Proofs.YthfjiaodhladmaaDoor.RS

/- A sort's first value: what the reference computes (plain law) and what impl.FirstValue computes (by walks). Condition: no more than 1048576 names and bytes; the cells of strconv's errors are there. -/
import Derived.Test.YthfjiaodhladmaaDoorPFnExactFirstValuex1
import Derived.Test.YthfjiaodhladmaaDoorLawPure
namespace Go.Proofs.YthfjiaodhladmaaDoor.FV
open Go.RowKit Go.Proofs.YthfjiaodhladmaaDoor Go.Proofs.YthfjiaodhladmaaDoorW.PrintWords Go.Proofs.YthfjiaodhladmaaDoorW.PrintLast Go.Proofs.YthfjiaodhladmaaDoorW.PrintMore Go.Proofs.YthfjiaodhladmaaDoor.By Go.Proofs.YthfjiaodhladmaaDoor.PFnExactReadSort Go.Proofs.YthfjiaodhladmaaDoor.PFnExactFirstValue Go.Proofs.YthfjiaodhladmaaDoor.Srt Go.Proofs.YthfjiaodhladmaaDoor.RS
set_option linter.unusedVariables false
set_option linter.unusedSimpArgs false
def fv1 (k w : Int) : List UInt8 := if k = 1 then [102, 97, 108, 115, 101] else if k = 2 ∨ k = 3 then [48] else if k = 4 then 35 :: 98 :: List.replicate w.toNat 48 else if k = 5 then [64, 48] else []
/-- a sort's first value -/
def fvL (has : List UInt8 → Bool) (l : List UInt8) : List UInt8 :=
  if (rdSort has l).1 = 6 then 123 :: (fv1 (rdSort has (rdSort has l).2.2.2).1 (rdSort has (rdSort has l).2.2.2).2.1 ++ [125]) else fv1 (rdSort has l).1 (rdSort has l).2.1
theorem srt_w {has : List UInt8 → Bool} {p : List UInt8} {k w : Int} (h : Srt has p k w) : (k = 4 → 1 ≤ w ∧ w ≤ 64) ∧ k ≠ 6 := by
  cases h with
  | bits m _ h => exact ⟨fun _ => ⟨(dec_ok h).2.1, (dec_ok h).2.2.1⟩, by decide⟩
  | bool => exact ⟨by decide, by decide⟩
  | int => exact ⟨by decide, by decide⟩
  | real => exact ⟨by decide, by decide⟩
  | bar m h1 h2 h3 => exact ⟨by decide, by decide⟩
  | name _ n1 n2 n3 h2 h1 h3 => exact ⟨by decide, by decide⟩
theorem simple_w (has : List UInt8 → Bool) (p : List UInt8) : ((simpleL has p).1 = 4 → 1 ≤ (simpleL has p).2 ∧ (simpleL has p).2 ≤ 64) ∧ (simpleL has p).1 ≠ 6 := by
  by_cases h : (simpleL has p).1 = 0
  · rw [h]; exact ⟨fun h => absurd h (by decide), by decide⟩
  · exact srt_w (simple_srt (Prod.eta (simpleL has p)).symm h)
theorem arr_six {has : List UInt8 → Bool} {l : List UInt8} (h : (rdSort has l).1 = 6) : ∃ q1 q2, Two has (l.drop 7) q1 q2 ∧ rdSort has l = (6, 0, q1, q2) := by
  rw [← spS_eq] at h ⊢
  unfold spS at h ⊢
  split
  · rename_i hc
    rw [if_pos hc] at h
    have hne : spArr has (l.drop 7) ≠ zS := fun e => by rw [e] at h; exact absurd h (by decide)
    have hl := hc.2.2
    obtain ⟨q1, q2, h2⟩ := sp_two (has := has) (i := l.drop 7) (by
      rw [List.length_drop, List.getElem?_drop, show 7 + (l.length - 7 - 1) = l.length - 1 by omega]; exact hl) hne
    exact ⟨q1, q2, h2, two_sp h2⟩
  · rename_i hc
    rw [if_neg hc] at h
    exact absurd h (simple_w has l).2
theorem rd_w (has : List UInt8 → Bool) (l : List UInt8) (h : (rdSort has l).1 = 4) : 1 ≤ (rdSort has l).2.1 ∧ (rdSort has l).2.1 ≤ 64 := by
  rw [← spS_eq] at h ⊢
  unfold spS at h ⊢
  split
  · rename_i hc
    rw [if_pos hc] at h
    have hne : spArr has (l.drop 7) ≠ zS := fun e => by rw [e] at h; exact absurd h (by decide)
    obtain ⟨q1, q2, h2⟩ := sp_two (has := has) (i := l.drop 7) (by
      rw [List.length_drop, List.getElem?_drop, show 7 + (l.length - 7 - 1) = l.length - 1 by omega]; exact hc.2.2) hne
    rw [two_sp h2] at h
    exact absurd h (by show (6 : Int) ≠ 4; decide)
  · rename_i hc
    rw [if_neg hc] at h
    exact (simple_w has l).1 h
theorem rd_elem (has : List UInt8 → Bool) (l : List UInt8) (h : (rdSort has l).1 = 6) : (rdSort has (rdSort has l).2.2.2).1 ≠ 6 ∧ (rdSort has l).2.2.2.length ≤ l.length := by
  obtain ⟨q1, q2, h2, e⟩ := arr_six h
  rw [e]
  show (rdSort has q2).1 ≠ 6 ∧ q2.length ≤ l.length
  obtain ⟨k1, w1, k2, w2, hl, s1, s2, n1, n2⟩ := h2
  refine ⟨fun h6 => ?_, ?_⟩
  · obtain ⟨r1, r2, h3, e2⟩ := arr_six h6
    have e3 : spS has q2 = (6, 0, r1, r2) := by rw [spS_eq]; exact e2
    have hs := srt_simple s2
    unfold spS at e3
    split at e3
    · rename_i hc
      have h0 := arr_head (has := has) (l := q2) ⟨q2.drop 7, by rw [← hc.2.1, List.take_append_drop]⟩
      rw [hs] at h0
      exact s2.ne0 h0
    · rw [hs] at e3
      exact (srt_w s2).2 (congrArg (fun x : Sr => x.1) e3)
  · have := congrArg List.length hl
    simp at this
    omega
theorem l5_l0 (w : Int) (n : Nat) (hn : n ≤ 64) (hw : w = n) : ∀ (d i : Nat) (y : List Int), i ≤ n → n - i = d → y.length = n → (∀ j, j < i → y[j]? = some 48) →
    Evt (fun k => spec_l5Digits.l0 k 0 w y (n : Int) (i : Int)) (strOfNums (List.replicate n 48)) := by
  intro d
  induction d with
  | zero =>
    intro i y hi hd hy hj
    have : y = List.replicate n 48 := List.ext_getElem? fun j => by
      by_cases h : j < n
      · rw [hj j (by omega), List.getElem?_replicate, if_pos h]
      · rw [List.getElem?_eq_none (by omega), List.getElem?_eq_none (by simp; omega)]
    subst this
    exact Evt.succ (g := fun _ => some (strOfNums (List.replicate n 48))) (fun k => by simp only [spec_l5Digits.l0]; rw [if_neg (by omega)]) (Evt.pure fun _ => rfl)
  | succ d ih =>
    intro i y hi hd hy hj
    have hlt : i < n := by omega
    have hw1 : wrap64 ((i : Int) + 1) = ((i + 1 : Nat) : Int) := wrap_ok (by omega) (by omega)
    have hw2 : wrap64 ((wrap64 (w - 1)) - (i : Int)) = ((n - 1 - i : Nat) : Int) := by
      rw [hw, wrap_ok (z := (n : Int) - 1) (by omega) (by omega), wrap_ok (by omega) (by omega)]; omega
    have hw3 : (0 : Int) ≤ IntKind.u64.wrap ((n - 1 - i : Nat) : Int) := by unfold IntKind.wrap; simp [IntKind.bits, IntKind.signed]; try omega
    have hv : ∀ v : Int, (IntKind.u64.wrap (48 + (Go.bits .and .u64 (shr .u64 0 v) 1))) % 256 = 48 := fun v => by
      have : shr .u64 0 v = 0 := by unfold shr; simp
      rw [this]; rfl
    refine Evt.succ (fun k => by simp only [spec_l5Digits.l0]; rw [if_pos (by omega), hw2, if_pos hw3, if_pos (by omega), if_pos (by omega), hv, hw1, Int.toNat_natCast]) (ih (i + 1) (y.set i 48) (by omega) (by omega) (by simp; exact hy) ?_)
    intro j hji
    by_cases h : j = i
    · subst h
      rw [List.getElem?_set_self (by omega)]
    · rw [List.getElem?_set_ne (by omega)]; exact hj j (by omega)
theorem s_zero (w : Int) (h1 : 1 ≤ w) (h2 : w ≤ 64) : ∃ r : ByteArray, Evt (fun k => spec_l6Zero.f k w) r ∧ L r = 35 :: 98 :: List.replicate w.toNat 48 := by
  obtain ⟨n, rfl⟩ : ∃ n : Nat, w = n := ⟨w.toNat, by omega⟩
  have h := l5_l0 (n : Int) n (by omega) rfl _ 0 (List.replicate n 0) (by omega) rfl (by simp) (fun j hj => by omega)
  refine ⟨(⟨#[35, 98]⟩ : ByteArray) ++ strOfNums (List.replicate n 48), Evt.bind (a := strOfNums (List.replicate n 48)) ?_ (Evt.pure fun k => ?_), ?_⟩
  · refine Evt.same (fun k => ?_) h
    unfold spec_l5Digits.f
    rw [if_pos (by omega), if_pos (by omega), Int.toNat_natCast, Option.bind_some, List.length_replicate]
    rfl
  · rw [if_pos (by rw [strOfNums_size, List.length_replicate]; omega)]
  · unfold L
    rw [ByteArray.data_append, Array.toList_append, strOfNums_data, List.map_replicate, Int.toNat_natCast]
    rfl
theorem s_first1 (l : List ByteArray) (k w : Int) (i e : ByteArray) (h6 : k ≠ 6) (hw : k = 4 → 1 ≤ w ∧ w ≤ 64) : ∃ r : ByteArray, Evt (fun n => spec_l6First.f n l k w i e) r ∧ L r = fv1 k w := by
  unfold fv1
  by_cases h1 : k = 1
  · rw [if_pos h1]
    exact ⟨_, Evt.succ (g := fun _ => some (⟨#[102, 97, 108, 115, 101]⟩ : ByteArray)) (fun n => by simp only [spec_l6First.f]; rw [if_pos h1]) (Evt.pure fun _ => rfl), rfl⟩
  rw [if_neg h1]
  by_cases h2 : k = 2
  · rw [if_pos (.inl h2)]
    have hj : Evt (fun n => spec_l6First.j0 n l k true k w i e) (⟨#[48]⟩ : ByteArray) := Evt.succ (g := fun _ => some (⟨#[48]⟩ : ByteArray)) (fun n => by simp only [spec_l6First.j0]; rw [if_pos trivial]) (Evt.pure fun _ => rfl)
    exact ⟨_, Evt.succ (fun n => by simp only [spec_l6First.f]; rw [if_neg h1, if_pos h2, beq_iff_eq.2 h2]) hj, rfl⟩
  by_cases h3 : k = 3
  · rw [if_pos (.inr h3)]
    have hj : Evt (fun n => spec_l6First.j0 n l k true k w i e) (⟨#[48]⟩ : ByteArray) := Evt.succ (g := fun _ => some (⟨#[48]⟩ : ByteArray)) (fun n => by simp only [spec_l6First.j0]; rw [if_pos trivial]) (Evt.pure fun _ => rfl)
    exact ⟨_, Evt.succ (fun n => by simp only [spec_l6First.f]; rw [if_neg h1, if_neg h2, beq_iff_eq.2 h3]) hj, rfl⟩
  rw [if_neg (by rintro (h | h); exact h2 h; exact h3 h)]
  have go : ∀ r, Evt (fun n => spec_l6First.j0 n l k false k w i e) r → Evt (fun n => spec_l6First.f n l k w i e) r := fun r hr =>
    Evt.succ (fun n => by simp only [spec_l6First.f]; rw [if_neg h1, if_neg h2, beq_eq_false_iff_ne.2 h3]) hr
  by_cases h4 : k = 4
  · rw [if_pos h4]
    obtain ⟨r, hr, hr2⟩ := s_zero w (hw h4).1 (hw h4).2
    exact ⟨r, go r (Evt.succ (fun n => by simp only [spec_l6First.j0]; rw [if_neg (by decide), if_pos h4]) (Evt.bind hr (Evt.pure fun _ => rfl))), hr2⟩
  rw [if_neg h4]
  by_cases h5 : k = 5
  · rw [if_pos h5]
    exact ⟨(⟨#[64, 48]⟩ : ByteArray), go _ (Evt.succ (g := fun _ => some (⟨#[64, 48]⟩ : ByteArray)) (fun n => by simp only [spec_l6First.j0]; rw [if_neg (by decide), if_neg h4, if_pos h5]) (Evt.pure fun _ => rfl)), rfl⟩
  rw [if_neg h5]
  exact ⟨(⟨#[]⟩ : ByteArray), go _ (Evt.succ (g := fun _ => some (⟨#[]⟩ : ByteArray)) (fun n => by simp only [spec_l6First.j0]; rw [if_neg (by decide), if_neg h4, if_neg h5, if_neg h6]) (Evt.pure fun _ => rfl)), rfl⟩
theorem fv1_len (k w : Int) (hw : k = 4 → 1 ≤ w ∧ w ≤ 64) : (fv1 k w).length ≤ 66 := by
  unfold fv1
  split
  · decide
  · split
    · decide
    · split
      · rename_i h; have := hw h; simp; omega
      · split <;> decide
theorem s_first (l : List ByteArray) (hl : l.length ≤ 1048576) (s : ByteArray) (hs : s.size ≤ 1048576) : ∃ r : ByteArray, Evt (fun n => spec_FirstValue.f n l s) r ∧ L r = fvL (has l) (L s) := by
  obtain ⟨r, hr, hr2⟩ := s_readSort l hl s hs
  have e1 : (rdSort (has l) (L s)).1 = r.1 := by rw [← hr2]; rfl
  have e2 : (rdSort (has l) (L s)).2.1 = r.2.1 := by rw [← hr2]; rfl
  have e4 : (rdSort (has l) (L s)).2.2.2 = L r.2.2.2 := by rw [← hr2]; rfl
  unfold fvL
  by_cases h6 : r.1 = 6
  · rw [if_pos (e1.trans h6), e4]
    have hel := rd_elem (has l) (L s) (e1.trans h6)
    rw [e4] at hel
    obtain ⟨q, hq, hq2⟩ := s_readSort l hl r.2.2.2 (by have := hel.2; rw [L_length, L_length] at this; omega)
    have f1 : (rdSort (has l) (L r.2.2.2)).1 = q.1 := by rw [← hq2]; rfl
    have f2 : (rdSort (has l) (L r.2.2.2)).2.1 = q.2.1 := by rw [← hq2]; rfl
    have hw := rd_w (has l) (L r.2.2.2)
    rw [f1, f2] at hw ⊢
    obtain ⟨t, ht, ht2⟩ := s_first1 l q.1 q.2.1 q.2.2.1 q.2.2.2 (by rw [← f1]; exact hel.1) hw
    have htz : t.size ≤ 66 := by rw [← L_length, ht2]; exact fv1_len _ _ hw
    have hq1 : ((⟨#[123]⟩ : ByteArray) ++ t).size = 1 + t.size := by rw [ByteArray.size_append]; rfl
    refine ⟨((⟨#[123]⟩ : ByteArray) ++ t) ++ (⟨#[125]⟩ : ByteArray), Evt.bind hr (Evt.bind (a := ((⟨#[123]⟩ : ByteArray) ++ t) ++ (⟨#[125]⟩ : ByteArray)) ?_ (Evt.pure fun _ => rfl)), ?_⟩
    · have hfin : Evt (fun _ => if 1 + t.size ≤ 9223372036854775807 then (if ((⟨#[123]⟩ : ByteArray) ++ t).size + 1 ≤ 9223372036854775807 then (some (((⟨#[123]⟩ : ByteArray) ++ t) ++ (⟨#[125]⟩ : ByteArray))) else none) else none) (((⟨#[123]⟩ : ByteArray) ++ t) ++ (⟨#[125]⟩ : ByteArray)) :=
        Evt.pure fun _ => by rw [if_pos (by omega), if_pos (by omega)]
      have hj : Evt (fun n => spec_l6First.j0 n l r.1 false r.1 r.2.1 r.2.2.1 r.2.2.2) (((⟨#[123]⟩ : ByteArray) ++ t) ++ (⟨#[125]⟩ : ByteArray)) :=
        Evt.succ (fun n => by simp only [spec_l6First.j0]; rw [if_neg (by decide), if_neg (by omega), if_neg (by omega), if_pos h6]) (Evt.bind hq (Evt.bind ht hfin))
      exact Evt.succ (fun n => by simp only [spec_l6First.f]; rw [if_neg (by omega), if_neg (by omega), beq_eq_false_iff_ne.2 (by omega)]) hj
    · rw [← ht2]
      unfold L
      rw [ByteArray.data_append, ByteArray.data_append, Array.toList_append, Array.toList_append]
      rfl
  · rw [if_neg (fun e => h6 (e1.symm.trans e))]
    have hw := rd_w (has l) (L s)
    rw [e1, e2] at hw ⊢
    obtain ⟨t, ht, ht2⟩ := s_first1 l r.1 r.2.1 r.2.2.1 r.2.2.2 h6 hw
    exact ⟨t, Evt.bind hr (Evt.bind ht (Evt.pure fun _ => rfl)), ht2⟩
end Go.Proofs.YthfjiaodhladmaaDoor.FV
namespace Go.Proofs.YthfjiaodhladmaaDoor.FV
open Go.RowKit Go.Proofs.YthfjiaodhladmaaDoor Go.Proofs.YthfjiaodhladmaaDoorW.PrintWords Go.Proofs.YthfjiaodhladmaaDoorW.PrintLast Go.Proofs.YthfjiaodhladmaaDoorW.PrintMore Go.Proofs.YthfjiaodhladmaaDoor.By Go.Proofs.YthfjiaodhladmaaDoor.PFnExactReadSort Go.Proofs.YthfjiaodhladmaaDoor.Srt Go.Proofs.YthfjiaodhladmaaDoor.RS
set_option linter.unusedVariables false
set_option linter.unusedSimpArgs false
set_option maxRecDepth 100000
theorem repeat_one (c : UInt8) : ∀ n, Lib.repeatL [c] n = List.replicate n c
  | 0 => rfl
  | n + 1 => by unfold Lib.repeatL; rw [repeat_one c n, List.replicate_succ]; rfl
theorem zeros_call (z : Int) (h1 : 1 ≤ z) (h2 : z ≤ 64) (w : World) :
    Calls Tryd.prog 17 #[.int .i64 z] w fun e w' => e = .returned (.string ⟨(35 :: 98 :: List.replicate z.toNat 48).toArray⟩) ∧ Below w.heap.size w w' := by
  obtain ⟨n, rfl⟩ : ∃ n : Nat, z = n := ⟨z.toNat, by omega⟩
  obtain ⟨R, hR⟩ : ∃ R : ByteArray, (⟨(Lib.repeatL (⟨#[48]⟩ : ByteArray).data.toList n).toArray⟩ : ByteArray) = R := ⟨_, rfl⟩
  have hsz : R.size = n := by
    rw [← hR]
    show (Lib.repeatL [48] n).toArray.size = n
    rw [repeat_one]; simp
  have HC := Aside0.mk (Tryd.strings_Repeat ⟨#[48]⟩ n w (by omega) (by show 1 * n ≤ _; omega))
  rw [hR] at HC
  have HZ : Aside0 ((⟨#[35, 98]⟩ : ByteArray) ++ R = ⟨(35 :: 98 :: List.replicate ((n : Int)).toNat 48).toArray⟩) := ⟨by
    apply L_ext
    rw [L_mk, ← hR]
    show ((⟨#[35, 98]⟩ : ByteArray) ++ (⟨(Lib.repeatL (⟨#[48]⟩ : ByteArray).data.toList n).toArray⟩ : ByteArray)).data.toList = _
    rw [ByteArray.data_append, Array.toList_append, Int.toNat_natCast]
    show [35, 98] ++ (Lib.repeatL [48] n).toArray.toList = _
    rw [repeat_one]; rfl⟩
  have c3 : 2 + R.size ≤ 9223372036854775807 := by omega
  have c3b0 := eq_true c3
  have c3b1 : decide (2 + R.size ≤ 9223372036854775807) = true := decide_eq_true c3
  have c3b2 : (9223372036854775807 < 2 + R.size) = False := eq_false (Nat.not_lt.2 c3)
  clear c3 hR hsz h1 h2
  go_enter Tryd.func17, Tryd.ntmps17
  go_wp2_with (fail)
  refine Calls.mono HC.out ?_
  rintro e w2 ⟨rfl, hb2⟩
  go_wp2_with (fail)
  go_ret
  exact ⟨by rw [HZ.out]; rfl, hb2⟩
theorem fvL_len (hs : List UInt8 → Bool) (l : List UInt8) : (fvL hs l).length ≤ 68 := by
  unfold fvL
  split
  · have := fv1_len (rdSort hs (rdSort hs l).2.2.2).1 (rdSort hs (rdSort hs l).2.2.2).2.1 (rd_w hs _)
    simp; omega
  · have := fv1_len (rdSort hs l).1 (rdSort hs l).2.1 (rd_w hs _)
    omega
set_option maxHeartbeats 4000000 in
/-- one look at a sort: what is handed back where it is no array's, and what the recursive call hands back where it is -/
theorem fv_walk (A : Option Addr) (c : Nat) (l : List ByteArray) (s : ByteArray) (w : World) (hs : s.size ≤ 1048576) (hT : Tabs w) (hl : Kd.C Kd.string w A l.length l) (hlc : l.length ≤ c) (hll : l.length ≤ 1048576)
    (HREC : Aside0 ((rdSort (has l) (L s)).1 = 6 → ∀ (s' : ByteArray) (W : World), L s' = (rdSort (has l) (L s)).2.2.2 → Tabs W → Kd.C Kd.string W A l.length l →
      Calls Tryd.prog 12 #[.slice A l.length c, .string s'] W fun e w' => e = .returned (.string ⟨(fvL (has l) (rdSort (has l) (L s)).2.2.2).toArray⟩) ∧ Below W.heap.size W w')) :
    Calls Tryd.prog 12 #[.slice A l.length c, .string s] w fun e w' => e = .returned (.string ⟨(fvL (has l) (L s)).toArray⟩) ∧ Below w.heap.size w w' := by
  have HC := Aside0.mk (readSort_call A c l s w hs hT hl hlc hll)
  have HT := Aside0.mk hT
  have HL := Aside0.mk hl
  have HW := Aside0.mk (rd_w (has l) (L s))
  have HE := Aside0.mk (rd_elem (has l) (L s))
  have HF : Aside0 (fvL (has l) (L s) = if (rdSort (has l) (L s)).1 = 6 then 123 :: (fvL (has l) (rdSort (has l) (L s)).2.2.2 ++ [125]) else fv1 (rdSort (has l) (L s)).1 (rdSort (has l) (L s)).2.1) := ⟨by
    unfold fvL
    by_cases h6 : (rdSort (has l) (L s)).1 = 6
    · rw [if_pos h6, if_pos h6, if_neg (rd_elem (has l) (L s) h6).1]
    · rw [if_neg h6, if_neg h6]⟩
  obtain ⟨F, hF⟩ : ∃ F, fvL (has l) (L s) = F := ⟨_, rfl⟩
  rw [hF] at HF ⊢
  clear hF hT hl
  obtain ⟨k, e1, i1, j1, hr⟩ : ∃ k e1 i1 j1, rdSort (has l) (L s) = (k, e1, i1, j1) := ⟨_, _, _, _, rfl⟩
  rw [hr] at HC HREC HW HE HF
  simp only at HREC HW HE HF
  unfold RetS at HC
  simp only at HC
  clear hr
  obtain ⟨I, hI⟩ : ∃ R : ByteArray, (⟨i1.toArray⟩ : ByteArray) = R := ⟨_, rfl⟩
  obtain ⟨J, hJ⟩ : ∃ R : ByteArray, (⟨j1.toArray⟩ : ByteArray) = R := ⟨_, rfl⟩
  rw [hI, hJ] at HC
  have HJ : Aside0 (L J = j1) := ⟨by rw [← hJ, L_mk]⟩
  clear hI hJ
  have HN : Aside0 ((fvL (has l) j1).length ≤ 68) := ⟨fvL_len _ _⟩
  go_enter Tryd.func12, Tryd.ntmps12
  go_wp2_with (fail)
  refine Calls.mono HC.out ?_
  rintro e w2 ⟨rfl, hb2⟩
  have HBB := Aside0.mk (below_alloc hb2 (Obj.cells #[.int .i64 k, .int .i64 e1, .string I, .string J] 25))
  clear hb2
  by_cases k1 : k = 1
  · subst k1
    have HFF : Aside0 ((⟨F.toArray⟩ : ByteArray) = ⟨#[102, 97, 108, 115, 101]⟩) := ⟨by rw [HF.out]; rfl⟩
    go_wp2_with (fail)
    go_ret
    exact ⟨by rw [HFF.out]; rfl, HBB.out⟩
  have k1b0 : (k == 1) = false := beq_eq_false_iff_ne.2 k1
  have k1b1 : (k != 1) = true := bne_iff_ne.2 k1
  by_cases k2 : k = 2
  · subst k2
    have HFF : Aside0 ((⟨F.toArray⟩ : ByteArray) = ⟨#[48]⟩) := ⟨by rw [HF.out]; rfl⟩
    clear k1 k1b0 k1b1
    go_wp2_with (fail)
    go_ret
    exact ⟨by rw [HFF.out]; rfl, HBB.out⟩
  have k2b0 : (k == 2) = false := beq_eq_false_iff_ne.2 k2
  have k2b1 : (k != 2) = true := bne_iff_ne.2 k2
  by_cases k3 : k = 3
  · subst k3
    have HFF : Aside0 ((⟨F.toArray⟩ : ByteArray) = ⟨#[48]⟩) := ⟨by rw [HF.out]; rfl⟩
    clear k1 k1b0 k1b1 k2 k2b0 k2b1
    go_wp2_with (fail)
    go_ret
    exact ⟨by rw [HFF.out]; rfl, HBB.out⟩
  have k3b0 : (k == 3) = false := beq_eq_false_iff_ne.2 k3
  have k3b1 : (k != 3) = true := bne_iff_ne.2 k3
  by_cases k4 : k = 4
  · subst k4
    have HFF : Aside0 ((⟨F.toArray⟩ : ByteArray) = ⟨(35 :: 98 :: List.replicate e1.toNat 48).toArray⟩) := ⟨by rw [HF.out]; rfl⟩
    have HZ := Aside0.mk (fun W => zeros_call e1 (HW.out rfl).1 (HW.out rfl).2 W)
    clear k1 k1b0 k1b1 k2 k2b0 k2b1 k3 k3b0 k3b1
    go_wp2_with (fail)
    refine Calls.mono (HZ.out _) ?_
    rintro e w3 ⟨rfl, hb3⟩
    have HB3 := Aside0.mk (HBB.out.trans (hb3.mono HBB.out.size))
    clear hb3
    go_wp2_with (fail)
    go_ret
    exact ⟨by rw [HFF.out]; rfl, HB3.out⟩
  have k4b0 : (k == 4) = false := beq_eq_false_iff_ne.2 k4
  have k4b1 : (k != 4) = true := bne_iff_ne.2 k4
  by_cases k5 : k = 5
  · subst k5
    have HFF : Aside0 ((⟨F.toArray⟩ : ByteArray) = ⟨#[64, 48]⟩) := ⟨by rw [HF.out]; rfl⟩
    clear k1 k1b0 k1b1 k2 k2b0 k2b1 k3 k3b0 k3b1 k4 k4b0 k4b1
    go_wp2_with (fail)
    go_ret
    exact ⟨by rw [HFF.out]; rfl, HBB.out⟩
  have k5b0 : (k == 5) = false := beq_eq_false_iff_ne.2 k5
  have k5b1 : (k != 5) = true := bne_iff_ne.2 k5
  by_cases k6 : k = 6
  · subst k6
    obtain ⟨R, hR⟩ : ∃ R : ByteArray, (⟨(fvL (has l) j1).toArray⟩ : ByteArray) = R := ⟨_, rfl⟩
    have hsz : R.size ≤ 68 := by rw [← L_length, ← hR, L_mk]; exact HN.out
    have hRC : ∀ W : World, Tabs W → Kd.C Kd.string W A l.length l → Calls Tryd.prog 12 #[.slice A l.length c, .string J] W fun e w' => e = Ending.returned (Value.string R) ∧ Below W.heap.size W w' := fun W h1 h2 => by
      rw [← hR]; exact HREC.out rfl J W HJ.out h1 h2
    have HRC := Aside0.mk hRC
    clear hRC
    have q1 : 1 + R.size ≤ 9223372036854775807 := by omega
    have q1b0 := eq_true q1
    have q1b1 : decide (1 + R.size ≤ 9223372036854775807) = true := decide_eq_true q1
    have q1b2 : (9223372036854775807 < 1 + R.size) = False := eq_false (Nat.not_lt.2 q1)
    have q2 : ((⟨#[123]⟩ : ByteArray) ++ R).size + 1 ≤ 9223372036854775807 := by rw [ByteArray.size_append, show (⟨#[123]⟩ : ByteArray).size = 1 from rfl]; omega
    have q2b0 := eq_true q2
    have q2b1 : decide (((⟨#[123]⟩ : ByteArray) ++ R).size + 1 ≤ 9223372036854775807) = true := decide_eq_true q2
    have q2b2 : (9223372036854775807 < ((⟨#[123]⟩ : ByteArray) ++ R).size + 1) = False := eq_false (Nat.not_lt.2 q2)
    have q2b3 : (9223372036854775807 < 1 + R.size + 1) = False := eq_false (by omega)
    have HFF : Aside0 ((⟨F.toArray⟩ : ByteArray) = ((⟨#[123]⟩ : ByteArray) ++ R) ++ (⟨#[125]⟩ : ByteArray)) := ⟨by
      apply L_ext
      rw [L_mk, HF.out, if_pos rfl, ← hR]
      show _ = (((⟨#[123]⟩ : ByteArray) ++ (⟨(fvL (has l) j1).toArray⟩ : ByteArray)) ++ (⟨#[125]⟩ : ByteArray)).data.toList
      rw [ByteArray.data_append, ByteArray.data_append, Array.toList_append, Array.toList_append]
      rfl⟩
    clear k1 k1b0 k1b1 k2 k2b0 k2b1 k3 k3b0 k3b1 k4 k4b0 k4b1 k5 k5b0 k5b1 q1 q2 hR hsz
    go_wp2_with (fail)
    refine Calls.mono (HRC.out _ (HT.out.below HBB.out) (Kd.C_below HL.out HBB.out)) ?_
    rintro e w3 ⟨rfl, hb3⟩
    have HB3 := Aside0.mk (HBB.out.trans (hb3.mono HBB.out.size))
    clear hb3
    go_wp2_with (fail)
    go_ret
    exact ⟨by rw [HFF.out]; rfl, HB3.out⟩
  have k6b0 : (k == 6) = false := beq_eq_false_iff_ne.2 k6
  have k6b1 : (k != 6) = true := bne_iff_ne.2 k6
  have HFF : Aside0 ((⟨F.toArray⟩ : ByteArray) = ⟨#[]⟩) := ⟨by
    rw [HF.out, if_neg k6]
    unfold fv1
    rw [if_neg k1, if_neg (by rintro (h | h); exact k2 h; exact k3 h), if_neg k4, if_neg k5]⟩
  clear k1 k2 k3 k4 k5 k6
  go_wp2_with (fail)
  go_ret
  exact ⟨by rw [HFF.out]; rfl, HBB.out⟩
/-- impl.FirstValue -/
theorem fv_call (A : Option Addr) (c : Nat) (l : List ByteArray) (s : ByteArray) (w : World) (hs : s.size ≤ 1048576) (hT : Tabs w) (hl : Kd.C Kd.string w A l.length l) (hlc : l.length ≤ c) (hll : l.length ≤ 1048576) :
    Calls Tryd.prog 12 #[.slice A l.length c, .string s] w fun e w' => e = .returned (.string ⟨(fvL (has l) (L s)).toArray⟩) ∧ Below w.heap.size w w' := by
  refine fv_walk A c l s w hs hT hl hlc hll ⟨fun h6 s' W hs' hT' hl' => ?_⟩
  have hel := rd_elem (has l) (L s) h6
  rw [← hs'] at hel ⊢
  have hsz : s'.size ≤ 1048576 := by have := hel.2; rw [L_length, L_length] at this; omega
  exact fv_walk A c l s' W hsz hT' hl' hlc hll ⟨fun h => absurd h hel.1⟩
/-- impl.FirstValue, as the print wants it -/
def _root_.Go.Proofs.YthfjiaodhladmaaDoor.PFnExactReadSort.impl_FirstValue.f (l : List ByteArray) (s : ByteArray) : Option ByteArray := if l.length ≤ 1048576 ∧ s.size ≤ 1048576 then some (⟨(fvL (has l) (L s)).toArray⟩ : ByteArray) else none
theorem _root_.Go.Proofs.YthfjiaodhladmaaDoor.PFnExactReadSort.impl_FirstValue.calls {w : World} (hT : RS.Tabs w) (A0 : Option Addr) (c0 : Nat) (l0 : List ByteArray) (a1 : ByteArray) (r : ByteArray) (hr0 : Kd.C Kd.string w A0 l0.length l0) (hc0 : l0.length ≤ c0) (h : PFnExactReadSort.impl_FirstValue.f l0 a1 = some r) :
    Calls Tryd.prog 12 #[.slice A0 l0.length c0, .string a1] w fun e w' => e = .returned (.string r) ∧ Below w.heap.size w w' := by
  unfold PFnExactReadSort.impl_FirstValue.f at h
  split at h
  · rename_i hc
    obtain rfl := Option.some.inj h
    exact fv_call A0 c0 l0 a1 w hc.2 hT hr0 hc0 hc.1
  · cases h
end Go.Proofs.YthfjiaodhladmaaDoor.FV

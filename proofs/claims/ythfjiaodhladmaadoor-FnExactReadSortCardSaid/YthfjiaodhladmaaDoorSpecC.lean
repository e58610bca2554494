/- spec.ReadSort: what it computes, second part. -/
import Derived.Test.YthfjiaodhladmaaDoorSpecB
namespace Go.Proofs.YthfjiaodhladmaaDoor.RS
open Go.RowKit Go.Proofs.YthfjiaodhladmaaDoor Go.Proofs.YthfjiaodhladmaaDoorW.PrintWords Go.Proofs.YthfjiaodhladmaaDoorW.PrintLast Go.Proofs.YthfjiaodhladmaaDoorW.PrintMore Go.Proofs.YthfjiaodhladmaaDoor.By Go.Proofs.YthfjiaodhladmaaDoor.PFnExactReadSort Go.Proofs.YthfjiaodhladmaaDoor.Srt Go.Proofs.YthfjiaodhladmaaDoor.Num
set_option linter.unusedVariables false
set_option linter.unusedSimpArgs false
theorem simp_j0 (l : List ByteArray) (hl : l.length ≤ 1048576) (s : ByteArray) (hs : s.size ≤ 1048576) :
    ∀ nm, nm = (if 2 ≤ (L s).length ∧ (L s)[0]? = some 124 ∧ (L s)[(L s).length - 1]? = some 124 then ((L s).drop 1).take ((L s).length - 1 - 1) else (L s)) →
    Evt (fun k => spec_l4Simple.j0 k l s false) (infB (if isSym nm = true ∧ symText nm = L s ∧ has l nm = true then (5, 0) else (0, 0))) := by
  intro nm hnm
  have hwl : 1 ≤ s.size → wrap64 ((s.size : Int) - 1) = ((s.size - 1 : Nat) : Int) := fun h => by rw [wrap_ok (by omega) (by omega)]; omega
  have jf : Evt (fun k => spec_l4Simple.j1 k l s s false) (infB (if isSym (L s) = true ∧ symText (L s) = L s ∧ has l (L s) = true then (5, 0) else (0, 0))) :=
    Evt.succ (fun k => by simp only [spec_l4Simple.j1]; rw [if_neg (by decide)]) (simp_j2 l hl s s hs)
  by_cases h2 : 2 ≤ s.size
  · have hb0 := bt_eq_iff s 0 (by omega) 124 (by omega)
    by_cases h0 : (L s)[0]? = some 124
    · have hb : bt s 0 = 124 := hb0.2 h0
      have hl124 := lastB s (by omega) 124 (by omega)
      by_cases hz : (L s)[(L s).length - 1]? = some 124
      · have hx : (bt s ((s.size - 1 : Nat) : Int) == 124) = true := hl124.trans (decide_eq_true hz)
        have jt : Evt (fun k => spec_l4Simple.j1 k l s s true) (infB (if isSym (((L s).drop 1).take ((L s).length - 1 - 1)) = true ∧ symText (((L s).drop 1).take ((L s).length - 1 - 1)) = L s ∧ has l (((L s).drop 1).take ((L s).length - 1 - 1)) = true then (5, 0) else (0, 0))) := by
          have he : L (s.extract 1 (s.size - 1)) = ((L s).drop 1).take ((L s).length - 1 - 1) := by rw [L_extract, L_length]
          rw [← he]
          refine Evt.succ (fun k => by simp only [spec_l4Simple.j1]; rw [if_pos trivial, hwl (by omega), if_pos (by omega), if_pos (by omega), Int.toNat_natCast]) (simp_j2 l hl s _ ?_)
          rw [size_extract s 1 (s.size - 1) (by omega)]; omega
        rw [if_pos ⟨by rw [L_length]; exact h2, h0, hz⟩] at hnm
        subst hnm
        exact Evt.succ (fun k => by simp only [spec_l4Simple.j0]; rw [if_neg (by decide), if_pos (by omega), if_pos (by omega), if_pos hb, hwl (by omega), if_pos (by omega), if_pos (by omega), hx]) jt
      · have hx : (bt s ((s.size - 1 : Nat) : Int) == 124) = false := hl124.trans (decide_eq_false hz)
        rw [if_neg (by rintro ⟨_, _, h⟩; exact hz h)] at hnm
        subst hnm
        exact Evt.succ (fun k => by simp only [spec_l4Simple.j0]; rw [if_neg (by decide), if_pos (by omega), if_pos (by omega), if_pos hb, hwl (by omega), if_pos (by omega), if_pos (by omega), hx]) jf
    · have hb : ¬ bt s 0 = 124 := fun e => h0 (hb0.1 e)
      rw [if_neg (by rintro ⟨_, h, _⟩; exact h0 h)] at hnm
      subst hnm
      exact Evt.succ (fun k => by simp only [spec_l4Simple.j0]; rw [if_neg (by decide), if_pos (by omega), if_pos (by omega), if_neg hb]) jf
  · rw [if_neg (by rintro ⟨h, _, _⟩; rw [L_length] at h; exact h2 h)] at hnm
    subst hnm
    exact Evt.succ (fun k => by simp only [spec_l4Simple.j0]; rw [if_neg (by decide), if_neg (by omega)]) jf
theorem s_simple (l : List ByteArray) (hl : l.length ≤ 1048576) (s : ByteArray) (hs : s.size ≤ 1048576) : Evt (fun k => spec_l4Simple.f k l s) (infB (simpleL (has l) (L s))) := by
  have hwl : 1 ≤ s.size → wrap64 ((s.size : Int) - 1) = ((s.size - 1 : Nat) : Int) := fun h => by rw [wrap_ok (by omega) (by omega)]; omega
  unfold simpleL
  by_cases n1 : L s = tBool
  · rw [if_pos n1]
    exact Evt.pure fun k => by unfold spec_l4Simple.f; rw [if_pos (by rw [toList_L]; exact n1)]; rfl
  have m1 : ¬ s.toList = ([66, 111, 111, 108] : List UInt8) := by rw [toList_L]; exact n1
  rw [if_neg n1]
  by_cases n2 : L s = tInt
  · rw [if_pos n2]
    exact Evt.pure fun k => by unfold spec_l4Simple.f; rw [if_neg m1, if_pos (by rw [toList_L]; exact n2)]; rfl
  have m2 : ¬ s.toList = ([73, 110, 116] : List UInt8) := by rw [toList_L]; exact n2
  rw [if_neg n2]
  by_cases n3 : L s = tReal
  · rw [if_pos n3]
    exact Evt.pure fun k => by unfold spec_l4Simple.f; rw [if_neg m1, if_neg m2, if_pos (by rw [toList_L]; exact n3)]; rfl
  have m3 : ¬ s.toList = ([82, 101, 97, 108] : List UInt8) := by rw [toList_L]; exact n3
  rw [if_neg n3]
  have hj := simp_j0 l hl s hs _ rfl
  by_cases h11 : 11 < s.size
  · have hex : (s.extract 0 10).toList = (L s).take 10 := by rw [toList_L, L_extract, List.drop_zero]
    by_cases hp : (L s).take 10 = pfxB
    · have hpe : (s.extract 0 10).toList = ([40, 95, 32, 66, 105, 116, 86, 101, 99, 32] : List UInt8) := hex.trans hp
      have hlz := lastB s (by omega) 41 (by omega)
      by_cases hz : (L s)[(L s).length - 1]? = some 41
      · have hx : (bt s ((s.size - 1 : Nat) : Int) == 41) = true := hlz.trans (decide_eq_true hz)
        rw [if_pos ⟨by rw [L_length]; exact h11, hp, hz⟩]
        refine Evt.same (fun k => by unfold spec_l4Simple.f; rw [if_neg m1, if_neg m2, if_neg m3, if_pos (by omega), if_pos (by omega), if_pos (by omega), if_pos hpe, hwl (by omega), if_pos (by omega), if_pos (by omega), hx]) ?_
        have he : L (s.extract 10 (s.size - 1)) = ((L s).drop 10).take ((L s).length - 1 - 10) := by rw [L_extract, L_length]
        rw [← he]
        refine Evt.succ (fun k => by simp only [spec_l4Simple.j0]; rw [if_pos trivial, hwl (by omega), if_pos (by omega), if_pos (by omega), Int.toNat_natCast]) (Evt.bind (s_dec _) ?_)
        refine Evt.pure fun k => ?_
        by_cases g1 : decL (L (s.extract 10 (s.size - 1))) ≥ 1
        · rw [if_pos g1]
          by_cases g2 : decL (L (s.extract 10 (s.size - 1))) ≤ 64
          · rw [if_pos g2, if_pos ⟨g1, g2⟩]; rfl
          · rw [if_neg g2, if_neg (by rintro ⟨_, h⟩; exact g2 h)]; rfl
        · rw [if_neg g1, if_neg (by rintro ⟨h, _⟩; exact g1 h)]; rfl
      · have hx : (bt s ((s.size - 1 : Nat) : Int) == 41) = false := hlz.trans (decide_eq_false hz)
        rw [if_neg (by rintro ⟨_, _, h⟩; exact hz h)]
        exact Evt.same (fun k => by unfold spec_l4Simple.f; rw [if_neg m1, if_neg m2, if_neg m3, if_pos (by omega), if_pos (by omega), if_pos (by omega), if_pos hpe, hwl (by omega), if_pos (by omega), if_pos (by omega), hx]) hj
    · rw [if_neg (by rintro ⟨_, h, _⟩; exact hp h)]
      exact Evt.same (fun k => by unfold spec_l4Simple.f; rw [if_neg m1, if_neg m2, if_neg m3, if_pos (by omega), if_pos (by omega), if_pos (by omega), if_neg (by rw [hex]; exact hp)]) hj
  · rw [if_neg (by rintro ⟨h, _, _⟩; rw [L_length] at h; exact h11 h)]
    exact Evt.same (fun k => by unfold spec_l4Simple.f; rw [if_neg m1, if_neg m2, if_neg m3, if_neg (by omega)]) hj
/-- what spec.ReadSort hands back, its texts as lists -/
def LS (r : Int × Int × ByteArray × ByteArray) : Sr := (r.1, r.2.1, L r.2.2.1, L r.2.2.2)
theorem LS_infB (r : Int × Int) : LS (infB r) = (r.1, r.2, [], []) := rfl
theorem rs_arr (l : List ByteArray) (hl : l.length ≤ 1048576) (s : ByteArray) (hs : s.size ≤ 1048576) (h8 : 8 < s.size) : ∃ r, Evt (fun k => spec_ReadSort.j0 k l s true) r ∧ LS r = spArr (has l) ((L s).drop 7) := by
  have hwl : wrap64 ((s.size : Int) - 1) = ((s.size - 1 : Nat) : Int) := by rw [wrap_ok (by omega) (by omega)]; omega
  have hilen : ((L s).drop 7).length = s.size - 7 := by rw [List.length_drop, L_length]
  have hp : Evt (fun k => spec_l4Part.f k s 7) (endI 7 (partL ((L s).drop 7))) := s_part s hs 7 (by omega)
  have zT : ∀ e : Int, Evt (fun k => spec_ReadSort.j1 k l s e true) (0, 0, (⟨#[]⟩ : ByteArray), (⟨#[]⟩ : ByteArray)) := fun e => Evt.succ (g := fun _ => some (0, 0, (⟨#[]⟩ : ByteArray), (⟨#[]⟩ : ByteArray))) (fun k => by simp only [spec_ReadSort.j1]; rw [if_pos trivial]) (Evt.pure fun _ => rfl)
  unfold spArr
  cases ha : partL ((L s).drop 7) with
  | none =>
    rw [ha] at hp
    refine ⟨_, Evt.succ (fun k => by simp only [spec_ReadSort.j0]; rw [if_pos trivial]) (Evt.bind hp (Evt.same (fun k => if_pos (show (-1 : Int) < 0 by decide)) (zT _))), rfl⟩
  | some a =>
    rw [ha] at hp
    have he : endI 7 (some a) = ((7 + a : Nat) : Int) := rfl
    rw [he] at hp
    simp only
    by_cases hlt : 7 + a < s.size
    · have h32 := bt_eq_iff s (7 + a) hlt 32 (by omega)
      by_cases hs32 : ((L s).drop 7)[a]? = some 32
      · rw [if_pos hs32]
        rw [List.getElem?_drop] at hs32
        have hb : bt s ((7 + a : Nat) : Int) = 32 := h32.2 hs32
        have hb2 : (bt s ((7 + a : Nat) : Int) != 32) = false := by rw [hb]; rfl
        have hd : ((L s).drop 7).drop (a + 1) = (L s).drop (7 + a + 1) := by rw [List.drop_drop]; congr 1
        have hw1 : wrap64 (((7 + a : Nat) : Int) + 1) = ((7 + a + 1 : Nat) : Int) := wrap_ok (by omega) (by omega)
        have hq := s_part s hs (7 + a + 1) (by omega)
        rw [hd]
        have go : ∀ r, Evt (fun k => (fun k (t118 : Int) => if t118 = ((s.size - 1 : Nat) : Int) then (if 7 ≤ ((7 + a : Nat) : Int) then (if ((7 + a : Nat) : Int) ≤ (s.size : Int) then (if 0 ≤ ((7 + a + 1 : Nat) : Int) then (if ((7 + a + 1 : Nat) : Int) ≤ t118 then (if t118 ≤ (s.size : Int) then ((spec_l4Simple.f k l (s.extract 7 (((7 + a : Nat) : Int) : Int).toNat)).bind fun bt119 => ((spec_l4Simple.f k l (s.extract (((7 + a + 1 : Nat) : Int) : Int).toNat (t118 : Int).toNat)).bind fun bt124 => (if bt119.1 = 0 then (some (0, 0, (⟨#[]⟩ : ByteArray), (⟨#[]⟩ : ByteArray))) else (if bt124.1 = 0 then (some (0, 0, (⟨#[]⟩ : ByteArray), (⟨#[]⟩ : ByteArray))) else (if bt119.1 = 1 then (some (0, 0, (⟨#[]⟩ : ByteArray), (⟨#[]⟩ : ByteArray))) else (if bt124.1 = 1 then (some (0, 0, (⟨#[]⟩ : ByteArray), (⟨#[]⟩ : ByteArray))) else (some (6, 0, s.extract 7 (((7 + a : Nat) : Int) : Int).toNat, s.extract (((7 + a + 1 : Nat) : Int) : Int).toNat (t118 : Int).toNat)))))))) else (none)) else (none)) else (none)) else (none)) else (none)) else (some (0, 0, (⟨#[]⟩ : ByteArray), (⟨#[]⟩ : ByteArray)))) k (endI (7 + a + 1) (partL ((L s).drop (7 + a + 1))))) r →
            Evt (fun k => spec_ReadSort.j0 k l s true) r := fun r h => by
          refine Evt.succ (fun k => by simp only [spec_ReadSort.j0]; rw [if_pos trivial]) (Evt.bind hp (Evt.same (fun k => by rw [if_neg (by omega), if_neg (by omega), if_pos (by omega), if_pos (by omega), hb2]) ?_))
          exact Evt.succ (fun k => by simp only [spec_ReadSort.j1]; rw [if_neg (by decide), hw1, hwl]) (Evt.bind hq h)
        cases hb' : partL ((L s).drop (7 + a + 1)) with
        | none =>
          rw [hb'] at go
          exact ⟨_, go _ (Evt.pure fun k => if_neg (by show ¬ (-1 : Int) = _; omega)), rfl⟩
        | some b =>
          rw [hb'] at go
          have he2 : endI (7 + a + 1) (some b) = ((7 + a + 1 + b : Nat) : Int) := rfl
          rw [he2] at go
          simp only
          by_cases hlen : a + 1 + b + 1 = ((L s).drop 7).length
          · rw [if_pos hlen]
            have hsz : 7 + a + 1 + b = s.size - 1 := by rw [hilen] at hlen; omega
            rw [hsz] at go
            simp only [Int.toNat_natCast] at go
            have hx1 : L (s.extract 7 (7 + a)) = ((L s).drop 7).take a := by rw [L_extract]; congr 1; omega
            have hx2 : L (s.extract (7 + a + 1) (s.size - 1)) = ((L s).drop (7 + a + 1)).take b := by rw [L_extract]; congr 1; omega
            have s1 := s_simple l hl (s.extract 7 (7 + a)) (by rw [size_extract s 7 (7 + a) (by omega)]; omega)
            have s2 := s_simple l hl (s.extract (7 + a + 1) (s.size - 1)) (by rw [size_extract s (7 + a + 1) (s.size - 1) (by omega)]; omega)
            rw [hx1] at s1
            rw [hx2] at s2
            generalize simpleL (has l) (((L s).drop 7).take a) = x at s1 ⊢
            generalize simpleL (has l) (((L s).drop (7 + a + 1)).take b) = y at s2 ⊢
            have fin : ∀ r, (∀ k : Nat, (if x.1 = 0 then (some (0, 0, (⟨#[]⟩ : ByteArray), (⟨#[]⟩ : ByteArray))) else (if y.1 = 0 then (some (0, 0, (⟨#[]⟩ : ByteArray), (⟨#[]⟩ : ByteArray))) else (if x.1 = 1 then (some (0, 0, (⟨#[]⟩ : ByteArray), (⟨#[]⟩ : ByteArray))) else (if y.1 = 1 then (some (0, 0, (⟨#[]⟩ : ByteArray), (⟨#[]⟩ : ByteArray))) else (some (6, 0, s.extract 7 (7 + a), s.extract (7 + a + 1) (s.size - 1))))))) = some r) → Evt (fun k => spec_ReadSort.j0 k l s true) r := fun r h =>
              go r (Evt.same (fun k => by rw [if_pos trivial, if_pos (by omega), if_pos (by omega), if_pos (by omega), if_pos (by omega), if_pos (by omega)]) (Evt.bind s1 (Evt.bind s2 (Evt.pure h))))
            by_cases x0 : x.1 = 0
            · refine ⟨_, fin _ fun k => if_pos x0, ?_⟩
              rw [if_pos (by unfold badK; rw [x0]; rfl)]; rfl
            by_cases y0 : y.1 = 0
            · refine ⟨_, fin _ fun k => by rw [if_neg x0, if_pos y0], ?_⟩
              rw [if_pos (by unfold badK; rw [y0]; simp)]; rfl
            by_cases x1 : x.1 = 1
            · refine ⟨_, fin _ fun k => by rw [if_neg x0, if_neg y0, if_pos x1], ?_⟩
              rw [if_pos (by unfold badK; rw [x1]; simp)]; rfl
            by_cases y1 : y.1 = 1
            · refine ⟨_, fin _ fun k => by rw [if_neg x0, if_neg y0, if_neg x1, if_pos y1], ?_⟩
              rw [if_pos (by unfold badK; rw [y1]; simp)]; rfl
            refine ⟨_, fin _ fun k => by rw [if_neg x0, if_neg y0, if_neg x1, if_neg y1], ?_⟩
            rw [if_neg (by rw [badK_no.2 ⟨x0, x1⟩, badK_no.2 ⟨y0, y1⟩]; decide), ← hx1, ← hx2]; rfl
          · rw [if_neg hlen]
            exact ⟨_, go _ (Evt.pure fun k => if_neg (by rw [hilen] at hlen; omega)), rfl⟩
      · rw [if_neg hs32]
        rw [List.getElem?_drop] at hs32
        have hb2 : (bt s ((7 + a : Nat) : Int) != 32) = true := by
          rw [bne_iff_ne]; exact fun e => hs32 (h32.1 e)
        exact ⟨_, Evt.succ (fun k => by simp only [spec_ReadSort.j0]; rw [if_pos trivial]) (Evt.bind hp (Evt.same (fun k => by rw [if_neg (by omega), if_neg (by omega), if_pos (by omega), if_pos (by omega), hb2]) (zT _))), rfl⟩
    · rw [if_neg (fun h => hlt (by have := (List.getElem?_eq_some_iff.1 h).1; omega))]
      exact ⟨_, Evt.succ (fun k => by simp only [spec_ReadSort.j0]; rw [if_pos trivial]) (Evt.bind hp (Evt.same (fun k => by rw [if_neg (by omega), if_pos (by omega)]) (zT _))), rfl⟩
theorem s_readSort (l : List ByteArray) (hl : l.length ≤ 1048576) (s : ByteArray) (hs : s.size ≤ 1048576) : ∃ r, Evt (fun k => spec_ReadSort.f k l s) r ∧ LS r = rdSort (has l) (L s) := by
  rw [← spS_eq]
  have hwl : 1 ≤ s.size → wrap64 ((s.size : Int) - 1) = ((s.size - 1 : Nat) : Int) := fun h => by rw [wrap_ok (by omega) (by omega)]; omega
  have jf : Evt (fun k => spec_ReadSort.j0 k l s false) (infB (simpleL (has l) (L s))) :=
    Evt.succ (fun k => by simp only [spec_ReadSort.j0]; rw [if_neg (by decide)]) (Evt.bind (s_simple l hl s hs) (Evt.pure fun _ => rfl))
  unfold spS
  by_cases h8 : 8 < s.size
  · have hex : (s.extract 0 7).toList = (L s).take 7 := by rw [toList_L, L_extract, List.drop_zero]
    by_cases hp : (L s).take 7 = pfxA
    · have hpe : (s.extract 0 7).toList = ([40, 65, 114, 114, 97, 121, 32] : List UInt8) := hex.trans hp
      have hlz := lastB s (by omega) 41 (by omega)
      by_cases hz : (L s)[(L s).length - 1]? = some 41
      · have hx : (bt s ((s.size - 1 : Nat) : Int) == 41) = true := hlz.trans (decide_eq_true hz)
        rw [if_pos ⟨by rw [L_length]; exact h8, hp, hz⟩]
        obtain ⟨r, hr, hr2⟩ := rs_arr l hl s hs h8
        exact ⟨r, Evt.same (fun k => by unfold spec_ReadSort.f; rw [if_pos (by omega), if_pos (by omega), if_pos (by omega), if_pos hpe, hwl (by omega), if_pos (by omega), if_pos (by omega), hx]) hr, hr2⟩
      · have hx : (bt s ((s.size - 1 : Nat) : Int) == 41) = false := hlz.trans (decide_eq_false hz)
        rw [if_neg (by rintro ⟨_, _, h⟩; exact hz h)]
        exact ⟨_, Evt.same (fun k => by unfold spec_ReadSort.f; rw [if_pos (by omega), if_pos (by omega), if_pos (by omega), if_pos hpe, hwl (by omega), if_pos (by omega), if_pos (by omega), hx]) jf, rfl⟩
    · rw [if_neg (by rintro ⟨_, h, _⟩; exact hp h)]
      exact ⟨_, Evt.same (fun k => by unfold spec_ReadSort.f; rw [if_pos (by omega), if_pos (by omega), if_pos (by omega), if_neg (by rw [hex]; exact hp)]) jf, rfl⟩
  · rw [if_neg (by rintro ⟨h, _, _⟩; rw [L_length] at h; exact h8 h)]
    exact ⟨_, Evt.same (fun k => by unfold spec_ReadSort.f; rw [if_neg (by omega)]) jf, rfl⟩
end Go.Proofs.YthfjiaodhladmaaDoor.RS

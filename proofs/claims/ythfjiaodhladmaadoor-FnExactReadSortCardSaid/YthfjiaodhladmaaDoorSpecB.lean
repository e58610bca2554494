/- spec.ReadSort: what it computes. -/
import Derived.Test.YthfjiaodhladmaaDoorSrtE
namespace Go.Proofs.YthfjiaodhladmaaDoor.RS
open Go.RowKit Go.Proofs.YthfjiaodhladmaaDoor Go.Proofs.YthfjiaodhladmaaDoorW.PrintWords Go.Proofs.YthfjiaodhladmaaDoorW.PrintLast Go.Proofs.YthfjiaodhladmaaDoorW.PrintMore Go.Proofs.YthfjiaodhladmaaDoor.By Go.Proofs.YthfjiaodhladmaaDoor.PFnExactReadSort Go.Proofs.YthfjiaodhladmaaDoor.Srt Go.Proofs.YthfjiaodhladmaaDoor.Num
set_option linter.unusedVariables false
set_option linter.unusedSimpArgs false
/-- a part's end in a text: where it stands, -1 where there is none -/
def endI (i : Nat) : Option Nat → Int
  | some n => ((i + n : Nat) : Int)
  | none => -1
theorem endI_map (i : Nat) (o : Option Nat) : endI (i + 1) o = endI i (o.map (· + 1)) := by
  cases o with
  | none => rfl
  | some n => show ((i + 1 + n : Nat) : Int) = ((i + (n + 1) : Nat) : Int); omega
theorem part_l0 (s : ByteArray) (hs : s.size ≤ 1048576) : ∀ (d i : Nat), i ≤ s.size → s.size - i = d → Evt (fun k => spec_l4Part.l0 k s (i : Int)) (endI i (p0 ((L s).drop i))) := by
  intro d
  induction d with
  | zero =>
    intro i hi hd
    rw [drop_all s i (by omega)]
    exact Evt.succ (g := fun _ => some (-1)) (fun k => by simp only [spec_l4Part.l0]; rw [if_neg (by omega)]) (Evt.pure fun _ => rfl)
  | succ d ih =>
    intro i hi hd
    have hlt : i < s.size := by omega
    have hw1 : wrap64 ((i : Int) + 1) = ((i + 1 : Nat) : Int) := wrap_ok (by omega) (by omega)
    obtain ⟨x, hx⟩ : ∃ x, (L s)[i]'(by rw [L_length]; exact hlt) = x := ⟨_, rfl⟩
    have hb : bt s (i : Int) = (x.toNat : Int) := by rw [bt_get s i hlt, hx]
    rw [drop_cons s i hlt, hx]
    by_cases h1 : x = 41
    · subst h1
      exact Evt.succ (g := fun _ => some ((i + 1 : Nat) : Int)) (fun k => by simp only [spec_l4Part.l0]; rw [if_pos (by omega), if_pos (by omega), hb, if_pos (by decide), hw1]) (Evt.pure fun _ => rfl)
    · have g1 : ¬ ((x.toNat : Int) = 41) := fun e => h1 ((u8i x 41 (by omega)).1 e)
      by_cases h2 : x = 124
      · subst h2
        exact Evt.succ (g := fun _ => some (-1)) (fun k => by simp only [spec_l4Part.l0]; rw [if_pos (by omega), if_pos (by omega), hb, if_neg g1, if_pos (by decide)]) (Evt.pure fun _ => rfl)
      · have g2 : ¬ ((x.toNat : Int) = 124) := fun e => h2 ((u8i x 124 (by omega)).1 e)
        have hp : p0 (x :: (L s).drop (i + 1)) = (p0 ((L s).drop (i + 1))).map (· + 1) := by
          show (if x = 41 then _ else _) = _
          rw [if_neg h1, if_neg h2]
        rw [hp, ← endI_map]
        exact Evt.succ (fun k => by simp only [spec_l4Part.l0]; rw [if_pos (by omega), if_pos (by omega), hb, if_neg g1, if_neg g2, hw1]) (ih (i + 1) (by omega) (by omega))
theorem part_l1 (s : ByteArray) (hs : s.size ≤ 1048576) : ∀ (d i : Nat), i ≤ s.size → s.size - i = d → Evt (fun k => spec_l4Part.l1 k s (i : Int)) (endI i (p1 ((L s).drop i))) := by
  intro d
  induction d with
  | zero =>
    intro i hi hd
    rw [drop_all s i (by omega)]
    exact Evt.succ (g := fun _ => some (-1)) (fun k => by simp only [spec_l4Part.l1]; rw [if_neg (by omega)]) (Evt.pure fun _ => rfl)
  | succ d ih =>
    intro i hi hd
    have hlt : i < s.size := by omega
    have hw1 : wrap64 ((i : Int) + 1) = ((i + 1 : Nat) : Int) := wrap_ok (by omega) (by omega)
    obtain ⟨x, hx⟩ : ∃ x, (L s)[i]'(by rw [L_length]; exact hlt) = x := ⟨_, rfl⟩
    have hb : bt s (i : Int) = (x.toNat : Int) := by rw [bt_get s i hlt, hx]
    rw [drop_cons s i hlt, hx]
    by_cases h2 : x = 124
    · subst h2
      exact Evt.succ (g := fun _ => some ((i + 1 : Nat) : Int)) (fun k => by simp only [spec_l4Part.l1]; rw [if_pos (by omega), if_pos (by omega), hb, if_pos (by decide), hw1]) (Evt.pure fun _ => rfl)
    · have g2 : ¬ ((x.toNat : Int) = 124) := fun e => h2 ((u8i x 124 (by omega)).1 e)
      have hp : p1 (x :: (L s).drop (i + 1)) = (p1 ((L s).drop (i + 1))).map (· + 1) := by
        show (if x = 124 then _ else _) = _
        rw [if_neg h2]
      rw [hp, ← endI_map]
      exact Evt.succ (fun k => by simp only [spec_l4Part.l1]; rw [if_pos (by omega), if_pos (by omega), hb, if_neg g2, hw1]) (ih (i + 1) (by omega) (by omega))
theorem part_l2 (s : ByteArray) (hs : s.size ≤ 1048576) : ∀ (d i : Nat), i ≤ s.size → s.size - i = d → Evt (fun k => spec_l4Part.l2 k s (i : Int)) ((i + p2 ((L s).drop i) : Nat) : Int) := by
  intro d
  induction d with
  | zero =>
    intro i hi hd
    rw [drop_all s i (by omega)]
    exact Evt.succ (g := fun _ => some (i : Int)) (fun k => by simp only [spec_l4Part.l2]; rw [if_neg (by omega)]) (Evt.pure fun _ => rfl)
  | succ d ih =>
    intro i hi hd
    have hlt : i < s.size := by omega
    have hw1 : wrap64 ((i : Int) + 1) = ((i + 1 : Nat) : Int) := wrap_ok (by omega) (by omega)
    obtain ⟨x, hx⟩ : ∃ x, (L s)[i]'(by rw [L_length]; exact hlt) = x := ⟨_, rfl⟩
    have hb : bt s (i : Int) = (x.toNat : Int) := by rw [bt_get s i hlt, hx]
    rw [drop_cons s i hlt, hx]
    by_cases h1 : x = 32
    · subst h1
      exact Evt.succ (g := fun _ => some (i : Int)) (fun k => by simp only [spec_l4Part.l2]; rw [if_pos (by omega), if_pos (by omega), hb, if_pos (by decide)]) (Evt.pure fun _ => rfl)
    · have g1 : ¬ ((x.toNat : Int) = 32) := fun e => h1 ((u8i x 32 (by omega)).1 e)
      by_cases h2 : x = 41
      · subst h2
        exact Evt.succ (g := fun _ => some (i : Int)) (fun k => by simp only [spec_l4Part.l2]; rw [if_pos (by omega), if_pos (by omega), hb, if_neg g1, if_pos (by decide)]) (Evt.pure fun _ => rfl)
      · have g2 : ¬ ((x.toNat : Int) = 41) := fun e => h2 ((u8i x 41 (by omega)).1 e)
        have hp : p2 (x :: (L s).drop (i + 1)) = p2 ((L s).drop (i + 1)) + 1 := by
          show (if x = 32 then _ else _) = _
          rw [if_neg h1, if_neg h2]
        rw [hp, show i + (p2 ((L s).drop (i + 1)) + 1) = i + 1 + p2 ((L s).drop (i + 1)) by omega]
        exact Evt.succ (fun k => by simp only [spec_l4Part.l2]; rw [if_pos (by omega), if_pos (by omega), hb, if_neg g1, if_neg g2, hw1]) (ih (i + 1) (by omega) (by omega))
theorem s_part (s : ByteArray) (hs : s.size ≤ 1048576) (i : Nat) (hi : i ≤ s.size) : Evt (fun k => spec_l4Part.f k s (i : Int)) (endI i (partL ((L s).drop i))) := by
  by_cases h0 : i = s.size
  · rw [drop_all s i (by omega)]
    exact Evt.same (g := fun _ => some (-1)) (fun k => by unfold spec_l4Part.f; rw [if_pos (by omega)]) (Evt.pure fun _ => rfl)
  have hlt : i < s.size := by omega
  have hw1 : wrap64 ((i : Int) + 1) = ((i + 1 : Nat) : Int) := wrap_ok (by omega) (by omega)
  obtain ⟨x, hx⟩ : ∃ x, (L s)[i]'(by rw [L_length]; exact hlt) = x := ⟨_, rfl⟩
  have hb : bt s (i : Int) = (x.toNat : Int) := by rw [bt_get s i hlt, hx]
  have hdc := drop_cons s i hlt
  rw [hx] at hdc
  by_cases h1 : x = 40
  · have hp : partL ((L s).drop i) = p0 ((L s).drop i) := by
      rw [hdc]
      show (if x = 40 then _ else _) = _
      rw [if_pos h1]
    rw [hp]
    exact Evt.same (fun k => by unfold spec_l4Part.f; rw [if_neg (by omega), if_pos (by omega), if_pos (by omega), hb, if_pos (by rw [h1]; rfl)]) (part_l0 s hs _ i hi rfl)
  · have g1 : ¬ ((x.toNat : Int) = 40) := fun e => h1 ((u8i x 40 (by omega)).1 e)
    by_cases h2 : x = 124
    · have hp : partL ((L s).drop i) = (p1 ((L s).drop (i + 1))).map (· + 1) := by
        rw [hdc]
        show (if x = 40 then _ else _) = _
        rw [if_neg h1, if_pos h2]
      rw [hp, ← endI_map]
      exact Evt.same (fun k => by unfold spec_l4Part.f; rw [if_neg (by omega), if_pos (by omega), if_pos (by omega), hb, if_neg g1, if_pos (by rw [h2]; rfl), hw1]) (part_l1 s hs _ (i + 1) (by omega) rfl)
    · have g2 : ¬ ((x.toNat : Int) = 124) := fun e => h2 ((u8i x 124 (by omega)).1 e)
      have hp : partL ((L s).drop i) = some (p2 ((L s).drop i)) := by
        rw [hdc]
        show (if x = 40 then _ else _) = _
        rw [if_neg h1, if_neg h2]
      rw [hp]
      exact Evt.same (fun k => by unfold spec_l4Part.f; rw [if_neg (by omega), if_pos (by omega), if_pos (by omega), hb, if_neg g1, if_neg g2]) (part_l2 s hs _ i hi rfl)
/-- a sort's information as the printed function hands it back -/
def infB (r : Int × Int) : Int × Int × ByteArray × ByteArray := (r.1, r.2, (⟨#[]⟩ : ByteArray), (⟨#[]⟩ : ByteArray))
theorem lastB (s : ByteArray) (h1 : 0 < s.size) (n : Nat) (hn : n < 256) : ((bt s ((s.size - 1 : Nat) : Int) == (n : Int)) = decide ((L s)[(L s).length - 1]? = some (UInt8.ofNat n))) := by
  have := bt_eq_iff s (s.size - 1) (by omega) n hn
  rw [L_length]
  by_cases h : bt s ((s.size - 1 : Nat) : Int) = (n : Int)
  · rw [h, decide_eq_true (this.1 h)]; simp
  · rw [beq_eq_false_iff_ne.2 h, decide_eq_false (fun e => h (this.2 e))]
theorem simp_j2 (l : List ByteArray) (hl : l.length ≤ 1048576) (s m : ByteArray) (hm : m.size ≤ 1048576) :
    Evt (fun k => spec_l4Simple.j2 k l s m) (infB (if isSym (L m) = true ∧ symText (L m) = L s ∧ has l (L m) = true then (5, 0) else (0, 0))) := by
  obtain ⟨q, hq, hq2⟩ := s_symText m hm
  refine Evt.succ (g := fun k => (spec_l4Symbol.f k m).bind fun t113 => (if t113 = true then ((spec_l4SymText.f k m).bind fun t114 => (if t114.toList = s.toList then ((spec_l4Has.f k l m).bind fun t115 => (if t115 = true then (some (5, 0, (⟨#[]⟩ : ByteArray), (⟨#[]⟩ : ByteArray))) else (some (0, 0, (⟨#[]⟩ : ByteArray), (⟨#[]⟩ : ByteArray))))) else (some (0, 0, (⟨#[]⟩ : ByteArray), (⟨#[]⟩ : ByteArray))))) else (some (0, 0, (⟨#[]⟩ : ByteArray), (⟨#[]⟩ : ByteArray))))) (fun k => rfl) (Evt.bind (s_sym m hm) ?_)
  cases h1 : isSym (L m) with
  | false => exact Evt.pure fun k => by rw [if_neg (by decide), if_neg (by rintro ⟨h, _⟩; cases h)]; rfl
  | true =>
    refine Evt.same (fun k => if_pos rfl) (Evt.bind hq ?_)
    by_cases h2 : symText (L m) = L s
    · refine Evt.same (fun k => if_pos (by rw [toList_L, toList_L, hq2, h2])) (Evt.bind (s_has l hl m) ?_)
      cases h3 : has l (L m) with
      | false => exact Evt.pure fun k => by rw [if_neg (by decide), if_neg (by rintro ⟨_, _, h⟩; cases h)]; rfl
      | true => exact Evt.pure fun k => by rw [if_pos rfl, if_pos ⟨rfl, h2, rfl⟩]; rfl
    · exact Evt.pure fun k => by rw [if_neg (by rw [toList_L, toList_L, hq2]; exact h2), if_neg (by rintro ⟨_, h, _⟩; exact h2 h)]; rfl
end Go.Proofs.YthfjiaodhladmaaDoor.RS

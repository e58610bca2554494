/- impl.oneToken at a quote: the text between quotes (a loop that appends). -/
import Derived.Test.YtiimmgkghnmjlaaTokI
import Derived.Deep.Draws
namespace Go.Proofs.Ytiimmgkghnmjlaa.Tok
open Go.RowKit Go.Proofs.YtiimmgkghnmjlaaW.PrintWords Go.Proofs.Ytiimmgkghnmjlaa Go.Proofs.Ytiimmgkghnmjlaa.By
set_option linter.unusedVariables false
set_option linter.unusedSimpArgs false
set_option maxRecDepth 100000
/-- what the loop over a quoted text keeps -/
def QRelI (s : ByteArray) (i B : Nat) (W0 : World) (E : Option (List UInt8 × Nat)) (v7 v9 : Value) (wr : World) : Prop :=
  ∃ (k : Nat) (acc : List UInt8), i + 1 ≤ k ∧ k ≤ s.size ∧ v7 = .int .i64 k ∧ txt ((L s).drop k) acc k = E ∧ acc.length ≤ k ∧ wr.ownsRow B 5 1 v9 acc.length (nums .u8 (ints acc)) ∧ Below B W0 wr ∧ B ≤ wr.heap.size
theorem q_stepI {B : Nat} {W0 wr w1 : World} {v6 v' : Value} {acc : List UInt8} {c : UInt8} {o : Obj} (hown : wr.ownsRow B 5 1 v6 acc.length (nums .u8 (ints acc))) (hbel : Below B W0 wr) (hsz : B ≤ wr.heap.size)
    (hown' : w1.ownsRow B 5 1 v' (acc.length + 1) (nums .u8 (ints acc) ++ [.int .u8 (c.toNat : Int)])) (hgrow : (wr.alloc o).grownBy w1 v6.ownBlock) :
    w1.ownsRow B 5 1 v' (acc ++ [c]).length (nums .u8 (ints (acc ++ [c]))) ∧ Below B W0 w1 ∧ B ≤ w1.heap.size := by
  refine ⟨?_, (hbel.alloc (by omega) o).grown hgrow (by simp; omega) (fun j hj => by have := (hown.lt j hj).1; omega), ?_⟩
  · rw [← ints_snoc, List.length_append]; exact hown'
  · have := hgrow.size; simp at this; omega

set_option maxHeartbeats 4000000 in
theorem impl_quoted (s : ByteArray) (i : Nat) (w : World) (hs : s.size ≤ 140737488351232) (hi : i < s.size) (hc : bt s i = 34) (R : Int × ByteArray × Int) (HR : Hid (quoted s i = R)) :
    Calls Try.prog 11 #[.string s, .int .i64 i] w fun e w' => e = .returned (.tuple #[.int .i64 R.1, .string R.2.1, .int .i64 R.2.2]) ∧ Below w.heap.size w w' := by
  have hx : ∀ h : i < s.size, ((s[i]'h).toNat : Int) = bt s i := bt_at s i
  obtain ⟨E, hE⟩ : ∃ E, txt ((L s).drop (i + 1)) [] (i + 1) = E := ⟨_, rfl⟩
  have HEE : Hid (txt ((L s).drop (i + 1)) [] (i + 1) = E) := hE
  have HRN : Hid (E = none → R = noTok) := by intro h; rw [← HR.out]; unfold quoted; rw [hE, h]
  have HRS : Hid (∀ o k, E = some (o, k) → R = (6, ⟨o.toArray⟩, (k : Int))) := by intro o k h; rw [← HR.out]; unfold quoted; rw [hE, h]
  clear hE
  obtain ⟨i0, hif, hz0, hz1, hz2⟩ := info_parts info5
  have HI : Hid (Try.prog.info? 5 = some i0 ∧ i0.zero = some (.int .u8 0) ∧ i0.size = 1 ∧ i0.bytes = 1) := ⟨hif, hz0, hz1, hz2⟩
  clear hif hz0 hz1 hz2
  go_enter Try.func11, Try.ntmps11
  go_wp2_with (fail)
  go_loopw [7, 9] (fun v7 v9 wr => QRelI s i w.heap.size w E v7 v9 wr) (fun v7 _ _ => s.size - (intOf v7).toNat)
  case atStart => exact ⟨i + 1, [], by omega, by omega, by first | rfl | go_num, HEE.out, by simp, World.ownsRow_nil _ _ _ _, Below.refl _ _, by simp⟩
  case round =>
    obtain ⟨k, acc, hk1, hk2, rfl, hT, hal, hown, hbel, hsz⟩ := hrel
    have HT : Hid (txt ((L s).drop k) acc k = E) := hT
    have HO : Hid (wr.ownsRow w.heap.size 5 1 u9 acc.length (nums .u8 (ints acc))) := hown
    have HB : Hid (Below w.heap.size w wr) := hbel
    clear hT hown hbel
    by_cases hlt : k < s.size
    · have hxk : ∀ h : k < s.size, ((s[k]'h).toNat : Int) = bt s k := bt_at s k
      obtain ⟨b0, b1⟩ := bt_range s k
      obtain ⟨d, hd⟩ : ∃ d, bt s k = d := ⟨_, rfl⟩
      have HA : Hid (((at_ s k).toNat : Int) = d) := (at_int s k hlt).symm.trans hd
      have HD : Hid ((L s).drop k = at_ s k :: (L s).drop (k + 1)) := drop_at s k hlt
      rw [hd] at b0 b1
      by_cases h34 : d = 34
      · subst h34
        have H34 : Hid (at_ s k = 34) := (u8_eq 34 (by omega)).1 HA.out
        by_cases hl2 : k + 1 < s.size
        · have hx2 : ∀ h : k + 1 < s.size, ((s[k + 1]'h).toNat : Int) = bt s (k + 1 : Nat) := bt_at s (k + 1 : Nat)
          obtain ⟨d2, hd2⟩ : ∃ d, bt s (k + 1 : Nat) = d := ⟨_, rfl⟩
          have HA2 : Hid (((at_ s (k + 1)).toNat : Int) = d2) := (at_int s (k + 1) hl2).symm.trans hd2
          have HD2 : Hid ((L s).drop (k + 1) = at_ s (k + 1) :: (L s).drop (k + 2)) := drop_at s (k + 1) hl2
          rw [hd2] at hx2
          by_cases h342 : d2 = 34
          · subst h342
            have H342 : Hid (at_ s (k + 1) = 34) := (u8_eq 34 (by omega)).1 HA2.out
            go_wp2_with (first | (at_builtin; refine wpList_append_own _ rfl _ _ 40 rfl w.heap.size 5 i0 (.int .u8 0) 1 1 Try.underlying40 HI.out.1 HI.out.2.1 HI.out.2.2.1 HI.out.2.2.2 rfl (by decide) _ _ _ rfl (HO.out.alloc _) ⟨wr.heap.size, 0, none⟩ 1 1 [.int .u8 34] rfl rfl (cell_one_new _ _ _) (by simp [Value.oneCell']) (by unfold maxLen; omega) (by omega) (by simp; omega) ?_; intro v' w1 hown' hgrow _) | go_in)
            go_roundw
            case rel =>
              obtain ⟨ha, hb, hc'⟩ := q_stepI (c := 34) HO.out HB.out hsz (by first | exact hown' | (rw [HA.out]; exact hown')) hgrow
              exact ⟨k + 2, acc ++ [34], by omega, by omega, by go_num, by rw [← HT.out, HD.out, H34.out, HD2.out, H342.out, txt_quote2], by simp; omega, ha, hb, hc'⟩
            case measure => simp [intOf]; omega
          · have h342' : (d2 == 34) = false := beq_eq_false_iff_ne.2 h342
            have H342 : Hid (at_ s (k + 1) ≠ 34) := by intro e; have := HA2.out; rw [e] at this; simp at this; omega
            clear h342
            have hcv : ∀ n, (convert 40 9 u9).run Try.prog (wr.drewN n) = .ok (.string (strOfNums (ints acc))) (wr.drewN n) := fun n => own_string (P := Try.prog) (w := wr.drewN n) Try.underlying40 Try.underlying5 Try.underlying9 (pw_own_drewN HO.out n)
            go_wp2_with (go_in)
            go_quiet (fail)
            go_wp2_with (fail)
            go_ret3
            exact ⟨ret_tok3 (R := R) (a := 6) (s := strOfNums (ints acc)) (b := (k : Int) + 1) (by rw [str_ints]; exact HRS.out _ _ (by rw [← HT.out, HD.out, H34.out, HD2.out, txt_end2 H342.out])), pw_below_drewN HB.out _⟩
        · have HZ : Hid ((L s).drop (k + 1) = []) := drop_all s (k + 1) (by omega)
          have hcv : ∀ n, (convert 40 9 u9).run Try.prog (wr.drewN n) = .ok (.string (strOfNums (ints acc))) (wr.drewN n) := fun n => own_string (P := Try.prog) (w := wr.drewN n) Try.underlying40 Try.underlying5 Try.underlying9 (pw_own_drewN HO.out n)
          go_wp2_with (go_in)
          go_quiet (fail)
          go_wp2_with (fail)
          go_ret3
          exact ⟨ret_tok3 (R := R) (a := 6) (s := strOfNums (ints acc)) (b := (k : Int) + 1) (by rw [str_ints]; exact HRS.out _ _ (by rw [← HT.out, HD.out, H34.out, HZ.out, txt_end1])), pw_below_drewN HB.out _⟩
      · have h34' : (d == 34) = false := beq_eq_false_iff_ne.2 h34
        have H34 : Hid (at_ s k ≠ 34) := by intro e; have := HA.out; rw [e] at this; simp at this; omega
        clear h34
        by_cases hq : inq (at_ s k) = true
        · have HQ : Hid (inq (at_ s k) = true) := hq
          clear hq
          rcases inq_yes HQ.out HA.out with g | ⟨g1, g2⟩
          · subst g
            have H10 : Hid (at_ s k = 10) := (u8_eq 10 (by omega)).1 HA.out
            go_wp2_with (first | (at_builtin; refine wpList_append_own _ rfl _ _ 40 rfl w.heap.size 5 i0 (.int .u8 0) 1 1 Try.underlying40 HI.out.1 HI.out.2.1 HI.out.2.2.1 HI.out.2.2.2 rfl (by decide) _ _ _ rfl (HO.out.alloc _) ⟨wr.heap.size, 0, none⟩ 1 1 [.int .u8 10] rfl rfl (cell_one_new _ _ _) (by simp [Value.oneCell']) (by unfold maxLen; omega) (by omega) (by simp; omega) ?_; intro v' w1 hown' hgrow _) | go_in)
            go_roundw
            case rel =>
              obtain ⟨ha, hb, hc'⟩ := q_stepI (c := 10) HO.out HB.out hsz (by first | exact hown' | (rw [HA.out]; exact hown')) hgrow
              exact ⟨k + 1, acc ++ [10], by omega, by omega, by go_num, by rw [← HT.out, HD.out, H10.out, txt_other (by decide) (by decide)], by simp; omega, ha, hb, hc'⟩
            case measure => simp [intOf]; omega
          · have g3 : (d != 10) = true := bne_iff_ne.2 (by omega)
            go_wp2_with (first | (at_builtin; refine wpList_append_own _ rfl _ _ 40 rfl w.heap.size 5 i0 (.int .u8 0) 1 1 Try.underlying40 HI.out.1 HI.out.2.1 HI.out.2.2.1 HI.out.2.2.2 rfl (by decide) _ _ _ rfl (HO.out.alloc _) ⟨wr.heap.size, 0, none⟩ 1 1 [.int .u8 d] rfl rfl (cell_one_new _ _ _) (by simp [Value.oneCell']) (by unfold maxLen; omega) (by omega) (by simp; omega) ?_; intro v' w1 hown' hgrow _) | go_in)
            go_roundw
            case rel =>
              obtain ⟨ha, hb, hc'⟩ := q_stepI (c := at_ s k) HO.out HB.out hsz (by first | exact hown' | (rw [HA.out]; exact hown')) hgrow
              exact ⟨k + 1, acc ++ [at_ s k], by omega, by omega, by go_num, by rw [← HT.out, HD.out, txt_other H34.out HQ.out], by simp; omega, ha, hb, hc'⟩
            case measure => simp [intOf]; omega
        · have HQ : Hid (inq (at_ s k) = false) := Bool.eq_false_iff.2 hq
          clear hq
          obtain ⟨g0, g1⟩ := inq_no HQ.out HA.out
          have g3 : (d != 10) = true := bne_iff_ne.2 g0
          clear g0
          rcases g1 with g | g
          · have gf : decide (32 ≤ d) = false := decide_eq_false (by omega)
            go_wp2_with (go_in)
            go_ret3
            exact ⟨ret_tok3 (R := R) (a := 0) (s := ⟨#[]⟩) (b := 0) (HRN.out (by rw [← HT.out, HD.out, txt_bad H34.out HQ.out])), HB.out⟩
          · have gf : decide (d ≤ 126) = false := decide_eq_false (by omega)
            go_wp2_with (go_in)
            go_ret3
            exact ⟨ret_tok3 (R := R) (a := 0) (s := ⟨#[]⟩) (b := 0) (HRN.out (by rw [← HT.out, HD.out, txt_bad H34.out HQ.out])), HB.out⟩
    · have HZ : Hid ((L s).drop k = []) := drop_all s k (by omega)
      go_wp2_with (go_in)
      go_ret3
      exact ⟨ret_tok3 (R := R) (a := 0) (s := ⟨#[]⟩) (b := 0) (HRN.out (by rw [← HT.out, HZ.out]; first | rfl | simp [txt])), HB.out⟩
end Go.Proofs.Ytiimmgkghnmjlaa.Tok

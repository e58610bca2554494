/- spec.l3Token at a quote: the text between quotes (a loop that appends). -/
import Derived.Test.YtbeelgaganbblaaDoorTokS
import Derived.OwnWalk
import Derived.WalkSmall
import Derived.Laws.AppendOwn
namespace Go.Proofs.YtbeelgaganbblaaDoor.Tok
open Go.RowKit Go.Proofs.YtbeelgaganbblaaDoorW.PrintWords Go.Proofs.YtbeelgaganbblaaDoor Go.Proofs.YtbeelgaganbblaaDoor.By
set_option linter.unusedVariables false
set_option linter.unusedSimpArgs false
set_option maxRecDepth 100000

theorem info5 : (Tryd.prog.info? 5).map (fun i => (i.zero, i.size, i.bytes)) = some (some (.int .u8 0), 1, 1) := by kernel_rfl
def ints (l : List UInt8) : List Int := l.map fun c => (c.toNat : Int)
theorem ints_len (l : List UInt8) : (ints l).length = l.length := by unfold ints; rw [List.length_map]
theorem str_ints (l : List UInt8) : strOfNums (ints l) = ⟨l.toArray⟩ := by
  unfold strOfNums ints
  simp only [List.map_map]
  congr 2
  have e : ((fun n : Int => UInt8.ofNat n.toNat) ∘ fun c : UInt8 => (c.toNat : Int)) = id := by funext c; simp [UInt8.ofNat_toNat]
  rw [e, List.map_id]
theorem ints_snoc (l : List UInt8) (c : UInt8) : nums .u8 (ints l) ++ [.int .u8 (c.toNat : Int)] = nums .u8 (ints (l ++ [c])) := by
  unfold ints nums; simp
/-- what the loop over a quoted text keeps -/
def QRel (s : ByteArray) (i B : Nat) (W0 : World) (E : Option (List UInt8 × Nat)) (v6 v7 : Value) (wr : World) : Prop :=
  ∃ (k : Nat) (acc : List UInt8), i + 1 ≤ k ∧ k ≤ s.size ∧ v7 = .int .i64 k ∧ txt ((L s).drop k) acc k = E ∧ acc.length ≤ k ∧ wr.ownsRow (B + 1) 5 1 v6 acc.length (nums .u8 (ints acc)) ∧ Below (B + 1) W0 wr ∧ B + 1 ≤ wr.heap.size

/-- the row behind one append -/
theorem q_step {B : Nat} {W0 wr w1 : World} {v6 v' : Value} {acc : List UInt8} {c : UInt8} {o : Obj} (hown : wr.ownsRow (B + 1) 5 1 v6 acc.length (nums .u8 (ints acc))) (hbel : Below (B + 1) W0 wr) (hsz : B + 1 ≤ wr.heap.size)
    (hown' : w1.ownsRow (B + 1) 5 1 v' (acc.length + 1) (nums .u8 (ints acc) ++ [.int .u8 (c.toNat : Int)])) (hgrow : (wr.alloc o).grownBy w1 v6.ownBlock) :
    w1.ownsRow (B + 1) 5 1 v' (acc ++ [c]).length (nums .u8 (ints (acc ++ [c]))) ∧ Below (B + 1) W0 w1 ∧ B + 1 ≤ w1.heap.size := by
  refine ⟨?_, (hbel.alloc (by omega) o).grown hgrow (by simp; omega) (fun j hj => by have := (hown.lt j hj).1; omega), ?_⟩
  · rw [← ints_snoc, List.length_append]; exact hown'
  · have := hgrow.size; simp at this; omega
theorem txt_quote2 {t : List UInt8} {acc : List UInt8} {k : Nat} : txt (34 :: 34 :: t) acc k = txt t (acc ++ [34]) (k + 2) := by simp [txt]
theorem txt_other {c : UInt8} {t : List UInt8} {acc : List UInt8} {k : Nat} (h : c ≠ 34) (hq : inq c = true) : txt (c :: t) acc k = txt t (acc ++ [c]) (k + 1) := by
  cases t with
  | nil => simp [txt, h]
  | cons d t => simp [txt, h, hq]
theorem txt_bad {c : UInt8} {t : List UInt8} {acc : List UInt8} {k : Nat} (h : c ≠ 34) (hq : inq c = false) : txt (c :: t) acc k = none := by
  cases t with
  | nil => simp [txt, h]
  | cons d t => simp [txt, h, hq]
theorem txt_end1 {acc : List UInt8} {k : Nat} : txt [34] acc k = some (acc, k + 1) := by simp [txt]
theorem txt_end2 {d : UInt8} {t : List UInt8} {acc : List UInt8} {k : Nat} (h : d ≠ 34) : txt (34 :: d :: t) acc k = some (acc, k + 1) := by simp [txt, h]
theorem inq_yes {c : UInt8} {d : Int} (h : inq c = true) (e : (c.toNat : Int) = d) : d = 10 ∨ (32 ≤ d ∧ d ≤ 126) := by
  unfold inq at h
  simp only [Bool.or_eq_true, beq_iff_eq, Bool.and_eq_true, decide_eq_true_eq] at h
  rcases h with h | h
  · left; rw [h] at e; simp at e; omega
  · right; omega
theorem inq_no {c : UInt8} {d : Int} (h : inq c = false) (e : (c.toNat : Int) = d) : d ≠ 10 ∧ (d < 32 ∨ 126 < d) := by
  unfold inq at h
  simp only [Bool.or_eq_false_iff, beq_eq_false_iff_ne, ne_eq, Bool.and_eq_false_iff, decide_eq_false_iff_not] at h
  obtain ⟨h1, h2⟩ := h
  refine ⟨fun hd => h1 ((u8_eq 10 (by omega)).1 (by omega)), by omega⟩

/-- the world behind the stores of the result -/
theorem qbelow {w wr : World} {o : Obj} {a b c : Value} (h : Below (w.heap.size + 1) (w.alloc o) wr) :
    Below w.heap.size w (((wr.setCell ⟨w.heap.size, 0, none⟩ a).setCell ⟨w.heap.size, 1, none⟩ b).setCell ⟨w.heap.size, 2, none⟩ c) :=
  ((((((Below.refl _ _).alloc (Nat.le_refl _) o).trans (h.mono (by omega))).setCell (Nat.le_refl _) _).setCell (Nat.le_refl _) _).setCell (Nat.le_refl _) _)
set_option maxHeartbeats 4000000 in
theorem spec_quoted (s : ByteArray) (i : Nat) (w : World) (hs : s.size ≤ 140737488351232) (hi : i < s.size) (hc : bt s i = 34) (R : Int × ByteArray × Int) (HR : Hid (quoted s i = R)) :
    Calls Tryd.prog 77 #[.string s, .int .i64 i] w fun e w' => e = .returned (.agg #[.int .i64 R.1, .string R.2.1, .int .i64 R.2.2]) ∧ Below w.heap.size w w' := by
  have hx : ∀ h : i < s.size, ((s[i]'h).toNat : Int) = bt s i := bt_at s i
  obtain ⟨E, hE⟩ : ∃ E, txt ((L s).drop (i + 1)) [] (i + 1) = E := ⟨_, rfl⟩
  have HEE : Hid (txt ((L s).drop (i + 1)) [] (i + 1) = E) := hE
  have HRN : Hid (E = none → R = noTok) := by intro h; rw [← HR.out]; unfold quoted; rw [hE, h]
  have HRS : Hid (∀ o k, E = some (o, k) → R = (6, ⟨o.toArray⟩, (k : Int))) := by intro o k h; rw [← HR.out]; unfold quoted; rw [hE, h]
  clear hE
  obtain ⟨i0, hif, hz0, hz1, hz2⟩ := info_parts info5
  have HI : Hid (Tryd.prog.info? 5 = some i0 ∧ i0.zero = some (.int .u8 0) ∧ i0.size = 1 ∧ i0.bytes = 1) := ⟨hif, hz0, hz1, hz2⟩
  clear hif hz0 hz1 hz2
  go_enter Tryd.func77, Tryd.ntmps77
  go_wp2_with (fail)
  go_loopw [6, 7] (fun v6 v7 wr => QRel s i w.heap.size (w.alloc (Obj.cells #[Value.int IntKind.i64 0, Value.string { data := #[] }, Value.int IntKind.i64 0] 111)) E v6 v7 wr) (fun _ v7 _ => s.size - (intOf v7).toNat)
  case atStart => exact ⟨i + 1, [], by omega, by omega, by first | rfl | go_num, HEE.out, by simp, World.ownsRow_nil _ _ _ _, Below.refl _ _, by simp⟩
  case round =>
    obtain ⟨k, acc, hk1, hk2, rfl, hT, hal, hown, hbel, hsz⟩ := hrel
    have HT : Hid (txt ((L s).drop k) acc k = E) := hT
    have HO : Hid (wr.ownsRow (w.heap.size + 1) 5 1 u6 acc.length (nums .u8 (ints acc))) := hown
    have HB : Hid (Below (w.heap.size + 1) (w.alloc (Obj.cells #[Value.int IntKind.i64 0, Value.string { data := #[] }, Value.int IntKind.i64 0] 111)) wr) := hbel
    have q0 : wr.cell? ⟨w.heap.size, 0, none⟩ = some (.int .i64 0) := by rw [hbel.cell (p := ⟨w.heap.size, 0, none⟩) (by show w.heap.size < _; omega)]; exact World.cell?_alloc_at _ _ _ _ rfl
    have q1 : wr.cell? ⟨w.heap.size, 1, none⟩ = some (.string ⟨#[]⟩) := by rw [hbel.cell (p := ⟨w.heap.size, 1, none⟩) (by show w.heap.size < _; omega)]; exact World.cell?_alloc_at _ _ _ _ rfl
    have q2 : wr.cell? ⟨w.heap.size, 2, none⟩ = some (.int .i64 0) := by rw [hbel.cell (p := ⟨w.heap.size, 2, none⟩) (by show w.heap.size < _; omega)]; exact World.cell?_alloc_at _ _ _ _ rfl
    have q3 : wr.frozen? ⟨w.heap.size, 0, none⟩ = false := by rw [hbel.frozen (p := ⟨w.heap.size, 0, none⟩) (by show w.heap.size < _; omega)]; exact World.frozen?_alloc_at _ _ _ _ rfl
    have q4 : wr.frozen? ⟨w.heap.size, 1, none⟩ = false := by rw [hbel.frozen (p := ⟨w.heap.size, 1, none⟩) (by show w.heap.size < _; omega)]; exact World.frozen?_alloc_at _ _ _ _ rfl
    have q5 : wr.frozen? ⟨w.heap.size, 2, none⟩ = false := by rw [hbel.frozen (p := ⟨w.heap.size, 2, none⟩) (by show w.heap.size < _; omega)]; exact World.frozen?_alloc_at _ _ _ _ rfl
    clear hT hown hbel
    by_cases hlt : k < s.size
    · have hxk : ∀ h : k < s.size, ((s[k]'h).toNat : Int) = bt s k := bt_at s k
      obtain ⟨b0, b1⟩ := bt_range s k
      obtain ⟨d, hd⟩ : ∃ d, bt s k = d := ⟨_, rfl⟩
      have HA : Hid (((at_ s k).toNat : Int) = d) := (at_int s k hlt).symm.trans hd
      have HD : Hid ((L s).drop k = at_ s k :: (L s).drop (k + 1)) := drop_at s k hlt
      rw [hd] at b0 b1
      by_cases h34 : d = 34
      · subst h34
        have H34 : Hid (at_ s k = 34) := (u8_eq 34 (by omega)).1 HA.out
        by_cases hl2 : k + 1 < s.size
        · have hx2 : ∀ h : k + 1 < s.size, ((s[k + 1]'h).toNat : Int) = bt s (k + 1 : Nat) := bt_at s (k + 1 : Nat)
          obtain ⟨d2, hd2⟩ : ∃ d, bt s (k + 1 : Nat) = d := ⟨_, rfl⟩
          have HA2 : Hid (((at_ s (k + 1)).toNat : Int) = d2) := (at_int s (k + 1) hl2).symm.trans hd2
          have HD2 : Hid ((L s).drop (k + 1) = at_ s (k + 1) :: (L s).drop (k + 2)) := drop_at s (k + 1) hl2
          rw [hd2] at hx2
          by_cases h342 : d2 = 34
          · subst h342
            have H342 : Hid (at_ s (k + 1) = 34) := (u8_eq 34 (by omega)).1 HA2.out
            go_wp2_with (at_builtin; refine wpList_append_own _ rfl _ _ 37 rfl (w.heap.size + 1) 5 i0 (.int .u8 0) 1 1 Tryd.underlying37 HI.out.1 HI.out.2.1 HI.out.2.2.1 HI.out.2.2.2 rfl (by decide) _ _ _ rfl (HO.out.alloc _) ⟨wr.heap.size, 0, none⟩ 1 1 [.int .u8 34] rfl rfl (cell_one_new _ _ _) (by simp [Value.oneCell']) (by unfold maxLen; omega) (by omega) (by simp; omega) ?_; intro v' w1 hown' hgrow _)
            go_roundw
            case rel =>
              obtain ⟨ha, hb, hc'⟩ := q_step (c := 34) HO.out HB.out hsz (by first | exact hown' | (rw [HA.out]; exact hown')) hgrow
              exact ⟨k + 2, acc ++ [34], by omega, by omega, by go_num, by rw [← HT.out, HD.out, H34.out, HD2.out, H342.out, txt_quote2], by simp; omega, ha, hb, hc'⟩
            case measure => simp [intOf]; omega
          · have h342' : (d2 == 34) = false := beq_eq_false_iff_ne.2 h342
            have H342 : Hid (at_ s (k + 1) ≠ 34) := by intro e; have := HA2.out; rw [e] at this; simp at this; omega
            clear h342
            have hcv := own_string (P := Tryd.prog) (w := wr) Tryd.underlying37 Tryd.underlying5 Tryd.underlying9 HO.out
            go_wp2_with (fail)
            exact bodyPost_ret (v := .agg #[.int .i64 6, .string (strOfNums (ints acc)), .int .i64 ((k : Int) + 1)]) (by simp [results, Tryd.results77, go_sem, q0, q1, q2, q3, q4, q5]) rfl ⟨ret_tok (R := R) (by rw [str_ints]; exact HRS.out _ _ (by rw [← HT.out, HD.out, H34.out, HD2.out, txt_end2 H342.out])), qbelow HB.out⟩
        · have HZ : Hid ((L s).drop (k + 1) = []) := drop_all s (k + 1) (by omega)
          have hcv := own_string (P := Tryd.prog) (w := wr) Tryd.underlying37 Tryd.underlying5 Tryd.underlying9 HO.out
          go_wp2_with (fail)
          exact bodyPost_ret (v := .agg #[.int .i64 6, .string (strOfNums (ints acc)), .int .i64 ((k : Int) + 1)]) (by simp [results, Tryd.results77, go_sem, q0, q1, q2, q3, q4, q5]) rfl ⟨ret_tok (R := R) (by rw [str_ints]; exact HRS.out _ _ (by rw [← HT.out, HD.out, H34.out, HZ.out, txt_end1])), qbelow HB.out⟩
      · have h34' : (d == 34) = false := beq_eq_false_iff_ne.2 h34
        have H34 : Hid (at_ s k ≠ 34) := by intro e; have := HA.out; rw [e] at this; simp at this; omega
        clear h34
        by_cases hq : inq (at_ s k) = true
        · have HQ : Hid (inq (at_ s k) = true) := hq
          clear hq
          rcases inq_yes HQ.out HA.out with g | ⟨g1, g2⟩
          · subst g
            have H10 : Hid (at_ s k = 10) := (u8_eq 10 (by omega)).1 HA.out
            go_wp2_with (at_builtin; refine wpList_append_own _ rfl _ _ 37 rfl (w.heap.size + 1) 5 i0 (.int .u8 0) 1 1 Tryd.underlying37 HI.out.1 HI.out.2.1 HI.out.2.2.1 HI.out.2.2.2 rfl (by decide) _ _ _ rfl (HO.out.alloc _) ⟨wr.heap.size, 0, none⟩ 1 1 [.int .u8 10] rfl rfl (cell_one_new _ _ _) (by simp [Value.oneCell']) (by unfold maxLen; omega) (by omega) (by simp; omega) ?_; intro v' w1 hown' hgrow _)
            go_roundw
            case rel =>
              obtain ⟨ha, hb, hc'⟩ := q_step (c := 10) HO.out HB.out hsz (by first | exact hown' | (rw [HA.out]; exact hown')) hgrow
              exact ⟨k + 1, acc ++ [10], by omega, by omega, by go_num, by rw [← HT.out, HD.out, H10.out, txt_other (by decide) (by decide)], by simp; omega, ha, hb, hc'⟩
            case measure => simp [intOf]; omega
          · have g3 : (d != 10) = true := bne_iff_ne.2 (by omega)
            go_wp2_with (at_builtin; refine wpList_append_own _ rfl _ _ 37 rfl (w.heap.size + 1) 5 i0 (.int .u8 0) 1 1 Tryd.underlying37 HI.out.1 HI.out.2.1 HI.out.2.2.1 HI.out.2.2.2 rfl (by decide) _ _ _ rfl (HO.out.alloc _) ⟨wr.heap.size, 0, none⟩ 1 1 [.int .u8 d] rfl rfl (cell_one_new _ _ _) (by simp [Value.oneCell']) (by unfold maxLen; omega) (by omega) (by simp; omega) ?_; intro v' w1 hown' hgrow _)
            go_roundw
            case rel =>
              obtain ⟨ha, hb, hc'⟩ := q_step (c := at_ s k) HO.out HB.out hsz (by first | exact hown' | (rw [HA.out]; exact hown')) hgrow
              exact ⟨k + 1, acc ++ [at_ s k], by omega, by omega, by go_num, by rw [← HT.out, HD.out, txt_other H34.out HQ.out], by simp; omega, ha, hb, hc'⟩
            case measure => simp [intOf]; omega
        · have HQ : Hid (inq (at_ s k) = false) := Bool.eq_false_iff.2 hq
          clear hq
          obtain ⟨g0, g1⟩ := inq_no HQ.out HA.out
          have g3 : (d != 10) = true := bne_iff_ne.2 g0
          clear g0
          rcases g1 with g | g
          · go_wp2_with (fail)
            exact bodyPost_ret (v := .agg #[.int .i64 0, .string ⟨#[]⟩, .int .i64 0]) (by simp [results, Tryd.results77, go_sem, q0, q1, q2, q3, q4, q5]) rfl ⟨ret_tok (R := R) (by exact HRN.out (by rw [← HT.out, HD.out, txt_bad H34.out HQ.out])), qbelow HB.out⟩
          · go_wp2_with (fail)
            exact bodyPost_ret (v := .agg #[.int .i64 0, .string ⟨#[]⟩, .int .i64 0]) (by simp [results, Tryd.results77, go_sem, q0, q1, q2, q3, q4, q5]) rfl ⟨ret_tok (R := R) (by exact HRN.out (by rw [← HT.out, HD.out, txt_bad H34.out HQ.out])), qbelow HB.out⟩
    · have HZ : Hid ((L s).drop k = []) := drop_all s k (by omega)
      go_wp2_with (fail)
      exact bodyPost_ret (v := .agg #[.int .i64 0, .string ⟨#[]⟩, .int .i64 0]) (by simp [results, Tryd.results77, go_sem, q0, q1, q2, q3, q4, q5]) rfl ⟨ret_tok (R := R) (by exact HRN.out (by rw [← HT.out, HZ.out]; first | rfl | simp [txt])), qbelow HB.out⟩
end Go.Proofs.YtbeelgaganbblaaDoor.Tok

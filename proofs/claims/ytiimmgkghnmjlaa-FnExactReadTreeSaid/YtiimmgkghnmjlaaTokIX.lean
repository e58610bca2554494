/- impl.oneToken at '#': hexadecimal digits and other letters (strings.Builder by the shelf's contracts). -/
import Derived.Test.YtiimmgkghnmjlaaTokIB
namespace Go.Proofs.Ytiimmgkghnmjlaa.Tok
open Go.RowKit Go.Proofs.YtiimmgkghnmjlaaW.PrintWords Go.Proofs.Ytiimmgkghnmjlaa Go.Proofs.Ytiimmgkghnmjlaa.By
set_option linter.unusedVariables false
set_option linter.unusedSimpArgs false
set_option maxRecDepth 100000
theorem bit_val0 : ∀ h : Nat, h < 16 → wrap64 (48 + Go.bits .and .i64 (h : Int) 1) % 256 = ((bit h 0).toNat : Int) := by decide +kernel
theorem hex_idx {c : UInt8} {d : Int} (e : (c.toNat : Int) = d) (h : (97 ≤ d ∧ d ≤ 102) ∨ (65 ≤ d ∧ d ≤ 70)) : (Lib.indexByte [48, 49, 50, 51, 52, 53, 54, 55, 56, 57, 97, 98, 99, 100, 101, 102] (Go.bits .or .u8 d 32).toNat.toUInt8 : Int) = (hexv c : Nat) := by
  have := hex_index c.toNat c.toNat_lt (by omega)
  rw [e] at this; rw [this]; simp
theorem of_idx {J : Int} {d : Int} {h : Nat} {c : UInt8} (hj : (Lib.indexByte [48, 49, 50, 51, 52, 53, 54, 55, 56, 57, 97, 98, 99, 100, 101, 102] (Go.bits .or .u8 d 32).toNat.toUInt8 : Int) = J) (e : (c.toNat : Int) = d) (hr : (97 ≤ d ∧ d ≤ 102) ∨ (65 ≤ d ∧ d ≤ 70)) (hh : hexv c = h) : J = (h : Int) := by rw [← hj, hex_idx e hr, hh]

set_option maxHeartbeats 4000000 in
theorem impl_hexs (s : ByteArray) (i : Nat) (w : World) (hs : s.size ≤ 35184372088000) (hi : i + 1 < s.size) (hc : bt s i = 35) (kd : Int) (hk0 : 0 ≤ kd) (hk1 : kd ≤ 255) (hkd : bt s (i + 1 : Nat) = kd) (hb : kd = 120) (R : Int × ByteArray × Int) (HR : Hid (bits s i = R)) :
    Calls Try.prog 11 #[.string s, .int .i64 i] w fun e w' => e = .returned (.tuple #[.int .i64 R.1, .string R.2.1, .int .i64 R.2.2]) ∧ Below w.heap.size w w' := by
  have hx : ∀ h : i < s.size, ((s[i]'h).toNat : Int) = bt s i := bt_at s i
  have hx1 : ∀ h : i + 1 < s.size, ((s[i + 1]'h).toNat : Int) = bt s (i + 1 : Nat) := bt_at s (i + 1 : Nat)
  have HAK : Hid (((at_ s (i + 1)).toNat : Int) = kd) := (at_int s (i + 1) hi).symm.trans hkd
  rw [hkd] at hx1
  clear hkd
  obtain ⟨T, hT⟩ : ∃ T, ((L s).drop (i + 2)).takeWhile hexd = T := ⟨_, rfl⟩
  have HTT : Hid (((L s).drop (i + 2)).takeWhile hexd = T) := hT
  have HRR : Hid (R = if T = [] then noTok else (5, ⟨(T.flatMap four).toArray⟩, ((i + 2 + T.length : Nat) : Int))) := by
    show R = _
    have e : at_ s (i + 1) = 120 := (u8_eq 120 (by omega)).1 (HAK.out.trans hb)
    rw [← HR.out]; unfold bits; rw [get_at s (i + 1) hi, e, if_neg (by decide), if_pos rfl, hT]
  clear hT
  subst hb
  have hi2 : ¬ s.size ≤ i + 1 := by omega
  go_enter Try.func11, Try.ntmps11
  go_wp2_with (go_in)
  go_loopw [11] (fun v11 wr => WRel s i w.heap.size w hexd four T v11 wr) (fun v11 _ => s.size - (intOf v11).toNat)
  case atStart => exact ⟨i + 2, [], by omega, by omega, by first | rfl | go_num, HTT.out, by simp, Lib.fresh_isBuilder _ _ _, by first | exact (Below.refl _ _).alloc (Nat.le_refl _) _ , by simp⟩
  case round =>
    obtain ⟨k, src, hk1', hk2, rfl, hS, hkl, hbu0, hbel, hsz⟩ := hrel
    have HS : Hid (src ++ ((L s).drop k).takeWhile hexd = T) := hS
    have HL : Hid (k = i + 2 + src.length) := hkl
    have hkl' : i + 2 + src.length ≤ k := by omega
    have hkl2 : k ≤ i + 2 + src.length := by omega
    have HO : Hid (Lib.IsBuilder 43 5 w.heap.size w.heap.size (Lib.byteCells (src.flatMap four)) wr) := hbu0
    have HB : Hid (Below w.heap.size w wr) := hbel
    clear hS hkl hbu0 hbel
    by_cases hlt : k < s.size
    · have hxk : ∀ h : k < s.size, ((s[k]'h).toNat : Int) = bt s k := bt_at s k
      obtain ⟨b0, b1⟩ := bt_range s k
      obtain ⟨d, hd⟩ : ∃ d, bt s k = d := ⟨_, rfl⟩
      have HA : Hid (((at_ s k).toNat : Int) = d) := (at_int s k hlt).symm.trans hd
      rw [hd] at b0 b1
      obtain ⟨J, hJ⟩ : ∃ J : Int, (Lib.indexByte [48, 49, 50, 51, 52, 53, 54, 55, 56, 57, 97, 98, 99, 100, 101, 102] (Go.bits .or .u8 d 32).toNat.toUInt8 : Int) = J := ⟨_, rfl⟩
      have HJV : Hid ((Lib.indexByte [48, 49, 50, 51, 52, 53, 54, 55, 56, 57, 97, 98, 99, 100, 101, 102] (Go.bits .or .u8 d 32).toNat.toUInt8 : Int) = J) := hJ
      have HJ : Hid (∀ W, Calls Try.prog 21 #[.string ⟨#[48, 49, 50, 51, 52, 53, 54, 55, 56, 57, 97, 98, 99, 100, 101, 102]⟩, .int .u8 (Go.bits .or .u8 d 32)] W fun e w' => e = .returned (.int .i64 J) ∧ w' = W) := fun W => by rw [← hJ]; exact Try.strings_IndexByte ⟨#[48, 49, 50, 51, 52, 53, 54, 55, 56, 57, 97, 98, 99, 100, 101, 102]⟩ (Go.bits .or .u8 d 32) W
      clear hJ
      by_cases hp : hexd (at_ s k) = true
      · have HP : Hid (hexd (at_ s k) = true) := hp
        clear hp
        have hy := hex_yes HP.out HA.out
        obtain ⟨hv1, hv2⟩ := hexv_is HP.out HA.out
        obtain ⟨hn, hhn⟩ : ∃ hn, hexv (at_ s k) = hn := ⟨_, rfl⟩
        rw [hhn] at hv1 hv2
        have HH : Hid (hexv (at_ s k) = hn) := hhn
        have HV1 : Hid ((hn : Int) = (if d ≤ 57 then d - 48 else if d ≤ 70 then d - 55 else d - 87)) := hv1
        clear hv1 hhn
        have gl : (src.flatMap four).length + 4 ≤ 140737488355328 := by rw [four_len]; omega
        have GL : Hid ((src.flatMap four).length + 4 ≤ 140737488355328) := gl
        clear gl
        rcases hy with ⟨ya, yb⟩ | ⟨ya, yb⟩ | ⟨ya, yb⟩
        · have HVV : Hid ((d - 48) = (hn : Int)) := (by have := HV1.out; rw [if_pos yb] at this; exact this.symm)
          go_wp2_with (first | (go_at_call 21; refine (HJ.out _).mono ?_; rintro e w' ⟨rfl, rfl⟩) | go_in)
          obtain ⟨wo, rfl⟩ : ∃ wo : World, wo = w' := ⟨_, rfl⟩
          go_loopw [14] (fun v14 wr => VRel w.heap.size w (src.flatMap four) (at_ s k) v14 wr) (fun v14 _ => (intOf v14 + 1).toNat)
          case atStart => exact ⟨0, 3, by omega, by omega, rfl, by rw [List.take_zero, List.append_nil]; exact HO.out, HB.out, hsz⟩
          case round =>
            obtain ⟨c, j, hc4, hj, rfl, hbu2, hbel2, hsz2⟩ := hrel
            have HO2 : Hid (Lib.IsBuilder 43 5 w.heap.size w.heap.size (Lib.byteCells (src.flatMap four ++ (four (at_ s k)).take c)) wr) := hbu2
            have HB2 : Hid (Below w.heap.size w wr) := hbel2
            clear hbu2 hbel2
            rcases (by omega : (c = 0 ∧ j = 3) ∨ (c = 1 ∧ j = 2) ∨ (c = 2 ∧ j = 1) ∨ (c = 3 ∧ j = 0) ∨ (c = 4 ∧ j = -1)) with ⟨h, h'⟩ | ⟨h, h'⟩ | ⟨h, h'⟩ | ⟨h, h'⟩ | ⟨h, h'⟩
            · subst h h'
              go_wp2_with (first | (go_at_call 22; refine (Try.Builder_WriteByte w.heap.size w.heap.size _ _ _ HO2.out (by have := GL.out; rw [Lib.byteCells_length, List.length_append, List.length_take]; omega) hsz2).mono ?_; rintro e w1 ⟨rfl, hbu, hbl⟩) | go_in)
              go_roundw
              case rel => exact ⟨1, 2, by omega, by omega, by go_num, by rw [four_take0 HH.out, ← cells_snoc, ← (bit_vals hn hv2).1, ← HVV.out]; exact .inr hbu, HB2.out.trans hbl, below_size hbl hsz2⟩
              case measure => first | (simp [intOf]; done) | (simp [intOf]; omega)
            · subst h h'
              go_wp2_with (first | (go_at_call 22; refine (Try.Builder_WriteByte w.heap.size w.heap.size _ _ _ HO2.out (by have := GL.out; rw [Lib.byteCells_length, List.length_append, List.length_take]; omega) hsz2).mono ?_; rintro e w1 ⟨rfl, hbu, hbl⟩) | go_in)
              go_roundw
              case rel => exact ⟨2, 1, by omega, by omega, by go_num, by rw [four_take1 HH.out, ← cells_snoc, ← (bit_vals hn hv2).2.1, ← HVV.out]; exact .inr hbu, HB2.out.trans hbl, below_size hbl hsz2⟩
              case measure => first | (simp [intOf]; done) | (simp [intOf]; omega)
            · subst h h'
              go_wp2_with (first | (go_at_call 22; refine (Try.Builder_WriteByte w.heap.size w.heap.size _ _ _ HO2.out (by have := GL.out; rw [Lib.byteCells_length, List.length_append, List.length_take]; omega) hsz2).mono ?_; rintro e w1 ⟨rfl, hbu, hbl⟩) | go_in)
              go_roundw
              case rel => exact ⟨3, 0, by omega, by omega, by go_num, by rw [four_take2 HH.out, ← cells_snoc, ← (bit_vals hn hv2).2.2.1, ← HVV.out]; exact .inr hbu, HB2.out.trans hbl, below_size hbl hsz2⟩
              case measure => first | (simp [intOf]; done) | (simp [intOf]; omega)
            · subst h h'
              go_wp2_with (first | (go_at_call 22; refine (Try.Builder_WriteByte w.heap.size w.heap.size _ _ _ HO2.out (by have := GL.out; rw [Lib.byteCells_length, List.length_append, List.length_take]; omega) hsz2).mono ?_; rintro e w1 ⟨rfl, hbu, hbl⟩) | go_in)
              go_roundw
              case rel => exact ⟨4, -1, by omega, by omega, by go_num, by rw [four_take3 HH.out, ← cells_snoc, ← bit_val0 hn hv2, ← HVV.out]; exact .inr hbu, HB2.out.trans hbl, below_size hbl hsz2⟩
              case measure => first | (simp [intOf]; done) | (simp [intOf]; omega)
            · subst h h'
              go_wp2_with (go_in)
              go_roundw
              case rel => exact ⟨k + 1, src ++ [at_ s k], by omega, by omega, by go_num, by rw [← HS.out, tw_yes hlt HP.out, List.append_assoc]; rfl, by rw [List.length_append]; simp; omega, by rw [flat_snoc]; exact HO2.out, HB2.out, hsz2⟩
              case measure => first | (simp [intOf]; done) | (simp [intOf]; omega)
        · have HVV : Hid (J = (hn : Int)) := (of_idx HJV.out HA.out (by first | exact .inl ⟨ya, yb⟩ | exact .inr ⟨ya, yb⟩) HH.out)
          go_wp2_with (first | (go_at_call 21; refine (HJ.out _).mono ?_; rintro e w' ⟨rfl, rfl⟩) | go_in)
          obtain ⟨wo, rfl⟩ : ∃ wo : World, wo = w' := ⟨_, rfl⟩
          go_loopw [14] (fun v14 wr => VRel w.heap.size w (src.flatMap four) (at_ s k) v14 wr) (fun v14 _ => (intOf v14 + 1).toNat)
          case atStart => exact ⟨0, 3, by omega, by omega, rfl, by rw [List.take_zero, List.append_nil]; exact HO.out, HB.out, hsz⟩
          case round =>
            obtain ⟨c, j, hc4, hj, rfl, hbu2, hbel2, hsz2⟩ := hrel
            have HO2 : Hid (Lib.IsBuilder 43 5 w.heap.size w.heap.size (Lib.byteCells (src.flatMap four ++ (four (at_ s k)).take c)) wr) := hbu2
            have HB2 : Hid (Below w.heap.size w wr) := hbel2
            clear hbu2 hbel2
            rcases (by omega : (c = 0 ∧ j = 3) ∨ (c = 1 ∧ j = 2) ∨ (c = 2 ∧ j = 1) ∨ (c = 3 ∧ j = 0) ∨ (c = 4 ∧ j = -1)) with ⟨h, h'⟩ | ⟨h, h'⟩ | ⟨h, h'⟩ | ⟨h, h'⟩ | ⟨h, h'⟩
            · subst h h'
              go_wp2_with (first | (go_at_call 22; refine (Try.Builder_WriteByte w.heap.size w.heap.size _ _ _ HO2.out (by have := GL.out; rw [Lib.byteCells_length, List.length_append, List.length_take]; omega) hsz2).mono ?_; rintro e w1 ⟨rfl, hbu, hbl⟩) | go_in)
              go_roundw
              case rel => exact ⟨1, 2, by omega, by omega, by go_num, by rw [four_take0 HH.out, ← cells_snoc, ← (bit_vals hn hv2).1, ← HVV.out]; exact .inr hbu, HB2.out.trans hbl, below_size hbl hsz2⟩
              case measure => first | (simp [intOf]; done) | (simp [intOf]; omega)
            · subst h h'
              go_wp2_with (first | (go_at_call 22; refine (Try.Builder_WriteByte w.heap.size w.heap.size _ _ _ HO2.out (by have := GL.out; rw [Lib.byteCells_length, List.length_append, List.length_take]; omega) hsz2).mono ?_; rintro e w1 ⟨rfl, hbu, hbl⟩) | go_in)
              go_roundw
              case rel => exact ⟨2, 1, by omega, by omega, by go_num, by rw [four_take1 HH.out, ← cells_snoc, ← (bit_vals hn hv2).2.1, ← HVV.out]; exact .inr hbu, HB2.out.trans hbl, below_size hbl hsz2⟩
              case measure => first | (simp [intOf]; done) | (simp [intOf]; omega)
            · subst h h'
              go_wp2_with (first | (go_at_call 22; refine (Try.Builder_WriteByte w.heap.size w.heap.size _ _ _ HO2.out (by have := GL.out; rw [Lib.byteCells_length, List.length_append, List.length_take]; omega) hsz2).mono ?_; rintro e w1 ⟨rfl, hbu, hbl⟩) | go_in)
              go_roundw
              case rel => exact ⟨3, 0, by omega, by omega, by go_num, by rw [four_take2 HH.out, ← cells_snoc, ← (bit_vals hn hv2).2.2.1, ← HVV.out]; exact .inr hbu, HB2.out.trans hbl, below_size hbl hsz2⟩
              case measure => first | (simp [intOf]; done) | (simp [intOf]; omega)
            · subst h h'
              go_wp2_with (first | (go_at_call 22; refine (Try.Builder_WriteByte w.heap.size w.heap.size _ _ _ HO2.out (by have := GL.out; rw [Lib.byteCells_length, List.length_append, List.length_take]; omega) hsz2).mono ?_; rintro e w1 ⟨rfl, hbu, hbl⟩) | go_in)
              go_roundw
              case rel => exact ⟨4, -1, by omega, by omega, by go_num, by rw [four_take3 HH.out, ← cells_snoc, ← bit_val0 hn hv2, ← HVV.out]; exact .inr hbu, HB2.out.trans hbl, below_size hbl hsz2⟩
              case measure => first | (simp [intOf]; done) | (simp [intOf]; omega)
            · subst h h'
              go_wp2_with (go_in)
              go_roundw
              case rel => exact ⟨k + 1, src ++ [at_ s k], by omega, by omega, by go_num, by rw [← HS.out, tw_yes hlt HP.out, List.append_assoc]; rfl, by rw [List.length_append]; simp; omega, by rw [flat_snoc]; exact HO2.out, HB2.out, hsz2⟩
              case measure => first | (simp [intOf]; done) | (simp [intOf]; omega)
        · have HVV : Hid (J = (hn : Int)) := (of_idx HJV.out HA.out (by first | exact .inl ⟨ya, yb⟩ | exact .inr ⟨ya, yb⟩) HH.out)
          go_wp2_with (first | (go_at_call 21; refine (HJ.out _).mono ?_; rintro e w' ⟨rfl, rfl⟩) | go_in)
          obtain ⟨wo, rfl⟩ : ∃ wo : World, wo = w' := ⟨_, rfl⟩
          go_loopw [14] (fun v14 wr => VRel w.heap.size w (src.flatMap four) (at_ s k) v14 wr) (fun v14 _ => (intOf v14 + 1).toNat)
          case atStart => exact ⟨0, 3, by omega, by omega, rfl, by rw [List.take_zero, List.append_nil]; exact HO.out, HB.out, hsz⟩
          case round =>
            obtain ⟨c, j, hc4, hj, rfl, hbu2, hbel2, hsz2⟩ := hrel
            have HO2 : Hid (Lib.IsBuilder 43 5 w.heap.size w.heap.size (Lib.byteCells (src.flatMap four ++ (four (at_ s k)).take c)) wr) := hbu2
            have HB2 : Hid (Below w.heap.size w wr) := hbel2
            clear hbu2 hbel2
            rcases (by omega : (c = 0 ∧ j = 3) ∨ (c = 1 ∧ j = 2) ∨ (c = 2 ∧ j = 1) ∨ (c = 3 ∧ j = 0) ∨ (c = 4 ∧ j = -1)) with ⟨h, h'⟩ | ⟨h, h'⟩ | ⟨h, h'⟩ | ⟨h, h'⟩ | ⟨h, h'⟩
            · subst h h'
              go_wp2_with (first | (go_at_call 22; refine (Try.Builder_WriteByte w.heap.size w.heap.size _ _ _ HO2.out (by have := GL.out; rw [Lib.byteCells_length, List.length_append, List.length_take]; omega) hsz2).mono ?_; rintro e w1 ⟨rfl, hbu, hbl⟩) | go_in)
              go_roundw
              case rel => exact ⟨1, 2, by omega, by omega, by go_num, by rw [four_take0 HH.out, ← cells_snoc, ← (bit_vals hn hv2).1, ← HVV.out]; exact .inr hbu, HB2.out.trans hbl, below_size hbl hsz2⟩
              case measure => first | (simp [intOf]; done) | (simp [intOf]; omega)
            · subst h h'
              go_wp2_with (first | (go_at_call 22; refine (Try.Builder_WriteByte w.heap.size w.heap.size _ _ _ HO2.out (by have := GL.out; rw [Lib.byteCells_length, List.length_append, List.length_take]; omega) hsz2).mono ?_; rintro e w1 ⟨rfl, hbu, hbl⟩) | go_in)
              go_roundw
              case rel => exact ⟨2, 1, by omega, by omega, by go_num, by rw [four_take1 HH.out, ← cells_snoc, ← (bit_vals hn hv2).2.1, ← HVV.out]; exact .inr hbu, HB2.out.trans hbl, below_size hbl hsz2⟩
              case measure => first | (simp [intOf]; done) | (simp [intOf]; omega)
            · subst h h'
              go_wp2_with (first | (go_at_call 22; refine (Try.Builder_WriteByte w.heap.size w.heap.size _ _ _ HO2.out (by have := GL.out; rw [Lib.byteCells_length, List.length_append, List.length_take]; omega) hsz2).mono ?_; rintro e w1 ⟨rfl, hbu, hbl⟩) | go_in)
              go_roundw
              case rel => exact ⟨3, 0, by omega, by omega, by go_num, by rw [four_take2 HH.out, ← cells_snoc, ← (bit_vals hn hv2).2.2.1, ← HVV.out]; exact .inr hbu, HB2.out.trans hbl, below_size hbl hsz2⟩
              case measure => first | (simp [intOf]; done) | (simp [intOf]; omega)
            · subst h h'
              go_wp2_with (first | (go_at_call 22; refine (Try.Builder_WriteByte w.heap.size w.heap.size _ _ _ HO2.out (by have := GL.out; rw [Lib.byteCells_length, List.length_append, List.length_take]; omega) hsz2).mono ?_; rintro e w1 ⟨rfl, hbu, hbl⟩) | go_in)
              go_roundw
              case rel => exact ⟨4, -1, by omega, by omega, by go_num, by rw [four_take3 HH.out, ← cells_snoc, ← bit_val0 hn hv2, ← HVV.out]; exact .inr hbu, HB2.out.trans hbl, below_size hbl hsz2⟩
              case measure => first | (simp [intOf]; done) | (simp [intOf]; omega)
            · subst h h'
              go_wp2_with (go_in)
              go_roundw
              case rel => exact ⟨k + 1, src ++ [at_ s k], by omega, by omega, by go_num, by rw [← HS.out, tw_yes hlt HP.out, List.append_assoc]; rfl, by rw [List.length_append]; simp; omega, by rw [flat_snoc]; exact HO2.out, HB2.out, hsz2⟩
              case measure => first | (simp [intOf]; done) | (simp [intOf]; omega)
      · have HP : Hid (hexd (at_ s k) = false) := Bool.eq_false_iff.2 hp
        have HT2 : Hid (src = T) := by show src = T; rw [← HS.out, tw_no hlt HP.out, List.append_nil]
        clear hp
        obtain ⟨f1, f2, f3⟩ := hex_no HP.out HA.out
        have hr : d < 48 ∨ (57 < d ∧ d < 65) ∨ (70 < d ∧ d < 97) ∨ 102 < d := by omega
        clear f1 f2 f3
        rcases hr with gr | gr | gr | gr
        · have t48 : decide (48 ≤ d) = false := decide_eq_false (by omega)
          have p48 : ¬ 48 ≤ d := by omega
          have t97 : decide (97 ≤ d) = false := decide_eq_false (by omega)
          have p97 : ¬ 97 ≤ d := by omega
          have t65 : decide (65 ≤ d) = false := decide_eq_false (by omega)
          have p65 : ¬ 65 ≤ d := by omega
          by_cases hn : src = []
          · have hq : ((k : Int) == (i : Int) + 2) = true := by rw [beq_iff_eq, HL.out, hn]; simp
            have HN : Hid (src = []) := hn
            clear hn
            go_wp2_with (first | (go_at_call 21; refine (HJ.out _).mono ?_; rintro e w' ⟨rfl, rfl⟩) | go_in)
            go_ret3
            exact ⟨ret_tok3 (R := R) (a := 0) (s := ⟨#[]⟩) (b := 0) (by rw [HRR.out, if_pos (by rw [← HT2.out]; exact HN.out)]; rfl), HB.out⟩
          · have hq : ((k : Int) == (i : Int) + 2) = false := by rw [beq_eq_false_iff_ne]; intro e; exact hn (List.length_eq_zero_iff.1 (by omega))
            have HN : Hid (src ≠ []) := hn
            clear hn
            go_wp2_with (first | (go_at_call 23; refine (Try.Builder_String_any w.heap.size w.heap.size _ _ HO.out hsz).mono ?_; rintro e w1 ⟨rfl, hbl⟩) | first | (go_at_call 21; refine (HJ.out _).mono ?_; rintro e w' ⟨rfl, rfl⟩) | go_in)
            go_ret3
            exact ⟨ret_tok3 (R := R) (a := 5) (s := ⟨(src.flatMap four).toArray⟩) (b := (k : Int)) (by rw [HRR.out, ← HT2.out, if_neg HN.out, HL.out]), HB.out.trans hbl⟩
        · have t48 : decide (48 ≤ d) = true := decide_eq_true (by omega)
          have p48 : 48 ≤ d := by omega
          have t57 : decide (d ≤ 57) = false := decide_eq_false (by omega)
          have p57 : ¬ d ≤ 57 := by omega
          have t97 : decide (97 ≤ d) = false := decide_eq_false (by omega)
          have p97 : ¬ 97 ≤ d := by omega
          have t65 : decide (65 ≤ d) = false := decide_eq_false (by omega)
          have p65 : ¬ 65 ≤ d := by omega
          by_cases hn : src = []
          · have hq : ((k : Int) == (i : Int) + 2) = true := by rw [beq_iff_eq, HL.out, hn]; simp
            have HN : Hid (src = []) := hn
            clear hn
            go_wp2_with (first | (go_at_call 21; refine (HJ.out _).mono ?_; rintro e w' ⟨rfl, rfl⟩) | go_in)
            go_ret3
            exact ⟨ret_tok3 (R := R) (a := 0) (s := ⟨#[]⟩) (b := 0) (by rw [HRR.out, if_pos (by rw [← HT2.out]; exact HN.out)]; rfl), HB.out⟩
          · have hq : ((k : Int) == (i : Int) + 2) = false := by rw [beq_eq_false_iff_ne]; intro e; exact hn (List.length_eq_zero_iff.1 (by omega))
            have HN : Hid (src ≠ []) := hn
            clear hn
            go_wp2_with (first | (go_at_call 23; refine (Try.Builder_String_any w.heap.size w.heap.size _ _ HO.out hsz).mono ?_; rintro e w1 ⟨rfl, hbl⟩) | first | (go_at_call 21; refine (HJ.out _).mono ?_; rintro e w' ⟨rfl, rfl⟩) | go_in)
            go_ret3
            exact ⟨ret_tok3 (R := R) (a := 5) (s := ⟨(src.flatMap four).toArray⟩) (b := (k : Int)) (by rw [HRR.out, ← HT2.out, if_neg HN.out, HL.out]), HB.out.trans hbl⟩
        · have t48 : decide (48 ≤ d) = true := decide_eq_true (by omega)
          have p48 : 48 ≤ d := by omega
          have t57 : decide (d ≤ 57) = false := decide_eq_false (by omega)
          have p57 : ¬ d ≤ 57 := by omega
          have t97 : decide (97 ≤ d) = false := decide_eq_false (by omega)
          have p97 : ¬ 97 ≤ d := by omega
          have t65 : decide (65 ≤ d) = true := decide_eq_true (by omega)
          have p65 : 65 ≤ d := by omega
          have t70 : decide (d ≤ 70) = false := decide_eq_false (by omega)
          have p70 : ¬ d ≤ 70 := by omega
          by_cases hn : src = []
          · have hq : ((k : Int) == (i : Int) + 2) = true := by rw [beq_iff_eq, HL.out, hn]; simp
            have HN : Hid (src = []) := hn
            clear hn
            go_wp2_with (first | (go_at_call 21; refine (HJ.out _).mono ?_; rintro e w' ⟨rfl, rfl⟩) | go_in)
            go_ret3
            exact ⟨ret_tok3 (R := R) (a := 0) (s := ⟨#[]⟩) (b := 0) (by rw [HRR.out, if_pos (by rw [← HT2.out]; exact HN.out)]; rfl), HB.out⟩
          · have hq : ((k : Int) == (i : Int) + 2) = false := by rw [beq_eq_false_iff_ne]; intro e; exact hn (List.length_eq_zero_iff.1 (by omega))
            have HN : Hid (src ≠ []) := hn
            clear hn
            go_wp2_with (first | (go_at_call 23; refine (Try.Builder_String_any w.heap.size w.heap.size _ _ HO.out hsz).mono ?_; rintro e w1 ⟨rfl, hbl⟩) | first | (go_at_call 21; refine (HJ.out _).mono ?_; rintro e w' ⟨rfl, rfl⟩) | go_in)
            go_ret3
            exact ⟨ret_tok3 (R := R) (a := 5) (s := ⟨(src.flatMap four).toArray⟩) (b := (k : Int)) (by rw [HRR.out, ← HT2.out, if_neg HN.out, HL.out]), HB.out.trans hbl⟩
        · have t48 : decide (48 ≤ d) = true := decide_eq_true (by omega)
          have p48 : 48 ≤ d := by omega
          have t57 : decide (d ≤ 57) = false := decide_eq_false (by omega)
          have p57 : ¬ d ≤ 57 := by omega
          have t97 : decide (97 ≤ d) = true := decide_eq_true (by omega)
          have p97 : 97 ≤ d := by omega
          have t102 : decide (d ≤ 102) = false := decide_eq_false (by omega)
          have p102 : ¬ d ≤ 102 := by omega
          have t65 : decide (65 ≤ d) = true := decide_eq_true (by omega)
          have p65 : 65 ≤ d := by omega
          have t70 : decide (d ≤ 70) = false := decide_eq_false (by omega)
          have p70 : ¬ d ≤ 70 := by omega
          by_cases hn : src = []
          · have hq : ((k : Int) == (i : Int) + 2) = true := by rw [beq_iff_eq, HL.out, hn]; simp
            have HN : Hid (src = []) := hn
            clear hn
            go_wp2_with (first | (go_at_call 21; refine (HJ.out _).mono ?_; rintro e w' ⟨rfl, rfl⟩) | go_in)
            go_ret3
            exact ⟨ret_tok3 (R := R) (a := 0) (s := ⟨#[]⟩) (b := 0) (by rw [HRR.out, if_pos (by rw [← HT2.out]; exact HN.out)]; rfl), HB.out⟩
          · have hq : ((k : Int) == (i : Int) + 2) = false := by rw [beq_eq_false_iff_ne]; intro e; exact hn (List.length_eq_zero_iff.1 (by omega))
            have HN : Hid (src ≠ []) := hn
            clear hn
            go_wp2_with (first | (go_at_call 23; refine (Try.Builder_String_any w.heap.size w.heap.size _ _ HO.out hsz).mono ?_; rintro e w1 ⟨rfl, hbl⟩) | first | (go_at_call 21; refine (HJ.out _).mono ?_; rintro e w' ⟨rfl, rfl⟩) | go_in)
            go_ret3
            exact ⟨ret_tok3 (R := R) (a := 5) (s := ⟨(src.flatMap four).toArray⟩) (b := (k : Int)) (by rw [HRR.out, ← HT2.out, if_neg HN.out, HL.out]), HB.out.trans hbl⟩
    · have HT2 : Hid (src = T) := by show src = T; rw [← HS.out, tw_end (by omega), List.append_nil]
      by_cases hn : src = []
      · have hq : ((k : Int) == (i : Int) + 2) = true := by rw [beq_iff_eq, HL.out, hn]; simp
        have HN : Hid (src = []) := hn
        clear hn
        go_wp2_with (go_in)
        go_ret3
        exact ⟨ret_tok3 (R := R) (a := 0) (s := ⟨#[]⟩) (b := 0) (by rw [HRR.out, if_pos (by rw [← HT2.out]; exact HN.out)]; rfl), HB.out⟩
      · have hq : ((k : Int) == (i : Int) + 2) = false := by rw [beq_eq_false_iff_ne]; intro e; exact hn (List.length_eq_zero_iff.1 (by omega))
        have HN : Hid (src ≠ []) := hn
        clear hn
        go_wp2_with (first | (go_at_call 23; refine (Try.Builder_String_any w.heap.size w.heap.size _ _ HO.out hsz).mono ?_; rintro e w1 ⟨rfl, hbl⟩) | go_in)
        go_ret3
        exact ⟨ret_tok3 (R := R) (a := 5) (s := ⟨(src.flatMap four).toArray⟩) (b := (k : Int)) (by rw [HRR.out, ← HT2.out, if_neg HN.out, HL.out]), HB.out.trans hbl⟩
end Go.Proofs.Ytiimmgkghnmjlaa.Tok

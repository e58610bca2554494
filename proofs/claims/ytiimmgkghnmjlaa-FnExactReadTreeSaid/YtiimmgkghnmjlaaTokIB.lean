/- impl.oneToken at '#': binary and hexadecimal digits (strings.Builder by the shelf's contracts). -/
import Derived.Test.YtiimmgkghnmjlaaTokI
import Derived.Lib.Builder
namespace Go.Proofs.Ytiimmgkghnmjlaa.Tok
open Go.RowKit Go.Proofs.YtiimmgkghnmjlaaW.PrintWords Go.Proofs.Ytiimmgkghnmjlaa Go.Proofs.Ytiimmgkghnmjlaa.By
set_option linter.unusedVariables false
set_option linter.unusedSimpArgs false
set_option maxRecDepth 100000
/-- what the loop over digits keeps: the builder holds what has been read -/
def WRel (s : ByteArray) (i B : Nat) (w : World) (p : UInt8 → Bool) (g : UInt8 → List UInt8) (T : List UInt8) (v11 : Value) (wr : World) : Prop :=
  ∃ (k : Nat) (src : List UInt8), i + 2 ≤ k ∧ k ≤ s.size ∧ v11 = .int .i64 k ∧ src ++ ((L s).drop k).takeWhile p = T ∧ k = i + 2 + src.length ∧ Lib.IsBuilder 43 5 B B (Lib.byteCells (src.flatMap g)) wr ∧ Below B w wr ∧ B ≤ wr.heap.size
/-- what the loop over a digit's four bits keeps -/
def VRel (B : Nat) (w : World) (F : List UInt8) (ch : UInt8) (v14 : Value) (wr : World) : Prop :=
  ∃ (c : Nat) (j : Int), c ≤ 4 ∧ j + c = 3 ∧ v14 = .int .i64 j ∧ Lib.IsBuilder 43 5 B B (Lib.byteCells (F ++ (four ch).take c)) wr ∧ Below B w wr ∧ B ≤ wr.heap.size
theorem cells_snoc (l : List UInt8) (c : UInt8) : Lib.byteCells l ++ [.int .u8 (c.toNat : Int)] = Lib.byteCells (l ++ [c]) := by rw [Lib.byteCells_append]; rfl
theorem hex_index : ∀ n : Nat, n < 256 → (97 ≤ n ∧ n ≤ 102) ∨ (65 ≤ n ∧ n ≤ 70) → (Lib.indexByte [48, 49, 50, 51, 52, 53, 54, 55, 56, 57, 97, 98, 99, 100, 101, 102] (Go.bits .or .u8 (n : Int) 32).toNat.toUInt8 : Int) = (hexv (UInt8.ofNat n) : Nat) := by decide +kernel
theorem below_size {B : Nat} {w w' : World} (h : Below B w w') (hB : B ≤ w.heap.size) : B ≤ w'.heap.size := Nat.le_trans hB h.size

set_option maxHeartbeats 4000000 in
theorem impl_bin (s : ByteArray) (i : Nat) (w : World) (hs : s.size ≤ 35184372088000) (hi : i + 1 < s.size) (hc : bt s i = 35) (kd : Int) (hk0 : 0 ≤ kd) (hk1 : kd ≤ 255) (hkd : bt s (i + 1 : Nat) = kd) (hb : kd = 98) (R : Int × ByteArray × Int) (HR : Hid (bits s i = R)) :
    Calls Try.prog 11 #[.string s, .int .i64 i] w fun e w' => e = .returned (.tuple #[.int .i64 R.1, .string R.2.1, .int .i64 R.2.2]) ∧ Below w.heap.size w w' := by
  have hx : ∀ h : i < s.size, ((s[i]'h).toNat : Int) = bt s i := bt_at s i
  have hx1 : ∀ h : i + 1 < s.size, ((s[i + 1]'h).toNat : Int) = bt s (i + 1 : Nat) := bt_at s (i + 1 : Nat)
  have HAK : Hid (((at_ s (i + 1)).toNat : Int) = kd) := (at_int s (i + 1) hi).symm.trans hkd
  rw [hkd] at hx1
  clear hkd
  obtain ⟨T, hT⟩ : ∃ T, ((L s).drop (i + 2)).takeWhile bin = T := ⟨_, rfl⟩
  have HTT : Hid (((L s).drop (i + 2)).takeWhile bin = T) := hT
  have HRR : Hid (R = if T = [] then noTok else (5, ⟨T.toArray⟩, ((i + 2 + T.length : Nat) : Int))) := by
    show R = _
    have e : at_ s (i + 1) = 98 := (u8_eq 98 (by omega)).1 (HAK.out.trans hb)
    rw [← HR.out]; unfold bits; rw [get_at s (i + 1) hi, e, if_pos rfl, hT]
  clear hT
  subst hb
  have hi2 : ¬ s.size ≤ i + 1 := by omega
  go_enter Try.func11, Try.ntmps11
  go_wp2_with (go_in)
  go_loopw [11] (fun v11 wr => WRel s i w.heap.size w bin (fun c => [c]) T v11 wr) (fun v11 _ => s.size - (intOf v11).toNat)
  case atStart => exact ⟨i + 2, [], by omega, by omega, by first | rfl | go_num, HTT.out, by simp, Lib.fresh_isBuilder _ _ _, by first | exact (Below.refl _ _).alloc (Nat.le_refl _) _ , by simp⟩
  case round =>
    obtain ⟨k, src, hk1', hk2, rfl, hS, hkl, hbu0, hbel, hsz⟩ := hrel
    have HS : Hid (src ++ ((L s).drop k).takeWhile bin = T) := hS
    have HL : Hid (k = i + 2 + src.length) := hkl
    have hkl' : i + 2 + src.length ≤ k := by omega
    have hkl2 : k ≤ i + 2 + src.length := by omega
    have HO : Hid (Lib.IsBuilder 43 5 w.heap.size w.heap.size (Lib.byteCells (src.flatMap (fun c => [c]))) wr) := hbu0
    have HB : Hid (Below w.heap.size w wr) := hbel
    clear hS hkl hbu0 hbel
    by_cases hlt : k < s.size
    · have hxk : ∀ h : k < s.size, ((s[k]'h).toNat : Int) = bt s k := bt_at s k
      obtain ⟨b0, b1⟩ := bt_range s k
      obtain ⟨d, hd⟩ : ∃ d, bt s k = d := ⟨_, rfl⟩
      have HA : Hid (((at_ s k).toNat : Int) = d) := (at_int s k hlt).symm.trans hd
      rw [hd] at b0 b1
      obtain ⟨J, hJ⟩ : ∃ J : Int, (Lib.indexByte [48, 49, 50, 51, 52, 53, 54, 55, 56, 57, 97, 98, 99, 100, 101, 102] (Go.bits .or .u8 d 32).toNat.toUInt8 : Int) = J := ⟨_, rfl⟩
      have HJV : Hid ((Lib.indexByte [48, 49, 50, 51, 52, 53, 54, 55, 56, 57, 97, 98, 99, 100, 101, 102] (Go.bits .or .u8 d 32).toNat.toUInt8 : Int) = J) := hJ
      have HJ : Hid (∀ W, Calls Try.prog 21 #[.string ⟨#[48, 49, 50, 51, 52, 53, 54, 55, 56, 57, 97, 98, 99, 100, 101, 102]⟩, .int .u8 (Go.bits .or .u8 d 32)] W fun e w' => e = .returned (.int .i64 J) ∧ w' = W) := fun W => by rw [← hJ]; exact Try.strings_IndexByte ⟨#[48, 49, 50, 51, 52, 53, 54, 55, 56, 57, 97, 98, 99, 100, 101, 102]⟩ (Go.bits .or .u8 d 32) W
      clear hJ
      by_cases hp : bin (at_ s k) = true
      · have HP : Hid (bin (at_ s k) = true) := hp
        clear hp
        have HD : Hid (d = 48 ∨ d = 49) := by
          have := HP.out; unfold bin at this; simp only [Bool.or_eq_true, beq_iff_eq] at this
          rcases this with e | e
          · left; have := HA.out; rw [e] at this; simp at this; omega
          · right; have := HA.out; rw [e] at this; simp at this; omega
        have gl : (src.flatMap (fun c => [c])).length + 1 ≤ 140737488355328 := by rw [flat_one]; omega
        have GL : Hid ((src.flatMap (fun c => [c])).length + 1 ≤ 140737488355328) := gl
        clear gl
        rcases HD.out with g | g
        all_goals
          have HA3 : Hid (((at_ s k).toNat : Int) = d) := HA.out
          have g48 : 48 ≤ d := by omega
          have g57 : d ≤ 57 := by omega
          have HG := g
          rw [hd, g] at hxk
          have HGG : Hid (d = _) := HG
          clear HG
          subst g
          go_wp2_with (first | (go_at_call 21; refine (HJ.out _).mono ?_; rintro e w' ⟨rfl, rfl⟩) | (go_at_call 22; refine (Try.Builder_WriteByte w.heap.size w.heap.size _ _ _ HO.out (by rw [Lib.byteCells_length]; have := GL.out; omega) hsz).mono ?_; rintro e w1 ⟨rfl, hbu, hbl⟩) | go_in)
          go_roundw
          case rel => exact ⟨k + 1, src ++ [at_ s k], by omega, by omega, by go_num, by rw [← HS.out, tw_yes hlt HP.out, List.append_assoc]; rfl, by rw [List.length_append]; simp; omega, by rw [flat_snoc, ← cells_snoc, HA3.out]; exact .inr hbu, HB.out.trans hbl, below_size hbl hsz⟩
          case measure => simp [intOf]; omega
      · have HP : Hid (bin (at_ s k) = false) := Bool.eq_false_iff.2 hp
        have HT2 : Hid (src = T) := by show src = T; rw [← HS.out, tw_no hlt HP.out, List.append_nil]
        clear hp
        have g48 : (d != 48) = true := bne_iff_ne.2 (fun e => by have := (u8_eq 48 (by omega)).1 (HA.out.trans e); have h2 := HP.out; rw [this] at h2; exact absurd h2 (by decide))
        have g49 : (d != 49) = true := bne_iff_ne.2 (fun e => by have := (u8_eq 49 (by omega)).1 (HA.out.trans e); have h2 := HP.out; rw [this] at h2; exact absurd h2 (by decide))
        rcases (by omega : d < 48 ∨ (48 ≤ d ∧ d ≤ 57) ∨ 57 < d) with gr | ⟨gr, gr'⟩ | gr
        all_goals
          by_cases hn : src = []
          · have hq : ((k : Int) == (i : Int) + 2) = true := by rw [beq_iff_eq, HL.out, hn]; simp
            have HN : Hid (src = []) := hn
            clear hn
            go_wp2_with (first | (go_at_call 21; refine (HJ.out _).mono ?_; rintro e w' ⟨rfl, rfl⟩) | go_in)
            go_ret3
            exact ⟨ret_tok3 (R := R) (a := 0) (s := ⟨#[]⟩) (b := 0) (by rw [HRR.out, if_pos (by rw [← HT2.out]; exact HN.out)]; rfl), HB.out⟩
          · have hq : ((k : Int) == (i : Int) + 2) = false := by rw [beq_eq_false_iff_ne]; intro e; exact hn (List.length_eq_zero_iff.1 (by omega))
            have HN : Hid (src ≠ []) := hn
            clear hn
            go_wp2_with (first | (go_at_call 23; refine (Try.Builder_String_any w.heap.size w.heap.size _ _ HO.out hsz).mono ?_; rintro e w1 ⟨rfl, hbl⟩) | first | (go_at_call 21; refine (HJ.out _).mono ?_; rintro e w' ⟨rfl, rfl⟩) | go_in)
            go_ret3
            exact ⟨ret_tok3 (R := R) (a := 5) (s := ⟨src.toArray⟩) (b := (k : Int)) (by rw [HRR.out, ← HT2.out, if_neg HN.out, HL.out]), HB.out.trans hbl⟩
    · have HT2 : Hid (src = T) := by show src = T; rw [← HS.out, tw_end (by omega), List.append_nil]
      by_cases hn : src = []
      · have hq : ((k : Int) == (i : Int) + 2) = true := by rw [beq_iff_eq, HL.out, hn]; simp
        have HN : Hid (src = []) := hn
        clear hn
        go_wp2_with (go_in)
        go_ret3
        exact ⟨ret_tok3 (R := R) (a := 0) (s := ⟨#[]⟩) (b := 0) (by rw [HRR.out, if_pos (by rw [← HT2.out]; exact HN.out)]; rfl), HB.out⟩
      · have hq : ((k : Int) == (i : Int) + 2) = false := by rw [beq_eq_false_iff_ne]; intro e; exact hn (List.length_eq_zero_iff.1 (by omega))
        have HN : Hid (src ≠ []) := hn
        clear hn
        go_wp2_with (first | (go_at_call 23; refine (Try.Builder_String_any w.heap.size w.heap.size _ _ HO.out hsz).mono ?_; rintro e w1 ⟨rfl, hbl⟩) | go_in)
        go_ret3
        exact ⟨ret_tok3 (R := R) (a := 5) (s := ⟨src.toArray⟩) (b := (k : Int)) (by rw [HRR.out, ← HT2.out, if_neg HN.out, HL.out]), HB.out.trans hbl⟩
end Go.Proofs.Ytiimmgkghnmjlaa.Tok

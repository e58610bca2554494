/- spec.l3Token is `tok`, by walks, one theorem a kind of token. -/
import Derived.Test.YtbeelgaganbblaaDoorTokP
import Derived.Handy
import Derived.Outline
import Derived.WalkLawsBesides
import Derived.WalkSpells
import Derived.Deep.QuietTactic
import Derived.BigQuiet
namespace Go.Proofs.YtbeelgaganbblaaDoor.Tok
open Go.RowKit Go.Proofs.YtbeelgaganbblaaDoorW.PrintWords Go.Proofs.YtbeelgaganbblaaDoor Go.Proofs.YtbeelgaganbblaaDoor.By
set_option linter.unusedVariables false
set_option linter.unusedSimpArgs false
set_option maxRecDepth 100000

theorem ret_tok {a b : Int} {s : ByteArray} {R : Int × ByteArray × Int} (h : R = (a, s, b)) : Ending.returned (.agg #[.int .i64 a, .string s, .int .i64 b]) = .returned (.agg #[.int .i64 R.1, .string R.2.1, .int .i64 R.2.2]) := by
  rw [h]


set_option maxHeartbeats 2000000 in
theorem spec_named (s : ByteArray) (i : Nat) (w : World) (hs : s.size ≤ 140737488351232) (hi : i < s.size) (c : Int) (hc : bt s i = c) (c0 : 0 ≤ c) (c1 : c ≤ 255) (n1 : (c == 34) = false) (n2 : (c == 124) = false) (n3 : (c == 58) = false) (n4 : (c == 35) = false) (nd : c < 48 ∨ 57 < c) (hn : nmB c = true) (R : Int × ByteArray × Int) (HR : Hid (named s i = R)) :
    Calls Tryd.prog 77 #[.string s, .int .i64 i] w fun e w' => e = .returned (.agg #[.int .i64 R.1, .string R.2.1, .int .i64 R.2.2]) ∧ Below w.heap.size w w' := by
  have hx : ∀ h : i < s.size, ((s[i]'h).toNat : Int) = bt s i := bt_at s i
  obtain ⟨E, hE⟩ : ∃ E, i + 1 + scan nm ((L s).drop (i + 1)) = E := ⟨_, rfl⟩
  obtain ⟨hE3, hE4⟩ : i + 1 ≤ E ∧ E ≤ s.size := by have := scan_bound s nm (i + 1) (by omega); omega
  have HEE : Hid (i + 1 + scan nm ((L s).drop (i + 1)) = E) := hE
  have HE : Hid (nm (at_ s i) = true) := by show nm (at_ s i) = true; unfold nm; rw [← at_int s i hi, hc]; exact hn
  clear hE
  rcases nd with nd | nd
  all_goals
    go_enter Tryd.func77, Tryd.ntmps77
    go_wp2_with (first | (go_at_call 75; refine (spec_l3NameByte_any _ _ (by omega) (by omega)).mono ?_; rintro e w' ⟨rfl, rfl⟩) | go_in)
    go_loop [11] (fun v => ∃ k : Nat, i ≤ k ∧ k ≤ s.size ∧ v = .int .i64 k ∧ Hid (k + scan nm ((L s).drop k) = E)) (fun v => s.size - (intOf v).toNat)
    case atStart => exact ⟨i, by omega, by omega, by first | rfl | go_num, by show _ = _; rw [scan_step hi HE.out, ← HEE.out]; omega⟩
    case round =>
      obtain ⟨k, hk1, hk2, rfl, Hk⟩ := hrel
      by_cases hltk : k < s.size
      · have hxk : ∀ h : k < s.size, ((s[k]'h).toNat : Int) = bt s k := bt_at s k
        obtain ⟨b0k, b1k⟩ := bt_range s k
        obtain ⟨dk, hdk⟩ : ∃ d, bt s k = d := ⟨_, rfl⟩
        have HAk : Hid (((at_ s k).toNat : Int) = dk) := (at_int s k hltk).symm.trans hdk
        rw [hdk] at b0k b1k
        by_cases hpk : nm (at_ s k) = true
        · have HPk : Hid (nm (at_ s k) = true) := hpk
          clear hpk
          have HNk : nmB dk = true := by have := HPk.out; unfold nm at this; rwa [HAk.out] at this
          go_wp2_with ((go_at_call 75; refine (spec_l3NameByte_any _ _ (by omega) (by omega)).mono ?_; rintro e w' ⟨rfl, rfl⟩))
          go_round
          case rel => exact ⟨k + 1, by omega, by omega, by go_num, by show _ = _; rw [← Hk.out, scan_step hltk HPk.out]; omega⟩
          case measure => simp [intOf]; omega
        · have HPk : Hid (nm (at_ s k) = false) := Bool.eq_false_iff.2 hpk
          have hkEk : Hid (k = E) := by show k = E; rw [← Hk.out, scan_stop hltk HPk.out]; rfl
          clear hpk
          have HNk : nmB dk = false := by have := HPk.out; unfold nm at this; rwa [HAk.out] at this
          go_wp2_with ((go_at_call 75; refine (spec_l3NameByte_any _ _ (by omega) (by omega)).mono ?_; rintro e w' ⟨rfl, rfl⟩))
          exact bodyPost_ret (v := .agg #[.int .i64 2, .string (s.extract i k), .int .i64 k]) (by simp [results, Tryd.results77, go_sem]) rfl ⟨ret_tok (by rw [← HR.out]; unfold named; rw [HEE.out, hkEk.out]), (Below.refl _ _).alloc (Nat.le_refl _) _⟩
      · have hkEk : Hid (k = E) := by show k = E; rw [← Hk.out, scan_end (by omega)]; rfl
        go_wp2_with (fail)
        exact bodyPost_ret (v := .agg #[.int .i64 2, .string (s.extract i k), .int .i64 k]) (by simp [results, Tryd.results77, go_sem]) rfl ⟨ret_tok (by rw [← HR.out]; unfold named; rw [HEE.out, hkEk.out]), (Below.refl _ _).alloc (Nat.le_refl _) _⟩

set_option maxHeartbeats 2000000 in
theorem spec_keyed (s : ByteArray) (i : Nat) (w : World) (hs : s.size ≤ 140737488351232) (hi : i < s.size) (hc : bt s i = 58) (R : Int × ByteArray × Int) (HR : Hid (keyed s i = R)) :
    Calls Tryd.prog 77 #[.string s, .int .i64 i] w fun e w' => e = .returned (.agg #[.int .i64 R.1, .string R.2.1, .int .i64 R.2.2]) ∧ Below w.heap.size w w' := by
  have hx : ∀ h : i < s.size, ((s[i]'h).toNat : Int) = bt s i := bt_at s i
  obtain ⟨E, hE⟩ : ∃ E, i + 1 + scan nm ((L s).drop (i + 1)) = E := ⟨_, rfl⟩
  obtain ⟨hE3, hE4⟩ : i + 1 ≤ E ∧ E ≤ s.size := by have := scan_bound s nm (i + 1) (by omega); omega
  have HEE : Hid (i + 1 + scan nm ((L s).drop (i + 1)) = E) := hE
  clear hE
  go_enter Tryd.func77, Tryd.ntmps77
  go_wp2_with (first | (go_at_call 75; refine (spec_l3NameByte_any _ _ (by omega) (by omega)).mono ?_; rintro e w' ⟨rfl, rfl⟩) | go_in)
  go_loop [9] (fun v => ∃ k : Nat, i + 1 ≤ k ∧ k ≤ s.size ∧ v = .int .i64 k ∧ Hid (k + scan nm ((L s).drop k) = E)) (fun v => s.size - (intOf v).toNat)
  case atStart => exact ⟨i + 1, by omega, by omega, by first | rfl | go_num, HEE⟩
  case round =>
    obtain ⟨k, hk1, hk2, rfl, Hk⟩ := hrel
    by_cases hltk : k < s.size
    · have hxk : ∀ h : k < s.size, ((s[k]'h).toNat : Int) = bt s k := bt_at s k
      obtain ⟨b0k, b1k⟩ := bt_range s k
      obtain ⟨dk, hdk⟩ : ∃ d, bt s k = d := ⟨_, rfl⟩
      have HAk : Hid (((at_ s k).toNat : Int) = dk) := (at_int s k hltk).symm.trans hdk
      rw [hdk] at b0k b1k
      by_cases hpk : nm (at_ s k) = true
      · have HPk : Hid (nm (at_ s k) = true) := hpk
        clear hpk
        have HNk : nmB dk = true := by have := HPk.out; unfold nm at this; rwa [HAk.out] at this
        go_wp2_with ((go_at_call 75; refine (spec_l3NameByte_any _ _ (by omega) (by omega)).mono ?_; rintro e w' ⟨rfl, rfl⟩))
        go_round
        case rel => exact ⟨k + 1, by omega, by omega, by go_num, by show _ = _; rw [← Hk.out, scan_step hltk HPk.out]; omega⟩
        case measure => simp [intOf]; omega
      · have HPk : Hid (nm (at_ s k) = false) := Bool.eq_false_iff.2 hpk
        have hkEk : Hid (k = E) := by show k = E; rw [← Hk.out, scan_stop hltk HPk.out]; rfl
        clear hpk
        have HNk : nmB dk = false := by have := HPk.out; unfold nm at this; rwa [HAk.out] at this
        by_cases hq : k = i + 1
        · have hq1 : ((k : Int) == (i : Int) + 1) = true := by rw [beq_iff_eq]; omega
          have hq2 : Hid (k = i + 1) := hq
          clear hq
          go_wp2_with ((go_at_call 75; refine (spec_l3NameByte_any _ _ (by omega) (by omega)).mono ?_; rintro e w' ⟨rfl, rfl⟩))
          exact bodyPost_ret (v := .agg #[.int .i64 0, .string ⟨#[]⟩, .int .i64 0]) (by simp [results, Tryd.results77, go_sem]) rfl ⟨ret_tok (by rw [← HR.out]; unfold keyed; rw [HEE.out, if_pos (by have := hkEk.out; have := hq2.out; omega)]; rfl), (Below.refl _ _).alloc (Nat.le_refl _) _⟩
        · have hq1 : ((k : Int) == (i : Int) + 1) = false := by rw [beq_eq_false_iff_ne]; omega
          go_wp2_with ((go_at_call 75; refine (spec_l3NameByte_any _ _ (by omega) (by omega)).mono ?_; rintro e w' ⟨rfl, rfl⟩))
          exact bodyPost_ret (v := .agg #[.int .i64 7, .string (s.extract (i + 1) k), .int .i64 k]) (by simp [results, Tryd.results77, go_sem]) rfl ⟨ret_tok (by rw [← HR.out]; unfold keyed; rw [HEE.out, if_neg (by have := hkEk.out; omega), hkEk.out]), (Below.refl _ _).alloc (Nat.le_refl _) _⟩
    · have hkEk : Hid (k = E) := by show k = E; rw [← Hk.out, scan_end (by omega)]; rfl
      by_cases hq : k = i + 1
      · have hq1 : ((k : Int) == (i : Int) + 1) = true := by rw [beq_iff_eq]; omega
        have hq2 : Hid (k = i + 1) := hq
        clear hq
        go_wp2_with (fail)
        exact bodyPost_ret (v := .agg #[.int .i64 0, .string ⟨#[]⟩, .int .i64 0]) (by simp [results, Tryd.results77, go_sem]) rfl ⟨ret_tok (by rw [← HR.out]; unfold keyed; rw [HEE.out, if_pos (by have := hkEk.out; have := hq2.out; omega)]; rfl), (Below.refl _ _).alloc (Nat.le_refl _) _⟩
      · have hq1 : ((k : Int) == (i : Int) + 1) = false := by rw [beq_eq_false_iff_ne]; omega
        go_wp2_with (fail)
        exact bodyPost_ret (v := .agg #[.int .i64 7, .string (s.extract (i + 1) k), .int .i64 k]) (by simp [results, Tryd.results77, go_sem]) rfl ⟨ret_tok (by rw [← HR.out]; unfold keyed; rw [HEE.out, if_neg (by have := hkEk.out; omega), hkEk.out]), (Below.refl _ _).alloc (Nat.le_refl _) _⟩

set_option maxHeartbeats 2000000 in
theorem spec_barred (s : ByteArray) (i : Nat) (w : World) (hs : s.size ≤ 140737488351232) (hi : i < s.size) (hc : bt s i = 124) (R : Int × ByteArray × Int) (HR : Hid (barred s i = R)) :
    Calls Tryd.prog 77 #[.string s, .int .i64 i] w fun e w' => e = .returned (.agg #[.int .i64 R.1, .string R.2.1, .int .i64 R.2.2]) ∧ Below w.heap.size w w' := by
  have hx : ∀ h : i < s.size, ((s[i]'h).toNat : Int) = bt s i := bt_at s i
  obtain ⟨E, hE⟩ : ∃ E, i + 1 + scan inb ((L s).drop (i + 1)) = E := ⟨_, rfl⟩
  obtain ⟨hE3, hE4⟩ : i + 1 ≤ E ∧ E ≤ s.size := by have := scan_bound s inb (i + 1) (by omega); omega
  have HEE : Hid (i + 1 + scan inb ((L s).drop (i + 1)) = E) := hE
  clear hE
  go_enter Tryd.func77, Tryd.ntmps77
  go_wp2_with (first | (go_at_call 75; refine (spec_l3NameByte_any _ _ (by omega) (by omega)).mono ?_; rintro e w' ⟨rfl, rfl⟩) | go_in)
  go_loop [8] (fun v => ∃ k : Nat, i + 1 ≤ k ∧ k ≤ s.size ∧ v = .int .i64 k ∧ Hid (k + scan inb ((L s).drop k) = E)) (fun v => s.size - (intOf v).toNat)
  case atStart => exact ⟨i + 1, by omega, by omega, by first | rfl | go_num, HEE⟩
  case round =>
    obtain ⟨k, hk1, hk2, rfl, Hk⟩ := hrel
    by_cases hltk : k < s.size
    · have hxk : ∀ h : k < s.size, ((s[k]'h).toNat : Int) = bt s k := bt_at s k
      obtain ⟨b0k, b1k⟩ := bt_range s k
      obtain ⟨dk, hdk⟩ : ∃ d, bt s k = d := ⟨_, rfl⟩
      have HAk : Hid (((at_ s k).toNat : Int) = dk) := (at_int s k hltk).symm.trans hdk
      rw [hdk] at b0k b1k
      by_cases hpk : inb (at_ s k) = true
      · have HPk : Hid (inb (at_ s k) = true) := hpk
        clear hpk
        have HBk : 32 ≤ dk ∧ dk ≤ 126 ∧ dk ≠ 124 ∧ dk ≠ 92 := inb_yes HPk.out HAk.out
        obtain ⟨g1, g2, g3, g4⟩ := HBk
        have g3' : (dk != 124) = true := bne_iff_ne.2 g3
        have g4' : (dk != 92) = true := bne_iff_ne.2 g4
        clear g3 g4
        go_wp2_with (fail)
        go_round
        case rel => exact ⟨k + 1, by omega, by omega, by go_num, by show _ = _; rw [← Hk.out, scan_step hltk HPk.out]; omega⟩
        case measure => simp [intOf]; omega
      · have HPk : Hid (inb (at_ s k) = false) := Bool.eq_false_iff.2 hpk
        have hkEk : Hid (k = E) := by show k = E; rw [← Hk.out, scan_stop hltk HPk.out]; rfl
        clear hpk
        have HBk := inb_no HPk.out HAk.out
        rcases HBk with g | g | g | g
        · go_wp2_with (fail)
          exact bodyPost_ret (v := .agg #[.int .i64 0, .string ⟨#[]⟩, .int .i64 0]) (by simp [results, Tryd.results77, go_sem]) rfl ⟨ret_tok (by rw [← HR.out]; unfold barred; rw [HEE.out, ← hkEk.out, if_neg (by rw [get_at s k hltk]; intro e; have := HAk.out; rw [Option.some.inj e] at this; simp at this <;> omega)]; rfl), (Below.refl _ _).alloc (Nat.le_refl _) _⟩
        · go_wp2_with (fail)
          exact bodyPost_ret (v := .agg #[.int .i64 0, .string ⟨#[]⟩, .int .i64 0]) (by simp [results, Tryd.results77, go_sem]) rfl ⟨ret_tok (by rw [← HR.out]; unfold barred; rw [HEE.out, ← hkEk.out, if_neg (by rw [get_at s k hltk]; intro e; have := HAk.out; rw [Option.some.inj e] at this; simp at this <;> omega)]; rfl), (Below.refl _ _).alloc (Nat.le_refl _) _⟩
        · subst g
          go_wp2_with (fail)
          exact bodyPost_ret (v := .agg #[.int .i64 2, .string (s.extract (i + 1) k), .int .i64 (k + 1 : Nat)]) (by simp [results, Tryd.results77, go_sem]) rfl ⟨ret_tok (by rw [← HR.out]; unfold barred; rw [HEE.out, ← hkEk.out, if_pos (by rw [get_at s k hltk, show at_ s k = 124 from (u8_eq 124 (by omega)).1 (by have := HAk.out; omega)])]), (Below.refl _ _).alloc (Nat.le_refl _) _⟩
        · subst g
          go_wp2_with (fail)
          exact bodyPost_ret (v := .agg #[.int .i64 0, .string ⟨#[]⟩, .int .i64 0]) (by simp [results, Tryd.results77, go_sem]) rfl ⟨ret_tok (by rw [← HR.out]; unfold barred; rw [HEE.out, ← hkEk.out, if_neg (by rw [get_at s k hltk]; intro e; have := HAk.out; rw [Option.some.inj e] at this; simp at this <;> omega)]; rfl), (Below.refl _ _).alloc (Nat.le_refl _) _⟩
    · have hkEk : Hid (k = E) := by show k = E; rw [← Hk.out, scan_end (by omega)]; rfl
      go_wp2_with (fail)
      exact bodyPost_ret (v := .agg #[.int .i64 0, .string ⟨#[]⟩, .int .i64 0]) (by simp [results, Tryd.results77, go_sem]) rfl ⟨ret_tok (by rw [← HR.out]; unfold barred; rw [HEE.out, ← hkEk.out, if_neg (by rw [get_end s k (by omega)]; simp)]; rfl), (Below.refl _ _).alloc (Nat.le_refl _) _⟩
end Go.Proofs.YtbeelgaganbblaaDoor.Tok

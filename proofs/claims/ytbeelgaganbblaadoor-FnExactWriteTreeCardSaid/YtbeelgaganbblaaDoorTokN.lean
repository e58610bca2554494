/- spec.l3Token at a digit: the numeral (two loops). -/
import Derived.Test.YtbeelgaganbblaaDoorTokS
namespace Go.Proofs.YtbeelgaganbblaaDoor.Tok
open Go.RowKit Go.Proofs.YtbeelgaganbblaaDoorW.PrintWords Go.Proofs.YtbeelgaganbblaaDoor Go.Proofs.YtbeelgaganbblaaDoor.By
set_option linter.unusedVariables false
set_option linter.unusedSimpArgs false
set_option maxRecDepth 100000
theorem dig_yes {c : UInt8} {d : Int} (h : dig c = true) (e : (c.toNat : Int) = d) : 48 ≤ d ∧ d ≤ 57 := by
  unfold dig at h; simp only [Bool.and_eq_true, decide_eq_true_eq] at h; omega
theorem dig_no {c : UInt8} {d : Int} (h : dig c = false) (e : (c.toNat : Int) = d) : d < 48 ∨ 57 < d := by
  unfold dig at h; simp only [Bool.and_eq_false_iff, decide_eq_false_iff_not] at h; omega
theorem dig_of {c : UInt8} {d : Int} (e : (c.toNat : Int) = d) (h1 : 48 ≤ d) (h2 : d ≤ 57) : dig c = true := by
  unfold dig; simp only [Bool.and_eq_true, decide_eq_true_eq]; omega

set_option maxHeartbeats 2000000 in
theorem spec_numeral (s : ByteArray) (i : Nat) (w : World) (hs : s.size ≤ 140737488351232) (hi : i < s.size) (c : Int) (hc : bt s i = c) (c0 : 0 ≤ c) (c1 : c ≤ 255) (nc : 48 ≤ c) (nd : c ≤ 57) (n1 : (c == 34) = false) (n2 : (c == 124) = false) (n3 : (c == 58) = false) (n4 : (c == 35) = false) (R : Int × ByteArray × Int) (HR : Hid (numeral s i = R)) :
    Calls Tryd.prog 77 #[.string s, .int .i64 i] w fun e w' => e = .returned (.agg #[.int .i64 R.1, .string R.2.1, .int .i64 R.2.2]) ∧ Below w.heap.size w w' := by
  have hx : ∀ h : i < s.size, ((s[i]'h).toNat : Int) = bt s i := bt_at s i
  obtain ⟨E, hE⟩ : ∃ E, i + 1 + scan dig ((L s).drop (i + 1)) = E := ⟨_, rfl⟩
  obtain ⟨hE3, hE4⟩ : i + 1 ≤ E ∧ E ≤ s.size := by have := scan_bound s dig (i + 1) (by omega); omega
  have HEE : Hid (i + 1 + scan dig ((L s).drop (i + 1)) = E) := hE
  have HE : Hid (dig (at_ s i) = true) := dig_of ((at_int s i hi).symm.trans hc) nc nd
  have hz : ((c == 48) = true ∧ Hid (at_ s i = 48)) ∨ ((c == 48) = false ∧ Hid (at_ s i ≠ 48)) := by
    by_cases h : c = 48
    · exact .inl ⟨beq_iff_eq.2 h, (u8_eq 48 (by omega)).1 ((at_int s i hi).symm.trans (hc.trans h))⟩
    · exact .inr ⟨beq_eq_false_iff_ne.2 h, fun e => h (by rw [← hc, at_int s i hi, e]; rfl)⟩
  clear hE
  go_enter Tryd.func77, Tryd.ntmps77
  go_wp2_with (first | (go_at_call 75; refine (spec_l3NameByte_any _ _ (by omega) (by omega)).mono ?_; rintro e w' ⟨rfl, rfl⟩) | go_in)
  go_loop [10] (fun v => ∃ k : Nat, i ≤ k ∧ k ≤ s.size ∧ v = .int .i64 k ∧ Hid (k + scan dig ((L s).drop k) = E)) (fun v => s.size - (intOf v).toNat)
  case atStart => exact ⟨i, by omega, by omega, by first | rfl | go_num, by show _ = _; rw [scan_step hi HE.out, ← HEE.out]; omega⟩
  case round =>
    obtain ⟨k, hk1, hk2, rfl, Hk⟩ := hrel
    by_cases hltk : k < s.size
    · have hxk : ∀ h : k < s.size, ((s[k]'h).toNat : Int) = bt s k := bt_at s k
      obtain ⟨b0k, b1k⟩ := bt_range s k
      obtain ⟨dk, hdk⟩ : ∃ d, bt s k = d := ⟨_, rfl⟩
      have HAk : Hid (((at_ s k).toNat : Int) = dk) := (at_int s k hltk).symm.trans hdk
      rw [hdk] at b0k b1k
      by_cases hpk : dig (at_ s k) = true
      · have HPk : Hid (dig (at_ s k) = true) := hpk
        clear hpk
        obtain ⟨g1k, g2k⟩ := dig_yes HPk.out HAk.out
        go_wp2_with (go_in)
        go_round
        case rel => exact ⟨k + 1, by omega, by omega, by go_num, by show _ = _; rw [← Hk.out, scan_step hltk HPk.out]; omega⟩
        case measure => simp [intOf]; omega
      · have HPk : Hid (dig (at_ s k) = false) := Bool.eq_false_iff.2 hpk
        have hkEk : Hid (k = E) := by show k = E; rw [← Hk.out, scan_stop hltk HPk.out]; rfl
        clear hpk
        rcases dig_no HPk.out HAk.out with gk | gk
        · by_cases hA : i + 1 < k
          · rcases hz with ⟨hz, HZ⟩ | ⟨hz, HZ⟩
            · go_wp2_with (go_in)
              exact bodyPost_ret (v := .agg #[.int .i64 0, .string ⟨#[]⟩, .int .i64 0]) (by simp [results, Tryd.results77, go_sem]) rfl ⟨ret_tok (by rw [← HR.out]; unfold numeral; rw [HEE.out, ← hkEk.out]; rw [if_pos ⟨by omega, by rw [get_at s i hi, HZ.out]⟩]; rfl), (Below.refl _ _).alloc (Nat.le_refl _) _⟩
            · by_cases hB : k + 1 < s.size
              · have hx2 : ∀ h : k + 1 < s.size, ((s[k + 1]'h).toNat : Int) = bt s (k + 1 : Nat) := bt_at s (k + 1 : Nat)
                obtain ⟨b02, b12⟩ := bt_range s (k + 1 : Nat)
                obtain ⟨d2, hd2⟩ : ∃ d, bt s (k + 1 : Nat) = d := ⟨_, rfl⟩
                have HA2 : Hid (((at_ s (k + 1)).toNat : Int) = d2) := (at_int s (k + 1) hB).symm.trans hd2
                rw [hd2] at hx2 b02 b12
                by_cases h46 : dk = 46
                · subst h46
                  have H46 : Hid (at_ s k = 46) := (u8_eq 46 (by omega)).1 HAk.out
                  by_cases hp2 : dig (at_ s (k + 1)) = true
                  · have HP2 : Hid (dig (at_ s (k + 1)) = true) := hp2
                    clear hp2
                    obtain ⟨g12, g22⟩ := dig_yes HP2.out HA2.out
                    obtain ⟨E2, hE2⟩ : ∃ E2, k + 1 + scan dig ((L s).drop (k + 1)) = E2 := ⟨_, rfl⟩
                    obtain ⟨hE5, hE6⟩ : k + 1 ≤ E2 ∧ E2 ≤ s.size := by have := scan_bound s dig (k + 1) (by omega); omega
                    have HE2 : Hid (k + 1 + scan dig ((L s).drop (k + 1)) = E2) := hE2
                    clear hE2
                    go_wp2_with (go_in)
                    go_loop [10] (fun v => ∃ m : Nat, k + 1 ≤ m ∧ m ≤ s.size ∧ v = .int .i64 m ∧ Hid (m + scan dig ((L s).drop m) = E2)) (fun v => s.size - (intOf v).toNat)
                    case atStart => exact ⟨k + 1, by omega, by omega, by first | rfl | go_num, HE2⟩
                    case round =>
                      obtain ⟨m, hm1, hm2, rfl, Hm⟩ := hrel
                      by_cases hltm : m < s.size
                      · have hxm : ∀ h : m < s.size, ((s[m]'h).toNat : Int) = bt s m := bt_at s m
                        obtain ⟨b0m, b1m⟩ := bt_range s m
                        obtain ⟨dm, hdm⟩ : ∃ d, bt s m = d := ⟨_, rfl⟩
                        have HAm : Hid (((at_ s m).toNat : Int) = dm) := (at_int s m hltm).symm.trans hdm
                        rw [hdm] at b0m b1m
                        by_cases hpm : dig (at_ s m) = true
                        · have HPm : Hid (dig (at_ s m) = true) := hpm
                          clear hpm
                          obtain ⟨g1m, g2m⟩ := dig_yes HPm.out HAm.out
                          go_wp2_with (go_in)
                          go_round
                          case rel => exact ⟨m + 1, by omega, by omega, by go_num, by show _ = _; rw [← Hm.out, scan_step hltm HPm.out]; omega⟩
                          case measure => simp [intOf]; omega
                        · have HPm : Hid (dig (at_ s m) = false) := Bool.eq_false_iff.2 hpm
                          have hkEm : Hid (m = E2) := by show m = E2; rw [← Hm.out, scan_stop hltm HPm.out]; rfl
                          clear hpm
                          rcases dig_no HPm.out HAm.out with gm | gm
                          all_goals
                            go_wp2_with (go_in)
                            exact bodyPost_ret (v := .agg #[.int .i64 4, .string (s.extract i m), .int .i64 m]) (by simp [results, Tryd.results77, go_sem]) rfl ⟨ret_tok (by rw [← HR.out]; unfold numeral; rw [HEE.out, ← hkEk.out]; rw [if_neg (fun hh => HZ.out (by have h9 := hh.2; rw [get_at s i hi] at h9; exact Option.some.inj h9))]; rw [if_pos ⟨by rw [get_at s k hltk, H46.out], by rw [get_at s (k + 1) hB]; exact HP2.out⟩, HE2.out, hkEm.out]), (Below.refl _ _).alloc (Nat.le_refl _) _⟩
                      · have hkEm : Hid (m = E2) := by show m = E2; rw [← Hm.out, scan_end (by omega)]; rfl
                        go_wp2_with (fail)
                        exact bodyPost_ret (v := .agg #[.int .i64 4, .string (s.extract i m), .int .i64 m]) (by simp [results, Tryd.results77, go_sem]) rfl ⟨ret_tok (by rw [← HR.out]; unfold numeral; rw [HEE.out, ← hkEk.out]; rw [if_neg (fun hh => HZ.out (by have h9 := hh.2; rw [get_at s i hi] at h9; exact Option.some.inj h9))]; rw [if_pos ⟨by rw [get_at s k hltk, H46.out], by rw [get_at s (k + 1) hB]; exact HP2.out⟩, HE2.out, hkEm.out]), (Below.refl _ _).alloc (Nat.le_refl _) _⟩
                  · have HP2 : Hid (dig (at_ s (k + 1)) = false) := Bool.eq_false_iff.2 hp2
                    clear hp2
                    rcases dig_no HP2.out HA2.out with g2 | g2
                    all_goals
                      go_wp2_with (go_in)
                      exact bodyPost_ret (v := .agg #[.int .i64 3, .string (s.extract i k), .int .i64 k]) (by simp [results, Tryd.results77, go_sem]) rfl ⟨ret_tok (by rw [← HR.out]; unfold numeral; rw [HEE.out, ← hkEk.out]; rw [if_neg (fun hh => HZ.out (by have h9 := hh.2; rw [get_at s i hi] at h9; exact Option.some.inj h9))]; rw [if_neg (fun hh => by rw [get_at s (k + 1) hB] at hh; rw [show (Option.any dig (some (at_ s (k + 1)))) = dig (at_ s (k + 1)) from rfl, HP2.out] at hh; exact absurd hh.2 (by decide))]), (Below.refl _ _).alloc (Nat.le_refl _) _⟩
                · have h46' : (dk == 46) = false := beq_eq_false_iff_ne.2 h46
                  have H46 : Hid (at_ s k ≠ 46) := by intro e; have := HAk.out; rw [e] at this; simp at this; omega
                  clear h46
                  go_wp2_with (go_in)
                  exact bodyPost_ret (v := .agg #[.int .i64 3, .string (s.extract i k), .int .i64 k]) (by simp [results, Tryd.results77, go_sem]) rfl ⟨ret_tok (by rw [← HR.out]; unfold numeral; rw [HEE.out, ← hkEk.out]; rw [if_neg (fun hh => HZ.out (by have h9 := hh.2; rw [get_at s i hi] at h9; exact Option.some.inj h9))]; rw [if_neg (fun hh => by rw [get_at s k hltk] at hh; exact H46.out (Option.some.inj hh.1))]), (Below.refl _ _).alloc (Nat.le_refl _) _⟩
              · go_wp2_with (go_in)
                exact bodyPost_ret (v := .agg #[.int .i64 3, .string (s.extract i k), .int .i64 k]) (by simp [results, Tryd.results77, go_sem]) rfl ⟨ret_tok (by rw [← HR.out]; unfold numeral; rw [HEE.out, ← hkEk.out]; rw [if_neg (fun hh => HZ.out (by have h9 := hh.2; rw [get_at s i hi] at h9; exact Option.some.inj h9))]; rw [if_neg (fun hh => by rw [get_end s (k + 1) (by omega)] at hh; exact absurd hh.2 (by simp))]), (Below.refl _ _).alloc (Nat.le_refl _) _⟩
          · clear hz
            by_cases hB : k + 1 < s.size
            · have hx2 : ∀ h : k + 1 < s.size, ((s[k + 1]'h).toNat : Int) = bt s (k + 1 : Nat) := bt_at s (k + 1 : Nat)
              obtain ⟨b02, b12⟩ := bt_range s (k + 1 : Nat)
              obtain ⟨d2, hd2⟩ : ∃ d, bt s (k + 1 : Nat) = d := ⟨_, rfl⟩
              have HA2 : Hid (((at_ s (k + 1)).toNat : Int) = d2) := (at_int s (k + 1) hB).symm.trans hd2
              rw [hd2] at hx2 b02 b12
              by_cases h46 : dk = 46
              · subst h46
                have H46 : Hid (at_ s k = 46) := (u8_eq 46 (by omega)).1 HAk.out
                by_cases hp2 : dig (at_ s (k + 1)) = true
                · have HP2 : Hid (dig (at_ s (k + 1)) = true) := hp2
                  clear hp2
                  obtain ⟨g12, g22⟩ := dig_yes HP2.out HA2.out
                  obtain ⟨E2, hE2⟩ : ∃ E2, k + 1 + scan dig ((L s).drop (k + 1)) = E2 := ⟨_, rfl⟩
                  obtain ⟨hE5, hE6⟩ : k + 1 ≤ E2 ∧ E2 ≤ s.size := by have := scan_bound s dig (k + 1) (by omega); omega
                  have HE2 : Hid (k + 1 + scan dig ((L s).drop (k + 1)) = E2) := hE2
                  clear hE2
                  go_wp2_with (go_in)
                  go_loop [10] (fun v => ∃ m : Nat, k + 1 ≤ m ∧ m ≤ s.size ∧ v = .int .i64 m ∧ Hid (m + scan dig ((L s).drop m) = E2)) (fun v => s.size - (intOf v).toNat)
                  case atStart => exact ⟨k + 1, by omega, by omega, by first | rfl | go_num, HE2⟩
                  case round =>
                    obtain ⟨m, hm1, hm2, rfl, Hm⟩ := hrel
                    by_cases hltm : m < s.size
                    · have hxm : ∀ h : m < s.size, ((s[m]'h).toNat : Int) = bt s m := bt_at s m
                      obtain ⟨b0m, b1m⟩ := bt_range s m
                      obtain ⟨dm, hdm⟩ : ∃ d, bt s m = d := ⟨_, rfl⟩
                      have HAm : Hid (((at_ s m).toNat : Int) = dm) := (at_int s m hltm).symm.trans hdm
                      rw [hdm] at b0m b1m
                      by_cases hpm : dig (at_ s m) = true
                      · have HPm : Hid (dig (at_ s m) = true) := hpm
                        clear hpm
                        obtain ⟨g1m, g2m⟩ := dig_yes HPm.out HAm.out
                        go_wp2_with (go_in)
                        go_round
                        case rel => exact ⟨m + 1, by omega, by omega, by go_num, by show _ = _; rw [← Hm.out, scan_step hltm HPm.out]; omega⟩
                        case measure => simp [intOf]; omega
                      · have HPm : Hid (dig (at_ s m) = false) := Bool.eq_false_iff.2 hpm
                        have hkEm : Hid (m = E2) := by show m = E2; rw [← Hm.out, scan_stop hltm HPm.out]; rfl
                        clear hpm
                        rcases dig_no HPm.out HAm.out with gm | gm
                        all_goals
                          go_wp2_with (go_in)
                          exact bodyPost_ret (v := .agg #[.int .i64 4, .string (s.extract i m), .int .i64 m]) (by simp [results, Tryd.results77, go_sem]) rfl ⟨ret_tok (by rw [← HR.out]; unfold numeral; rw [HEE.out, ← hkEk.out]; rw [if_neg (fun hh => by omega)]; rw [if_pos ⟨by rw [get_at s k hltk, H46.out], by rw [get_at s (k + 1) hB]; exact HP2.out⟩, HE2.out, hkEm.out]), (Below.refl _ _).alloc (Nat.le_refl _) _⟩
                    · have hkEm : Hid (m = E2) := by show m = E2; rw [← Hm.out, scan_end (by omega)]; rfl
                      go_wp2_with (fail)
                      exact bodyPost_ret (v := .agg #[.int .i64 4, .string (s.extract i m), .int .i64 m]) (by simp [results, Tryd.results77, go_sem]) rfl ⟨ret_tok (by rw [← HR.out]; unfold numeral; rw [HEE.out, ← hkEk.out]; rw [if_neg (fun hh => by omega)]; rw [if_pos ⟨by rw [get_at s k hltk, H46.out], by rw [get_at s (k + 1) hB]; exact HP2.out⟩, HE2.out, hkEm.out]), (Below.refl _ _).alloc (Nat.le_refl _) _⟩
                · have HP2 : Hid (dig (at_ s (k + 1)) = false) := Bool.eq_false_iff.2 hp2
                  clear hp2
                  rcases dig_no HP2.out HA2.out with g2 | g2
                  all_goals
                    go_wp2_with (go_in)
                    exact bodyPost_ret (v := .agg #[.int .i64 3, .string (s.extract i k), .int .i64 k]) (by simp [results, Tryd.results77, go_sem]) rfl ⟨ret_tok (by rw [← HR.out]; unfold numeral; rw [HEE.out, ← hkEk.out]; rw [if_neg (fun hh => by omega)]; rw [if_neg (fun hh => by rw [get_at s (k + 1) hB] at hh; rw [show (Option.any dig (some (at_ s (k + 1)))) = dig (at_ s (k + 1)) from rfl, HP2.out] at hh; exact absurd hh.2 (by decide))]), (Below.refl _ _).alloc (Nat.le_refl _) _⟩
              · have h46' : (dk == 46) = false := beq_eq_false_iff_ne.2 h46
                have H46 : Hid (at_ s k ≠ 46) := by intro e; have := HAk.out; rw [e] at this; simp at this; omega
                clear h46
                go_wp2_with (go_in)
                exact bodyPost_ret (v := .agg #[.int .i64 3, .string (s.extract i k), .int .i64 k]) (by simp [results, Tryd.results77, go_sem]) rfl ⟨ret_tok (by rw [← HR.out]; unfold numeral; rw [HEE.out, ← hkEk.out]; rw [if_neg (fun hh => by omega)]; rw [if_neg (fun hh => by rw [get_at s k hltk] at hh; exact H46.out (Option.some.inj hh.1))]), (Below.refl _ _).alloc (Nat.le_refl _) _⟩
            · go_wp2_with (go_in)
              exact bodyPost_ret (v := .agg #[.int .i64 3, .string (s.extract i k), .int .i64 k]) (by simp [results, Tryd.results77, go_sem]) rfl ⟨ret_tok (by rw [← HR.out]; unfold numeral; rw [HEE.out, ← hkEk.out]; rw [if_neg (fun hh => by omega)]; rw [if_neg (fun hh => by rw [get_end s (k + 1) (by omega)] at hh; exact absurd hh.2 (by simp))]), (Below.refl _ _).alloc (Nat.le_refl _) _⟩
        · by_cases hA : i + 1 < k
          · rcases hz with ⟨hz, HZ⟩ | ⟨hz, HZ⟩
            · go_wp2_with (go_in)
              exact bodyPost_ret (v := .agg #[.int .i64 0, .string ⟨#[]⟩, .int .i64 0]) (by simp [results, Tryd.results77, go_sem]) rfl ⟨ret_tok (by rw [← HR.out]; unfold numeral; rw [HEE.out, ← hkEk.out]; rw [if_pos ⟨by omega, by rw [get_at s i hi, HZ.out]⟩]; rfl), (Below.refl _ _).alloc (Nat.le_refl _) _⟩
            · by_cases hB : k + 1 < s.size
              · have hx2 : ∀ h : k + 1 < s.size, ((s[k + 1]'h).toNat : Int) = bt s (k + 1 : Nat) := bt_at s (k + 1 : Nat)
                obtain ⟨b02, b12⟩ := bt_range s (k + 1 : Nat)
                obtain ⟨d2, hd2⟩ : ∃ d, bt s (k + 1 : Nat) = d := ⟨_, rfl⟩
                have HA2 : Hid (((at_ s (k + 1)).toNat : Int) = d2) := (at_int s (k + 1) hB).symm.trans hd2
                rw [hd2] at hx2 b02 b12
                have h46 : ¬ dk = 46 := by omega
                have h46' : (dk == 46) = false := beq_eq_false_iff_ne.2 h46
                have H46 : Hid (at_ s k ≠ 46) := by intro e; have := HAk.out; rw [e] at this; simp at this; omega
                clear h46
                go_wp2_with (go_in)
                exact bodyPost_ret (v := .agg #[.int .i64 3, .string (s.extract i k), .int .i64 k]) (by simp [results, Tryd.results77, go_sem]) rfl ⟨ret_tok (by rw [← HR.out]; unfold numeral; rw [HEE.out, ← hkEk.out]; rw [if_neg (fun hh => HZ.out (by have h9 := hh.2; rw [get_at s i hi] at h9; exact Option.some.inj h9))]; rw [if_neg (fun hh => by rw [get_at s k hltk] at hh; exact H46.out (Option.some.inj hh.1))]), (Below.refl _ _).alloc (Nat.le_refl _) _⟩
              · go_wp2_with (go_in)
                exact bodyPost_ret (v := .agg #[.int .i64 3, .string (s.extract i k), .int .i64 k]) (by simp [results, Tryd.results77, go_sem]) rfl ⟨ret_tok (by rw [← HR.out]; unfold numeral; rw [HEE.out, ← hkEk.out]; rw [if_neg (fun hh => HZ.out (by have h9 := hh.2; rw [get_at s i hi] at h9; exact Option.some.inj h9))]; rw [if_neg (fun hh => by rw [get_end s (k + 1) (by omega)] at hh; exact absurd hh.2 (by simp))]), (Below.refl _ _).alloc (Nat.le_refl _) _⟩
          · clear hz
            by_cases hB : k + 1 < s.size
            · have hx2 : ∀ h : k + 1 < s.size, ((s[k + 1]'h).toNat : Int) = bt s (k + 1 : Nat) := bt_at s (k + 1 : Nat)
              obtain ⟨b02, b12⟩ := bt_range s (k + 1 : Nat)
              obtain ⟨d2, hd2⟩ : ∃ d, bt s (k + 1 : Nat) = d := ⟨_, rfl⟩
              have HA2 : Hid (((at_ s (k + 1)).toNat : Int) = d2) := (at_int s (k + 1) hB).symm.trans hd2
              rw [hd2] at hx2 b02 b12
              have h46 : ¬ dk = 46 := by omega
              have h46' : (dk == 46) = false := beq_eq_false_iff_ne.2 h46
              have H46 : Hid (at_ s k ≠ 46) := by intro e; have := HAk.out; rw [e] at this; simp at this; omega
              clear h46
              go_wp2_with (go_in)
              exact bodyPost_ret (v := .agg #[.int .i64 3, .string (s.extract i k), .int .i64 k]) (by simp [results, Tryd.results77, go_sem]) rfl ⟨ret_tok (by rw [← HR.out]; unfold numeral; rw [HEE.out, ← hkEk.out]; rw [if_neg (fun hh => by omega)]; rw [if_neg (fun hh => by rw [get_at s k hltk] at hh; exact H46.out (Option.some.inj hh.1))]), (Below.refl _ _).alloc (Nat.le_refl _) _⟩
            · go_wp2_with (go_in)
              exact bodyPost_ret (v := .agg #[.int .i64 3, .string (s.extract i k), .int .i64 k]) (by simp [results, Tryd.results77, go_sem]) rfl ⟨ret_tok (by rw [← HR.out]; unfold numeral; rw [HEE.out, ← hkEk.out]; rw [if_neg (fun hh => by omega)]; rw [if_neg (fun hh => by rw [get_end s (k + 1) (by omega)] at hh; exact absurd hh.2 (by simp))]), (Below.refl _ _).alloc (Nat.le_refl _) _⟩
    · have hkEk : Hid (k = E) := by show k = E; rw [← Hk.out, scan_end (by omega)]; rfl
      by_cases hA : i + 1 < k
      · rcases hz with ⟨hz, HZ⟩ | ⟨hz, HZ⟩
        · go_wp2_with (go_in)
          exact bodyPost_ret (v := .agg #[.int .i64 0, .string ⟨#[]⟩, .int .i64 0]) (by simp [results, Tryd.results77, go_sem]) rfl ⟨ret_tok (by rw [← HR.out]; unfold numeral; rw [HEE.out, ← hkEk.out]; rw [if_pos ⟨by omega, by rw [get_at s i hi, HZ.out]⟩]; rfl), (Below.refl _ _).alloc (Nat.le_refl _) _⟩
        · go_wp2_with (go_in)
          exact bodyPost_ret (v := .agg #[.int .i64 3, .string (s.extract i k), .int .i64 k]) (by simp [results, Tryd.results77, go_sem]) rfl ⟨ret_tok (by rw [← HR.out]; unfold numeral; rw [HEE.out, ← hkEk.out]; rw [if_neg (fun hh => HZ.out (by have h9 := hh.2; rw [get_at s i hi] at h9; exact Option.some.inj h9))]; rw [if_neg (fun hh => by rw [get_end s k (by omega)] at hh; exact absurd hh.1 (by simp))]), (Below.refl _ _).alloc (Nat.le_refl _) _⟩
      · clear hz
        go_wp2_with (go_in)
        exact bodyPost_ret (v := .agg #[.int .i64 3, .string (s.extract i k), .int .i64 k]) (by simp [results, Tryd.results77, go_sem]) rfl ⟨ret_tok (by rw [← HR.out]; unfold numeral; rw [HEE.out, ← hkEk.out]; rw [if_neg (fun hh => by omega)]; rw [if_neg (fun hh => by rw [get_end s k (by omega)] at hh; exact absurd hh.1 (by simp))]), (Below.refl _ _).alloc (Nat.le_refl _) _⟩
end Go.Proofs.YtbeelgaganbblaaDoor.Tok

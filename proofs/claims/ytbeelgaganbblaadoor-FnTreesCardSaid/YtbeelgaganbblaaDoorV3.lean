/- Parts of the proof, cut to what it uses: Shelf5, TokI, TokIN, TokIQ, TokIB, TokIX, TokIY, TokIE. -/
import Derived.Deep.Draws
import Derived.Lib.Builder
import Derived.Test.YtbeelgaganbblaaDoorV0
import Derived.Test.YtbeelgaganbblaaDoorV1
namespace Go.Proofs
open Go.Shelf
open Go.RowKit in
theorem Tryd.Builder_String_any (B b : Nat) (l : List UInt8) (w : World) (h : Lib.IsBuilder 51 5 B b (Lib.byteCells l) w) (hBw : B ≤ w.heap.size) :
    Calls Tryd.prog 32 #[.pointer (some ⟨b, 0, none⟩)] w fun e w' => e = .returned (.string ⟨l.toArray⟩) ∧ Below B w w' := Any.Builder_String_any Tryd.lays169 Tryd.Builder_Extra_169 B b l w h hBw
open Go.RowKit in
theorem Tryd.Builder_WriteByte (B b : Nat) (bs : List Value) (c : Int) (w : World) (h : Lib.IsBuilder 51 5 B b bs w) (hlen : bs.length + 1 ≤ 140737488355328) (hBw : B ≤ w.heap.size) :
    Calls Tryd.prog 28 #[.pointer (some ⟨b, 0, none⟩), .int .u8 c] w fun e w' => e = .returned .nilIface ∧ (Lib.BuilderAt 51 5 B b (.pointer (some ⟨b, 0, none⟩)) (bs ++ [.int .u8 c]) w' ∧ Below B w w') := Any.Builder_WriteByte Tryd.lays167 Tryd.Builder_Extra_167 B b bs c w h hlen hBw
end Go.Proofs
namespace Go.Proofs.YtbeelgaganbblaaDoor.Tok
open Go.RowKit Go.Proofs.YtbeelgaganbblaaDoorW.PrintWords Go.Proofs.YtbeelgaganbblaaDoor Go.Proofs.YtbeelgaganbblaaDoor.By
set_option linter.unusedVariables false
set_option linter.unusedSimpArgs false
set_option maxRecDepth 100000
theorem Zz {a b : Int} {s : ByteArray} {R : Int × ByteArray × Int} (h : R = (a, s, b)) : Ending.returned (.tuple #[.int .i64 a, .string s, .int .i64 b]) = .returned (.tuple #[.int .i64 R.1, .string R.2.1, .int .i64 R.2.2]) := by
  rw [h]
set_option maxHeartbeats 8000000 in
theorem impl_named (s : ByteArray) (i : Nat) (w : World) (hs : s.size ≤ 140737488351232) (hi : i < s.size) (c : Int) (hc : bt s i = c) (c0 : 0 ≤ c) (c1 : c ≤ 255) (n1 : (c == 34) = false) (n2 : (c == 124) = false) (n3 : (c == 58) = false) (n4 : (c == 35) = false) (nd : c < 48 ∨ 57 < c) (hn : nmB c = true) (R : Int × ByteArray × Int) (HR : Hid (named s i = R)) :
    Calls Tryd.prog 43 #[.string s, .int .i64 i] w fun e w' => e = .returned (.tuple #[.int .i64 R.1, .string R.2.1, .int .i64 R.2.2]) ∧ Below w.heap.size w w' := by
  have hx : ∀ h : i < s.size, ((s[i]'h).toNat : Int) = bt s i := ZH s i; obtain ⟨E, hE⟩ : ∃ E, i + 1 + scan nm ((L s).drop (i + 1)) = E := ⟨_, rfl⟩
  obtain ⟨hE3, hE4⟩ : i + 1 ≤ E ∧ E ≤ s.size := by have := scan_bound s nm (i + 1) (by omega); omega
  have HEE : Hid (i + 1 + scan nm ((L s).drop (i + 1)) = E) := hE; clear hE
  rcases nd with nd | nd
  all_goals
    go_enter Tryd.func43, Tryd.ntmps43; go_wp2_with (first | (go_at_call 72; refine (impl_nameB_any _ _ (by omega) (by omega)).mono ?_; rintro e w' ⟨rfl, rfl⟩) | go_in); go_loop [7] (fun v => ∃ k : Nat, i + 1 ≤ k ∧ k ≤ s.size ∧ v = .int .i64 k ∧ Hid (k + scan nm ((L s).drop k) = E)) (fun v => s.size - (intOf v).toNat)
    case atStart => exact ⟨i + 1, by omega, by omega, by first | rfl | go_num, HEE⟩
    case round =>
      obtain ⟨k, hk1, hk2, rfl, Hk⟩ := hrel
      by_cases hltk : k < s.size
      · have hxk : ∀ h : k < s.size, ((s[k]'h).toNat : Int) = bt s k := ZH s k; obtain ⟨b0k, b1k⟩ := bt_range s k; obtain ⟨dk, hdk⟩ : ∃ d, bt s k = d := ⟨_, rfl⟩; have HAk : Hid (((at_ s k).toNat : Int) = dk) := (at_int s k hltk).symm.trans hdk; rw [hdk] at b0k b1k
        by_cases hpk : nm (at_ s k) = true
        · have HPk : Hid (nm (at_ s k) = true) := hpk; clear hpk
          have HNk : nmB dk = true := by have := HPk.out; unfold nm at this; rwa [HAk.out] at this
          go_wp2_with ((go_at_call 72; refine (impl_nameB_any _ _ (by omega) (by omega)).mono ?_; rintro e w' ⟨rfl, rfl⟩)); go_round
          case rel => exact ⟨k + 1, by omega, by omega, by go_num, by show _ = _; rw [← Hk.out, scan_step hltk HPk.out]; omega⟩
          case measure => simp [intOf]; omega
        · have HPk : Hid (nm (at_ s k) = false) := Bool.eq_false_iff.2 hpk
          have hkEk : Hid (k = E) := by show k = E; rw [← Hk.out, scan_stop hltk HPk.out]; rfl
          clear hpk
          have HNk : nmB dk = false := by have := HPk.out; unfold nm at this; rwa [HAk.out] at this
          go_wp2_with ((go_at_call 72; refine (impl_nameB_any _ _ (by omega) (by omega)).mono ?_; rintro e w' ⟨rfl, rfl⟩)); go_quiet (fail); go_wp2_with (fail)
          go_ret3
          exact ⟨Zz (R := R) (a := 2) (s := (s.extract i k)) (b := k) (by rw [← HR.out]; unfold named; rw [HEE.out, hkEk.out]), by first | exact Below.refl _ _ | exact Z0 (Below.refl _ _) _⟩
      · have hkEk : Hid (k = E) := by show k = E; rw [← Hk.out, scan_end (by omega)]; rfl
        go_wp2_with (fail); go_quiet (fail); go_wp2_with (fail)
        go_ret3
        exact ⟨Zz (R := R) (a := 2) (s := (s.extract i k)) (b := k) (by rw [← HR.out]; unfold named; rw [HEE.out, hkEk.out]), by first | exact Below.refl _ _ | exact Z0 (Below.refl _ _) _⟩
set_option maxHeartbeats 8000000 in
theorem impl_keyed (s : ByteArray) (i : Nat) (w : World) (hs : s.size ≤ 140737488351232) (hi : i < s.size) (hc : bt s i = 58) (R : Int × ByteArray × Int) (HR : Hid (keyed s i = R)) :
    Calls Tryd.prog 43 #[.string s, .int .i64 i] w fun e w' => e = .returned (.tuple #[.int .i64 R.1, .string R.2.1, .int .i64 R.2.2]) ∧ Below w.heap.size w w' := by
  have hx : ∀ h : i < s.size, ((s[i]'h).toNat : Int) = bt s i := ZH s i; obtain ⟨E, hE⟩ : ∃ E, i + 1 + scan nm ((L s).drop (i + 1)) = E := ⟨_, rfl⟩
  obtain ⟨hE3, hE4⟩ : i + 1 ≤ E ∧ E ≤ s.size := by have := scan_bound s nm (i + 1) (by omega); omega
  have HEE : Hid (i + 1 + scan nm ((L s).drop (i + 1)) = E) := hE; clear hE; go_enter Tryd.func43, Tryd.ntmps43; go_wp2_with (first | (go_at_call 72; refine (impl_nameB_any _ _ (by omega) (by omega)).mono ?_; rintro e w' ⟨rfl, rfl⟩) | go_in); go_loop [7] (fun v => ∃ k : Nat, i + 1 ≤ k ∧ k ≤ s.size ∧ v = .int .i64 k ∧ Hid (k + scan nm ((L s).drop k) = E)) (fun v => s.size - (intOf v).toNat)
  case atStart => exact ⟨i + 1, by omega, by omega, by first | rfl | go_num, HEE⟩
  case round =>
    obtain ⟨k, hk1, hk2, rfl, Hk⟩ := hrel
    by_cases hltk : k < s.size
    · have hxk : ∀ h : k < s.size, ((s[k]'h).toNat : Int) = bt s k := ZH s k; obtain ⟨b0k, b1k⟩ := bt_range s k; obtain ⟨dk, hdk⟩ : ∃ d, bt s k = d := ⟨_, rfl⟩; have HAk : Hid (((at_ s k).toNat : Int) = dk) := (at_int s k hltk).symm.trans hdk; rw [hdk] at b0k b1k
      by_cases hpk : nm (at_ s k) = true
      · have HPk : Hid (nm (at_ s k) = true) := hpk; clear hpk
        have HNk : nmB dk = true := by have := HPk.out; unfold nm at this; rwa [HAk.out] at this
        go_wp2_with ((go_at_call 72; refine (impl_nameB_any _ _ (by omega) (by omega)).mono ?_; rintro e w' ⟨rfl, rfl⟩)); go_round
        case rel => exact ⟨k + 1, by omega, by omega, by go_num, by show _ = _; rw [← Hk.out, scan_step hltk HPk.out]; omega⟩
        case measure => simp [intOf]; omega
      · have HPk : Hid (nm (at_ s k) = false) := Bool.eq_false_iff.2 hpk
        have hkEk : Hid (k = E) := by show k = E; rw [← Hk.out, scan_stop hltk HPk.out]; rfl
        clear hpk
        have HNk : nmB dk = false := by have := HPk.out; unfold nm at this; rwa [HAk.out] at this
        by_cases hq : k = i + 1
        · have hq1 : ((k : Int) == (i : Int) + 1) = true := by rw [beq_iff_eq]; omega
          have hq2 : Hid (k = i + 1) := hq; clear hq; go_wp2_with ((go_at_call 72; refine (impl_nameB_any _ _ (by omega) (by omega)).mono ?_; rintro e w' ⟨rfl, rfl⟩))
          go_ret3
          exact ⟨Zz (R := R) (a := 0) (s := ⟨#[]⟩) (b := 0) (by rw [← HR.out]; unfold keyed; rw [HEE.out, if_pos (by have := hkEk.out; have := hq2.out; omega)]; rfl), by first | exact Below.refl _ _ | exact Z0 (Below.refl _ _) _⟩
        · have hq1 : ((k : Int) == (i : Int) + 1) = false := by rw [beq_eq_false_iff_ne]; omega
          go_wp2_with ((go_at_call 72; refine (impl_nameB_any _ _ (by omega) (by omega)).mono ?_; rintro e w' ⟨rfl, rfl⟩)); go_quiet (fail); go_wp2_with (fail)
          go_ret3
          exact ⟨Zz (R := R) (a := 7) (s := (s.extract (i + 1) k)) (b := k) (by rw [← HR.out]; unfold keyed; rw [HEE.out, if_neg (by have := hkEk.out; omega), hkEk.out]), by first | exact Below.refl _ _ | exact Z0 (Below.refl _ _) _⟩
    · have hkEk : Hid (k = E) := by show k = E; rw [← Hk.out, scan_end (by omega)]; rfl
      by_cases hq : k = i + 1
      · have hq1 : ((k : Int) == (i : Int) + 1) = true := by rw [beq_iff_eq]; omega
        have hq2 : Hid (k = i + 1) := hq; clear hq; go_wp2_with (fail)
        go_ret3
        exact ⟨Zz (R := R) (a := 0) (s := ⟨#[]⟩) (b := 0) (by rw [← HR.out]; unfold keyed; rw [HEE.out, if_pos (by have := hkEk.out; have := hq2.out; omega)]; rfl), by first | exact Below.refl _ _ | exact Z0 (Below.refl _ _) _⟩
      · have hq1 : ((k : Int) == (i : Int) + 1) = false := by rw [beq_eq_false_iff_ne]; omega
        go_wp2_with (fail); go_quiet (fail); go_wp2_with (fail)
        go_ret3
        exact ⟨Zz (R := R) (a := 7) (s := (s.extract (i + 1) k)) (b := k) (by rw [← HR.out]; unfold keyed; rw [HEE.out, if_neg (by have := hkEk.out; omega), hkEk.out]), by first | exact Below.refl _ _ | exact Z0 (Below.refl _ _) _⟩
set_option maxHeartbeats 8000000 in
theorem impl_barred (s : ByteArray) (i : Nat) (w : World) (hs : s.size ≤ 140737488351232) (hi : i < s.size) (hc : bt s i = 124) (R : Int × ByteArray × Int) (HR : Hid (barred s i = R)) :
    Calls Tryd.prog 43 #[.string s, .int .i64 i] w fun e w' => e = .returned (.tuple #[.int .i64 R.1, .string R.2.1, .int .i64 R.2.2]) ∧ Below w.heap.size w w' := by
  have hx : ∀ h : i < s.size, ((s[i]'h).toNat : Int) = bt s i := ZH s i; obtain ⟨E, hE⟩ : ∃ E, i + 1 + scan inb ((L s).drop (i + 1)) = E := ⟨_, rfl⟩
  obtain ⟨hE3, hE4⟩ : i + 1 ≤ E ∧ E ≤ s.size := by have := scan_bound s inb (i + 1) (by omega); omega
  have HEE : Hid (i + 1 + scan inb ((L s).drop (i + 1)) = E) := hE; clear hE; go_enter Tryd.func43, Tryd.ntmps43; go_wp2_with (go_in); go_loop [7] (fun v => ∃ k : Nat, i + 1 ≤ k ∧ k ≤ s.size ∧ v = .int .i64 k ∧ Hid (k + scan inb ((L s).drop k) = E)) (fun v => s.size - (intOf v).toNat)
  case atStart => exact ⟨i + 1, by omega, by omega, by first | rfl | go_num, HEE⟩
  case round =>
    obtain ⟨k, hk1, hk2, rfl, Hk⟩ := hrel
    by_cases hltk : k < s.size
    · have hxk : ∀ h : k < s.size, ((s[k]'h).toNat : Int) = bt s k := ZH s k; obtain ⟨b0k, b1k⟩ := bt_range s k; obtain ⟨dk, hdk⟩ : ∃ d, bt s k = d := ⟨_, rfl⟩; have HAk : Hid (((at_ s k).toNat : Int) = dk) := (at_int s k hltk).symm.trans hdk; rw [hdk] at b0k b1k
      by_cases hpk : inb (at_ s k) = true
      · have HPk : Hid (inb (at_ s k) = true) := hpk; clear hpk; have HBk : 32 ≤ dk ∧ dk ≤ 126 ∧ dk ≠ 124 ∧ dk ≠ 92 := inb_yes HPk.out HAk.out; obtain ⟨g1, g2, g3, g4⟩ := HBk; have g3' : (dk != 124) = true := bne_iff_ne.2 g3; have g4' : (dk != 92) = true := bne_iff_ne.2 g4; clear g3 g4; go_wp2_with (go_in); go_round
        case rel => exact ⟨k + 1, by omega, by omega, by go_num, by show _ = _; rw [← Hk.out, scan_step hltk HPk.out]; omega⟩
        case measure => simp [intOf]; omega
      · have HPk : Hid (inb (at_ s k) = false) := Bool.eq_false_iff.2 hpk
        have hkEk : Hid (k = E) := by show k = E; rw [← Hk.out, scan_stop hltk HPk.out]; rfl
        clear hpk; have HBk := inb_no HPk.out HAk.out
        rcases HBk with g | g | g | g
        · have n124 : (dk != 124) = true := bne_iff_ne.2 (by omega); go_wp2_with (go_in)
          go_ret3
          exact ⟨Zz (R := R) (a := 0) (s := ⟨#[]⟩) (b := 0) (by rw [← HR.out]; unfold barred; rw [HEE.out, ← hkEk.out, if_neg (by rw [get_at s k hltk]; intro e; have := HAk.out; rw [Option.some.inj e] at this; simp at this <;> omega)]; rfl), by first | exact Below.refl _ _ | exact Z0 (Below.refl _ _) _⟩
        · have n124 : (dk != 124) = true := bne_iff_ne.2 (by omega); go_wp2_with (go_in)
          go_ret3
          exact ⟨Zz (R := R) (a := 0) (s := ⟨#[]⟩) (b := 0) (by rw [← HR.out]; unfold barred; rw [HEE.out, ← hkEk.out, if_neg (by rw [get_at s k hltk]; intro e; have := HAk.out; rw [Option.some.inj e] at this; simp at this <;> omega)]; rfl), by first | exact Below.refl _ _ | exact Z0 (Below.refl _ _) _⟩
        · subst g; go_wp2_with (go_in); go_quiet (fail); go_wp2_with (fail)
          go_ret3
          exact ⟨Zz (R := R) (a := 2) (s := (s.extract (i + 1) k)) (b := ((k + 1 : Nat) : Int)) (by rw [← HR.out]; unfold barred; rw [HEE.out, ← hkEk.out, if_pos (by rw [get_at s k hltk, show at_ s k = 124 from (u8_eq 124 (by omega)).1 (by have := HAk.out; omega)])]), by first | exact Below.refl _ _ | exact Z0 (Below.refl _ _) _⟩
        · subst g; go_wp2_with (go_in)
          go_ret3
          exact ⟨Zz (R := R) (a := 0) (s := ⟨#[]⟩) (b := 0) (by rw [← HR.out]; unfold barred; rw [HEE.out, ← hkEk.out, if_neg (by rw [get_at s k hltk]; intro e; have := HAk.out; rw [Option.some.inj e] at this; simp at this <;> omega)]; rfl), by first | exact Below.refl _ _ | exact Z0 (Below.refl _ _) _⟩
    · have hkEk : Hid (k = E) := by show k = E; rw [← Hk.out, scan_end (by omega)]; rfl
      go_wp2_with (go_in)
      go_ret3
      exact ⟨Zz (R := R) (a := 0) (s := ⟨#[]⟩) (b := 0) (by rw [← HR.out]; unfold barred; rw [HEE.out, ← hkEk.out, if_neg (by rw [get_end s k (by omega)]; simp)]; rfl), by first | exact Below.refl _ _ | exact Z0 (Below.refl _ _) _⟩
end Go.Proofs.YtbeelgaganbblaaDoor.Tok
namespace Go.Proofs.YtbeelgaganbblaaDoor.Tok
open Go.RowKit Go.Proofs.YtbeelgaganbblaaDoorW.PrintWords Go.Proofs.YtbeelgaganbblaaDoor Go.Proofs.YtbeelgaganbblaaDoor.By
set_option linter.unusedVariables false
set_option linter.unusedSimpArgs false
set_option maxRecDepth 100000
set_option maxHeartbeats 8000000 in
theorem impl_numeral (s : ByteArray) (i : Nat) (w : World) (hs : s.size ≤ 140737488351232) (hi : i < s.size) (c : Int) (hc : bt s i = c) (c0 : 0 ≤ c) (c1 : c ≤ 255) (nc : 48 ≤ c) (nd : c ≤ 57) (n1 : (c == 34) = false) (n2 : (c == 124) = false) (n3 : (c == 58) = false) (n4 : (c == 35) = false) (R : Int × ByteArray × Int) (HR : Hid (numeral s i = R)) :
    Calls Tryd.prog 43 #[.string s, .int .i64 i] w fun e w' => e = .returned (.tuple #[.int .i64 R.1, .string R.2.1, .int .i64 R.2.2]) ∧ Below w.heap.size w w' := by
  have hx : ∀ h : i < s.size, ((s[i]'h).toNat : Int) = bt s i := ZH s i; obtain ⟨E, hE⟩ : ∃ E, i + 1 + scan dig ((L s).drop (i + 1)) = E := ⟨_, rfl⟩
  obtain ⟨hE3, hE4⟩ : i + 1 ≤ E ∧ E ≤ s.size := by have := scan_bound s dig (i + 1) (by omega); omega
  have HEE : Hid (i + 1 + scan dig ((L s).drop (i + 1)) = E) := hE; have HE : Hid (dig (at_ s i) = true) := dig_of ((at_int s i hi).symm.trans hc) nc nd
  have hz : ((c == 48) = true ∧ Hid (at_ s i = 48)) ∨ ((c == 48) = false ∧ Hid (at_ s i ≠ 48)) := by
    by_cases h : c = 48
    · exact .inl ⟨beq_iff_eq.2 h, (u8_eq 48 (by omega)).1 ((at_int s i hi).symm.trans (hc.trans h))⟩
    · exact .inr ⟨beq_eq_false_iff_ne.2 h, fun e => h (by rw [← hc, at_int s i hi, e]; rfl)⟩
  clear hE; go_enter Tryd.func43, Tryd.ntmps43; go_wp2_with (go_in); go_loop [7] (fun v => ∃ k : Nat, i + 1 ≤ k ∧ k ≤ s.size ∧ v = .int .i64 k ∧ Hid (k + scan dig ((L s).drop k) = E)) (fun v => s.size - (intOf v).toNat)
  case atStart => exact ⟨i + 1, by omega, by omega, by first | rfl | go_num, HEE⟩
  case round =>
    obtain ⟨k, hk1, hk2, rfl, Hk⟩ := hrel
    by_cases hltk : k < s.size
    · have hxk : ∀ h : k < s.size, ((s[k]'h).toNat : Int) = bt s k := ZH s k; obtain ⟨b0k, b1k⟩ := bt_range s k; obtain ⟨dk, hdk⟩ : ∃ d, bt s k = d := ⟨_, rfl⟩; have HAk : Hid (((at_ s k).toNat : Int) = dk) := (at_int s k hltk).symm.trans hdk; rw [hdk] at b0k b1k
      by_cases hpk : dig (at_ s k) = true
      · have HPk : Hid (dig (at_ s k) = true) := hpk; clear hpk; obtain ⟨g1k, g2k⟩ := dig_yes HPk.out HAk.out; go_wp2_with (go_in); go_round
        case rel => exact ⟨k + 1, by omega, by omega, by go_num, by show _ = _; rw [← Hk.out, scan_step hltk HPk.out]; omega⟩
        case measure => simp [intOf]; omega
      · have HPk : Hid (dig (at_ s k) = false) := Bool.eq_false_iff.2 hpk
        have hkEk : Hid (k = E) := by show k = E; rw [← Hk.out, scan_stop hltk HPk.out]; rfl
        clear hpk
        rcases dig_no HPk.out HAk.out with gk | gk
        · by_cases hA : i + 1 < k
          · rcases hz with ⟨hz, HZ⟩ | ⟨hz, HZ⟩
            · go_wp2_with (go_in)
              go_ret3
              exact ⟨Zz (R := R) (a := 0) (s := ⟨#[]⟩) (b := 0) (by rw [← HR.out]; unfold numeral; rw [HEE.out, ← hkEk.out]; rw [if_pos ⟨by omega, by rw [get_at s i hi, HZ.out]⟩]; rfl), by first | exact Below.refl _ _ | exact Z0 (Below.refl _ _) _⟩
            · by_cases hB : k + 1 < s.size
              · have hx2 : ∀ h : k + 1 < s.size, ((s[k + 1]'h).toNat : Int) = bt s (k + 1 : Nat) := ZH s (k + 1 : Nat); obtain ⟨b02, b12⟩ := bt_range s (k + 1 : Nat); obtain ⟨d2, hd2⟩ : ∃ d, bt s (k + 1 : Nat) = d := ⟨_, rfl⟩; have HA2 : Hid (((at_ s (k + 1)).toNat : Int) = d2) := (at_int s (k + 1) hB).symm.trans hd2; rw [hd2] at hx2 b02 b12
                by_cases h46 : dk = 46
                · subst h46; have H46 : Hid (at_ s k = 46) := (u8_eq 46 (by omega)).1 HAk.out
                  by_cases hp2 : dig (at_ s (k + 1)) = true
                  · have HP2 : Hid (dig (at_ s (k + 1)) = true) := hp2; clear hp2; obtain ⟨g12, g22⟩ := dig_yes HP2.out HA2.out; obtain ⟨E2, hE2⟩ : ∃ E2, k + 1 + scan dig ((L s).drop (k + 1)) = E2 := ⟨_, rfl⟩
                    obtain ⟨hE5, hE6⟩ : k + 1 ≤ E2 ∧ E2 ≤ s.size := by have := scan_bound s dig (k + 1) (by omega); omega
                    have HE2 : Hid (k + 1 + scan dig ((L s).drop (k + 1)) = E2) := hE2; clear hE2; go_wp2_with (go_in); go_loop [7] (fun v => ∃ m : Nat, k + 1 ≤ m ∧ m ≤ s.size ∧ v = .int .i64 m ∧ Hid (m + scan dig ((L s).drop m) = E2)) (fun v => s.size - (intOf v).toNat)
                    case atStart => exact ⟨k + 1, by omega, by omega, by first | rfl | go_num, HE2⟩
                    case round =>
                      obtain ⟨m, hm1, hm2, rfl, Hm⟩ := hrel
                      by_cases hltm : m < s.size
                      · have hxm : ∀ h : m < s.size, ((s[m]'h).toNat : Int) = bt s m := ZH s m; obtain ⟨b0m, b1m⟩ := bt_range s m; obtain ⟨dm, hdm⟩ : ∃ d, bt s m = d := ⟨_, rfl⟩; have HAm : Hid (((at_ s m).toNat : Int) = dm) := (at_int s m hltm).symm.trans hdm; rw [hdm] at b0m b1m
                        by_cases hpm : dig (at_ s m) = true
                        · have HPm : Hid (dig (at_ s m) = true) := hpm; clear hpm; obtain ⟨g1m, g2m⟩ := dig_yes HPm.out HAm.out; go_wp2_with (go_in); go_round
                          case rel => exact ⟨m + 1, by omega, by omega, by go_num, by show _ = _; rw [← Hm.out, scan_step hltm HPm.out]; omega⟩
                          case measure => simp [intOf]; omega
                        · have HPm : Hid (dig (at_ s m) = false) := Bool.eq_false_iff.2 hpm
                          have hkEm : Hid (m = E2) := by show m = E2; rw [← Hm.out, scan_stop hltm HPm.out]; rfl
                          clear hpm
                          rcases dig_no HPm.out HAm.out with gm | gm
                          all_goals
                            go_wp2_with (go_in); go_quiet (fail); go_wp2_with (fail)
                            go_ret3
                            exact ⟨Zz (R := R) (a := 4) (s := (s.extract i m)) (b := m) (by rw [← HR.out]; unfold numeral; rw [HEE.out, ← hkEk.out]; rw [if_neg (fun hh => HZ.out (by have h9 := hh.2; rw [get_at s i hi] at h9; exact Option.some.inj h9))]; rw [if_pos ⟨by rw [get_at s k hltk, H46.out], by rw [get_at s (k + 1) hB]; exact HP2.out⟩, HE2.out, hkEm.out]), by first | exact Below.refl _ _ | exact Z0 (Below.refl _ _) _⟩
                      · have hkEm : Hid (m = E2) := by show m = E2; rw [← Hm.out, scan_end (by omega)]; rfl
                        go_wp2_with (fail); go_quiet (fail); go_wp2_with (fail)
                        go_ret3
                        exact ⟨Zz (R := R) (a := 4) (s := (s.extract i m)) (b := m) (by rw [← HR.out]; unfold numeral; rw [HEE.out, ← hkEk.out]; rw [if_neg (fun hh => HZ.out (by have h9 := hh.2; rw [get_at s i hi] at h9; exact Option.some.inj h9))]; rw [if_pos ⟨by rw [get_at s k hltk, H46.out], by rw [get_at s (k + 1) hB]; exact HP2.out⟩, HE2.out, hkEm.out]), by first | exact Below.refl _ _ | exact Z0 (Below.refl _ _) _⟩
                  · have HP2 : Hid (dig (at_ s (k + 1)) = false) := Bool.eq_false_iff.2 hp2; clear hp2
                    rcases dig_no HP2.out HA2.out with g2 | g2
                    all_goals
                      go_wp2_with (go_in); go_quiet (fail); go_wp2_with (fail)
                      go_ret3
                      exact ⟨Zz (R := R) (a := 3) (s := (s.extract i k)) (b := k) (by rw [← HR.out]; unfold numeral; rw [HEE.out, ← hkEk.out]; rw [if_neg (fun hh => HZ.out (by have h9 := hh.2; rw [get_at s i hi] at h9; exact Option.some.inj h9))]; rw [if_neg (fun hh => by rw [get_at s (k + 1) hB] at hh; rw [show (Option.any dig (some (at_ s (k + 1)))) = dig (at_ s (k + 1)) from rfl, HP2.out] at hh; exact absurd hh.2 (by decide))]), by first | exact Below.refl _ _ | exact Z0 (Below.refl _ _) _⟩
                · have h46' : (dk == 46) = false := beq_eq_false_iff_ne.2 h46
                  have H46 : Hid (at_ s k ≠ 46) := by intro e; have := HAk.out; rw [e] at this; simp at this; omega
                  clear h46; go_wp2_with (go_in); go_quiet (fail); go_wp2_with (fail)
                  go_ret3
                  exact ⟨Zz (R := R) (a := 3) (s := (s.extract i k)) (b := k) (by rw [← HR.out]; unfold numeral; rw [HEE.out, ← hkEk.out]; rw [if_neg (fun hh => HZ.out (by have h9 := hh.2; rw [get_at s i hi] at h9; exact Option.some.inj h9))]; rw [if_neg (fun hh => by rw [get_at s k hltk] at hh; exact H46.out (Option.some.inj hh.1))]), by first | exact Below.refl _ _ | exact Z0 (Below.refl _ _) _⟩
              · go_wp2_with (go_in); go_quiet (fail); go_wp2_with (fail)
                go_ret3
                exact ⟨Zz (R := R) (a := 3) (s := (s.extract i k)) (b := k) (by rw [← HR.out]; unfold numeral; rw [HEE.out, ← hkEk.out]; rw [if_neg (fun hh => HZ.out (by have h9 := hh.2; rw [get_at s i hi] at h9; exact Option.some.inj h9))]; rw [if_neg (fun hh => by rw [get_end s (k + 1) (by omega)] at hh; exact absurd hh.2 (by simp))]), by first | exact Below.refl _ _ | exact Z0 (Below.refl _ _) _⟩
          · clear hz
            by_cases hB : k + 1 < s.size
            · have hx2 : ∀ h : k + 1 < s.size, ((s[k + 1]'h).toNat : Int) = bt s (k + 1 : Nat) := ZH s (k + 1 : Nat); obtain ⟨b02, b12⟩ := bt_range s (k + 1 : Nat); obtain ⟨d2, hd2⟩ : ∃ d, bt s (k + 1 : Nat) = d := ⟨_, rfl⟩; have HA2 : Hid (((at_ s (k + 1)).toNat : Int) = d2) := (at_int s (k + 1) hB).symm.trans hd2; rw [hd2] at hx2 b02 b12
              by_cases h46 : dk = 46
              · subst h46; have H46 : Hid (at_ s k = 46) := (u8_eq 46 (by omega)).1 HAk.out
                by_cases hp2 : dig (at_ s (k + 1)) = true
                · have HP2 : Hid (dig (at_ s (k + 1)) = true) := hp2; clear hp2; obtain ⟨g12, g22⟩ := dig_yes HP2.out HA2.out; obtain ⟨E2, hE2⟩ : ∃ E2, k + 1 + scan dig ((L s).drop (k + 1)) = E2 := ⟨_, rfl⟩
                  obtain ⟨hE5, hE6⟩ : k + 1 ≤ E2 ∧ E2 ≤ s.size := by have := scan_bound s dig (k + 1) (by omega); omega
                  have HE2 : Hid (k + 1 + scan dig ((L s).drop (k + 1)) = E2) := hE2; clear hE2; go_wp2_with (go_in); go_loop [7] (fun v => ∃ m : Nat, k + 1 ≤ m ∧ m ≤ s.size ∧ v = .int .i64 m ∧ Hid (m + scan dig ((L s).drop m) = E2)) (fun v => s.size - (intOf v).toNat)
                  case atStart => exact ⟨k + 1, by omega, by omega, by first | rfl | go_num, HE2⟩
                  case round =>
                    obtain ⟨m, hm1, hm2, rfl, Hm⟩ := hrel
                    by_cases hltm : m < s.size
                    · have hxm : ∀ h : m < s.size, ((s[m]'h).toNat : Int) = bt s m := ZH s m; obtain ⟨b0m, b1m⟩ := bt_range s m; obtain ⟨dm, hdm⟩ : ∃ d, bt s m = d := ⟨_, rfl⟩; have HAm : Hid (((at_ s m).toNat : Int) = dm) := (at_int s m hltm).symm.trans hdm; rw [hdm] at b0m b1m
                      by_cases hpm : dig (at_ s m) = true
                      · have HPm : Hid (dig (at_ s m) = true) := hpm; clear hpm; obtain ⟨g1m, g2m⟩ := dig_yes HPm.out HAm.out; go_wp2_with (go_in); go_round
                        case rel => exact ⟨m + 1, by omega, by omega, by go_num, by show _ = _; rw [← Hm.out, scan_step hltm HPm.out]; omega⟩
                        case measure => simp [intOf]; omega
                      · have HPm : Hid (dig (at_ s m) = false) := Bool.eq_false_iff.2 hpm
                        have hkEm : Hid (m = E2) := by show m = E2; rw [← Hm.out, scan_stop hltm HPm.out]; rfl
                        clear hpm
                        rcases dig_no HPm.out HAm.out with gm | gm
                        all_goals
                          go_wp2_with (go_in); go_quiet (fail); go_wp2_with (fail)
                          go_ret3
                          exact ⟨Zz (R := R) (a := 4) (s := (s.extract i m)) (b := m) (by rw [← HR.out]; unfold numeral; rw [HEE.out, ← hkEk.out]; rw [if_neg (fun hh => by omega)]; rw [if_pos ⟨by rw [get_at s k hltk, H46.out], by rw [get_at s (k + 1) hB]; exact HP2.out⟩, HE2.out, hkEm.out]), by first | exact Below.refl _ _ | exact Z0 (Below.refl _ _) _⟩
                    · have hkEm : Hid (m = E2) := by show m = E2; rw [← Hm.out, scan_end (by omega)]; rfl
                      go_wp2_with (fail); go_quiet (fail); go_wp2_with (fail)
                      go_ret3
                      exact ⟨Zz (R := R) (a := 4) (s := (s.extract i m)) (b := m) (by rw [← HR.out]; unfold numeral; rw [HEE.out, ← hkEk.out]; rw [if_neg (fun hh => by omega)]; rw [if_pos ⟨by rw [get_at s k hltk, H46.out], by rw [get_at s (k + 1) hB]; exact HP2.out⟩, HE2.out, hkEm.out]), by first | exact Below.refl _ _ | exact Z0 (Below.refl _ _) _⟩
                · have HP2 : Hid (dig (at_ s (k + 1)) = false) := Bool.eq_false_iff.2 hp2; clear hp2
                  rcases dig_no HP2.out HA2.out with g2 | g2
                  all_goals
                    go_wp2_with (go_in); go_quiet (fail); go_wp2_with (fail)
                    go_ret3
                    exact ⟨Zz (R := R) (a := 3) (s := (s.extract i k)) (b := k) (by rw [← HR.out]; unfold numeral; rw [HEE.out, ← hkEk.out]; rw [if_neg (fun hh => by omega)]; rw [if_neg (fun hh => by rw [get_at s (k + 1) hB] at hh; rw [show (Option.any dig (some (at_ s (k + 1)))) = dig (at_ s (k + 1)) from rfl, HP2.out] at hh; exact absurd hh.2 (by decide))]), by first | exact Below.refl _ _ | exact Z0 (Below.refl _ _) _⟩
              · have h46' : (dk == 46) = false := beq_eq_false_iff_ne.2 h46
                have H46 : Hid (at_ s k ≠ 46) := by intro e; have := HAk.out; rw [e] at this; simp at this; omega
                clear h46; go_wp2_with (go_in); go_quiet (fail); go_wp2_with (fail)
                go_ret3
                exact ⟨Zz (R := R) (a := 3) (s := (s.extract i k)) (b := k) (by rw [← HR.out]; unfold numeral; rw [HEE.out, ← hkEk.out]; rw [if_neg (fun hh => by omega)]; rw [if_neg (fun hh => by rw [get_at s k hltk] at hh; exact H46.out (Option.some.inj hh.1))]), by first | exact Below.refl _ _ | exact Z0 (Below.refl _ _) _⟩
            · go_wp2_with (go_in); go_quiet (fail); go_wp2_with (fail)
              go_ret3
              exact ⟨Zz (R := R) (a := 3) (s := (s.extract i k)) (b := k) (by rw [← HR.out]; unfold numeral; rw [HEE.out, ← hkEk.out]; rw [if_neg (fun hh => by omega)]; rw [if_neg (fun hh => by rw [get_end s (k + 1) (by omega)] at hh; exact absurd hh.2 (by simp))]), by first | exact Below.refl _ _ | exact Z0 (Below.refl _ _) _⟩
        · by_cases hA : i + 1 < k
          · rcases hz with ⟨hz, HZ⟩ | ⟨hz, HZ⟩
            · go_wp2_with (go_in)
              go_ret3
              exact ⟨Zz (R := R) (a := 0) (s := ⟨#[]⟩) (b := 0) (by rw [← HR.out]; unfold numeral; rw [HEE.out, ← hkEk.out]; rw [if_pos ⟨by omega, by rw [get_at s i hi, HZ.out]⟩]; rfl), by first | exact Below.refl _ _ | exact Z0 (Below.refl _ _) _⟩
            · by_cases hB : k + 1 < s.size
              · have hx2 : ∀ h : k + 1 < s.size, ((s[k + 1]'h).toNat : Int) = bt s (k + 1 : Nat) := ZH s (k + 1 : Nat); obtain ⟨b02, b12⟩ := bt_range s (k + 1 : Nat); obtain ⟨d2, hd2⟩ : ∃ d, bt s (k + 1 : Nat) = d := ⟨_, rfl⟩; have HA2 : Hid (((at_ s (k + 1)).toNat : Int) = d2) := (at_int s (k + 1) hB).symm.trans hd2; rw [hd2] at hx2 b02 b12; have h46 : ¬ dk = 46 := (by omega); have h46' : (dk == 46) = false := beq_eq_false_iff_ne.2 h46
                have H46 : Hid (at_ s k ≠ 46) := by intro e; have := HAk.out; rw [e] at this; simp at this; omega
                clear h46; go_wp2_with (go_in); go_quiet (fail); go_wp2_with (fail)
                go_ret3
                exact ⟨Zz (R := R) (a := 3) (s := (s.extract i k)) (b := k) (by rw [← HR.out]; unfold numeral; rw [HEE.out, ← hkEk.out]; rw [if_neg (fun hh => HZ.out (by have h9 := hh.2; rw [get_at s i hi] at h9; exact Option.some.inj h9))]; rw [if_neg (fun hh => by rw [get_at s k hltk] at hh; exact H46.out (Option.some.inj hh.1))]), by first | exact Below.refl _ _ | exact Z0 (Below.refl _ _) _⟩
              · go_wp2_with (go_in); go_quiet (fail); go_wp2_with (fail)
                go_ret3
                exact ⟨Zz (R := R) (a := 3) (s := (s.extract i k)) (b := k) (by rw [← HR.out]; unfold numeral; rw [HEE.out, ← hkEk.out]; rw [if_neg (fun hh => HZ.out (by have h9 := hh.2; rw [get_at s i hi] at h9; exact Option.some.inj h9))]; rw [if_neg (fun hh => by rw [get_end s (k + 1) (by omega)] at hh; exact absurd hh.2 (by simp))]), by first | exact Below.refl _ _ | exact Z0 (Below.refl _ _) _⟩
          · clear hz
            by_cases hB : k + 1 < s.size
            · have hx2 : ∀ h : k + 1 < s.size, ((s[k + 1]'h).toNat : Int) = bt s (k + 1 : Nat) := ZH s (k + 1 : Nat); obtain ⟨b02, b12⟩ := bt_range s (k + 1 : Nat); obtain ⟨d2, hd2⟩ : ∃ d, bt s (k + 1 : Nat) = d := ⟨_, rfl⟩; have HA2 : Hid (((at_ s (k + 1)).toNat : Int) = d2) := (at_int s (k + 1) hB).symm.trans hd2; rw [hd2] at hx2 b02 b12; have h46 : ¬ dk = 46 := (by omega); have h46' : (dk == 46) = false := beq_eq_false_iff_ne.2 h46
              have H46 : Hid (at_ s k ≠ 46) := by intro e; have := HAk.out; rw [e] at this; simp at this; omega
              clear h46; go_wp2_with (go_in); go_quiet (fail); go_wp2_with (fail)
              go_ret3
              exact ⟨Zz (R := R) (a := 3) (s := (s.extract i k)) (b := k) (by rw [← HR.out]; unfold numeral; rw [HEE.out, ← hkEk.out]; rw [if_neg (fun hh => by omega)]; rw [if_neg (fun hh => by rw [get_at s k hltk] at hh; exact H46.out (Option.some.inj hh.1))]), by first | exact Below.refl _ _ | exact Z0 (Below.refl _ _) _⟩
            · go_wp2_with (go_in); go_quiet (fail); go_wp2_with (fail)
              go_ret3
              exact ⟨Zz (R := R) (a := 3) (s := (s.extract i k)) (b := k) (by rw [← HR.out]; unfold numeral; rw [HEE.out, ← hkEk.out]; rw [if_neg (fun hh => by omega)]; rw [if_neg (fun hh => by rw [get_end s (k + 1) (by omega)] at hh; exact absurd hh.2 (by simp))]), by first | exact Below.refl _ _ | exact Z0 (Below.refl _ _) _⟩
    · have hkEk : Hid (k = E) := by show k = E; rw [← Hk.out, scan_end (by omega)]; rfl
      by_cases hA : i + 1 < k
      · rcases hz with ⟨hz, HZ⟩ | ⟨hz, HZ⟩
        · go_wp2_with (go_in)
          go_ret3
          exact ⟨Zz (R := R) (a := 0) (s := ⟨#[]⟩) (b := 0) (by rw [← HR.out]; unfold numeral; rw [HEE.out, ← hkEk.out]; rw [if_pos ⟨by omega, by rw [get_at s i hi, HZ.out]⟩]; rfl), by first | exact Below.refl _ _ | exact Z0 (Below.refl _ _) _⟩
        · go_wp2_with (go_in); go_quiet (fail); go_wp2_with (fail)
          go_ret3
          exact ⟨Zz (R := R) (a := 3) (s := (s.extract i k)) (b := k) (by rw [← HR.out]; unfold numeral; rw [HEE.out, ← hkEk.out]; rw [if_neg (fun hh => HZ.out (by have h9 := hh.2; rw [get_at s i hi] at h9; exact Option.some.inj h9))]; rw [if_neg (fun hh => by rw [get_end s k (by omega)] at hh; exact absurd hh.1 (by simp))]), by first | exact Below.refl _ _ | exact Z0 (Below.refl _ _) _⟩
      · clear hz; go_wp2_with (go_in); go_quiet (fail); go_wp2_with (fail)
        go_ret3
        exact ⟨Zz (R := R) (a := 3) (s := (s.extract i k)) (b := k) (by rw [← HR.out]; unfold numeral; rw [HEE.out, ← hkEk.out]; rw [if_neg (fun hh => by omega)]; rw [if_neg (fun hh => by rw [get_end s k (by omega)] at hh; exact absurd hh.1 (by simp))]), by first | exact Below.refl _ _ | exact Z0 (Below.refl _ _) _⟩
end Go.Proofs.YtbeelgaganbblaaDoor.Tok
namespace Go.Proofs.YtbeelgaganbblaaDoor.Tok
open Go.RowKit Go.Proofs.YtbeelgaganbblaaDoorW.PrintWords Go.Proofs.YtbeelgaganbblaaDoor Go.Proofs.YtbeelgaganbblaaDoor.By
set_option linter.unusedVariables false
set_option linter.unusedSimpArgs false
set_option maxRecDepth 100000
def QRelI (s : ByteArray) (i B : Nat) (W0 : World) (E : Option (List UInt8 × Nat)) (v7 v9 : Value) (wr : World) : Prop :=
  ∃ (k : Nat) (acc : List UInt8), i + 1 ≤ k ∧ k ≤ s.size ∧ v7 = .int .i64 k ∧ txt ((L s).drop k) acc k = E ∧ acc.length ≤ k ∧ wr.ownsRow B 5 1 v9 acc.length (nums .u8 (ints acc)) ∧ Below B W0 wr ∧ B ≤ wr.heap.size
theorem q_stepI {B : Nat} {W0 wr w1 : World} {v6 v' : Value} {acc : List UInt8} {c : UInt8} {o : Obj} (hown : wr.ownsRow B 5 1 v6 acc.length (nums .u8 (ints acc))) (hbel : Below B W0 wr) (hsz : B ≤ wr.heap.size)
    (hown' : w1.ownsRow B 5 1 v' (acc.length + 1) (nums .u8 (ints acc) ++ [.int .u8 (c.toNat : Int)])) (hgrow : (wr.alloc o).grownBy w1 v6.ownBlock) :
    w1.ownsRow B 5 1 v' (acc ++ [c]).length (nums .u8 (ints (acc ++ [c]))) ∧ Below B W0 w1 ∧ B ≤ w1.heap.size := by
  refine ⟨?_, (hbel.alloc (by omega) o).grown hgrow (by simp; omega) (fun j hj => by have := (hown.lt j hj).1; omega), ?_⟩
  · rw [← ints_snoc, List.length_append]; exact hown'
  · have := hgrow.size; simp at this; omega
set_option maxHeartbeats 8000000 in
theorem impl_quoted (s : ByteArray) (i : Nat) (w : World) (hs : s.size ≤ 140737488351232) (hi : i < s.size) (hc : bt s i = 34) (R : Int × ByteArray × Int) (HR : Hid (quoted s i = R)) :
    Calls Tryd.prog 43 #[.string s, .int .i64 i] w fun e w' => e = .returned (.tuple #[.int .i64 R.1, .string R.2.1, .int .i64 R.2.2]) ∧ Below w.heap.size w w' := by
  have hx : ∀ h : i < s.size, ((s[i]'h).toNat : Int) = bt s i := ZH s i; obtain ⟨E, hE⟩ : ∃ E, txt ((L s).drop (i + 1)) [] (i + 1) = E := ⟨_, rfl⟩; have HEE : Hid (txt ((L s).drop (i + 1)) [] (i + 1) = E) := hE
  have HRN : Hid (E = none → R = noTok) := by intro h; rw [← HR.out]; unfold quoted; rw [hE, h]
  have HRS : Hid (∀ o k, E = some (o, k) → R = (6, ⟨o.toArray⟩, (k : Int))) := by intro o k h; rw [← HR.out]; unfold quoted; rw [hE, h]
  clear hE; obtain ⟨i0, hif, hz0, hz1, hz2⟩ := info_parts info5; have HI : Hid (Tryd.prog.info? 5 = some i0 ∧ i0.zero = some (.int .u8 0) ∧ i0.size = 1 ∧ i0.bytes = 1) := ⟨hif, hz0, hz1, hz2⟩; clear hif hz0 hz1 hz2; go_enter Tryd.func43, Tryd.ntmps43; go_wp2_with (fail); go_loopw [7, 9] (fun v7 v9 wr => QRelI s i w.heap.size w E v7 v9 wr) (fun v7 _ _ => s.size - (intOf v7).toNat)
  case atStart => exact ⟨i + 1, [], by omega, by omega, by first | rfl | go_num, HEE.out, by simp, World.ownsRow_nil _ _ _ _, Below.refl _ _, by simp⟩
  case round =>
    obtain ⟨k, acc, hk1, hk2, rfl, hT, hal, hown, hbel, hsz⟩ := hrel; have HT : Hid (txt ((L s).drop k) acc k = E) := hT; have HO : Hid (wr.ownsRow w.heap.size 5 1 u9 acc.length (nums .u8 (ints acc))) := hown; have HB : Hid (Below w.heap.size w wr) := hbel; clear hT hown hbel
    by_cases hlt : k < s.size
    · have hxk : ∀ h : k < s.size, ((s[k]'h).toNat : Int) = bt s k := ZH s k; obtain ⟨b0, b1⟩ := bt_range s k; obtain ⟨d, hd⟩ : ∃ d, bt s k = d := ⟨_, rfl⟩; have HA : Hid (((at_ s k).toNat : Int) = d) := (at_int s k hlt).symm.trans hd; have HD : Hid ((L s).drop k = at_ s k :: (L s).drop (k + 1)) := drop_at s k hlt; rw [hd] at b0 b1
      by_cases h34 : d = 34
      · subst h34; have H34 : Hid (at_ s k = 34) := (u8_eq 34 (by omega)).1 HA.out
        by_cases hl2 : k + 1 < s.size
        · have hx2 : ∀ h : k + 1 < s.size, ((s[k + 1]'h).toNat : Int) = bt s (k + 1 : Nat) := ZH s (k + 1 : Nat); obtain ⟨d2, hd2⟩ : ∃ d, bt s (k + 1 : Nat) = d := ⟨_, rfl⟩; have HA2 : Hid (((at_ s (k + 1)).toNat : Int) = d2) := (at_int s (k + 1) hl2).symm.trans hd2; have HD2 : Hid ((L s).drop (k + 1) = at_ s (k + 1) :: (L s).drop (k + 2)) := drop_at s (k + 1) hl2; rw [hd2] at hx2
          by_cases h342 : d2 = 34
          · subst h342; have H342 : Hid (at_ s (k + 1) = 34) := (u8_eq 34 (by omega)).1 HA2.out; go_wp2_with (first | (at_builtin; refine wpList_append_own _ rfl _ _ 37 rfl w.heap.size 5 i0 (.int .u8 0) 1 1 Tryd.underlying37 HI.out.1 HI.out.2.1 HI.out.2.2.1 HI.out.2.2.2 rfl (by decide) _ _ _ rfl (HO.out.alloc _) ⟨wr.heap.size, 0, none⟩ 1 1 [.int .u8 34] rfl rfl (cell_one_new _ _ _) (by simp [Value.oneCell']) (by unfold maxLen; omega) (by omega) (by simp; omega) ?_; intro v' w1 hown' hgrow _) | go_in)
            go_roundw
            case rel =>
              obtain ⟨ha, hb, hc'⟩ := q_stepI (c := 34) HO.out HB.out hsz (by first | exact hown' | (rw [HA.out]; exact hown')) hgrow; exact ⟨k + 2, acc ++ [34], by omega, by omega, by go_num, by rw [← HT.out, HD.out, H34.out, HD2.out, H342.out, txt_quote2], by simp; omega, ha, hb, hc'⟩
            case measure => simp [intOf]; omega
          · have h342' : (d2 == 34) = false := beq_eq_false_iff_ne.2 h342
            have H342 : Hid (at_ s (k + 1) ≠ 34) := by intro e; have := HA2.out; rw [e] at this; simp at this; omega
            clear h342
            have hcv : ∀ n, (convert 37 9 u9).run Tryd.prog (wr.drewN n) = .ok (.string (strOfNums (ints acc))) (wr.drewN n) := fun n => own_string (P := Tryd.prog) (w := wr.drewN n) Tryd.underlying37 Tryd.underlying5 Tryd.underlying9 (pw_own_drewN HO.out n)
            go_wp2_with (go_in); go_quiet (fail); go_wp2_with (fail)
            go_ret3
            exact ⟨Zz (R := R) (a := 6) (s := strOfNums (ints acc)) (b := (k : Int) + 1) (by rw [str_ints]; exact HRS.out _ _ (by rw [← HT.out, HD.out, H34.out, HD2.out, txt_end2 H342.out])), Z0 HB.out _⟩
        · have HZ : Hid ((L s).drop (k + 1) = []) := drop_all s (k + 1) (by omega)
          have hcv : ∀ n, (convert 37 9 u9).run Tryd.prog (wr.drewN n) = .ok (.string (strOfNums (ints acc))) (wr.drewN n) := fun n => own_string (P := Tryd.prog) (w := wr.drewN n) Tryd.underlying37 Tryd.underlying5 Tryd.underlying9 (pw_own_drewN HO.out n)
          go_wp2_with (go_in); go_quiet (fail); go_wp2_with (fail)
          go_ret3
          exact ⟨Zz (R := R) (a := 6) (s := strOfNums (ints acc)) (b := (k : Int) + 1) (by rw [str_ints]; exact HRS.out _ _ (by rw [← HT.out, HD.out, H34.out, HZ.out, txt_end1])), Z0 HB.out _⟩
      · have h34' : (d == 34) = false := beq_eq_false_iff_ne.2 h34
        have H34 : Hid (at_ s k ≠ 34) := by intro e; have := HA.out; rw [e] at this; simp at this; omega
        clear h34
        by_cases hq : inq (at_ s k) = true
        · have HQ : Hid (inq (at_ s k) = true) := hq; clear hq
          rcases inq_yes HQ.out HA.out with g | ⟨g1, g2⟩
          · subst g; have H10 : Hid (at_ s k = 10) := (u8_eq 10 (by omega)).1 HA.out; go_wp2_with (first | (at_builtin; refine wpList_append_own _ rfl _ _ 37 rfl w.heap.size 5 i0 (.int .u8 0) 1 1 Tryd.underlying37 HI.out.1 HI.out.2.1 HI.out.2.2.1 HI.out.2.2.2 rfl (by decide) _ _ _ rfl (HO.out.alloc _) ⟨wr.heap.size, 0, none⟩ 1 1 [.int .u8 10] rfl rfl (cell_one_new _ _ _) (by simp [Value.oneCell']) (by unfold maxLen; omega) (by omega) (by simp; omega) ?_; intro v' w1 hown' hgrow _) | go_in)
            go_roundw
            case rel =>
              obtain ⟨ha, hb, hc'⟩ := q_stepI (c := 10) HO.out HB.out hsz (by first | exact hown' | (rw [HA.out]; exact hown')) hgrow; exact ⟨k + 1, acc ++ [10], by omega, by omega, by go_num, by rw [← HT.out, HD.out, H10.out, txt_other (by decide) (by decide)], by simp; omega, ha, hb, hc'⟩
            case measure => simp [intOf]; omega
          · have g3 : (d != 10) = true := bne_iff_ne.2 (by omega); go_wp2_with (first | (at_builtin; refine wpList_append_own _ rfl _ _ 37 rfl w.heap.size 5 i0 (.int .u8 0) 1 1 Tryd.underlying37 HI.out.1 HI.out.2.1 HI.out.2.2.1 HI.out.2.2.2 rfl (by decide) _ _ _ rfl (HO.out.alloc _) ⟨wr.heap.size, 0, none⟩ 1 1 [.int .u8 d] rfl rfl (cell_one_new _ _ _) (by simp [Value.oneCell']) (by unfold maxLen; omega) (by omega) (by simp; omega) ?_; intro v' w1 hown' hgrow _) | go_in)
            go_roundw
            case rel =>
              obtain ⟨ha, hb, hc'⟩ := q_stepI (c := at_ s k) HO.out HB.out hsz (by first | exact hown' | (rw [HA.out]; exact hown')) hgrow; exact ⟨k + 1, acc ++ [at_ s k], by omega, by omega, by go_num, by rw [← HT.out, HD.out, txt_other H34.out HQ.out], by simp; omega, ha, hb, hc'⟩
            case measure => simp [intOf]; omega
        · have HQ : Hid (inq (at_ s k) = false) := Bool.eq_false_iff.2 hq; clear hq; obtain ⟨g0, g1⟩ := inq_no HQ.out HA.out; have g3 : (d != 10) = true := bne_iff_ne.2 g0; clear g0
          rcases g1 with g | g
          · have gf : decide (32 ≤ d) = false := decide_eq_false (by omega); go_wp2_with (go_in)
            go_ret3
            exact ⟨Zz (R := R) (a := 0) (s := ⟨#[]⟩) (b := 0) (HRN.out (by rw [← HT.out, HD.out, txt_bad H34.out HQ.out])), HB.out⟩
          · have gf : decide (d ≤ 126) = false := decide_eq_false (by omega); go_wp2_with (go_in)
            go_ret3
            exact ⟨Zz (R := R) (a := 0) (s := ⟨#[]⟩) (b := 0) (HRN.out (by rw [← HT.out, HD.out, txt_bad H34.out HQ.out])), HB.out⟩
    · have HZ : Hid ((L s).drop k = []) := drop_all s k (by omega); go_wp2_with (go_in)
      go_ret3
      exact ⟨Zz (R := R) (a := 0) (s := ⟨#[]⟩) (b := 0) (HRN.out (by rw [← HT.out, HZ.out]; first | rfl | simp [txt])), HB.out⟩
end Go.Proofs.YtbeelgaganbblaaDoor.Tok
namespace Go.Proofs.YtbeelgaganbblaaDoor.Tok
open Go.RowKit Go.Proofs.YtbeelgaganbblaaDoorW.PrintWords Go.Proofs.YtbeelgaganbblaaDoor Go.Proofs.YtbeelgaganbblaaDoor.By
set_option linter.unusedVariables false
set_option linter.unusedSimpArgs false
set_option maxRecDepth 100000
def WRel (s : ByteArray) (i B : Nat) (w : World) (p : UInt8 → Bool) (g : UInt8 → List UInt8) (T : List UInt8) (v11 : Value) (wr : World) : Prop :=
  ∃ (k : Nat) (src : List UInt8), i + 2 ≤ k ∧ k ≤ s.size ∧ v11 = .int .i64 k ∧ src ++ ((L s).drop k).takeWhile p = T ∧ k = i + 2 + src.length ∧ Lib.IsBuilder 51 5 B B (Lib.byteCells (src.flatMap g)) wr ∧ Below B w wr ∧ B ≤ wr.heap.size
def VRel (B : Nat) (w : World) (F : List UInt8) (ch : UInt8) (v14 : Value) (wr : World) : Prop :=
  ∃ (c : Nat) (j : Int), c ≤ 4 ∧ j + c = 3 ∧ v14 = .int .i64 j ∧ Lib.IsBuilder 51 5 B B (Lib.byteCells (F ++ (four ch).take c)) wr ∧ Below B w wr ∧ B ≤ wr.heap.size
theorem cells_snoc (l : List UInt8) (c : UInt8) : Lib.byteCells l ++ [.int .u8 (c.toNat : Int)] = Lib.byteCells (l ++ [c]) := by rw [Lib.byteCells_append]; rfl
theorem hex_index : ∀ n : Nat, n < 256 → (97 ≤ n ∧ n ≤ 102) ∨ (65 ≤ n ∧ n ≤ 70) → (Lib.indexByte [48, 49, 50, 51, 52, 53, 54, 55, 56, 57, 97, 98, 99, 100, 101, 102] (Go.bits .or .u8 (n : Int) 32).toNat.toUInt8 : Int) = (hexv (UInt8.ofNat n) : Nat) := by decide +kernel
theorem Zq {B : Nat} {w w' : World} (h : Below B w w') (hB : B ≤ w.heap.size) : B ≤ w'.heap.size := Nat.le_trans hB h.size
set_option maxHeartbeats 8000000 in
theorem impl_bin (s : ByteArray) (i : Nat) (w : World) (hs : s.size ≤ 35184372088000) (hi : i + 1 < s.size) (hc : bt s i = 35) (kd : Int) (hk0 : 0 ≤ kd) (hk1 : kd ≤ 255) (hkd : bt s (i + 1 : Nat) = kd) (hb : kd = 98) (R : Int × ByteArray × Int) (HR : Hid (bits s i = R)) :
    Calls Tryd.prog 43 #[.string s, .int .i64 i] w fun e w' => e = .returned (.tuple #[.int .i64 R.1, .string R.2.1, .int .i64 R.2.2]) ∧ Below w.heap.size w w' := by
  have hx : ∀ h : i < s.size, ((s[i]'h).toNat : Int) = bt s i := ZH s i; have hx1 : ∀ h : i + 1 < s.size, ((s[i + 1]'h).toNat : Int) = bt s (i + 1 : Nat) := ZH s (i + 1 : Nat); have HAK : Hid (((at_ s (i + 1)).toNat : Int) = kd) := (at_int s (i + 1) hi).symm.trans hkd; rw [hkd] at hx1; clear hkd; obtain ⟨T, hT⟩ : ∃ T, ((L s).drop (i + 2)).takeWhile bin = T := ⟨_, rfl⟩; have HTT : Hid (((L s).drop (i + 2)).takeWhile bin = T) := hT
  have HRR : Hid (R = if T = [] then noTok else (5, ⟨T.toArray⟩, ((i + 2 + T.length : Nat) : Int))) := by
    show R = _; have e : at_ s (i + 1) = 98 := (u8_eq 98 (by omega)).1 (HAK.out.trans hb); rw [← HR.out]; unfold bits; rw [get_at s (i + 1) hi, e, if_pos rfl, hT]
  clear hT; subst hb; have hi2 : ¬ s.size ≤ i + 1 := (by omega); go_enter Tryd.func43, Tryd.ntmps43; go_wp2_with (go_in); go_loopw [11] (fun v11 wr => WRel s i w.heap.size w bin (fun c => [c]) T v11 wr) (fun v11 _ => s.size - (intOf v11).toNat)
  case atStart => exact ⟨i + 2, [], by omega, by omega, by first | rfl | go_num, HTT.out, by simp, Lib.fresh_isBuilder _ _ _, by first | exact (Below.refl _ _).alloc (Nat.le_refl _) _ , by simp⟩
  case round =>
    obtain ⟨k, src, hk1', hk2, rfl, hS, hkl, hbu0, hbel, hsz⟩ := hrel; have HS : Hid (src ++ ((L s).drop k).takeWhile bin = T) := hS; have HL : Hid (k = i + 2 + src.length) := hkl; have hkl' : i + 2 + src.length ≤ k := (by omega); have hkl2 : k ≤ i + 2 + src.length := (by omega); have HO : Hid (Lib.IsBuilder 51 5 w.heap.size w.heap.size (Lib.byteCells (src.flatMap (fun c => [c]))) wr) := hbu0; have HB : Hid (Below w.heap.size w wr) := hbel; clear hS hkl hbu0 hbel
    by_cases hlt : k < s.size
    · have hxk : ∀ h : k < s.size, ((s[k]'h).toNat : Int) = bt s k := ZH s k; obtain ⟨b0, b1⟩ := bt_range s k; obtain ⟨d, hd⟩ : ∃ d, bt s k = d := ⟨_, rfl⟩; have HA : Hid (((at_ s k).toNat : Int) = d) := (at_int s k hlt).symm.trans hd; rw [hd] at b0 b1; obtain ⟨J, hJ⟩ : ∃ J : Int, (Lib.indexByte [48, 49, 50, 51, 52, 53, 54, 55, 56, 57, 97, 98, 99, 100, 101, 102] (Go.bits .or .u8 d 32).toNat.toUInt8 : Int) = J := ⟨_, rfl⟩; have HJV : Hid ((Lib.indexByte [48, 49, 50, 51, 52, 53, 54, 55, 56, 57, 97, 98, 99, 100, 101, 102] (Go.bits .or .u8 d 32).toNat.toUInt8 : Int) = J) := hJ
      have HJ : Hid (∀ W, Calls Tryd.prog 73 #[.string ⟨#[48, 49, 50, 51, 52, 53, 54, 55, 56, 57, 97, 98, 99, 100, 101, 102]⟩, .int .u8 (Go.bits .or .u8 d 32)] W fun e w' => e = .returned (.int .i64 J) ∧ w' = W) := fun W => by rw [← hJ]; exact Tryd.strings_IndexByte ⟨#[48, 49, 50, 51, 52, 53, 54, 55, 56, 57, 97, 98, 99, 100, 101, 102]⟩ (Go.bits .or .u8 d 32) W
      clear hJ
      by_cases hp : bin (at_ s k) = true
      · have HP : Hid (bin (at_ s k) = true) := hp; clear hp
        have HD : Hid (d = 48 ∨ d = 49) := by
          have := HP.out; unfold bin at this; simp only [Bool.or_eq_true, beq_iff_eq] at this
          rcases this with e | e
          · left; have := HA.out; rw [e] at this; simp at this; omega
          · right; have := HA.out; rw [e] at this; simp at this; omega
        have gl : (src.flatMap (fun c => [c])).length + 1 ≤ 140737488355328 := by rw [flat_one]; omega
        have GL : Hid ((src.flatMap (fun c => [c])).length + 1 ≤ 140737488355328) := gl; clear gl
        rcases HD.out with g | g
        all_goals
          have HA3 : Hid (((at_ s k).toNat : Int) = d) := HA.out; have g48 : 48 ≤ d := (by omega); have g57 : d ≤ 57 := (by omega); have HG := g; rw [hd, g] at hxk; have HGG : Hid (d = _) := HG; clear HG; subst g; go_wp2_with (first | (go_at_call 73; refine (HJ.out _).mono ?_; rintro e w' ⟨rfl, rfl⟩) | (go_at_call 28; refine (Tryd.Builder_WriteByte w.heap.size w.heap.size _ _ _ HO.out (by rw [Lib.byteCells_length]; have := GL.out; omega) hsz).mono ?_; rintro e w1 ⟨rfl, hbu, hbl⟩) | go_in)
          go_roundw
          case rel => exact ⟨k + 1, src ++ [at_ s k], by omega, by omega, by go_num, by rw [← HS.out, tw_yes hlt HP.out, List.append_assoc]; rfl, by rw [List.length_append]; simp; omega, by rw [flat_snoc, ← cells_snoc, HA3.out]; exact .inr hbu, HB.out.trans hbl, Zq hbl hsz⟩
          case measure => simp [intOf]; omega
      · have HP : Hid (bin (at_ s k) = false) := Bool.eq_false_iff.2 hp
        have HT2 : Hid (src = T) := by show src = T; rw [← HS.out, tw_no hlt HP.out, List.append_nil]
        clear hp; have g48 : (d != 48) = true := bne_iff_ne.2 (fun e => by have := (u8_eq 48 (by omega)).1 (HA.out.trans e); have h2 := HP.out; rw [this] at h2; exact absurd h2 (by decide)); have g49 : (d != 49) = true := bne_iff_ne.2 (fun e => by have := (u8_eq 49 (by omega)).1 (HA.out.trans e); have h2 := HP.out; rw [this] at h2; exact absurd h2 (by decide))
        rcases (by omega : d < 48 ∨ (48 ≤ d ∧ d ≤ 57) ∨ 57 < d) with gr | ⟨gr, gr'⟩ | gr
        all_goals
          by_cases hn : src = []
          · have hq : ((k : Int) == (i : Int) + 2) = true := by rw [beq_iff_eq, HL.out, hn]; simp
            have HN : Hid (src = []) := hn; clear hn; go_wp2_with (first | (go_at_call 73; refine (HJ.out _).mono ?_; rintro e w' ⟨rfl, rfl⟩) | go_in)
            go_ret3
            exact ⟨Zz (R := R) (a := 0) (s := ⟨#[]⟩) (b := 0) (by rw [HRR.out, if_pos (by rw [← HT2.out]; exact HN.out)]; rfl), HB.out⟩
          · have hq : ((k : Int) == (i : Int) + 2) = false := by rw [beq_eq_false_iff_ne]; intro e; exact hn (List.length_eq_zero_iff.1 (by omega))
            have HN : Hid (src ≠ []) := hn; clear hn; go_wp2_with (first | (go_at_call 32; refine (Tryd.Builder_String_any w.heap.size w.heap.size _ _ HO.out hsz).mono ?_; rintro e w1 ⟨rfl, hbl⟩) | first | (go_at_call 73; refine (HJ.out _).mono ?_; rintro e w' ⟨rfl, rfl⟩) | go_in)
            go_ret3
            exact ⟨Zz (R := R) (a := 5) (s := ⟨src.toArray⟩) (b := (k : Int)) (by rw [HRR.out, ← HT2.out, if_neg HN.out, HL.out]), HB.out.trans hbl⟩
    · have HT2 : Hid (src = T) := by show src = T; rw [← HS.out, tw_end (by omega), List.append_nil]
      by_cases hn : src = []
      · have hq : ((k : Int) == (i : Int) + 2) = true := by rw [beq_iff_eq, HL.out, hn]; simp
        have HN : Hid (src = []) := hn; clear hn; go_wp2_with (go_in)
        go_ret3
        exact ⟨Zz (R := R) (a := 0) (s := ⟨#[]⟩) (b := 0) (by rw [HRR.out, if_pos (by rw [← HT2.out]; exact HN.out)]; rfl), HB.out⟩
      · have hq : ((k : Int) == (i : Int) + 2) = false := by rw [beq_eq_false_iff_ne]; intro e; exact hn (List.length_eq_zero_iff.1 (by omega))
        have HN : Hid (src ≠ []) := hn; clear hn; go_wp2_with (first | (go_at_call 32; refine (Tryd.Builder_String_any w.heap.size w.heap.size _ _ HO.out hsz).mono ?_; rintro e w1 ⟨rfl, hbl⟩) | go_in)
        go_ret3
        exact ⟨Zz (R := R) (a := 5) (s := ⟨src.toArray⟩) (b := (k : Int)) (by rw [HRR.out, ← HT2.out, if_neg HN.out, HL.out]), HB.out.trans hbl⟩
end Go.Proofs.YtbeelgaganbblaaDoor.Tok
namespace Go.Proofs.YtbeelgaganbblaaDoor.Tok
open Go.RowKit Go.Proofs.YtbeelgaganbblaaDoorW.PrintWords Go.Proofs.YtbeelgaganbblaaDoor Go.Proofs.YtbeelgaganbblaaDoor.By
set_option linter.unusedVariables false
set_option linter.unusedSimpArgs false
set_option maxRecDepth 100000
theorem bit_val0 : ∀ h : Nat, h < 16 → wrap64 (48 + Go.bits .and .i64 (h : Int) 1) % 256 = ((bit h 0).toNat : Int) := by decide +kernel
theorem hex_idx {c : UInt8} {d : Int} (e : (c.toNat : Int) = d) (h : (97 ≤ d ∧ d ≤ 102) ∨ (65 ≤ d ∧ d ≤ 70)) : (Lib.indexByte [48, 49, 50, 51, 52, 53, 54, 55, 56, 57, 97, 98, 99, 100, 101, 102] (Go.bits .or .u8 d 32).toNat.toUInt8 : Int) = (hexv c : Nat) := by
  have := hex_index c.toNat c.toNat_lt (by omega); rw [e] at this; rw [this]; simp
theorem of_idx {J : Int} {d : Int} {h : Nat} {c : UInt8} (hj : (Lib.indexByte [48, 49, 50, 51, 52, 53, 54, 55, 56, 57, 97, 98, 99, 100, 101, 102] (Go.bits .or .u8 d 32).toNat.toUInt8 : Int) = J) (e : (c.toNat : Int) = d) (hr : (97 ≤ d ∧ d ≤ 102) ∨ (65 ≤ d ∧ d ≤ 70)) (hh : hexv c = h) : J = (h : Int) := by rw [← hj, hex_idx e hr, hh]
set_option maxHeartbeats 8000000 in
theorem impl_hexs (s : ByteArray) (i : Nat) (w : World) (hs : s.size ≤ 35184372088000) (hi : i + 1 < s.size) (hc : bt s i = 35) (kd : Int) (hk0 : 0 ≤ kd) (hk1 : kd ≤ 255) (hkd : bt s (i + 1 : Nat) = kd) (hb : kd = 120) (R : Int × ByteArray × Int) (HR : Hid (bits s i = R)) :
    Calls Tryd.prog 43 #[.string s, .int .i64 i] w fun e w' => e = .returned (.tuple #[.int .i64 R.1, .string R.2.1, .int .i64 R.2.2]) ∧ Below w.heap.size w w' := by
  have hx : ∀ h : i < s.size, ((s[i]'h).toNat : Int) = bt s i := ZH s i; have hx1 : ∀ h : i + 1 < s.size, ((s[i + 1]'h).toNat : Int) = bt s (i + 1 : Nat) := ZH s (i + 1 : Nat); have HAK : Hid (((at_ s (i + 1)).toNat : Int) = kd) := (at_int s (i + 1) hi).symm.trans hkd; rw [hkd] at hx1; clear hkd; obtain ⟨T, hT⟩ : ∃ T, ((L s).drop (i + 2)).takeWhile hexd = T := ⟨_, rfl⟩; have HTT : Hid (((L s).drop (i + 2)).takeWhile hexd = T) := hT
  have HRR : Hid (R = if T = [] then noTok else (5, ⟨(T.flatMap four).toArray⟩, ((i + 2 + T.length : Nat) : Int))) := by
    show R = _; have e : at_ s (i + 1) = 120 := (u8_eq 120 (by omega)).1 (HAK.out.trans hb); rw [← HR.out]; unfold bits; rw [get_at s (i + 1) hi, e, if_neg (by decide), if_pos rfl, hT]
  clear hT; subst hb; have hi2 : ¬ s.size ≤ i + 1 := (by omega); go_enter Tryd.func43, Tryd.ntmps43; go_wp2_with (go_in); go_loopw [11] (fun v11 wr => WRel s i w.heap.size w hexd four T v11 wr) (fun v11 _ => s.size - (intOf v11).toNat)
  case atStart => exact ⟨i + 2, [], by omega, by omega, by first | rfl | go_num, HTT.out, by simp, Lib.fresh_isBuilder _ _ _, by first | exact (Below.refl _ _).alloc (Nat.le_refl _) _ , by simp⟩
  case round =>
    obtain ⟨k, src, hk1', hk2, rfl, hS, hkl, hbu0, hbel, hsz⟩ := hrel; have HS : Hid (src ++ ((L s).drop k).takeWhile hexd = T) := hS; have HL : Hid (k = i + 2 + src.length) := hkl; have hkl' : i + 2 + src.length ≤ k := (by omega); have hkl2 : k ≤ i + 2 + src.length := (by omega); have HO : Hid (Lib.IsBuilder 51 5 w.heap.size w.heap.size (Lib.byteCells (src.flatMap four)) wr) := hbu0; have HB : Hid (Below w.heap.size w wr) := hbel; clear hS hkl hbu0 hbel
    by_cases hlt : k < s.size
    · have hxk : ∀ h : k < s.size, ((s[k]'h).toNat : Int) = bt s k := ZH s k; obtain ⟨b0, b1⟩ := bt_range s k; obtain ⟨d, hd⟩ : ∃ d, bt s k = d := ⟨_, rfl⟩; have HA : Hid (((at_ s k).toNat : Int) = d) := (at_int s k hlt).symm.trans hd; rw [hd] at b0 b1; obtain ⟨J, hJ⟩ : ∃ J : Int, (Lib.indexByte [48, 49, 50, 51, 52, 53, 54, 55, 56, 57, 97, 98, 99, 100, 101, 102] (Go.bits .or .u8 d 32).toNat.toUInt8 : Int) = J := ⟨_, rfl⟩; have HJV : Hid ((Lib.indexByte [48, 49, 50, 51, 52, 53, 54, 55, 56, 57, 97, 98, 99, 100, 101, 102] (Go.bits .or .u8 d 32).toNat.toUInt8 : Int) = J) := hJ
      have HJ : Hid (∀ W, Calls Tryd.prog 73 #[.string ⟨#[48, 49, 50, 51, 52, 53, 54, 55, 56, 57, 97, 98, 99, 100, 101, 102]⟩, .int .u8 (Go.bits .or .u8 d 32)] W fun e w' => e = .returned (.int .i64 J) ∧ w' = W) := fun W => by rw [← hJ]; exact Tryd.strings_IndexByte ⟨#[48, 49, 50, 51, 52, 53, 54, 55, 56, 57, 97, 98, 99, 100, 101, 102]⟩ (Go.bits .or .u8 d 32) W
      clear hJ
      by_cases hp : hexd (at_ s k) = true
      · have HP : Hid (hexd (at_ s k) = true) := hp; clear hp; have hy := hex_yes HP.out HA.out; obtain ⟨hv1, hv2⟩ := hexv_is HP.out HA.out; obtain ⟨hn, hhn⟩ : ∃ hn, hexv (at_ s k) = hn := ⟨_, rfl⟩; rw [hhn] at hv1 hv2; have HH : Hid (hexv (at_ s k) = hn) := hhn; have HV1 : Hid ((hn : Int) = (if d ≤ 57 then d - 48 else if d ≤ 70 then d - 55 else d - 87)) := hv1; clear hv1 hhn
        have gl : (src.flatMap four).length + 4 ≤ 140737488355328 := by rw [four_len]; omega
        have GL : Hid ((src.flatMap four).length + 4 ≤ 140737488355328) := gl; clear gl
        rcases hy with ⟨ya, yb⟩ | ⟨ya, yb⟩ | ⟨ya, yb⟩
        · have HVV : Hid ((d - 48) = (hn : Int)) := (by have := HV1.out; rw [if_pos yb] at this; exact this.symm); go_wp2_with (first | (go_at_call 73; refine (HJ.out _).mono ?_; rintro e w' ⟨rfl, rfl⟩) | go_in); obtain ⟨wo, rfl⟩ : ∃ wo : World, wo = w' := ⟨_, rfl⟩; go_loopw [14] (fun v14 wr => VRel w.heap.size w (src.flatMap four) (at_ s k) v14 wr) (fun v14 _ => (intOf v14 + 1).toNat)
          case atStart => exact ⟨0, 3, by omega, by omega, rfl, by rw [List.take_zero, List.append_nil]; exact HO.out, HB.out, hsz⟩
          case round =>
            obtain ⟨c, j, hc4, hj, rfl, hbu2, hbel2, hsz2⟩ := hrel; have HO2 : Hid (Lib.IsBuilder 51 5 w.heap.size w.heap.size (Lib.byteCells (src.flatMap four ++ (four (at_ s k)).take c)) wr) := hbu2; have HB2 : Hid (Below w.heap.size w wr) := hbel2; clear hbu2 hbel2
            rcases (by omega : (c = 0 ∧ j = 3) ∨ (c = 1 ∧ j = 2) ∨ (c = 2 ∧ j = 1) ∨ (c = 3 ∧ j = 0) ∨ (c = 4 ∧ j = -1)) with ⟨h, h'⟩ | ⟨h, h'⟩ | ⟨h, h'⟩ | ⟨h, h'⟩ | ⟨h, h'⟩
            · subst h h'; go_wp2_with (first | (go_at_call 28; refine (Tryd.Builder_WriteByte w.heap.size w.heap.size _ _ _ HO2.out (by have := GL.out; rw [Lib.byteCells_length, List.length_append, List.length_take]; omega) hsz2).mono ?_; rintro e w1 ⟨rfl, hbu, hbl⟩) | go_in)
              go_roundw
              case rel => exact ⟨1, 2, by omega, by omega, by go_num, by rw [four_take0 HH.out, ← cells_snoc, ← (bit_vals hn hv2).1, ← HVV.out]; exact .inr hbu, HB2.out.trans hbl, Zq hbl hsz2⟩
              case measure => first | (simp [intOf]; done) | (simp [intOf]; omega)
            · subst h h'; go_wp2_with (first | (go_at_call 28; refine (Tryd.Builder_WriteByte w.heap.size w.heap.size _ _ _ HO2.out (by have := GL.out; rw [Lib.byteCells_length, List.length_append, List.length_take]; omega) hsz2).mono ?_; rintro e w1 ⟨rfl, hbu, hbl⟩) | go_in)
              go_roundw
              case rel => exact ⟨2, 1, by omega, by omega, by go_num, by rw [four_take1 HH.out, ← cells_snoc, ← (bit_vals hn hv2).2.1, ← HVV.out]; exact .inr hbu, HB2.out.trans hbl, Zq hbl hsz2⟩
              case measure => first | (simp [intOf]; done) | (simp [intOf]; omega)
            · subst h h'; go_wp2_with (first | (go_at_call 28; refine (Tryd.Builder_WriteByte w.heap.size w.heap.size _ _ _ HO2.out (by have := GL.out; rw [Lib.byteCells_length, List.length_append, List.length_take]; omega) hsz2).mono ?_; rintro e w1 ⟨rfl, hbu, hbl⟩) | go_in)
              go_roundw
              case rel => exact ⟨3, 0, by omega, by omega, by go_num, by rw [four_take2 HH.out, ← cells_snoc, ← (bit_vals hn hv2).2.2.1, ← HVV.out]; exact .inr hbu, HB2.out.trans hbl, Zq hbl hsz2⟩
              case measure => first | (simp [intOf]; done) | (simp [intOf]; omega)
            · subst h h'; go_wp2_with (first | (go_at_call 28; refine (Tryd.Builder_WriteByte w.heap.size w.heap.size _ _ _ HO2.out (by have := GL.out; rw [Lib.byteCells_length, List.length_append, List.length_take]; omega) hsz2).mono ?_; rintro e w1 ⟨rfl, hbu, hbl⟩) | go_in)
              go_roundw
              case rel => exact ⟨4, -1, by omega, by omega, by go_num, by rw [four_take3 HH.out, ← cells_snoc, ← bit_val0 hn hv2, ← HVV.out]; exact .inr hbu, HB2.out.trans hbl, Zq hbl hsz2⟩
              case measure => first | (simp [intOf]; done) | (simp [intOf]; omega)
            · subst h h'; go_wp2_with (go_in)
              go_roundw
              case rel => exact ⟨k + 1, src ++ [at_ s k], by omega, by omega, by go_num, by rw [← HS.out, tw_yes hlt HP.out, List.append_assoc]; rfl, by rw [List.length_append]; simp; omega, by rw [flat_snoc]; exact HO2.out, HB2.out, hsz2⟩
              case measure => first | (simp [intOf]; done) | (simp [intOf]; omega)
        · have HVV : Hid (J = (hn : Int)) := (of_idx HJV.out HA.out (by first | exact .inl ⟨ya, yb⟩ | exact .inr ⟨ya, yb⟩) HH.out); go_wp2_with (first | (go_at_call 73; refine (HJ.out _).mono ?_; rintro e w' ⟨rfl, rfl⟩) | go_in); obtain ⟨wo, rfl⟩ : ∃ wo : World, wo = w' := ⟨_, rfl⟩; go_loopw [14] (fun v14 wr => VRel w.heap.size w (src.flatMap four) (at_ s k) v14 wr) (fun v14 _ => (intOf v14 + 1).toNat)
          case atStart => exact ⟨0, 3, by omega, by omega, rfl, by rw [List.take_zero, List.append_nil]; exact HO.out, HB.out, hsz⟩
          case round =>
            obtain ⟨c, j, hc4, hj, rfl, hbu2, hbel2, hsz2⟩ := hrel; have HO2 : Hid (Lib.IsBuilder 51 5 w.heap.size w.heap.size (Lib.byteCells (src.flatMap four ++ (four (at_ s k)).take c)) wr) := hbu2; have HB2 : Hid (Below w.heap.size w wr) := hbel2; clear hbu2 hbel2
            rcases (by omega : (c = 0 ∧ j = 3) ∨ (c = 1 ∧ j = 2) ∨ (c = 2 ∧ j = 1) ∨ (c = 3 ∧ j = 0) ∨ (c = 4 ∧ j = -1)) with ⟨h, h'⟩ | ⟨h, h'⟩ | ⟨h, h'⟩ | ⟨h, h'⟩ | ⟨h, h'⟩
            · subst h h'; go_wp2_with (first | (go_at_call 28; refine (Tryd.Builder_WriteByte w.heap.size w.heap.size _ _ _ HO2.out (by have := GL.out; rw [Lib.byteCells_length, List.length_append, List.length_take]; omega) hsz2).mono ?_; rintro e w1 ⟨rfl, hbu, hbl⟩) | go_in)
              go_roundw
              case rel => exact ⟨1, 2, by omega, by omega, by go_num, by rw [four_take0 HH.out, ← cells_snoc, ← (bit_vals hn hv2).1, ← HVV.out]; exact .inr hbu, HB2.out.trans hbl, Zq hbl hsz2⟩
              case measure => first | (simp [intOf]; done) | (simp [intOf]; omega)
            · subst h h'; go_wp2_with (first | (go_at_call 28; refine (Tryd.Builder_WriteByte w.heap.size w.heap.size _ _ _ HO2.out (by have := GL.out; rw [Lib.byteCells_length, List.length_append, List.length_take]; omega) hsz2).mono ?_; rintro e w1 ⟨rfl, hbu, hbl⟩) | go_in)
              go_roundw
              case rel => exact ⟨2, 1, by omega, by omega, by go_num, by rw [four_take1 HH.out, ← cells_snoc, ← (bit_vals hn hv2).2.1, ← HVV.out]; exact .inr hbu, HB2.out.trans hbl, Zq hbl hsz2⟩
              case measure => first | (simp [intOf]; done) | (simp [intOf]; omega)
            · subst h h'; go_wp2_with (first | (go_at_call 28; refine (Tryd.Builder_WriteByte w.heap.size w.heap.size _ _ _ HO2.out (by have := GL.out; rw [Lib.byteCells_length, List.length_append, List.length_take]; omega) hsz2).mono ?_; rintro e w1 ⟨rfl, hbu, hbl⟩) | go_in)
              go_roundw
              case rel => exact ⟨3, 0, by omega, by omega, by go_num, by rw [four_take2 HH.out, ← cells_snoc, ← (bit_vals hn hv2).2.2.1, ← HVV.out]; exact .inr hbu, HB2.out.trans hbl, Zq hbl hsz2⟩
              case measure => first | (simp [intOf]; done) | (simp [intOf]; omega)
            · subst h h'; go_wp2_with (first | (go_at_call 28; refine (Tryd.Builder_WriteByte w.heap.size w.heap.size _ _ _ HO2.out (by have := GL.out; rw [Lib.byteCells_length, List.length_append, List.length_take]; omega) hsz2).mono ?_; rintro e w1 ⟨rfl, hbu, hbl⟩) | go_in)
              go_roundw
              case rel => exact ⟨4, -1, by omega, by omega, by go_num, by rw [four_take3 HH.out, ← cells_snoc, ← bit_val0 hn hv2, ← HVV.out]; exact .inr hbu, HB2.out.trans hbl, Zq hbl hsz2⟩
              case measure => first | (simp [intOf]; done) | (simp [intOf]; omega)
            · subst h h'; go_wp2_with (go_in)
              go_roundw
              case rel => exact ⟨k + 1, src ++ [at_ s k], by omega, by omega, by go_num, by rw [← HS.out, tw_yes hlt HP.out, List.append_assoc]; rfl, by rw [List.length_append]; simp; omega, by rw [flat_snoc]; exact HO2.out, HB2.out, hsz2⟩
              case measure => first | (simp [intOf]; done) | (simp [intOf]; omega)
        · have HVV : Hid (J = (hn : Int)) := (of_idx HJV.out HA.out (by first | exact .inl ⟨ya, yb⟩ | exact .inr ⟨ya, yb⟩) HH.out); go_wp2_with (first | (go_at_call 73; refine (HJ.out _).mono ?_; rintro e w' ⟨rfl, rfl⟩) | go_in); obtain ⟨wo, rfl⟩ : ∃ wo : World, wo = w' := ⟨_, rfl⟩; go_loopw [14] (fun v14 wr => VRel w.heap.size w (src.flatMap four) (at_ s k) v14 wr) (fun v14 _ => (intOf v14 + 1).toNat)
          case atStart => exact ⟨0, 3, by omega, by omega, rfl, by rw [List.take_zero, List.append_nil]; exact HO.out, HB.out, hsz⟩
          case round =>
            obtain ⟨c, j, hc4, hj, rfl, hbu2, hbel2, hsz2⟩ := hrel; have HO2 : Hid (Lib.IsBuilder 51 5 w.heap.size w.heap.size (Lib.byteCells (src.flatMap four ++ (four (at_ s k)).take c)) wr) := hbu2; have HB2 : Hid (Below w.heap.size w wr) := hbel2; clear hbu2 hbel2
            rcases (by omega : (c = 0 ∧ j = 3) ∨ (c = 1 ∧ j = 2) ∨ (c = 2 ∧ j = 1) ∨ (c = 3 ∧ j = 0) ∨ (c = 4 ∧ j = -1)) with ⟨h, h'⟩ | ⟨h, h'⟩ | ⟨h, h'⟩ | ⟨h, h'⟩ | ⟨h, h'⟩
            · subst h h'; go_wp2_with (first | (go_at_call 28; refine (Tryd.Builder_WriteByte w.heap.size w.heap.size _ _ _ HO2.out (by have := GL.out; rw [Lib.byteCells_length, List.length_append, List.length_take]; omega) hsz2).mono ?_; rintro e w1 ⟨rfl, hbu, hbl⟩) | go_in)
              go_roundw
              case rel => exact ⟨1, 2, by omega, by omega, by go_num, by rw [four_take0 HH.out, ← cells_snoc, ← (bit_vals hn hv2).1, ← HVV.out]; exact .inr hbu, HB2.out.trans hbl, Zq hbl hsz2⟩
              case measure => first | (simp [intOf]; done) | (simp [intOf]; omega)
            · subst h h'; go_wp2_with (first | (go_at_call 28; refine (Tryd.Builder_WriteByte w.heap.size w.heap.size _ _ _ HO2.out (by have := GL.out; rw [Lib.byteCells_length, List.length_append, List.length_take]; omega) hsz2).mono ?_; rintro e w1 ⟨rfl, hbu, hbl⟩) | go_in)
              go_roundw
              case rel => exact ⟨2, 1, by omega, by omega, by go_num, by rw [four_take1 HH.out, ← cells_snoc, ← (bit_vals hn hv2).2.1, ← HVV.out]; exact .inr hbu, HB2.out.trans hbl, Zq hbl hsz2⟩
              case measure => first | (simp [intOf]; done) | (simp [intOf]; omega)
            · subst h h'; go_wp2_with (first | (go_at_call 28; refine (Tryd.Builder_WriteByte w.heap.size w.heap.size _ _ _ HO2.out (by have := GL.out; rw [Lib.byteCells_length, List.length_append, List.length_take]; omega) hsz2).mono ?_; rintro e w1 ⟨rfl, hbu, hbl⟩) | go_in)
              go_roundw
              case rel => exact ⟨3, 0, by omega, by omega, by go_num, by rw [four_take2 HH.out, ← cells_snoc, ← (bit_vals hn hv2).2.2.1, ← HVV.out]; exact .inr hbu, HB2.out.trans hbl, Zq hbl hsz2⟩
              case measure => first | (simp [intOf]; done) | (simp [intOf]; omega)
            · subst h h'; go_wp2_with (first | (go_at_call 28; refine (Tryd.Builder_WriteByte w.heap.size w.heap.size _ _ _ HO2.out (by have := GL.out; rw [Lib.byteCells_length, List.length_append, List.length_take]; omega) hsz2).mono ?_; rintro e w1 ⟨rfl, hbu, hbl⟩) | go_in)
              go_roundw
              case rel => exact ⟨4, -1, by omega, by omega, by go_num, by rw [four_take3 HH.out, ← cells_snoc, ← bit_val0 hn hv2, ← HVV.out]; exact .inr hbu, HB2.out.trans hbl, Zq hbl hsz2⟩
              case measure => first | (simp [intOf]; done) | (simp [intOf]; omega)
            · subst h h'; go_wp2_with (go_in)
              go_roundw
              case rel => exact ⟨k + 1, src ++ [at_ s k], by omega, by omega, by go_num, by rw [← HS.out, tw_yes hlt HP.out, List.append_assoc]; rfl, by rw [List.length_append]; simp; omega, by rw [flat_snoc]; exact HO2.out, HB2.out, hsz2⟩
              case measure => first | (simp [intOf]; done) | (simp [intOf]; omega)
      · have HP : Hid (hexd (at_ s k) = false) := Bool.eq_false_iff.2 hp
        have HT2 : Hid (src = T) := by show src = T; rw [← HS.out, tw_no hlt HP.out, List.append_nil]
        clear hp; obtain ⟨f1, f2, f3⟩ := hex_no HP.out HA.out; have hr : d < 48 ∨ (57 < d ∧ d < 65) ∨ (70 < d ∧ d < 97) ∨ 102 < d := (by omega); clear f1 f2 f3
        rcases hr with gr | gr | gr | gr
        · have t48 : decide (48 ≤ d) = false := decide_eq_false (by omega); have p48 : ¬ 48 ≤ d := (by omega); have t97 : decide (97 ≤ d) = false := decide_eq_false (by omega); have p97 : ¬ 97 ≤ d := (by omega); have t65 : decide (65 ≤ d) = false := decide_eq_false (by omega); have p65 : ¬ 65 ≤ d := (by omega)
          by_cases hn : src = []
          · have hq : ((k : Int) == (i : Int) + 2) = true := by rw [beq_iff_eq, HL.out, hn]; simp
            have HN : Hid (src = []) := hn; clear hn; go_wp2_with (first | (go_at_call 73; refine (HJ.out _).mono ?_; rintro e w' ⟨rfl, rfl⟩) | go_in)
            go_ret3
            exact ⟨Zz (R := R) (a := 0) (s := ⟨#[]⟩) (b := 0) (by rw [HRR.out, if_pos (by rw [← HT2.out]; exact HN.out)]; rfl), HB.out⟩
          · have hq : ((k : Int) == (i : Int) + 2) = false := by rw [beq_eq_false_iff_ne]; intro e; exact hn (List.length_eq_zero_iff.1 (by omega))
            have HN : Hid (src ≠ []) := hn; clear hn; go_wp2_with (first | (go_at_call 32; refine (Tryd.Builder_String_any w.heap.size w.heap.size _ _ HO.out hsz).mono ?_; rintro e w1 ⟨rfl, hbl⟩) | first | (go_at_call 73; refine (HJ.out _).mono ?_; rintro e w' ⟨rfl, rfl⟩) | go_in)
            go_ret3
            exact ⟨Zz (R := R) (a := 5) (s := ⟨(src.flatMap four).toArray⟩) (b := (k : Int)) (by rw [HRR.out, ← HT2.out, if_neg HN.out, HL.out]), HB.out.trans hbl⟩
        · have t48 : decide (48 ≤ d) = true := decide_eq_true (by omega); have p48 : 48 ≤ d := (by omega); have t57 : decide (d ≤ 57) = false := decide_eq_false (by omega); have p57 : ¬ d ≤ 57 := (by omega); have t97 : decide (97 ≤ d) = false := decide_eq_false (by omega); have p97 : ¬ 97 ≤ d := (by omega); have t65 : decide (65 ≤ d) = false := decide_eq_false (by omega); have p65 : ¬ 65 ≤ d := (by omega)
          by_cases hn : src = []
          · have hq : ((k : Int) == (i : Int) + 2) = true := by rw [beq_iff_eq, HL.out, hn]; simp
            have HN : Hid (src = []) := hn; clear hn; go_wp2_with (first | (go_at_call 73; refine (HJ.out _).mono ?_; rintro e w' ⟨rfl, rfl⟩) | go_in)
            go_ret3
            exact ⟨Zz (R := R) (a := 0) (s := ⟨#[]⟩) (b := 0) (by rw [HRR.out, if_pos (by rw [← HT2.out]; exact HN.out)]; rfl), HB.out⟩
          · have hq : ((k : Int) == (i : Int) + 2) = false := by rw [beq_eq_false_iff_ne]; intro e; exact hn (List.length_eq_zero_iff.1 (by omega))
            have HN : Hid (src ≠ []) := hn; clear hn; go_wp2_with (first | (go_at_call 32; refine (Tryd.Builder_String_any w.heap.size w.heap.size _ _ HO.out hsz).mono ?_; rintro e w1 ⟨rfl, hbl⟩) | first | (go_at_call 73; refine (HJ.out _).mono ?_; rintro e w' ⟨rfl, rfl⟩) | go_in)
            go_ret3
            exact ⟨Zz (R := R) (a := 5) (s := ⟨(src.flatMap four).toArray⟩) (b := (k : Int)) (by rw [HRR.out, ← HT2.out, if_neg HN.out, HL.out]), HB.out.trans hbl⟩
        · have t48 : decide (48 ≤ d) = true := decide_eq_true (by omega); have p48 : 48 ≤ d := (by omega); have t57 : decide (d ≤ 57) = false := decide_eq_false (by omega); have p57 : ¬ d ≤ 57 := (by omega); have t97 : decide (97 ≤ d) = false := decide_eq_false (by omega); have p97 : ¬ 97 ≤ d := (by omega); have t65 : decide (65 ≤ d) = true := decide_eq_true (by omega); have p65 : 65 ≤ d := (by omega); have t70 : decide (d ≤ 70) = false := decide_eq_false (by omega); have p70 : ¬ d ≤ 70 := (by omega)
          by_cases hn : src = []
          · have hq : ((k : Int) == (i : Int) + 2) = true := by rw [beq_iff_eq, HL.out, hn]; simp
            have HN : Hid (src = []) := hn; clear hn; go_wp2_with (first | (go_at_call 73; refine (HJ.out _).mono ?_; rintro e w' ⟨rfl, rfl⟩) | go_in)
            go_ret3
            exact ⟨Zz (R := R) (a := 0) (s := ⟨#[]⟩) (b := 0) (by rw [HRR.out, if_pos (by rw [← HT2.out]; exact HN.out)]; rfl), HB.out⟩
          · have hq : ((k : Int) == (i : Int) + 2) = false := by rw [beq_eq_false_iff_ne]; intro e; exact hn (List.length_eq_zero_iff.1 (by omega))
            have HN : Hid (src ≠ []) := hn; clear hn; go_wp2_with (first | (go_at_call 32; refine (Tryd.Builder_String_any w.heap.size w.heap.size _ _ HO.out hsz).mono ?_; rintro e w1 ⟨rfl, hbl⟩) | first | (go_at_call 73; refine (HJ.out _).mono ?_; rintro e w' ⟨rfl, rfl⟩) | go_in)
            go_ret3
            exact ⟨Zz (R := R) (a := 5) (s := ⟨(src.flatMap four).toArray⟩) (b := (k : Int)) (by rw [HRR.out, ← HT2.out, if_neg HN.out, HL.out]), HB.out.trans hbl⟩
        · have t48 : decide (48 ≤ d) = true := decide_eq_true (by omega); have p48 : 48 ≤ d := (by omega); have t57 : decide (d ≤ 57) = false := decide_eq_false (by omega); have p57 : ¬ d ≤ 57 := (by omega); have t97 : decide (97 ≤ d) = true := decide_eq_true (by omega); have p97 : 97 ≤ d := (by omega); have t102 : decide (d ≤ 102) = false := decide_eq_false (by omega); have p102 : ¬ d ≤ 102 := (by omega); have t65 : decide (65 ≤ d) = true := decide_eq_true (by omega); have p65 : 65 ≤ d := (by omega); have t70 : decide (d ≤ 70) = false := decide_eq_false (by omega); have p70 : ¬ d ≤ 70 := (by omega)
          by_cases hn : src = []
          · have hq : ((k : Int) == (i : Int) + 2) = true := by rw [beq_iff_eq, HL.out, hn]; simp
            have HN : Hid (src = []) := hn; clear hn; go_wp2_with (first | (go_at_call 73; refine (HJ.out _).mono ?_; rintro e w' ⟨rfl, rfl⟩) | go_in)
            go_ret3
            exact ⟨Zz (R := R) (a := 0) (s := ⟨#[]⟩) (b := 0) (by rw [HRR.out, if_pos (by rw [← HT2.out]; exact HN.out)]; rfl), HB.out⟩
          · have hq : ((k : Int) == (i : Int) + 2) = false := by rw [beq_eq_false_iff_ne]; intro e; exact hn (List.length_eq_zero_iff.1 (by omega))
            have HN : Hid (src ≠ []) := hn; clear hn; go_wp2_with (first | (go_at_call 32; refine (Tryd.Builder_String_any w.heap.size w.heap.size _ _ HO.out hsz).mono ?_; rintro e w1 ⟨rfl, hbl⟩) | first | (go_at_call 73; refine (HJ.out _).mono ?_; rintro e w' ⟨rfl, rfl⟩) | go_in)
            go_ret3
            exact ⟨Zz (R := R) (a := 5) (s := ⟨(src.flatMap four).toArray⟩) (b := (k : Int)) (by rw [HRR.out, ← HT2.out, if_neg HN.out, HL.out]), HB.out.trans hbl⟩
    · have HT2 : Hid (src = T) := by show src = T; rw [← HS.out, tw_end (by omega), List.append_nil]
      by_cases hn : src = []
      · have hq : ((k : Int) == (i : Int) + 2) = true := by rw [beq_iff_eq, HL.out, hn]; simp
        have HN : Hid (src = []) := hn; clear hn; go_wp2_with (go_in)
        go_ret3
        exact ⟨Zz (R := R) (a := 0) (s := ⟨#[]⟩) (b := 0) (by rw [HRR.out, if_pos (by rw [← HT2.out]; exact HN.out)]; rfl), HB.out⟩
      · have hq : ((k : Int) == (i : Int) + 2) = false := by rw [beq_eq_false_iff_ne]; intro e; exact hn (List.length_eq_zero_iff.1 (by omega))
        have HN : Hid (src ≠ []) := hn; clear hn; go_wp2_with (first | (go_at_call 32; refine (Tryd.Builder_String_any w.heap.size w.heap.size _ _ HO.out hsz).mono ?_; rintro e w1 ⟨rfl, hbl⟩) | go_in)
        go_ret3
        exact ⟨Zz (R := R) (a := 5) (s := ⟨(src.flatMap four).toArray⟩) (b := (k : Int)) (by rw [HRR.out, ← HT2.out, if_neg HN.out, HL.out]), HB.out.trans hbl⟩
end Go.Proofs.YtbeelgaganbblaaDoor.Tok
namespace Go.Proofs.YtbeelgaganbblaaDoor.Tok
open Go.RowKit Go.Proofs.YtbeelgaganbblaaDoorW.PrintWords Go.Proofs.YtbeelgaganbblaaDoor Go.Proofs.YtbeelgaganbblaaDoor.By
set_option linter.unusedVariables false
set_option linter.unusedSimpArgs false
set_option maxRecDepth 100000
set_option maxHeartbeats 8000000 in
theorem impl_odd (s : ByteArray) (i : Nat) (w : World) (hs : s.size ≤ 35184372088000) (hi : i + 1 < s.size) (hc : bt s i = 35) (kd : Int) (hk0 : 0 ≤ kd) (hk1 : kd ≤ 255) (hkd : bt s (i + 1 : Nat) = kd) (hb1 : kd ≠ 98) (hb2 : kd ≠ 120) (R : Int × ByteArray × Int) (HR : Hid (bits s i = R)) :
    Calls Tryd.prog 43 #[.string s, .int .i64 i] w fun e w' => e = .returned (.tuple #[.int .i64 R.1, .string R.2.1, .int .i64 R.2.2]) ∧ Below w.heap.size w w' := by
  have hx : ∀ h : i < s.size, ((s[i]'h).toNat : Int) = bt s i := ZH s i; have hx1 : ∀ h : i + 1 < s.size, ((s[i + 1]'h).toNat : Int) = bt s (i + 1 : Nat) := ZH s (i + 1 : Nat); have HAK : Hid (((at_ s (i + 1)).toNat : Int) = kd) := (at_int s (i + 1) hi).symm.trans hkd; rw [hkd] at hx1; clear hkd; obtain ⟨T, hT⟩ : ∃ T, ((L s).drop (i + 2)).takeWhile hexd = T := ⟨_, rfl⟩; have HTT : Hid (((L s).drop (i + 2)).takeWhile hexd = T) := hT
  have HRR : Hid (R = noTok) := by
    show R = _; rw [← HR.out]; refine bits_other ?_ ?_
    · rw [get_at s (i + 1) hi]; intro e; have := HAK.out; rw [Option.some.inj e] at this; exact hb1 this.symm
    · rw [get_at s (i + 1) hi]; intro e; have := HAK.out; rw [Option.some.inj e] at this; exact hb2 this.symm
  clear hT; have k1 : (kd == 98) = false := beq_eq_false_iff_ne.2 hb1; have k2 : (kd != 98) = true := bne_iff_ne.2 hb1; have k3 : (kd != 120) = true := bne_iff_ne.2 hb2; have k4 : (kd == 120) = false := beq_eq_false_iff_ne.2 hb2; clear hb1 hb2; have hi2 : ¬ s.size ≤ i + 1 := (by omega); go_enter Tryd.func43, Tryd.ntmps43; go_wp2_with (go_in); go_loopw [11] (fun v11 wr => WRel s i w.heap.size w hexd four T v11 wr) (fun v11 _ => s.size - (intOf v11).toNat)
  case atStart => exact ⟨i + 2, [], by omega, by omega, by first | rfl | go_num, HTT.out, by simp, Lib.fresh_isBuilder _ _ _, by first | exact (Below.refl _ _).alloc (Nat.le_refl _) _ , by simp⟩
  case round =>
    obtain ⟨k, src, hk1', hk2, rfl, hS, hkl, hbu0, hbel, hsz⟩ := hrel; have HS : Hid (src ++ ((L s).drop k).takeWhile hexd = T) := hS; have HL : Hid (k = i + 2 + src.length) := hkl; have hkl' : i + 2 + src.length ≤ k := (by omega); have hkl2 : k ≤ i + 2 + src.length := (by omega); have HO : Hid (Lib.IsBuilder 51 5 w.heap.size w.heap.size (Lib.byteCells (src.flatMap four)) wr) := hbu0; have HB : Hid (Below w.heap.size w wr) := hbel; clear hS hkl hbu0 hbel
    by_cases hlt : k < s.size
    · have hxk : ∀ h : k < s.size, ((s[k]'h).toNat : Int) = bt s k := ZH s k; obtain ⟨b0, b1⟩ := bt_range s k; obtain ⟨d, hd⟩ : ∃ d, bt s k = d := ⟨_, rfl⟩; have HA : Hid (((at_ s k).toNat : Int) = d) := (at_int s k hlt).symm.trans hd; rw [hd] at b0 b1; obtain ⟨J, hJ⟩ : ∃ J : Int, (Lib.indexByte [48, 49, 50, 51, 52, 53, 54, 55, 56, 57, 97, 98, 99, 100, 101, 102] (Go.bits .or .u8 d 32).toNat.toUInt8 : Int) = J := ⟨_, rfl⟩; have HJV : Hid ((Lib.indexByte [48, 49, 50, 51, 52, 53, 54, 55, 56, 57, 97, 98, 99, 100, 101, 102] (Go.bits .or .u8 d 32).toNat.toUInt8 : Int) = J) := hJ
      have HJ : Hid (∀ W, Calls Tryd.prog 73 #[.string ⟨#[48, 49, 50, 51, 52, 53, 54, 55, 56, 57, 97, 98, 99, 100, 101, 102]⟩, .int .u8 (Go.bits .or .u8 d 32)] W fun e w' => e = .returned (.int .i64 J) ∧ w' = W) := fun W => by rw [← hJ]; exact Tryd.strings_IndexByte ⟨#[48, 49, 50, 51, 52, 53, 54, 55, 56, 57, 97, 98, 99, 100, 101, 102]⟩ (Go.bits .or .u8 d 32) W
      clear hJ
      by_cases hp : hexd (at_ s k) = true
      · have HP : Hid (hexd (at_ s k) = true) := hp; clear hp; have hy := hex_yes HP.out HA.out; obtain ⟨hv1, hv2⟩ := hexv_is HP.out HA.out; obtain ⟨hn, hhn⟩ : ∃ hn, hexv (at_ s k) = hn := ⟨_, rfl⟩; rw [hhn] at hv1 hv2; have HH : Hid (hexv (at_ s k) = hn) := hhn; have HV1 : Hid ((hn : Int) = (if d ≤ 57 then d - 48 else if d ≤ 70 then d - 55 else d - 87)) := hv1; clear hv1 hhn
        have gl : (src.flatMap four).length + 4 ≤ 140737488355328 := by rw [four_len]; omega
        have GL : Hid ((src.flatMap four).length + 4 ≤ 140737488355328) := gl; clear gl
        rcases hy with ⟨ya, yb⟩ | ⟨ya, yb⟩ | ⟨ya, yb⟩
        · have HVV : Hid ((d - 48) = (hn : Int)) := (by have := HV1.out; rw [if_pos yb] at this; exact this.symm); go_wp2_with (first | (go_at_call 73; refine (HJ.out _).mono ?_; rintro e w' ⟨rfl, rfl⟩) | go_in); obtain ⟨wo, rfl⟩ : ∃ wo : World, wo = w' := ⟨_, rfl⟩; go_loopw [14] (fun v14 wr => VRel w.heap.size w (src.flatMap four) (at_ s k) v14 wr) (fun v14 _ => (intOf v14 + 1).toNat)
          case atStart => exact ⟨0, 3, by omega, by omega, rfl, by rw [List.take_zero, List.append_nil]; exact HO.out, HB.out, hsz⟩
          case round =>
            obtain ⟨c, j, hc4, hj, rfl, hbu2, hbel2, hsz2⟩ := hrel; have HO2 : Hid (Lib.IsBuilder 51 5 w.heap.size w.heap.size (Lib.byteCells (src.flatMap four ++ (four (at_ s k)).take c)) wr) := hbu2; have HB2 : Hid (Below w.heap.size w wr) := hbel2; clear hbu2 hbel2
            rcases (by omega : (c = 0 ∧ j = 3) ∨ (c = 1 ∧ j = 2) ∨ (c = 2 ∧ j = 1) ∨ (c = 3 ∧ j = 0) ∨ (c = 4 ∧ j = -1)) with ⟨h, h'⟩ | ⟨h, h'⟩ | ⟨h, h'⟩ | ⟨h, h'⟩ | ⟨h, h'⟩
            · subst h h'; go_wp2_with (first | (go_at_call 28; refine (Tryd.Builder_WriteByte w.heap.size w.heap.size _ _ _ HO2.out (by have := GL.out; rw [Lib.byteCells_length, List.length_append, List.length_take]; omega) hsz2).mono ?_; rintro e w1 ⟨rfl, hbu, hbl⟩) | go_in)
              go_roundw
              case rel => exact ⟨1, 2, by omega, by omega, by go_num, by rw [four_take0 HH.out, ← cells_snoc, ← (bit_vals hn hv2).1, ← HVV.out]; exact .inr hbu, HB2.out.trans hbl, Zq hbl hsz2⟩
              case measure => first | (simp [intOf]; done) | (simp [intOf]; omega)
            · subst h h'; go_wp2_with (first | (go_at_call 28; refine (Tryd.Builder_WriteByte w.heap.size w.heap.size _ _ _ HO2.out (by have := GL.out; rw [Lib.byteCells_length, List.length_append, List.length_take]; omega) hsz2).mono ?_; rintro e w1 ⟨rfl, hbu, hbl⟩) | go_in)
              go_roundw
              case rel => exact ⟨2, 1, by omega, by omega, by go_num, by rw [four_take1 HH.out, ← cells_snoc, ← (bit_vals hn hv2).2.1, ← HVV.out]; exact .inr hbu, HB2.out.trans hbl, Zq hbl hsz2⟩
              case measure => first | (simp [intOf]; done) | (simp [intOf]; omega)
            · subst h h'; go_wp2_with (first | (go_at_call 28; refine (Tryd.Builder_WriteByte w.heap.size w.heap.size _ _ _ HO2.out (by have := GL.out; rw [Lib.byteCells_length, List.length_append, List.length_take]; omega) hsz2).mono ?_; rintro e w1 ⟨rfl, hbu, hbl⟩) | go_in)
              go_roundw
              case rel => exact ⟨3, 0, by omega, by omega, by go_num, by rw [four_take2 HH.out, ← cells_snoc, ← (bit_vals hn hv2).2.2.1, ← HVV.out]; exact .inr hbu, HB2.out.trans hbl, Zq hbl hsz2⟩
              case measure => first | (simp [intOf]; done) | (simp [intOf]; omega)
            · subst h h'; go_wp2_with (first | (go_at_call 28; refine (Tryd.Builder_WriteByte w.heap.size w.heap.size _ _ _ HO2.out (by have := GL.out; rw [Lib.byteCells_length, List.length_append, List.length_take]; omega) hsz2).mono ?_; rintro e w1 ⟨rfl, hbu, hbl⟩) | go_in)
              go_roundw
              case rel => exact ⟨4, -1, by omega, by omega, by go_num, by rw [four_take3 HH.out, ← cells_snoc, ← bit_val0 hn hv2, ← HVV.out]; exact .inr hbu, HB2.out.trans hbl, Zq hbl hsz2⟩
              case measure => first | (simp [intOf]; done) | (simp [intOf]; omega)
            · subst h h'; go_wp2_with (go_in)
              go_roundw
              case rel => exact ⟨k + 1, src ++ [at_ s k], by omega, by omega, by go_num, by rw [← HS.out, tw_yes hlt HP.out, List.append_assoc]; rfl, by rw [List.length_append]; simp; omega, by rw [flat_snoc]; exact HO2.out, HB2.out, hsz2⟩
              case measure => first | (simp [intOf]; done) | (simp [intOf]; omega)
        · have HVV : Hid (J = (hn : Int)) := (of_idx HJV.out HA.out (by first | exact .inl ⟨ya, yb⟩ | exact .inr ⟨ya, yb⟩) HH.out); go_wp2_with (first | (go_at_call 73; refine (HJ.out _).mono ?_; rintro e w' ⟨rfl, rfl⟩) | go_in); obtain ⟨wo, rfl⟩ : ∃ wo : World, wo = w' := ⟨_, rfl⟩; go_loopw [14] (fun v14 wr => VRel w.heap.size w (src.flatMap four) (at_ s k) v14 wr) (fun v14 _ => (intOf v14 + 1).toNat)
          case atStart => exact ⟨0, 3, by omega, by omega, rfl, by rw [List.take_zero, List.append_nil]; exact HO.out, HB.out, hsz⟩
          case round =>
            obtain ⟨c, j, hc4, hj, rfl, hbu2, hbel2, hsz2⟩ := hrel; have HO2 : Hid (Lib.IsBuilder 51 5 w.heap.size w.heap.size (Lib.byteCells (src.flatMap four ++ (four (at_ s k)).take c)) wr) := hbu2; have HB2 : Hid (Below w.heap.size w wr) := hbel2; clear hbu2 hbel2
            rcases (by omega : (c = 0 ∧ j = 3) ∨ (c = 1 ∧ j = 2) ∨ (c = 2 ∧ j = 1) ∨ (c = 3 ∧ j = 0) ∨ (c = 4 ∧ j = -1)) with ⟨h, h'⟩ | ⟨h, h'⟩ | ⟨h, h'⟩ | ⟨h, h'⟩ | ⟨h, h'⟩
            · subst h h'; go_wp2_with (first | (go_at_call 28; refine (Tryd.Builder_WriteByte w.heap.size w.heap.size _ _ _ HO2.out (by have := GL.out; rw [Lib.byteCells_length, List.length_append, List.length_take]; omega) hsz2).mono ?_; rintro e w1 ⟨rfl, hbu, hbl⟩) | go_in)
              go_roundw
              case rel => exact ⟨1, 2, by omega, by omega, by go_num, by rw [four_take0 HH.out, ← cells_snoc, ← (bit_vals hn hv2).1, ← HVV.out]; exact .inr hbu, HB2.out.trans hbl, Zq hbl hsz2⟩
              case measure => first | (simp [intOf]; done) | (simp [intOf]; omega)
            · subst h h'; go_wp2_with (first | (go_at_call 28; refine (Tryd.Builder_WriteByte w.heap.size w.heap.size _ _ _ HO2.out (by have := GL.out; rw [Lib.byteCells_length, List.length_append, List.length_take]; omega) hsz2).mono ?_; rintro e w1 ⟨rfl, hbu, hbl⟩) | go_in)
              go_roundw
              case rel => exact ⟨2, 1, by omega, by omega, by go_num, by rw [four_take1 HH.out, ← cells_snoc, ← (bit_vals hn hv2).2.1, ← HVV.out]; exact .inr hbu, HB2.out.trans hbl, Zq hbl hsz2⟩
              case measure => first | (simp [intOf]; done) | (simp [intOf]; omega)
            · subst h h'; go_wp2_with (first | (go_at_call 28; refine (Tryd.Builder_WriteByte w.heap.size w.heap.size _ _ _ HO2.out (by have := GL.out; rw [Lib.byteCells_length, List.length_append, List.length_take]; omega) hsz2).mono ?_; rintro e w1 ⟨rfl, hbu, hbl⟩) | go_in)
              go_roundw
              case rel => exact ⟨3, 0, by omega, by omega, by go_num, by rw [four_take2 HH.out, ← cells_snoc, ← (bit_vals hn hv2).2.2.1, ← HVV.out]; exact .inr hbu, HB2.out.trans hbl, Zq hbl hsz2⟩
              case measure => first | (simp [intOf]; done) | (simp [intOf]; omega)
            · subst h h'; go_wp2_with (first | (go_at_call 28; refine (Tryd.Builder_WriteByte w.heap.size w.heap.size _ _ _ HO2.out (by have := GL.out; rw [Lib.byteCells_length, List.length_append, List.length_take]; omega) hsz2).mono ?_; rintro e w1 ⟨rfl, hbu, hbl⟩) | go_in)
              go_roundw
              case rel => exact ⟨4, -1, by omega, by omega, by go_num, by rw [four_take3 HH.out, ← cells_snoc, ← bit_val0 hn hv2, ← HVV.out]; exact .inr hbu, HB2.out.trans hbl, Zq hbl hsz2⟩
              case measure => first | (simp [intOf]; done) | (simp [intOf]; omega)
            · subst h h'; go_wp2_with (go_in)
              go_roundw
              case rel => exact ⟨k + 1, src ++ [at_ s k], by omega, by omega, by go_num, by rw [← HS.out, tw_yes hlt HP.out, List.append_assoc]; rfl, by rw [List.length_append]; simp; omega, by rw [flat_snoc]; exact HO2.out, HB2.out, hsz2⟩
              case measure => first | (simp [intOf]; done) | (simp [intOf]; omega)
        · have HVV : Hid (J = (hn : Int)) := (of_idx HJV.out HA.out (by first | exact .inl ⟨ya, yb⟩ | exact .inr ⟨ya, yb⟩) HH.out); go_wp2_with (first | (go_at_call 73; refine (HJ.out _).mono ?_; rintro e w' ⟨rfl, rfl⟩) | go_in); obtain ⟨wo, rfl⟩ : ∃ wo : World, wo = w' := ⟨_, rfl⟩; go_loopw [14] (fun v14 wr => VRel w.heap.size w (src.flatMap four) (at_ s k) v14 wr) (fun v14 _ => (intOf v14 + 1).toNat)
          case atStart => exact ⟨0, 3, by omega, by omega, rfl, by rw [List.take_zero, List.append_nil]; exact HO.out, HB.out, hsz⟩
          case round =>
            obtain ⟨c, j, hc4, hj, rfl, hbu2, hbel2, hsz2⟩ := hrel; have HO2 : Hid (Lib.IsBuilder 51 5 w.heap.size w.heap.size (Lib.byteCells (src.flatMap four ++ (four (at_ s k)).take c)) wr) := hbu2; have HB2 : Hid (Below w.heap.size w wr) := hbel2; clear hbu2 hbel2
            rcases (by omega : (c = 0 ∧ j = 3) ∨ (c = 1 ∧ j = 2) ∨ (c = 2 ∧ j = 1) ∨ (c = 3 ∧ j = 0) ∨ (c = 4 ∧ j = -1)) with ⟨h, h'⟩ | ⟨h, h'⟩ | ⟨h, h'⟩ | ⟨h, h'⟩ | ⟨h, h'⟩
            · subst h h'; go_wp2_with (first | (go_at_call 28; refine (Tryd.Builder_WriteByte w.heap.size w.heap.size _ _ _ HO2.out (by have := GL.out; rw [Lib.byteCells_length, List.length_append, List.length_take]; omega) hsz2).mono ?_; rintro e w1 ⟨rfl, hbu, hbl⟩) | go_in)
              go_roundw
              case rel => exact ⟨1, 2, by omega, by omega, by go_num, by rw [four_take0 HH.out, ← cells_snoc, ← (bit_vals hn hv2).1, ← HVV.out]; exact .inr hbu, HB2.out.trans hbl, Zq hbl hsz2⟩
              case measure => first | (simp [intOf]; done) | (simp [intOf]; omega)
            · subst h h'; go_wp2_with (first | (go_at_call 28; refine (Tryd.Builder_WriteByte w.heap.size w.heap.size _ _ _ HO2.out (by have := GL.out; rw [Lib.byteCells_length, List.length_append, List.length_take]; omega) hsz2).mono ?_; rintro e w1 ⟨rfl, hbu, hbl⟩) | go_in)
              go_roundw
              case rel => exact ⟨2, 1, by omega, by omega, by go_num, by rw [four_take1 HH.out, ← cells_snoc, ← (bit_vals hn hv2).2.1, ← HVV.out]; exact .inr hbu, HB2.out.trans hbl, Zq hbl hsz2⟩
              case measure => first | (simp [intOf]; done) | (simp [intOf]; omega)
            · subst h h'; go_wp2_with (first | (go_at_call 28; refine (Tryd.Builder_WriteByte w.heap.size w.heap.size _ _ _ HO2.out (by have := GL.out; rw [Lib.byteCells_length, List.length_append, List.length_take]; omega) hsz2).mono ?_; rintro e w1 ⟨rfl, hbu, hbl⟩) | go_in)
              go_roundw
              case rel => exact ⟨3, 0, by omega, by omega, by go_num, by rw [four_take2 HH.out, ← cells_snoc, ← (bit_vals hn hv2).2.2.1, ← HVV.out]; exact .inr hbu, HB2.out.trans hbl, Zq hbl hsz2⟩
              case measure => first | (simp [intOf]; done) | (simp [intOf]; omega)
            · subst h h'; go_wp2_with (first | (go_at_call 28; refine (Tryd.Builder_WriteByte w.heap.size w.heap.size _ _ _ HO2.out (by have := GL.out; rw [Lib.byteCells_length, List.length_append, List.length_take]; omega) hsz2).mono ?_; rintro e w1 ⟨rfl, hbu, hbl⟩) | go_in)
              go_roundw
              case rel => exact ⟨4, -1, by omega, by omega, by go_num, by rw [four_take3 HH.out, ← cells_snoc, ← bit_val0 hn hv2, ← HVV.out]; exact .inr hbu, HB2.out.trans hbl, Zq hbl hsz2⟩
              case measure => first | (simp [intOf]; done) | (simp [intOf]; omega)
            · subst h h'; go_wp2_with (go_in)
              go_roundw
              case rel => exact ⟨k + 1, src ++ [at_ s k], by omega, by omega, by go_num, by rw [← HS.out, tw_yes hlt HP.out, List.append_assoc]; rfl, by rw [List.length_append]; simp; omega, by rw [flat_snoc]; exact HO2.out, HB2.out, hsz2⟩
              case measure => first | (simp [intOf]; done) | (simp [intOf]; omega)
      · have HP : Hid (hexd (at_ s k) = false) := Bool.eq_false_iff.2 hp
        have HT2 : Hid (src = T) := by show src = T; rw [← HS.out, tw_no hlt HP.out, List.append_nil]
        clear hp; obtain ⟨f1, f2, f3⟩ := hex_no HP.out HA.out; have hr : d < 48 ∨ (57 < d ∧ d < 65) ∨ (70 < d ∧ d < 97) ∨ 102 < d := (by omega); clear f1 f2 f3
        rcases hr with gr | gr | gr | gr
        · have t48 : decide (48 ≤ d) = false := decide_eq_false (by omega); have p48 : ¬ 48 ≤ d := (by omega); have t97 : decide (97 ≤ d) = false := decide_eq_false (by omega); have p97 : ¬ 97 ≤ d := (by omega); have t65 : decide (65 ≤ d) = false := decide_eq_false (by omega); have p65 : ¬ 65 ≤ d := (by omega); go_wp2_with (first | (go_at_call 73; refine (HJ.out _).mono ?_; rintro e w' ⟨rfl, rfl⟩) | go_in)
          go_ret3
          exact ⟨Zz (R := R) (a := 0) (s := ⟨#[]⟩) (b := 0) HRR.out, HB.out⟩
        · have t48 : decide (48 ≤ d) = true := decide_eq_true (by omega); have p48 : 48 ≤ d := (by omega); have t57 : decide (d ≤ 57) = false := decide_eq_false (by omega); have p57 : ¬ d ≤ 57 := (by omega); have t97 : decide (97 ≤ d) = false := decide_eq_false (by omega); have p97 : ¬ 97 ≤ d := (by omega); have t65 : decide (65 ≤ d) = false := decide_eq_false (by omega); have p65 : ¬ 65 ≤ d := (by omega); go_wp2_with (first | (go_at_call 73; refine (HJ.out _).mono ?_; rintro e w' ⟨rfl, rfl⟩) | go_in)
          go_ret3
          exact ⟨Zz (R := R) (a := 0) (s := ⟨#[]⟩) (b := 0) HRR.out, HB.out⟩
        · have t48 : decide (48 ≤ d) = true := decide_eq_true (by omega); have p48 : 48 ≤ d := (by omega); have t57 : decide (d ≤ 57) = false := decide_eq_false (by omega); have p57 : ¬ d ≤ 57 := (by omega); have t97 : decide (97 ≤ d) = false := decide_eq_false (by omega); have p97 : ¬ 97 ≤ d := (by omega); have t65 : decide (65 ≤ d) = true := decide_eq_true (by omega); have p65 : 65 ≤ d := (by omega); have t70 : decide (d ≤ 70) = false := decide_eq_false (by omega); have p70 : ¬ d ≤ 70 := (by omega); go_wp2_with (first | (go_at_call 73; refine (HJ.out _).mono ?_; rintro e w' ⟨rfl, rfl⟩) | go_in)
          go_ret3
          exact ⟨Zz (R := R) (a := 0) (s := ⟨#[]⟩) (b := 0) HRR.out, HB.out⟩
        · have t48 : decide (48 ≤ d) = true := decide_eq_true (by omega); have p48 : 48 ≤ d := (by omega); have t57 : decide (d ≤ 57) = false := decide_eq_false (by omega); have p57 : ¬ d ≤ 57 := (by omega); have t97 : decide (97 ≤ d) = true := decide_eq_true (by omega); have p97 : 97 ≤ d := (by omega); have t102 : decide (d ≤ 102) = false := decide_eq_false (by omega); have p102 : ¬ d ≤ 102 := (by omega); have t65 : decide (65 ≤ d) = true := decide_eq_true (by omega); have p65 : 65 ≤ d := (by omega); have t70 : decide (d ≤ 70) = false := decide_eq_false (by omega); have p70 : ¬ d ≤ 70 := (by omega); go_wp2_with (first | (go_at_call 73; refine (HJ.out _).mono ?_; rintro e w' ⟨rfl, rfl⟩) | go_in)
          go_ret3
          exact ⟨Zz (R := R) (a := 0) (s := ⟨#[]⟩) (b := 0) HRR.out, HB.out⟩
    · have HT2 : Hid (src = T) := by show src = T; rw [← HS.out, tw_end (by omega), List.append_nil]
      go_wp2_with (go_in)
      go_ret3
      exact ⟨Zz (R := R) (a := 0) (s := ⟨#[]⟩) (b := 0) HRR.out, HB.out⟩
end Go.Proofs.YtbeelgaganbblaaDoor.Tok
namespace Go.Proofs.YtbeelgaganbblaaDoor.Tok
open Go.RowKit Go.Proofs.YtbeelgaganbblaaDoorW.PrintWords Go.Proofs.YtbeelgaganbblaaDoor Go.Proofs.YtbeelgaganbblaaDoor.By
set_option linter.unusedVariables false
set_option linter.unusedSimpArgs false
set_option maxRecDepth 100000
theorem impl_hash (s : ByteArray) (i : Nat) (w : World) (hs : s.size ≤ 35184372088000) (hi : i < s.size) (hc : bt s i = 35) (R : Int × ByteArray × Int) (HR : Hid (bits s i = R)) :
    Calls Tryd.prog 43 #[.string s, .int .i64 i] w fun e w' => e = .returned (.tuple #[.int .i64 R.1, .string R.2.1, .int .i64 R.2.2]) ∧ Below w.heap.size w w' := by
  by_cases h1 : i + 1 < s.size
  · obtain ⟨k0, k1⟩ := bt_range s (i + 1 : Nat)
    by_cases hb : bt s (i + 1 : Nat) = 98
    · exact impl_bin s i w hs h1 hc _ k0 k1 rfl hb R HR
    by_cases hx : bt s (i + 1 : Nat) = 120
    · exact impl_hexs s i w hs h1 hc _ k0 k1 rfl hx R HR
    exact impl_odd s i w hs h1 hc _ k0 k1 rfl hb hx R HR
  · have HN : Hid (R = noTok) := by show R = noTok; rw [← HR.out]; exact bits_short (by omega)
    have hx : ∀ h : i < s.size, ((s[i]'h).toNat : Int) = bt s i := ZH s i; have h1' : s.size ≤ i + 1 := (by omega); go_enter Tryd.func43, Tryd.ntmps43; go_wp2_with (go_in)
    go_ret3
    exact ⟨Zz (R := R) (a := 0) (s := ⟨#[]⟩) (b := 0) HN.out, Below.refl _ _⟩
theorem impl_none (s : ByteArray) (i : Nat) (w : World) (hi : i < s.size) (c : Int) (hc : bt s i = c) (c0 : 0 ≤ c) (c1 : c ≤ 255)
    (n1 : (c == 34) = false) (n2 : (c == 124) = false) (n3 : (c == 58) = false) (n4 : (c == 35) = false) (nd : c < 48 ∨ 57 < c) (hn : nmB c = false) :
    Calls Tryd.prog 43 #[.string s, .int .i64 i] w fun e w' => e = .returned (.tuple #[.int .i64 0, .string ⟨#[]⟩, .int .i64 0]) ∧ Below w.heap.size w w' := by
  have hx : ∀ h : i < s.size, ((s[i]'h).toNat : Int) = bt s i := ZH s i
  rcases nd with nd | nd
  all_goals
    go_enter Tryd.func43, Tryd.ntmps43; go_wp2_with (first | (go_at_call 72; refine (impl_nameB_any _ _ (by omega) (by omega)).mono ?_; rintro e w' ⟨rfl, rfl⟩) | go_in)
    go_ret3
    exact ⟨rfl, Below.refl _ _⟩
theorem impl_tok (s : ByteArray) (i : Nat) (w : World) (hs : s.size ≤ 35184372088000) (hi : i < s.size) :
    Calls Tryd.prog 43 #[.string s, .int .i64 i] w fun e w' => e = .returned (.tuple #[.int .i64 (tok s i).1, .string (tok s i).2.1, .int .i64 (tok s i).2.2]) ∧ Below w.heap.size w w' := by
  obtain ⟨c, hc⟩ : ∃ c, bt s i = c := ⟨_, rfl⟩; obtain ⟨c0, c1⟩ := bt_range s i; rw [hc] at c0 c1; have hs' : s.size ≤ 140737488351232 := (by omega)
  rcases tok_cases s i hi c hc with ⟨a, e⟩ | ⟨a, e⟩ | ⟨a, e⟩ | ⟨a, e⟩ | ⟨⟨n1, n2, n3, n4⟩, h⟩
  · exact impl_quoted s i w hs' hi (hc.trans a) _ e.symm
  · exact impl_barred s i w hs' hi (hc.trans a) _ e.symm
  · exact impl_keyed s i w hs' hi (hc.trans a) _ e.symm
  · exact impl_hash s i w hs hi (hc.trans a) _ e.symm
  · have m1 : (c == 34) = false := beq_eq_false_iff_ne.2 n1; have m2 : (c == 124) = false := beq_eq_false_iff_ne.2 n2; have m3 : (c == 58) = false := beq_eq_false_iff_ne.2 n3; have m4 : (c == 35) = false := beq_eq_false_iff_ne.2 n4
    rcases h with ⟨a, b, e⟩ | ⟨a, ⟨b, e⟩ | ⟨b, e⟩⟩
    · exact impl_numeral s i w hs' hi c hc c0 c1 a b m1 m2 m3 m4 _ e.symm
    · exact impl_named s i w hs' hi c hc c0 c1 m1 m2 m3 m4 a b _ e.symm
    · rw [e]; exact impl_none s i w hi c hc c0 c1 m1 m2 m3 m4 a b
end Go.Proofs.YtbeelgaganbblaaDoor.Tok
namespace Go.Proofs.YtbeelgaganbblaaDoor
open Go.RowKit Go.Proofs.YtbeelgaganbblaaDoorW.PrintWords Go.Proofs.YtbeelgaganbblaaDoor.Tok
def impl_oneToken.f (a0 : ByteArray) (a1 : Int) : Option (Int × ByteArray × Int) := tokF a0 a1
theorem impl_oneToken.calls (a0 : ByteArray) (a1 : Int) (r1 : Int) (r2 : ByteArray) (r3 : Int) (w : World) (h : impl_oneToken.f a0 a1 = some (r1, r2, r3)) :
    Calls Tryd.prog 43 #[.string a0, .int .i64 a1] w fun e w' => e = .returned (.tuple #[.int .i64 r1, .string r2, .int .i64 r3]) ∧ Below w.heap.size w w' := by
  unfold impl_oneToken.f tokF at h
  split at h
  · rename_i hc
    obtain ⟨i, rfl⟩ := Int.eq_ofNat_of_zero_le hc.1; rw [Int.toNat_natCast] at h; have h' := Option.some.inj h; have := impl_tok a0 i w hc.2.2 (by omega); rw [h'] at this; exact this
  · cases h
end Go.Proofs.YtbeelgaganbblaaDoor

/- impl.oneToken is `tok`: all kinds together. Condition: the place lies in the text; the text has fewer than 2^45 bytes. -/
import Derived.Test.YtiimmgkghnmjlaaTokIN
import Derived.Test.YtiimmgkghnmjlaaTokIQ
import Derived.Test.YtiimmgkghnmjlaaTokIY
namespace Go.Proofs.Ytiimmgkghnmjlaa.Tok
open Go.RowKit Go.Proofs.YtiimmgkghnmjlaaW.PrintWords Go.Proofs.Ytiimmgkghnmjlaa Go.Proofs.Ytiimmgkghnmjlaa.By
set_option linter.unusedVariables false
set_option linter.unusedSimpArgs false
set_option maxRecDepth 100000

theorem impl_hash (s : ByteArray) (i : Nat) (w : World) (hs : s.size ≤ 35184372088000) (hi : i < s.size) (hc : bt s i = 35) (R : Int × ByteArray × Int) (HR : Hid (bits s i = R)) :
    Calls Try.prog 11 #[.string s, .int .i64 i] w fun e w' => e = .returned (.tuple #[.int .i64 R.1, .string R.2.1, .int .i64 R.2.2]) ∧ Below w.heap.size w w' := by
  by_cases h1 : i + 1 < s.size
  · obtain ⟨k0, k1⟩ := bt_range s (i + 1 : Nat)
    by_cases hb : bt s (i + 1 : Nat) = 98
    · exact impl_bin s i w hs h1 hc _ k0 k1 rfl hb R HR
    by_cases hx : bt s (i + 1 : Nat) = 120
    · exact impl_hexs s i w hs h1 hc _ k0 k1 rfl hx R HR
    exact impl_odd s i w hs h1 hc _ k0 k1 rfl hb hx R HR
  · have HN : Hid (R = noTok) := by show R = noTok; rw [← HR.out]; exact bits_short (by omega)
    have hx : ∀ h : i < s.size, ((s[i]'h).toNat : Int) = bt s i := bt_at s i
    have h1' : s.size ≤ i + 1 := by omega
    go_enter Try.func11, Try.ntmps11
    go_wp2_with (go_in)
    go_ret3
    exact ⟨ret_tok3 (R := R) (a := 0) (s := ⟨#[]⟩) (b := 0) HN.out, Below.refl _ _⟩

theorem impl_none (s : ByteArray) (i : Nat) (w : World) (hi : i < s.size) (c : Int) (hc : bt s i = c) (c0 : 0 ≤ c) (c1 : c ≤ 255)
    (n1 : (c == 34) = false) (n2 : (c == 124) = false) (n3 : (c == 58) = false) (n4 : (c == 35) = false) (nd : c < 48 ∨ 57 < c) (hn : nmB c = false) :
    Calls Try.prog 11 #[.string s, .int .i64 i] w fun e w' => e = .returned (.tuple #[.int .i64 0, .string ⟨#[]⟩, .int .i64 0]) ∧ Below w.heap.size w w' := by
  have hx : ∀ h : i < s.size, ((s[i]'h).toNat : Int) = bt s i := bt_at s i
  rcases nd with nd | nd
  all_goals
    go_enter Try.func11, Try.ntmps11
    go_wp2_with (first | (go_at_call 20; refine (impl_nameB_any _ _ (by omega) (by omega)).mono ?_; rintro e w' ⟨rfl, rfl⟩) | go_in)
    go_ret3
    exact ⟨rfl, Below.refl _ _⟩

theorem impl_tok (s : ByteArray) (i : Nat) (w : World) (hs : s.size ≤ 35184372088000) (hi : i < s.size) :
    Calls Try.prog 11 #[.string s, .int .i64 i] w fun e w' => e = .returned (.tuple #[.int .i64 (tok s i).1, .string (tok s i).2.1, .int .i64 (tok s i).2.2]) ∧ Below w.heap.size w w' := by
  obtain ⟨c, hc⟩ : ∃ c, bt s i = c := ⟨_, rfl⟩
  obtain ⟨c0, c1⟩ := bt_range s i
  rw [hc] at c0 c1
  have hs' : s.size ≤ 140737488351232 := by omega
  rcases tok_cases s i hi c hc with ⟨a, e⟩ | ⟨a, e⟩ | ⟨a, e⟩ | ⟨a, e⟩ | ⟨⟨n1, n2, n3, n4⟩, h⟩
  · exact impl_quoted s i w hs' hi (hc.trans a) _ e.symm
  · exact impl_barred s i w hs' hi (hc.trans a) _ e.symm
  · exact impl_keyed s i w hs' hi (hc.trans a) _ e.symm
  · exact impl_hash s i w hs hi (hc.trans a) _ e.symm
  · have m1 : (c == 34) = false := beq_eq_false_iff_ne.2 n1
    have m2 : (c == 124) = false := beq_eq_false_iff_ne.2 n2
    have m3 : (c == 58) = false := beq_eq_false_iff_ne.2 n3
    have m4 : (c == 35) = false := beq_eq_false_iff_ne.2 n4
    rcases h with ⟨a, b, e⟩ | ⟨a, ⟨b, e⟩ | ⟨b, e⟩⟩
    · exact impl_numeral s i w hs' hi c hc c0 c1 a b m1 m2 m3 m4 _ e.symm
    · exact impl_named s i w hs' hi c hc c0 c1 m1 m2 m3 m4 a b _ e.symm
    · rw [e]; exact impl_none s i w hi c hc c0 c1 m1 m2 m3 m4 a b
end Go.Proofs.Ytiimmgkghnmjlaa.Tok
namespace Go.Proofs.Ytiimmgkghnmjlaa
open Go.RowKit Go.Proofs.YtiimmgkghnmjlaaW.PrintWords Go.Proofs.Ytiimmgkghnmjlaa.Tok
def impl_oneToken.f (a0 : ByteArray) (a1 : Int) : Option (Int × ByteArray × Int) := tokF a0 a1
theorem impl_oneToken.calls (a0 : ByteArray) (a1 : Int) (r1 : Int) (r2 : ByteArray) (r3 : Int) (w : World) (h : impl_oneToken.f a0 a1 = some (r1, r2, r3)) :
    Calls Try.prog 11 #[.string a0, .int .i64 a1] w fun e w' => e = .returned (.tuple #[.int .i64 r1, .string r2, .int .i64 r3]) ∧ Below w.heap.size w w' := by
  unfold impl_oneToken.f tokF at h
  split at h
  · rename_i hc
    obtain ⟨i, rfl⟩ := Int.eq_ofNat_of_zero_le hc.1
    rw [Int.toNat_natCast] at h
    have h' := Option.some.inj h
    have := impl_tok a0 i w hc.2.2 (by omega)
    rw [h'] at this
    exact this
  · cases h
end Go.Proofs.Ytiimmgkghnmjlaa

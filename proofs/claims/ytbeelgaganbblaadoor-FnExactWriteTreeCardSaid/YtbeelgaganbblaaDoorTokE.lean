/- spec.l3Bits is `bits`, spec.l3Token is `tok`: all kinds together. Condition: the place lies in the text; the text has fewer than 2^45 bytes. -/
import Derived.Test.YtbeelgaganbblaaDoorTokB
import Derived.Test.YtbeelgaganbblaaDoorTokN
namespace Go.Proofs.YtbeelgaganbblaaDoor.Tok
open Go.RowKit Go.Proofs.YtbeelgaganbblaaDoorW.PrintWords Go.Proofs.YtbeelgaganbblaaDoor Go.Proofs.YtbeelgaganbblaaDoor.By
set_option linter.unusedVariables false
set_option linter.unusedSimpArgs false
set_option maxRecDepth 100000

theorem bits_short {s : ByteArray} {i : Nat} (h : s.size ≤ i + 2) : bits s i = noTok := by
  unfold bits
  rw [tw_end h, tw_end h]
  simp
theorem bits_other {s : ByteArray} {i : Nat} (h1 : (L s)[i + 1]? ≠ some 98) (h2 : (L s)[i + 1]? ≠ some 120) : bits s i = noTok := by
  unfold bits; rw [if_neg h1, if_neg h2]

theorem spec_bits_any (s : ByteArray) (i : Nat) (w : World) (hs : s.size ≤ 35184372088000) (hi : i < s.size) (R : Int × ByteArray × Int) (HR : Hid (bits s i = R)) :
    Calls Tryd.prog 100 #[.string s, .int .i64 i] w fun e w' => e = .returned (.agg #[.int .i64 R.1, .string R.2.1, .int .i64 R.2.2]) ∧ Below w.heap.size w w' := by
  by_cases h2 : i + 2 < s.size
  · by_cases hb : bt s (i + 1 : Nat) = 98
    · exact spec_bin s i w hs h2 hb R HR
    by_cases hx : bt s (i + 1 : Nat) = 120
    · exact spec_hexs s i w hs h2 hx R HR
    have e1 : (L s)[i + 1]? ≠ some 98 := by rw [get_at s (i + 1) (by omega)]; intro e; exact hb (by rw [at_int s (i + 1) (by omega), Option.some.inj e]; rfl)
    have e2 : (L s)[i + 1]? ≠ some 120 := by rw [get_at s (i + 1) (by omega)]; intro e; exact hx (by rw [at_int s (i + 1) (by omega), Option.some.inj e]; rfl)
    have HN : Hid (R = noTok) := by show R = noTok; rw [← HR.out]; exact bits_other e1 e2
    have hxx : ∀ h : i + 1 < s.size, ((s[i + 1]'h).toNat : Int) = bt s (i + 1 : Nat) := bt_at s (i + 1 : Nat)
    obtain ⟨d, hd⟩ : ∃ d, bt s (i + 1 : Nat) = d := ⟨_, rfl⟩
    rw [hd] at hb hx hxx
    have g1 : (d == 98) = false := beq_eq_false_iff_ne.2 hb
    have g2 : (d == 120) = false := beq_eq_false_iff_ne.2 hx
    have h2' : ¬ s.size ≤ i + 2 := by omega
    clear hb hx e1 e2 hd
    go_enter Tryd.func100, Tryd.ntmps100
    go_wp2_with (fail)
    exact bodyPost_ret (v := .agg #[.int .i64 0, .string ⟨#[]⟩, .int .i64 0]) (by simp [results, Tryd.results100, go_sem]) rfl ⟨ret_tok (R := R) HN.out, (Below.refl _ _).alloc (Nat.le_refl _) _⟩
  · have HN : Hid (R = noTok) := by show R = noTok; rw [← HR.out]; exact bits_short (by omega)
    have h2' : s.size ≤ i + 2 := by omega
    go_enter Tryd.func100, Tryd.ntmps100
    go_wp2_with (fail)
    exact bodyPost_ret (v := .agg #[.int .i64 0, .string ⟨#[]⟩, .int .i64 0]) (by simp [results, Tryd.results100, go_sem]) rfl ⟨ret_tok (R := R) HN.out, (Below.refl _ _).alloc (Nat.le_refl _) _⟩

set_option maxHeartbeats 1000000 in
theorem spec_hash (s : ByteArray) (i : Nat) (w : World) (hs : s.size ≤ 35184372088000) (hi : i < s.size) (hc : bt s i = 35) (R : Int × ByteArray × Int) (HR : Hid (bits s i = R)) :
    Calls Tryd.prog 77 #[.string s, .int .i64 i] w fun e w' => e = .returned (.agg #[.int .i64 R.1, .string R.2.1, .int .i64 R.2.2]) ∧ Below w.heap.size w w' := by
  have hx : ∀ h : i < s.size, ((s[i]'h).toNat : Int) = bt s i := bt_at s i
  go_enter Tryd.func77, Tryd.ntmps77
  go_wp2_with (fail)
  refine (spec_bits_any s i _ hs hi R HR).mono ?_
  rintro e w1 ⟨rfl, hb⟩
  have hz : w.heap.size < w1.heap.size := by have := hb.size; simp at this; omega
  have q0 : w1.cell? ⟨w.heap.size, 0, none⟩ = some (.int .i64 0) := by rw [hb.cell (p := ⟨w.heap.size, 0, none⟩) (by simp)]; exact World.cell?_alloc_at _ _ _ _ rfl
  have q1 : w1.cell? ⟨w.heap.size, 1, none⟩ = some (.string ⟨#[]⟩) := by rw [hb.cell (p := ⟨w.heap.size, 1, none⟩) (by simp)]; exact World.cell?_alloc_at _ _ _ _ rfl
  have q2 : w1.cell? ⟨w.heap.size, 2, none⟩ = some (.int .i64 0) := by rw [hb.cell (p := ⟨w.heap.size, 2, none⟩) (by simp)]; exact World.cell?_alloc_at _ _ _ _ rfl
  have q3 : w1.frozen? ⟨w.heap.size, 0, none⟩ = false := by rw [hb.frozen (p := ⟨w.heap.size, 0, none⟩) (by simp)]; exact World.frozen?_alloc_at _ _ _ _ rfl
  have q4 : w1.frozen? ⟨w.heap.size, 1, none⟩ = false := by rw [hb.frozen (p := ⟨w.heap.size, 1, none⟩) (by simp)]; exact World.frozen?_alloc_at _ _ _ _ rfl
  have q5 : w1.frozen? ⟨w.heap.size, 2, none⟩ = false := by rw [hb.frozen (p := ⟨w.heap.size, 2, none⟩) (by simp)]; exact World.frozen?_alloc_at _ _ _ _ rfl
  have HB : Hid (Below (w.heap.size + 1) (w.alloc (Obj.cells #[Value.int IntKind.i64 0, Value.string { data := #[] }, Value.int IntKind.i64 0] 111)) w1) := by
    have := hb; simp at this; exact this
  clear hb
  go_wp2_with (fail)
  exact bodyPost_ret (v := .agg #[.int .i64 R.1, .string R.2.1, .int .i64 R.2.2]) (by simp [results, Tryd.results77, go_sem, q0, q1, q2, q3, q4, q5]) rfl ⟨rfl, qbelow HB.out⟩

theorem spec_none (s : ByteArray) (i : Nat) (w : World) (hi : i < s.size) (c : Int) (hc : bt s i = c) (c0 : 0 ≤ c) (c1 : c ≤ 255)
    (n1 : (c == 34) = false) (n2 : (c == 124) = false) (n3 : (c == 58) = false) (n4 : (c == 35) = false) (nd : c < 48 ∨ 57 < c) (hn : nmB c = false) :
    Calls Tryd.prog 77 #[.string s, .int .i64 i] w fun e w' => e = .returned (.agg #[.int .i64 0, .string ⟨#[]⟩, .int .i64 0]) ∧ Below w.heap.size w w' := by
  have hx : ∀ h : i < s.size, ((s[i]'h).toNat : Int) = bt s i := bt_at s i
  rcases nd with nd | nd
  all_goals
    go_enter Tryd.func77, Tryd.ntmps77
    go_wp2_with (first | (go_at_call 75; refine (spec_l3NameByte_any _ _ (by omega) (by omega)).mono ?_; rintro e w' ⟨rfl, rfl⟩) | go_in)
    exact bodyPost_ret (v := .agg #[.int .i64 0, .string ⟨#[]⟩, .int .i64 0]) (by simp [results, Tryd.results77, go_sem]) rfl ⟨rfl, (Below.refl _ _).alloc (Nat.le_refl _) _⟩

/-- which kind of token begins at i -/
theorem tok_cases (s : ByteArray) (i : Nat) (hi : i < s.size) (c : Int) (hc : bt s i = c) :
    (c = 34 ∧ tok s i = quoted s i) ∨ (c = 124 ∧ tok s i = barred s i) ∨ (c = 58 ∧ tok s i = keyed s i) ∨ (c = 35 ∧ tok s i = bits s i) ∨
    ((c ≠ 34 ∧ c ≠ 124 ∧ c ≠ 58 ∧ c ≠ 35) ∧ ((48 ≤ c ∧ c ≤ 57 ∧ tok s i = numeral s i) ∨ ((c < 48 ∨ 57 < c) ∧ ((nmB c = true ∧ tok s i = named s i) ∨ (nmB c = false ∧ tok s i = noTok))))) := by
  have ha : ((at_ s i).toNat : Int) = c := (at_int s i hi).symm.trans hc
  have ht : tok s i = if at_ s i = 34 then quoted s i else if at_ s i = 124 then barred s i else if at_ s i = 58 then keyed s i else if at_ s i = 35 then bits s i
      else if dig (at_ s i) then numeral s i else if nm (at_ s i) then named s i else noTok := by unfold tok; rw [get_at s i hi]
  rw [ht]
  have k34 : c = 34 ↔ at_ s i = (34 : UInt8) := ha ▸ u8_eq (c := at_ s i) 34 (by omega)
  have k124 : c = 124 ↔ at_ s i = (124 : UInt8) := ha ▸ u8_eq (c := at_ s i) 124 (by omega)
  have k58 : c = 58 ↔ at_ s i = (58 : UInt8) := ha ▸ u8_eq (c := at_ s i) 58 (by omega)
  have k35 : c = 35 ↔ at_ s i = (35 : UInt8) := ha ▸ u8_eq (c := at_ s i) 35 (by omega)
  by_cases a1 : c = 34
  · exact .inl ⟨a1, if_pos (k34.1 a1)⟩
  rw [if_neg (fun e => a1 (k34.2 e))]
  by_cases a2 : c = 124
  · exact .inr (.inl ⟨a2, if_pos (k124.1 a2)⟩)
  rw [if_neg (fun e => a2 (k124.2 e))]
  by_cases a3 : c = 58
  · exact .inr (.inr (.inl ⟨a3, if_pos (k58.1 a3)⟩))
  rw [if_neg (fun e => a3 (k58.2 e))]
  by_cases a4 : c = 35
  · exact .inr (.inr (.inr (.inl ⟨a4, if_pos (k35.1 a4)⟩)))
  rw [if_neg (fun e => a4 (k35.2 e))]
  refine .inr (.inr (.inr (.inr ⟨⟨a1, a2, a3, a4⟩, ?_⟩)))
  by_cases a5 : dig (at_ s i) = true
  · obtain ⟨g1, g2⟩ := dig_yes a5 ha
    exact .inl ⟨g1, g2, if_pos a5⟩
  · rw [if_neg a5]
    refine .inr ⟨dig_no (Bool.eq_false_iff.2 a5) ha, ?_⟩
    have hnm : nm (at_ s i) = nmB c := by unfold nm; rw [ha]
    rw [hnm]
    by_cases a6 : nmB c = true
    · exact .inl ⟨a6, if_pos a6⟩
    · exact .inr ⟨Bool.eq_false_iff.2 a6, if_neg a6⟩

theorem spec_tok (s : ByteArray) (i : Nat) (w : World) (hs : s.size ≤ 35184372088000) (hi : i < s.size) :
    Calls Tryd.prog 77 #[.string s, .int .i64 i] w fun e w' => e = .returned (.agg #[.int .i64 (tok s i).1, .string (tok s i).2.1, .int .i64 (tok s i).2.2]) ∧ Below w.heap.size w w' := by
  obtain ⟨c, hc⟩ : ∃ c, bt s i = c := ⟨_, rfl⟩
  obtain ⟨c0, c1⟩ := bt_range s i
  rw [hc] at c0 c1
  have hs' : s.size ≤ 140737488351232 := by omega
  rcases tok_cases s i hi c hc with ⟨a, e⟩ | ⟨a, e⟩ | ⟨a, e⟩ | ⟨a, e⟩ | ⟨⟨n1, n2, n3, n4⟩, h⟩
  · exact spec_quoted s i w hs' hi (hc.trans a) _ e.symm
  · exact spec_barred s i w hs' hi (hc.trans a) _ e.symm
  · exact spec_keyed s i w hs' hi (hc.trans a) _ e.symm
  · exact spec_hash s i w hs hi (hc.trans a) _ e.symm
  · have m1 : (c == 34) = false := beq_eq_false_iff_ne.2 n1
    have m2 : (c == 124) = false := beq_eq_false_iff_ne.2 n2
    have m3 : (c == 58) = false := beq_eq_false_iff_ne.2 n3
    have m4 : (c == 35) = false := beq_eq_false_iff_ne.2 n4
    rcases h with ⟨a, b, e⟩ | ⟨a, ⟨b, e⟩ | ⟨b, e⟩⟩
    · exact spec_numeral s i w hs' hi c hc c0 c1 a b m1 m2 m3 m4 _ e.symm
    · exact spec_named s i w hs' hi c hc c0 c1 m1 m2 m3 m4 a b _ e.symm
    · rw [e]; exact spec_none s i w hi c hc c0 c1 m1 m2 m3 m4 a b
end Go.Proofs.YtbeelgaganbblaaDoor.Tok
namespace Go.Proofs.YtbeelgaganbblaaDoor
open Go.RowKit Go.Proofs.YtbeelgaganbblaaDoorW.PrintWords Go.Proofs.YtbeelgaganbblaaDoor.Tok
def tokF (a0 : ByteArray) (a1 : Int) : Option (Int × ByteArray × Int) := if 0 ≤ a1 ∧ a1 < a0.size ∧ a0.size ≤ 35184372088000 then some (tok a0 a1.toNat) else none
def spec_l3Token.f (a0 : ByteArray) (a1 : Int) : Option (Int × ByteArray × Int) := tokF a0 a1
theorem spec_l3Token.calls (a0 : ByteArray) (a1 : Int) (r1 : Int) (r2 : ByteArray) (r3 : Int) (w : World) (h : spec_l3Token.f a0 a1 = some (r1, r2, r3)) :
    Calls Tryd.prog 77 #[.string a0, .int .i64 a1] w fun e w' => e = .returned (.agg #[.int .i64 r1, .string r2, .int .i64 r3]) ∧ Below w.heap.size w w' := by
  unfold spec_l3Token.f tokF at h
  split at h
  · rename_i hc
    obtain ⟨i, rfl⟩ := Int.eq_ofNat_of_zero_le hc.1
    rw [Int.toNat_natCast] at h
    have h' := Option.some.inj h
    have := spec_tok a0 i w hc.2.2 (by omega)
    rw [h'] at this
    exact this
  · cases h
end Go.Proofs.YtbeelgaganbblaaDoor

/- The bytes' classes of the reader, by walks: spec.l3NameByte and impl.nameB are both `nmB`; condition: the byte is from 0 to 255. -/
import Derived.Test.YtbeelgaganbblaaDoorProg
import Derived.Test.YtbeelgaganbblaaDoorWWords
import Derived.Test.YtbeelgaganbblaaDoorShelf
import Derived.Test.YtbeelgaganbblaaDoorBytes
import Derived.Outline
import Derived.Handy
import Derived.WalkLawsBesides
import Derived.Deep.QuietTactic
import Derived.BigQuiet
namespace Go.Proofs.YtbeelgaganbblaaDoor
open Go.RowKit Go.Proofs.YtbeelgaganbblaaDoorW.PrintWords
set_option linter.unusedVariables false
set_option linter.unusedSimpArgs false
set_option maxRecDepth 100000

def signs : List Nat := [43, 45, 42, 47, 61, 37, 63, 33, 46, 36, 95, 126, 38, 94, 60, 62, 64]
/-- a name byte -/
def nmB (c : Int) : Bool := decide (48 ≤ c ∧ c ≤ 57) || decide (97 ≤ c ∧ c ≤ 122) || decide (65 ≤ c ∧ c ≤ 90) || signs.contains c.toNat
theorem signs_table : ∀ n : Nat, n < 256 → (0 ≤ Lib.indexByte [43, 45, 42, 47, 61, 37, 63, 33, 46, 36, 95, 126, 38, 94, 60, 62, 64] n.toUInt8 ↔ signs.contains n = true) ∧
    (0 ≤ Lib.indexByte [43, 45, 42, 47, 61, 37, 63, 33, 46, 36, 95, 126, 38, 94, 60, 62, 64] n.toUInt8 ∨ Lib.indexByte [43, 45, 42, 47, 61, 37, 63, 33, 46, 36, 95, 126, 38, 94, 60, 62, 64] n.toUInt8 = -1) := by decide +kernel

def impl_nameB.f (a0 : Int) : Option Bool := if 0 ≤ a0 ∧ a0 ≤ 255 then some (nmB a0) else none
def spec_l3NameByte.f (a0 : Int) : Option Bool := if 0 ≤ a0 ∧ a0 ≤ 255 then some (nmB a0) else none

/-- a byte's place among the ranges that the text asks of -/
theorem ranges (c : Int) (h0 : 0 ≤ c) (h1 : c ≤ 255) : (48 ≤ c ∧ c ≤ 57) ∨ (97 ≤ c ∧ c ≤ 122) ∨ (65 ≤ c ∧ c ≤ 90) ∨ (1 ≤ c ∧ c ≤ 47) ∨ (58 ≤ c ∧ c ≤ 64) ∨ (91 ≤ c ∧ c ≤ 96) ∨ (123 ≤ c ∧ c ≤ 255) ∨ c = 0 := by omega
theorem nmB_dig {c : Int} (a : 48 ≤ c) (b : c ≤ 57) : nmB c = true := by unfold nmB; simp [a, b]
theorem nmB_low {c : Int} (a : 97 ≤ c) (b : c ≤ 122) : nmB c = true := by unfold nmB; simp [a, b]
theorem nmB_up {c : Int} (a : 65 ≤ c) (b : c ≤ 90) : nmB c = true := by unfold nmB; simp [a, b]
theorem nmB_other {c : Int} (a : ¬ (48 ≤ c ∧ c ≤ 57)) (b : ¬ (97 ≤ c ∧ c ≤ 122)) (d : ¬ (65 ≤ c ∧ c ≤ 90)) : nmB c = signs.contains c.toNat := by
  unfold nmB; rw [decide_eq_false a, decide_eq_false b, decide_eq_false d]; simp
theorem ret_bool {a b : Bool} (h : a = b) : Ending.returned (.bool a) = .returned (.bool b) := by rw [h]
def SIGNS : ByteArray := ⟨#[43, 45, 42, 47, 61, 37, 63, 33, 46, 36, 95, 126, 38, 94, 60, 62, 64]⟩

theorem impl_nameB_any (c : Int) (w : World) (h0 : 0 ≤ c) (h1 : c ≤ 255) :
    Calls Tryd.prog 72 #[.int .u8 c] w fun e w' => e = .returned (.bool (nmB c)) ∧ w = w' := by
  have step : ∀ J : Int, (Lib.indexByte SIGNS.data.toList c.toNat.toUInt8 : Int) = J → ((0 ≤ J) ↔ signs.contains c.toNat = true) → 
      Calls Tryd.prog 72 #[.int .u8 c] w fun e w' => e = .returned (.bool (nmB c)) ∧ w = w' := by
    intro J hJ hs
    have HC : ∀ W, Calls Tryd.prog 73 #[.string ⟨#[43, 45, 42, 47, 61, 37, 63, 33, 46, 36, 95, 126, 38, 94, 60, 62, 64]⟩, .int .u8 c] W fun e w' => e = .returned (.int .i64 J) ∧ w' = W := fun W => by
      have := Tryd.strings_IndexByte ⟨#[43, 45, 42, 47, 61, 37, 63, 33, 46, 36, 95, 126, 38, 94, 60, 62, 64]⟩ c W
      rw [← hJ]; exact this
    have HCC : Hid (∀ W, Calls Tryd.prog 73 #[.string ⟨#[43, 45, 42, 47, 61, 37, 63, 33, 46, 36, 95, 126, 38, 94, 60, 62, 64]⟩, .int .u8 c] W fun e w' => e = .returned (.int .i64 J) ∧ w' = W) := HC
    have HS : Hid ((0 ≤ J) ↔ signs.contains c.toNat = true) := hs
    clear HC hJ hs
    have out : ¬ (48 ≤ c ∧ c ≤ 57) → ¬ (97 ≤ c ∧ c ≤ 122) → ¬ (65 ≤ c ∧ c ≤ 90) → Ending.returned (.bool (decide (0 ≤ J))) = .returned (.bool (nmB c)) := by
      intro a b d
      refine ret_bool ?_
      rw [nmB_other a b d, Bool.eq_iff_iff, decide_eq_true_eq]; exact HS.out
    have OUT : Hid (¬ (48 ≤ c ∧ c ≤ 57) → ¬ (97 ≤ c ∧ c ≤ 122) → ¬ (65 ≤ c ∧ c ≤ 90) → Ending.returned (.bool (decide (0 ≤ J))) = .returned (.bool (nmB c))) := out
    clear out
    rcases ranges c h0 h1 with ⟨a, b⟩ | ⟨a, b⟩ | ⟨a, b⟩ | ⟨a, b⟩ | ⟨a, b⟩ | ⟨a, b⟩ | ⟨a, b⟩ | a
    · have e := nmB_dig a b
      rw [e]; clear e
      go_enter Tryd.func72, Tryd.ntmps72
      go_wp2_with (first | (go_at_call 73; refine (HCC.out _).mono ?_; rintro e w' ⟨rfl, rfl⟩) | go_in)
      go_ret
      exact ⟨rfl, rfl⟩
    · have e := nmB_low a b
      rw [e]; clear e
      go_enter Tryd.func72, Tryd.ntmps72
      go_wp2_with (first | (go_at_call 73; refine (HCC.out _).mono ?_; rintro e w' ⟨rfl, rfl⟩) | go_in)
      go_ret
      exact ⟨rfl, rfl⟩
    · have e := nmB_up a b
      rw [e]; clear e
      go_enter Tryd.func72, Tryd.ntmps72
      go_wp2_with (first | (go_at_call 73; refine (HCC.out _).mono ?_; rintro e w' ⟨rfl, rfl⟩) | go_in)
      go_ret
      exact ⟨rfl, rfl⟩
    · have nz : (c != 0) = true := bne_iff_ne.2 (by omega)
      go_enter Tryd.func72, Tryd.ntmps72
      go_wp2_with (first | (go_at_call 73; refine (HCC.out _).mono ?_; rintro e w' ⟨rfl, rfl⟩) | go_in)
      go_ret
      exact ⟨OUT.out (by omega) (by omega) (by omega), rfl⟩
    · have nz : (c != 0) = true := bne_iff_ne.2 (by omega)
      have g57 : decide (c ≤ 57) = false := decide_eq_false (by omega)
      go_enter Tryd.func72, Tryd.ntmps72
      go_wp2_with (first | (go_at_call 73; refine (HCC.out _).mono ?_; rintro e w' ⟨rfl, rfl⟩) | go_in)
      go_ret
      exact ⟨OUT.out (by omega) (by omega) (by omega), rfl⟩
    · have nz : (c != 0) = true := bne_iff_ne.2 (by omega)
      have g57 : decide (c ≤ 57) = false := decide_eq_false (by omega)
      have g90 : decide (c ≤ 90) = false := decide_eq_false (by omega)
      go_enter Tryd.func72, Tryd.ntmps72
      go_wp2_with (first | (go_at_call 73; refine (HCC.out _).mono ?_; rintro e w' ⟨rfl, rfl⟩) | go_in)
      go_ret
      exact ⟨OUT.out (by omega) (by omega) (by omega), rfl⟩
    · have nz : (c != 0) = true := bne_iff_ne.2 (by omega)
      have g57 : decide (c ≤ 57) = false := decide_eq_false (by omega)
      have g90 : decide (c ≤ 90) = false := decide_eq_false (by omega)
      have g122 : decide (c ≤ 122) = false := decide_eq_false (by omega)
      go_enter Tryd.func72, Tryd.ntmps72
      go_wp2_with (first | (go_at_call 73; refine (HCC.out _).mono ?_; rintro e w' ⟨rfl, rfl⟩) | go_in)
      go_ret
      exact ⟨OUT.out (by omega) (by omega) (by omega), rfl⟩
    · subst a
      have e : nmB 0 = false := by decide
      rw [e]; clear e
      go_enter Tryd.func72, Tryd.ntmps72
      go_wp2_with (first | (go_at_call 73; refine (HCC.out _).mono ?_; rintro e w' ⟨rfl, rfl⟩) | go_in)
      go_ret
      exact ⟨rfl, rfl⟩
  obtain ⟨n, rfl⟩ := Int.eq_ofNat_of_zero_le h0
  have := (signs_table n (by omega)).1
  refine step _ rfl ?_
  rw [Int.toNat_natCast]
  exact this
theorem impl_nameB.calls (a0 : Int) (r : Bool) (w : World) (h : impl_nameB.f a0 = some r) :
    Calls Tryd.prog 72 #[.int .u8 a0] w fun e w' => e = .returned (.bool r) ∧ Drawn0 w w' := by
  unfold impl_nameB.f at h
  split at h
  · rename_i hc
    obtain rfl := Option.some.inj h
    exact (impl_nameB_any a0 w hc.1 hc.2).mono fun _ _ h => ⟨h.1, by rw [← h.2]; exact Drawn0.refl _⟩
  · cases h

theorem signs_at : ∀ k : Nat, k < 17 → bt (⟨#[43, 45, 42, 47, 61, 37, 63, 33, 46, 36, 95, 126, 38, 94, 60, 62, 64]⟩ : ByteArray) (k : Int) = ((signs.getD k 0 : Nat) : Int) := by decide
theorem signs_mem (n : Nat) : signs.contains n = true ↔ ∃ k, k < 17 ∧ signs.getD k 0 = n := by
  unfold signs
  constructor
  · intro h
    simp only [List.contains_cons, List.contains_nil, Bool.or_eq_true, beq_iff_eq, Bool.or_false] at h
    rcases h with h | h | h | h | h | h | h | h | h | h | h | h | h | h | h | h | h
    · exact ⟨0, by omega, h.symm⟩
    · exact ⟨1, by omega, h.symm⟩
    · exact ⟨2, by omega, h.symm⟩
    · exact ⟨3, by omega, h.symm⟩
    · exact ⟨4, by omega, h.symm⟩
    · exact ⟨5, by omega, h.symm⟩
    · exact ⟨6, by omega, h.symm⟩
    · exact ⟨7, by omega, h.symm⟩
    · exact ⟨8, by omega, h.symm⟩
    · exact ⟨9, by omega, h.symm⟩
    · exact ⟨10, by omega, h.symm⟩
    · exact ⟨11, by omega, h.symm⟩
    · exact ⟨12, by omega, h.symm⟩
    · exact ⟨13, by omega, h.symm⟩
    · exact ⟨14, by omega, h.symm⟩
    · exact ⟨15, by omega, h.symm⟩
    · exact ⟨16, by omega, h.symm⟩
  · rintro ⟨k, hk, rfl⟩
    have : ∀ k : Nat, k < 17 → [43, 45, 42, 47, 61, 37, 63, 33, 46, 36, 95, 126, 38, 94, 60, 62, 64].contains ([43, 45, 42, 47, 61, 37, 63, 33, 46, 36, 95, 126, 38, 94, 60, 62, 64].getD k 0) = true := by decide
    exact this k hk

/-- none of the first k signs is c -/
def NotYet (c : Int) (k : Nat) : Prop := ∀ j : Nat, j < k → ¬ ((signs.getD j 0 : Nat) : Int) = c
theorem spec_l3NameByte_loop (c : Int) (w : World) (h0 : 0 ≤ c) (h1 : c ≤ 255) (n1 : ¬ (48 ≤ c ∧ c ≤ 57)) (n2 : ¬ (97 ≤ c ∧ c ≤ 122)) (n3 : ¬ (65 ≤ c ∧ c ≤ 90)) (d1 : (decide (97 ≤ c) && decide (c ≤ 122)) = false) (d2 : (decide (65 ≤ c) && decide (c ≤ 90)) = false) (d3 : (decide (48 ≤ c) && decide (c ≤ 57)) = false) :
    Calls Tryd.prog 75 #[.int .u8 c] w fun e w' => e = .returned (.bool (nmB c)) ∧ w = w' := by
  have hn := nmB_other n1 n2 n3
  have HN : Hid (nmB c = signs.contains c.toNat) := hn
  clear hn
  rcases (by omega : (0 ≤ c ∧ c ≤ 47) ∨ (58 ≤ c ∧ c ≤ 64) ∨ (91 ≤ c ∧ c ≤ 96) ∨ (123 ≤ c ∧ c ≤ 255)) with ⟨a, b⟩ | ⟨a, b⟩ | ⟨a, b⟩ | ⟨a, b⟩
  all_goals
    clear d1 d2 d3 n1 n2 n3
    go_enter Tryd.func75, Tryd.ntmps75
    go_wp2_with (go_in)
    go_loop [4] (fun i => ∃ k : Nat, k ≤ 17 ∧ i = .int .i64 k ∧ NotYet c k) (fun i => 17 - (intOf i).toNat)
    case atStart => exact ⟨0, by omega, rfl, fun j hj => absurd hj (by omega)⟩
    case round =>
      obtain ⟨k, hk, rfl, HK⟩ := hrel
      by_cases hlt : k < 17
      · have hx : ∀ h : k < (⟨#[43, 45, 42, 47, 61, 37, 63, 33, 46, 36, 95, 126, 38, 94, 60, 62, 64]⟩ : ByteArray).size, ((((⟨#[43, 45, 42, 47, 61, 37, 63, 33, 46, 36, 95, 126, 38, 94, 60, 62, 64]⟩ : ByteArray)[k]'h).toNat : Nat) : Int) = bt (⟨#[43, 45, 42, 47, 61, 37, 63, 33, 46, 36, 95, 126, 38, 94, 60, 62, 64]⟩ : ByteArray) (k : Int) := bt_at (⟨#[43, 45, 42, 47, 61, 37, 63, 33, 46, 36, 95, 126, 38, 94, 60, 62, 64]⟩ : ByteArray) k
        have hb := signs_at k hlt
        by_cases he : ((signs.getD k 0 : Nat) : Int) = c
        · have hbc : (bt (⟨#[43, 45, 42, 47, 61, 37, 63, 33, 46, 36, 95, 126, 38, 94, 60, 62, 64]⟩ : ByteArray) (k : Int) == c) = true := by rw [hb, he]; exact beq_self_eq_true _
          have HE : Hid (((signs.getD k 0 : Nat) : Int) = c) := he
          clear hb he
          go_wp2_with (fail)
          go_ret
          exact ⟨ret_bool (by rw [HN.out]; exact ((signs_mem _).2 ⟨k, hlt, by have := HE.out; omega⟩).symm), rfl⟩
        · have hbc : (bt (⟨#[43, 45, 42, 47, 61, 37, 63, 33, 46, 36, 95, 126, 38, 94, 60, 62, 64]⟩ : ByteArray) (k : Int) == c) = false := by rw [hb]; exact beq_eq_false_iff_ne.2 he
          have HE : Hid (¬ ((signs.getD k 0 : Nat) : Int) = c) := he
          clear hb he
          go_wp2_with (fail)
          go_round
          case rel => exact ⟨k + 1, by omega, by go_num, fun j hj => by
            by_cases hjk : j = k
            · subst hjk; exact HE.out
            · exact HK j (by omega)⟩
          case measure => simp [intOf]; omega
      · go_wp2_with (fail)
        go_ret
        exact ⟨ret_bool (by
          rw [HN.out, eq_comm, Bool.eq_false_iff]
          intro hm
          obtain ⟨j, hj, e⟩ := (signs_mem _).1 hm
          exact HK j (by omega) (by omega)), rfl⟩

theorem spec_l3NameByte_any (c : Int) (w : World) (h0 : 0 ≤ c) (h1 : c ≤ 255) :
    Calls Tryd.prog 75 #[.int .u8 c] w fun e w' => e = .returned (.bool (nmB c)) ∧ w = w' := by
  rcases (by omega : (48 ≤ c ∧ c ≤ 57) ∨ (97 ≤ c ∧ c ≤ 122) ∨ (65 ≤ c ∧ c ≤ 90) ∨ (¬ (48 ≤ c ∧ c ≤ 57) ∧ ¬ (97 ≤ c ∧ c ≤ 122) ∧ ¬ (65 ≤ c ∧ c ≤ 90))) with ⟨a, b⟩ | ⟨a, b⟩ | ⟨a, b⟩ | ⟨a, b, d⟩
  · have e := nmB_dig a b
    rw [e]; clear e
    go_enter Tryd.func75, Tryd.ntmps75
    go_wp2_with (go_in)
    go_ret
    exact ⟨rfl, rfl⟩
  · have e := nmB_low a b
    rw [e]; clear e
    go_enter Tryd.func75, Tryd.ntmps75
    go_wp2_with (go_in)
    go_ret
    exact ⟨rfl, rfl⟩
  · have e := nmB_up a b
    rw [e]; clear e
    go_enter Tryd.func75, Tryd.ntmps75
    go_wp2_with (go_in)
    go_ret
    exact ⟨rfl, rfl⟩
  · exact spec_l3NameByte_loop c w h0 h1 a b d (by simp; omega) (by simp; omega) (by simp; omega)
theorem spec_l3NameByte.calls (a0 : Int) (r : Bool) (w : World) (h : spec_l3NameByte.f a0 = some r) :
    Calls Tryd.prog 75 #[.int .u8 a0] w fun e w' => e = .returned (.bool r) ∧ Drawn0 w w' := by
  unfold spec_l3NameByte.f at h
  split at h
  · rename_i hc
    obtain rfl := Option.some.inj h
    exact (spec_l3NameByte_any a0 w hc.1 hc.2).mono fun _ _ h => ⟨h.1, by rw [← h.2]; exact Drawn0.refl _⟩
  · cases h
end Go.Proofs.YtbeelgaganbblaaDoor

/- Parts of the proof, cut to what it uses: Bytes, TokA, TokP, TokQ, Tree, Shelf2, GoodN, PFnExactGoodTreex0, Pw, PFnExactProofTextx0, PFnExactProofTextx2, PFnExactProofTextx4, Pint, Dig, LimbA, LimbTa, Sgn, Plem, PFnExactGoodTreex1. -/
import Derived.ArgAppend
import Derived.Below
import Derived.BigGuard
import Derived.BigQuiet
import Derived.Deep.AppendLies
import Derived.Deep.CutBlock
import Derived.Deep.DeepCutAuto
import Derived.Deep.Draws
import Derived.Deep.LoopGhost
import Derived.Deep.OwnRows
import Derived.Deep.QuietTactic
import Derived.Deep.RegionHeld3
import Derived.Handy
import Derived.KernelRfl
import Derived.Laws.AppendOwn
import Derived.Laws.BitsLemmas
import Derived.Laws.BytesArg
import Derived.Laws.IdiomCopy
import Derived.Laws.MakeOwn
import Derived.Laws.OwnMore
import Derived.Laws.Rows
import Derived.Laws.Slices
import Derived.Lib.AppendStr
import Derived.Lib.ConvBytes
import Derived.Lib.Hide
import Derived.Lib.IndexMore
import Derived.Lib.ItoaNum
import Derived.Lib.Strings
import Derived.Maps.AppendAt
import Derived.OneCell
import Derived.OrdersHeld
import Derived.Outline
import Derived.OwnWalk
import Derived.RowKit
import Derived.RowKit3
import Derived.Shelf.Abstract
import Derived.Shelf.LaysM
import Derived.Shelf.Small.Strs
import Derived.Shelf.Strings.Builder1
import Derived.Shelf.Strings.Builder2
import Derived.Shelf.Strings.BuilderF
import Derived.Shelf.Strings.BuilderK
import Derived.Shelf.Strings.Count
import Derived.Shelf.Strings.Cut
import Derived.Shelf.Strings.OnBuilder
import Derived.Shelf.Strings.Replace
import Derived.Shelf.Strings.Search1
import Derived.Shelf.Strings.Search2
import Derived.Shelf.Strings.Search3
import Derived.Shelf.Strings.Shaped
import Derived.Shelf.Strings.Split
import Derived.Shelf.Unicode.DecodeSlow
import Derived.Tactics
import Derived.Test.YtbeelgaganbblaaDoorProg
import Derived.Test.YtbeelgaganbblaaDoorWApart
import Derived.Test.YtbeelgaganbblaaDoorWArr
import Derived.Test.YtbeelgaganbblaaDoorWAt
import Derived.Test.YtbeelgaganbblaaDoorWEqStruct
import Derived.Test.YtbeelgaganbblaaDoorWFoot
import Derived.Test.YtbeelgaganbblaaDoorWFootNe
import Derived.Test.YtbeelgaganbblaaDoorWFour
import Derived.Test.YtbeelgaganbblaaDoorWGuard
import Derived.Test.YtbeelgaganbblaaDoorWInv
import Derived.Test.YtbeelgaganbblaaDoorWInvWords
import Derived.Test.YtbeelgaganbblaaDoorWKept
import Derived.Test.YtbeelgaganbblaaDoorWLast
import Derived.Test.YtbeelgaganbblaaDoorWMore
import Derived.Test.YtbeelgaganbblaaDoorWN
import Derived.Test.YtbeelgaganbblaaDoorWNEv
import Derived.Test.YtbeelgaganbblaaDoorWQPut
import Derived.Test.YtbeelgaganbblaaDoorWRepsOne
import Derived.Test.YtbeelgaganbblaaDoorWShare
import Derived.Test.YtbeelgaganbblaaDoorWTab
import Derived.Test.YtbeelgaganbblaaDoorWWords
import Derived.Test.YtbeelgaganbblaaDoorWZeros
import Derived.WalkKit
import Derived.WalkLawsBesides
import Derived.WalkSmall
import Derived.WalkSpells
import Derived.WideLaws
namespace Go.Proofs.YtbeelgaganbblaaDoor.By
open Go.RowKit Go.Proofs.YtbeelgaganbblaaDoorW.PrintWords
set_option linter.unusedVariables false
set_option linter.unusedSimpArgs false
/-- the list of a string's bytes -/
def L (s : ByteArray) : List UInt8 := s.data.toList
theorem L_length (s : ByteArray) : (L s).length = s.size := by unfold L; rw [Array.length_toList]; rfl
theorem toList_L (s : ByteArray) : s.toList = L s := ByteArray.toList_eq s
theorem L_extract (s : ByteArray) (a b : Nat) : L (s.extract a b) = ((L s).drop a).take (b - a) := Go.Lib.extract_data s a b
theorem L_extract_end (s : ByteArray) (a : Nat) : L (s.extract a s.size) = (L s).drop a := by
  rw [L_extract, List.take_of_length_le]
  rw [List.length_drop, L_length]; omega
theorem size_extract_end (s : ByteArray) (a : Nat) : (s.extract a s.size).size = s.size - a := by
  rw [← L_length, L_extract_end, List.length_drop, L_length]
theorem L_mk (l : List UInt8) : L ⟨l.toArray⟩ = l := rfl
theorem bt_get (s : ByteArray) (i : Nat) (h : i < s.size) : bt s (i : Int) = (((L s)[i]'(by rw [L_length]; exact h)).toNat : Int) := by
  unfold bt
  rw [dif_pos (by simpa using h)]
  rfl
theorem drop_cons (s : ByteArray) (i : Nat) (h : i < s.size) : (L s).drop i = (L s)[i]'(by rw [L_length]; exact h) :: (L s).drop (i + 1) :=
  List.drop_eq_getElem_cons _
theorem drop_all (s : ByteArray) (i : Nat) (h : s.size ≤ i) : (L s).drop i = [] := List.drop_eq_nil_of_le (by rw [L_length]; exact h)
theorem nil_iff (s : ByteArray) : s.toList = ([] : List UInt8) ↔ s.size = 0 := by
  rw [toList_L, ← L_length, List.length_eq_zero_iff]
theorem wrap64_succ {i : Int} (h0 : 0 ≤ i) (h : i ≤ 140737488355328) : wrap64 (i + 1) = i + 1 := by unfold wrap64; omega
/-- a digit's byte -/
def dig (c : UInt8) : Bool := decide (48 ≤ c.toNat) && decide (c.toNat ≤ 57)
def digs (l : List UInt8) : Bool := l.all dig
theorem digs_cons (c : UInt8) (l : List UInt8) : digs (c :: l) = (dig c && digs l) := rfl
theorem dig_lt {c : UInt8} (h : ((c.toNat : Nat) : Int) < 48) : dig c = false := by unfold dig; simp; omega
theorem dig_gt {c : UInt8} (h : 57 < ((c.toNat : Nat) : Int)) : dig c = false := by unfold dig; simp; omega
theorem dig_mid {c : UInt8} (h : ¬ ((c.toNat : Nat) : Int) < 48) (h' : ¬ 57 < ((c.toNat : Nat) : Int)) : dig c = true := by unfold dig; simp; omega
/-- a natural number's text, at most d digits -/
def natText (d : Nat) (l : List UInt8) : Bool :=
  decide (l.length ≠ 0) && decide (l.length ≤ d) && !(decide (1 < l.length) && decide (l[0]? = some 48)) && digs l
/-- an int text, at most d digits -/
def intText (d : Nat) (l : List UInt8) : Bool :=
  if l[0]? = some 45 then (if l.drop 1 = [48] then false else natText d (l.drop 1)) else natText d l
theorem bt_eq_iff (s : ByteArray) (i : Nat) (h : i < s.size) (n : Nat) (hn : n < 256) : (bt s (i : Int) = (n : Int)) ↔ (L s)[i]? = some (UInt8.ofNat n) := by
  rw [bt_get s i h, List.getElem?_eq_getElem (by rw [L_length]; exact h)]
  constructor
  · intro e
    have e' : ((L s)[i]'(by rw [L_length]; exact h)).toNat = n := by omega
    rw [← e', UInt8.ofNat_toNat]
  · intro e
    have e' := Option.some.inj e
    rw [e']
    simp
    omega
end Go.Proofs.YtbeelgaganbblaaDoor.By
namespace Go.Proofs.YtbeelgaganbblaaDoor
open Go.RowKit Go.Proofs.YtbeelgaganbblaaDoorW.PrintWords
set_option linter.unusedVariables false
set_option linter.unusedSimpArgs false
set_option maxRecDepth 100000
def signs : List Nat := [43, 45, 42, 47, 61, 37, 63, 33, 46, 36, 95, 126, 38, 94, 60, 62, 64]
/-- a name byte -/
def nmB (c : Int) : Bool := decide (48 ≤ c ∧ c ≤ 57) || decide (97 ≤ c ∧ c ≤ 122) || decide (65 ≤ c ∧ c ≤ 90) || signs.contains c.toNat
def spec_l3NameByte.f (a0 : Int) : Option Bool := if 0 ≤ a0 ∧ a0 ≤ 255 then some (nmB a0) else none
theorem nmB_dig {c : Int} (a : 48 ≤ c) (b : c ≤ 57) : nmB c = true := by unfold nmB; simp [a, b]
theorem nmB_low {c : Int} (a : 97 ≤ c) (b : c ≤ 122) : nmB c = true := by unfold nmB; simp [a, b]
theorem nmB_up {c : Int} (a : 65 ≤ c) (b : c ≤ 90) : nmB c = true := by unfold nmB; simp [a, b]
theorem nmB_other {c : Int} (a : ¬ (48 ≤ c ∧ c ≤ 57)) (b : ¬ (97 ≤ c ∧ c ≤ 122)) (d : ¬ (65 ≤ c ∧ c ≤ 90)) : nmB c = signs.contains c.toNat := by
  unfold nmB; rw [decide_eq_false a, decide_eq_false b, decide_eq_false d]; simp
theorem ret_bool {a b : Bool} (h : a = b) : Ending.returned (.bool a) = .returned (.bool b) := by rw [h]
theorem signs_at : ∀ k : Nat, k < 17 → bt (⟨#[43, 45, 42, 47, 61, 37, 63, 33, 46, 36, 95, 126, 38, 94, 60, 62, 64]⟩ : ByteArray) (k : Int) = ((signs.getD k 0 : Nat) : Int) := by decide
theorem signs_mem (n : Nat) : signs.contains n = true ↔ ∃ k, k < 17 ∧ signs.getD k 0 = n := by
  unfold signs
  constructor
  · intro h
    simp only [List.contains_cons, List.contains_nil, Bool.or_eq_true, beq_iff_eq, Bool.or_false] at h
    rcases h with h | h | h | h | h | h | h | h | h | h | h | h | h | h | h | h | h
    · exact ⟨0, by omega, h.symm⟩
    · exact ⟨1, by omega, h.symm⟩
    · exact ⟨2, by omega, h.symm⟩
    · exact ⟨3, by omega, h.symm⟩
    · exact ⟨4, by omega, h.symm⟩
    · exact ⟨5, by omega, h.symm⟩
    · exact ⟨6, by omega, h.symm⟩
    · exact ⟨7, by omega, h.symm⟩
    · exact ⟨8, by omega, h.symm⟩
    · exact ⟨9, by omega, h.symm⟩
    · exact ⟨10, by omega, h.symm⟩
    · exact ⟨11, by omega, h.symm⟩
    · exact ⟨12, by omega, h.symm⟩
    · exact ⟨13, by omega, h.symm⟩
    · exact ⟨14, by omega, h.symm⟩
    · exact ⟨15, by omega, h.symm⟩
    · exact ⟨16, by omega, h.symm⟩
  · rintro ⟨k, hk, rfl⟩
    have : ∀ k : Nat, k < 17 → [43, 45, 42, 47, 61, 37, 63, 33, 46, 36, 95, 126, 38, 94, 60, 62, 64].contains ([43, 45, 42, 47, 61, 37, 63, 33, 46, 36, 95, 126, 38, 94, 60, 62, 64].getD k 0) = true := by decide
    exact this k hk
/-- none of the first k signs is c -/
def NotYet (c : Int) (k : Nat) : Prop := ∀ j : Nat, j < k → ¬ ((signs.getD j 0 : Nat) : Int) = c
theorem spec_l3NameByte_loop (c : Int) (w : World) (h0 : 0 ≤ c) (h1 : c ≤ 255) (n1 : ¬ (48 ≤ c ∧ c ≤ 57)) (n2 : ¬ (97 ≤ c ∧ c ≤ 122)) (n3 : ¬ (65 ≤ c ∧ c ≤ 90)) (d1 : (decide (97 ≤ c) && decide (c ≤ 122)) = false) (d2 : (decide (65 ≤ c) && decide (c ≤ 90)) = false) (d3 : (decide (48 ≤ c) && decide (c ≤ 57)) = false) :
    Calls Tryd.prog 75 #[.int .u8 c] w fun e w' => e = .returned (.bool (nmB c)) ∧ w = w' := by
  have hn := nmB_other n1 n2 n3
  have HN : Hid (nmB c = signs.contains c.toNat) := hn
  clear hn
  rcases (by omega : (0 ≤ c ∧ c ≤ 47) ∨ (58 ≤ c ∧ c ≤ 64) ∨ (91 ≤ c ∧ c ≤ 96) ∨ (123 ≤ c ∧ c ≤ 255)) with ⟨a, b⟩ | ⟨a, b⟩ | ⟨a, b⟩ | ⟨a, b⟩
  all_goals
    clear d1 d2 d3 n1 n2 n3
    go_enter Tryd.func75, Tryd.ntmps75
    go_wp2_with (go_in)
    go_loop [4] (fun i => ∃ k : Nat, k ≤ 17 ∧ i = .int .i64 k ∧ NotYet c k) (fun i => 17 - (intOf i).toNat)
    case atStart => exact ⟨0, by omega, rfl, fun j hj => absurd hj (by omega)⟩
    case round =>
      obtain ⟨k, hk, rfl, HK⟩ := hrel
      by_cases hlt : k < 17
      · have hx : ∀ h : k < (⟨#[43, 45, 42, 47, 61, 37, 63, 33, 46, 36, 95, 126, 38, 94, 60, 62, 64]⟩ : ByteArray).size, ((((⟨#[43, 45, 42, 47, 61, 37, 63, 33, 46, 36, 95, 126, 38, 94, 60, 62, 64]⟩ : ByteArray)[k]'h).toNat : Nat) : Int) = bt (⟨#[43, 45, 42, 47, 61, 37, 63, 33, 46, 36, 95, 126, 38, 94, 60, 62, 64]⟩ : ByteArray) (k : Int) := bt_at (⟨#[43, 45, 42, 47, 61, 37, 63, 33, 46, 36, 95, 126, 38, 94, 60, 62, 64]⟩ : ByteArray) k
        have hb := signs_at k hlt
        by_cases he : ((signs.getD k 0 : Nat) : Int) = c
        · have hbc : (bt (⟨#[43, 45, 42, 47, 61, 37, 63, 33, 46, 36, 95, 126, 38, 94, 60, 62, 64]⟩ : ByteArray) (k : Int) == c) = true := by rw [hb, he]; exact beq_self_eq_true _
          have HE : Hid (((signs.getD k 0 : Nat) : Int) = c) := he
          clear hb he
          go_wp2_with (fail)
          go_ret
          exact ⟨ret_bool (by rw [HN.out]; exact ((signs_mem _).2 ⟨k, hlt, by have := HE.out; omega⟩).symm), rfl⟩
        · have hbc : (bt (⟨#[43, 45, 42, 47, 61, 37, 63, 33, 46, 36, 95, 126, 38, 94, 60, 62, 64]⟩ : ByteArray) (k : Int) == c) = false := by rw [hb]; exact beq_eq_false_iff_ne.2 he
          have HE : Hid (¬ ((signs.getD k 0 : Nat) : Int) = c) := he
          clear hb he
          go_wp2_with (fail)
          go_round
          case rel => exact ⟨k + 1, by omega, by go_num, fun j hj => by
            by_cases hjk : j = k
            · subst hjk; exact HE.out
            · exact HK j (by omega)⟩
          case measure => simp [intOf]; omega
      · go_wp2_with (fail)
        go_ret
        exact ⟨ret_bool (by
          rw [HN.out, eq_comm, Bool.eq_false_iff]
          intro hm
          obtain ⟨j, hj, e⟩ := (signs_mem _).1 hm
          exact HK j (by omega) (by omega)), rfl⟩
theorem spec_l3NameByte_any (c : Int) (w : World) (h0 : 0 ≤ c) (h1 : c ≤ 255) :
    Calls Tryd.prog 75 #[.int .u8 c] w fun e w' => e = .returned (.bool (nmB c)) ∧ w = w' := by
  rcases (by omega : (48 ≤ c ∧ c ≤ 57) ∨ (97 ≤ c ∧ c ≤ 122) ∨ (65 ≤ c ∧ c ≤ 90) ∨ (¬ (48 ≤ c ∧ c ≤ 57) ∧ ¬ (97 ≤ c ∧ c ≤ 122) ∧ ¬ (65 ≤ c ∧ c ≤ 90))) with ⟨a, b⟩ | ⟨a, b⟩ | ⟨a, b⟩ | ⟨a, b, d⟩
  · have e := nmB_dig a b
    rw [e]; clear e
    go_enter Tryd.func75, Tryd.ntmps75
    go_wp2_with (go_in)
    go_ret
    exact ⟨rfl, rfl⟩
  · have e := nmB_low a b
    rw [e]; clear e
    go_enter Tryd.func75, Tryd.ntmps75
    go_wp2_with (go_in)
    go_ret
    exact ⟨rfl, rfl⟩
  · have e := nmB_up a b
    rw [e]; clear e
    go_enter Tryd.func75, Tryd.ntmps75
    go_wp2_with (go_in)
    go_ret
    exact ⟨rfl, rfl⟩
  · exact spec_l3NameByte_loop c w h0 h1 a b d (by simp; omega) (by simp; omega) (by simp; omega)
theorem spec_l3NameByte.calls (a0 : Int) (r : Bool) (w : World) (h : spec_l3NameByte.f a0 = some r) :
    Calls Tryd.prog 75 #[.int .u8 a0] w fun e w' => e = .returned (.bool r) ∧ Drawn0 w w' := by
  unfold spec_l3NameByte.f at h
  split at h
  · rename_i hc
    obtain rfl := Option.some.inj h
    exact (spec_l3NameByte_any a0 w hc.1 hc.2).mono fun _ _ h => ⟨h.1, by rw [← h.2]; exact Drawn0.refl _⟩
  · cases h
end Go.Proofs.YtbeelgaganbblaaDoor
namespace Go.Proofs.YtbeelgaganbblaaDoor.Tok
open Go.RowKit Go.Proofs.YtbeelgaganbblaaDoorW.PrintWords Go.Proofs.YtbeelgaganbblaaDoor Go.Proofs.YtbeelgaganbblaaDoor.By
set_option linter.unusedVariables false
set_option linter.unusedSimpArgs false
def nm (c : UInt8) : Bool := nmB (c.toNat : Int)
/-- a byte inside bars -/
def inb (c : UInt8) : Bool := decide (32 ≤ c.toNat) && decide (c.toNat ≤ 126) && !(c == 124) && !(c == 92)
/-- a byte inside quotes, other than the quote -/
def inq (c : UInt8) : Bool := c == 10 || (decide (32 ≤ c.toNat) && decide (c.toNat ≤ 126))
def bin (c : UInt8) : Bool := c == 48 || c == 49
/-- the byte at a place, as the walk reads it -/
def at_ (s : ByteArray) (k : Nat) : UInt8 := (L s).getD k 0
theorem u8_eq {c : UInt8} (n : Nat) (hn : n < 256) : ((c.toNat : Int) = (n : Int)) ↔ c = UInt8.ofNat n := by
  constructor
  · intro h; have : c.toNat = n := by omega
    rw [← this, UInt8.ofNat_toNat]
  · intro h; subst h; simp; omega
end Go.Proofs.YtbeelgaganbblaaDoor.Tok
namespace Go.Proofs.YtbeelgaganbblaaDoor.Tok
open Go.RowKit Go.Proofs.YtbeelgaganbblaaDoorW.PrintWords Go.Proofs.YtbeelgaganbblaaDoor Go.Proofs.YtbeelgaganbblaaDoor.By
set_option linter.unusedVariables false
set_option linter.unusedSimpArgs false
set_option maxRecDepth 100000
theorem info5 : (Tryd.prog.info? 5).map (fun i => (i.zero, i.size, i.bytes)) = some (some (.int .u8 0), 1, 1) := by kernel_rfl
def ints (l : List UInt8) : List Int := l.map fun c => (c.toNat : Int)
theorem ints_len (l : List UInt8) : (ints l).length = l.length := by unfold ints; rw [List.length_map]
theorem str_ints (l : List UInt8) : strOfNums (ints l) = ⟨l.toArray⟩ := by
  unfold strOfNums ints
  simp only [List.map_map]
  congr 2
  have e : ((fun n : Int => UInt8.ofNat n.toNat) ∘ fun c : UInt8 => (c.toNat : Int)) = id := by funext c; simp [UInt8.ofNat_toNat]
  rw [e, List.map_id]
end Go.Proofs.YtbeelgaganbblaaDoor.Tok
namespace Go.Proofs.YtbeelgaganbblaaDoor.Tree
open Go.RowKit Go.Proofs.YtbeelgaganbblaaDoor.By Go.Proofs.YtbeelgaganbblaaDoor.Tok
set_option linter.unusedVariables false
set_option linter.unusedSimpArgs false
/-- a node: its kind, its text, its members -/
structure Nd where
  k : Int
  t : List UInt8
  n : Int
def wholeT (l : List UInt8) : Bool := decide (l ≠ []) && !(decide (l[0]? = some 48) && decide (1 < l.length)) && l.all dig
def decT (l : List UInt8) : Bool := (Lib.cut l [46]).2.2 && wholeT (Lib.cut l [46]).1 && decide ((Lib.cut l [46]).2.1 ≠ []) && (Lib.cut l [46]).2.1.all dig
/-- is a text of its kind? -/
def word (k : Int) (t : List UInt8) : Bool :=
  if k = 1 then decide (t = []) else if k = 2 then t.all inb else if k = 3 then wholeT t else if k = 4 then decT t else
  if k = 5 then decide (t ≠ []) && t.all bin else if k = 6 then t.all inq else if k = 7 then decide (t ≠ []) && t.all nm else false
def goodN (x : Nd) : Bool := decide (0 ≤ x.n) && (decide (x.k = 1) || decide (x.n = 0)) && word x.k x.t
def dec1 : List Int → List Int
  | [] => []
  | a :: st => (a - 1) :: st
def Nn (st : List Int) : Prop := ∀ a ∈ st, 0 ≤ a
/-- a leaf's text -/
def leafT (x : Nd) : List UInt8 :=
  if x.k = 2 then (if (decide (x.t ≠ []) && !((x.t[0]?).any dig) && x.t.all nm) = true then x.t else 124 :: (x.t ++ [124])) else
  if x.k = 6 then 34 :: (x.t.flatMap (fun c => if c = 34 then [34, 34] else [c]) ++ [34]) else if x.k = 7 then 58 :: x.t else if x.k = 5 then 35 :: 98 :: x.t else x.t
/-- texts, a blank between each two -/
def joinS : List (List UInt8) → List UInt8
  | [] => []
  | t :: ts => t ++ ts.flatMap (fun u => 32 :: u)
/-- n trees stand at the head of a row; what is left; their texts -/
inductive Kids : Nat → List Nd → List Nd → List (List UInt8) → Prop
  | nil (l : List Nd) : Kids 0 l l []
  | leaf {n : Nat} {x : Nd} {l r : List Nd} {ts : List (List UInt8)} (hk : x.k ≠ 1) (hg : goodN x = true) (h : Kids n l r ts) : Kids (n + 1) (x :: l) r (leafT x :: ts)
  | list {n : Nat} {x : Nd} {l r1 r : List Nd} {ts1 ts : List (List UInt8)} (hk : x.k = 1) (hg : goodN x = true) (h1 : Kids x.n.toNat l r1 ts1) (h : Kids n r1 r ts) : Kids (n + 1) (x :: l) r ((40 :: (joinS ts1 ++ [41])) :: ts)
/-- closing brackets for the lists that are full -/
def normW : List Int → List UInt8 → List Int × List UInt8
  | [], out => ([], out)
  | a :: st, out => if a = 0 then normW st (out ++ [41]) else (a :: st, out)
def sepT (st : List Int) (out : List UInt8) : List UInt8 := if st ≠ [] ∧ out.getLast? ≠ some 40 then out ++ [32] else out
def nlT (p : List Int × List UInt8) : List Int × List UInt8 := (p.1, if p.1 = [] then p.2 ++ [10] else p.2)
/-- what the reference writes -/
def specW : List Nd → List Int → List UInt8 → List UInt8
  | [], st, out => out
  | x :: l, st, out =>
    specW l (nlT (if x.k = 1 then normW (x.n :: dec1 st) (sepT st out ++ [40]) else normW (dec1 st) (sepT st out ++ leafT x))).1
      (nlT (if x.k = 1 then normW (x.n :: dec1 st) (sepT st out ++ [40]) else normW (dec1 st) (sepT st out ++ leafT x))).2
/-- what is left to write behind n trees -/
def after (r : List Nd) (p : List Int × List UInt8) : List UInt8 := specW r (nlT p).1 (nlT p).2
theorem good_last {x : Nd} (hk : x.k ≠ 1) (hg : goodN x = true) : leafT x ≠ [] ∧ (leafT x).getLast? ≠ some 40 := by
  have hw : word x.k x.t = true := by
    unfold goodN at hg
    rw [Bool.and_eq_true] at hg
    exact hg.2
  have all_last : ∀ (p : UInt8 → Bool) (l : List UInt8), p 40 = false → l.all p = true → l.getLast? ≠ some 40 := fun p l hp ha e => by
    have hm : (40 : UInt8) ∈ l := List.mem_of_getLast? e
    rw [List.all_eq_true.1 ha _ hm] at hp
    cases hp
  have snoc : ∀ (c : UInt8) (l : List UInt8), (l ++ [c]).getLast? = some c := fun c l => by simp
  have cons_last : ∀ (c : UInt8) (l : List UInt8), l ≠ [] → (c :: l).getLast? = l.getLast? := fun c l h => by
    cases l with | nil => exact absurd rfl h | cons a b => simp
  unfold leafT
  unfold word at hw
  rw [if_neg hk] at hw
  by_cases h2 : x.k = 2
  · rw [if_pos h2]
    split
    · rename_i hb
      rw [Bool.and_eq_true, Bool.and_eq_true] at hb
      exact ⟨of_decide_eq_true hb.1.1, all_last nm _ (by decide) hb.2⟩
    · exact ⟨by simp, by rw [← List.cons_append, snoc]; decide⟩
  rw [if_neg h2] at hw ⊢
  by_cases h3 : x.k = 3
  · rw [if_pos h3] at hw
    rw [if_neg (by omega), if_neg (by omega), if_neg (by omega)]
    unfold wholeT at hw
    rw [Bool.and_eq_true, Bool.and_eq_true] at hw
    exact ⟨of_decide_eq_true hw.1.1, all_last dig _ (by decide) hw.2⟩
  rw [if_neg h3] at hw
  by_cases h4 : x.k = 4
  · rw [if_pos h4] at hw
    rw [if_neg (by omega), if_neg (by omega), if_neg (by omega)]
    unfold decT at hw
    rw [Bool.and_eq_true, Bool.and_eq_true, Bool.and_eq_true] at hw
    obtain ⟨⟨⟨q1, q2⟩, q3⟩, q4⟩ := hw
    obtain ⟨a, b, e1, e2⟩ : ∃ a b, x.t = a ++ 46 :: b ∧ (Lib.cut x.t [46]).2.1 = b := by
      unfold Lib.cut at q1 ⊢
      by_cases h0 : 0 ≤ Lib.index x.t [46]
      · rw [if_pos h0]
        rcases Lib.index_spec x.t [46] with ⟨h1, _⟩ | ⟨i, h1, h2, h3, _⟩
        · omega
        · rw [h1, Int.toNat_natCast]
          unfold Lib.occAt at h3
          obtain ⟨t, ht⟩ := List.isPrefixOf_iff_prefix.1 h3
          have ht2 : x.t.drop i = 46 :: t := ht.symm
          have e : x.t.drop (i + ([46] : List UInt8).length) = t := by
            show x.t.drop (i + 1) = t
            rw [← List.drop_drop, ht2]; rfl
          exact ⟨x.t.take i, t, by rw [← ht2, List.take_append_drop], e⟩
      · rw [if_neg h0] at q1; cases q1
    rw [e2] at q3 q4
    have hb : b ≠ [] := of_decide_eq_true q3
    rw [e1]
    refine ⟨by simp, ?_⟩
    rw [List.getLast?_append, cons_last _ _ hb]
    intro e
    cases hl : b.getLast? with
    | none => exact hb (List.getLast?_eq_none_iff.1 hl)
    | some z => rw [hl] at e; exact all_last dig b (by decide) q4 (by rw [hl]; exact e)
  rw [if_neg h4] at hw
  by_cases h5 : x.k = 5
  · rw [if_pos h5] at hw
    rw [if_neg (by omega), if_neg (by omega), if_pos h5]
    rw [Bool.and_eq_true] at hw
    have hne : x.t ≠ [] := of_decide_eq_true hw.1
    refine ⟨by simp, ?_⟩
    rw [cons_last _ _ (by simp), cons_last _ _ hne]
    exact all_last bin _ (by decide) hw.2
  rw [if_neg h5] at hw
  by_cases h6 : x.k = 6
  · rw [if_pos h6]
    exact ⟨by simp, by rw [← List.cons_append, snoc]; decide⟩
  rw [if_neg h6] at hw ⊢
  by_cases h7 : x.k = 7
  · rw [if_pos h7] at hw ⊢
    rw [Bool.and_eq_true] at hw
    have hne : x.t ≠ [] := of_decide_eq_true hw.1
    exact ⟨by simp, by rw [cons_last _ _ hne]; exact all_last nm _ (by decide) hw.2⟩
  · rw [if_neg h7] at hw; cases hw
theorem br_last (l : List UInt8) : (40 :: (l ++ [41]) : List UInt8).getLast? ≠ some 40 := by
  rw [← List.cons_append, List.getLast?_concat]; decide
/-- with a list open: the trees' texts, blanks between, the first with a blank unless it stands behind a bracket -/
theorem spec_nest : ∀ {n l r ts}, Kids n l r ts → ∀ (a : Int) (st : List Int) (out : List UInt8), (n : Int) ≤ a → (n ≠ 0) →
    specW l (a :: st) out = after r (normW ((a - n) :: st) (sepT (a :: st) out ++ joinS ts)) := by
  intro n l r ts h
  have app_last : ∀ (x y : List UInt8), y ≠ [] → y.getLast? ≠ some 40 → (x ++ y).getLast? ≠ some 40 := fun x y h1 h2 e => by
    rw [List.getLast?_append] at e
    cases hl : y.getLast? with
    | none => exact h1 (List.getLast?_eq_none_iff.1 hl)
    | some z => rw [hl] at e; exact h2 (by rw [hl]; exact e)
  have go : ∀ (n : Nat) (l r : List Nd) (ts : List (List UInt8)) (t : List UInt8) (a : Int) (st : List Int) (o : List UInt8), Kids n l r ts → t ≠ [] → t.getLast? ≠ some 40 → ((n + 1 : Nat) : Int) ≤ a →
      (∀ (a : Int) (st : List Int) (out : List UInt8), (n : Int) ≤ a → (n ≠ 0) → specW l (a :: st) out = after r (normW ((a - n) :: st) (sepT (a :: st) out ++ joinS ts))) →
      after l (normW ((a - 1) :: st) (o ++ t)) = after r (normW ((a - (n + 1 : Nat)) :: st) (o ++ joinS (t :: ts))) := by
    intro n l r ts t a st o hK ht1 ht2 ha ih
    by_cases hn : n = 0
    · subst hn
      cases hK
      rw [show ((0 + 1 : Nat) : Int) = 1 from rfl]
      simp [joinS]
    · have hne : ¬ (a - 1 = 0) := by omega
      have e1 : normW ((a - 1) :: st) (o ++ t) = ((a - 1) :: st, o ++ t) := by unfold normW; rw [if_neg hne]
      rw [e1]
      unfold after nlT
      simp only
      rw [if_neg (by simp), ih (a - 1) st (o ++ t) (by omega) hn]
      have e2 : sepT ((a - 1) :: st) (o ++ t) = o ++ t ++ [32] := by
        unfold sepT; rw [if_pos ⟨by simp, app_last o t ht1 ht2⟩]
      have e3 : o ++ t ++ [32] ++ joinS ts = o ++ joinS (t :: ts) := by
        cases ts with
        | nil => cases hK; exact absurd rfl hn
        | cons u us => simp [joinS]
      rw [e2, e3, show a - 1 - (n : Int) = a - ((n + 1 : Nat) : Int) by omega]
      rfl
  induction h with
  | nil l => intro a st out _ h0; exact absurd rfl h0
  | @leaf n x l r ts hk hg h ih =>
    intro a st out ha _
    obtain ⟨g1, g2⟩ := good_last hk hg
    have := go n l r ts (leafT x) a st (sepT (a :: st) out) h g1 g2 ha ih
    rw [← this]
    show specW l _ _ = after l _
    unfold after
    rw [if_neg hk]
    rfl
  | @list n x l r1 r ts1 ts hk hg h1 h ih1 ih =>
    intro a st out ha _
    have hxn : 0 ≤ x.n := by
      unfold goodN at hg
      simp only [Bool.and_eq_true, decide_eq_true_eq] at hg
      exact hg.1.1
    have g1 : (40 :: (joinS ts1 ++ [41])) ≠ ([] : List UInt8) := by simp
    have g2 : (40 :: (joinS ts1 ++ [41]) : List UInt8).getLast? ≠ some 40 := br_last _
    have := go n r1 r ts (40 :: (joinS ts1 ++ [41])) a st (sepT (a :: st) out) h g1 g2 ha ih
    rw [← this]
    show specW l (nlT (if x.k = 1 then normW (x.n :: (a - 1) :: st) (sepT (a :: st) out ++ [40]) else _)).1 (nlT (if x.k = 1 then normW (x.n :: (a - 1) :: st) (sepT (a :: st) out ++ [40]) else _)).2 = _
    rw [if_pos hk]
    by_cases h0 : x.n = 0
    · rw [show x.n.toNat = 0 by omega] at h1
      cases h1
      have e : normW (x.n :: (a - 1) :: st) (sepT (a :: st) out ++ [40]) = normW ((a - 1) :: st) (sepT (a :: st) out ++ 40 :: (joinS [] ++ [41])) := by
        conv => lhs; unfold normW
        rw [if_pos h0]; simp [joinS]
      rw [e]; rfl
    · have e : normW (x.n :: (a - 1) :: st) (sepT (a :: st) out ++ [40]) = (x.n :: (a - 1) :: st, sepT (a :: st) out ++ [40]) := by unfold normW; rw [if_neg h0]
      rw [e]
      unfold nlT
      simp only
      rw [if_neg (by simp), ih1 x.n ((a - 1) :: st) _ (by omega) (by omega)]
      have e2 : sepT (x.n :: (a - 1) :: st) (sepT (a :: st) out ++ [40]) = sepT (a :: st) out ++ [40] := by
        unfold sepT
        rw [if_neg (by intro h; exact h.2 (by simp))]
      rw [e2, show x.n - (x.n.toNat : Int) = 0 by omega]
      have e3 : normW (0 :: (a - 1) :: st) (sepT (a :: st) out ++ [40] ++ joinS ts1) = normW ((a - 1) :: st) (sepT (a :: st) out ++ 40 :: (joinS ts1 ++ [41])) := by
        conv => lhs; unfold normW
        rw [if_pos rfl]; simp
      rw [e3]
/-- a row of trees: each tree's text and a line's end -/
theorem spec_row : ∀ {n l r ts}, Kids n l r ts → ∀ (out : List UInt8), specW l [] out = specW r [] (out ++ ts.flatMap (fun t => t ++ [10])) := by
  intro n l r ts h
  induction h with
  | nil l => intro out; simp
  | @leaf n x l r ts hk hg h ih =>
    intro out
    show specW l (nlT (if x.k = 1 then _ else normW [] (sepT [] out ++ leafT x))).1 (nlT (if x.k = 1 then _ else normW [] (sepT [] out ++ leafT x))).2 = _
    rw [if_neg hk]
    show specW l [] (sepT [] out ++ leafT x ++ [10]) = _
    rw [ih]
    simp [sepT]
  | @list n x l r1 r ts1 ts hk hg h1 h ih1 ih =>
    intro out
    have hxn : 0 ≤ x.n := by
      unfold goodN at hg
      simp only [Bool.and_eq_true, decide_eq_true_eq] at hg
      exact hg.1.1
    have es : sepT [] out = out := by simp [sepT]
    show specW l (nlT (if x.k = 1 then normW (x.n :: []) (sepT [] out ++ [40]) else _)).1 (nlT (if x.k = 1 then normW (x.n :: []) (sepT [] out ++ [40]) else _)).2 = _
    rw [if_pos hk, es]
    by_cases h0 : x.n = 0
    · rw [show x.n.toNat = 0 by omega] at h1
      cases h1
      have e : normW [x.n] (out ++ [40]) = ([], out ++ [40] ++ [41]) := by
        unfold normW; rw [if_pos h0]; rfl
      rw [e]
      show specW l [] (out ++ [40] ++ [41] ++ [10]) = _
      rw [ih]
      simp [joinS]
    · have e : normW [x.n] (out ++ [40]) = ([x.n], out ++ [40]) := by unfold normW; rw [if_neg h0]
      rw [e]
      show specW l [x.n] (out ++ [40]) = _
      rw [spec_nest h1 x.n [] _ (by omega) (by omega)]
      have e2 : sepT [x.n] (out ++ [40]) = out ++ [40] := by
        unfold sepT
        rw [if_neg (by intro h; exact h.2 (by simp))]
      rw [e2, show x.n - (x.n.toNat : Int) = 0 by omega]
      have e3 : normW [0] (out ++ [40] ++ joinS ts1) = ([], out ++ [40] ++ joinS ts1 ++ [41]) := by
        unfold normW; rw [if_pos rfl]; rfl
      rw [e3]
      show specW r1 [] (out ++ [40] ++ joinS ts1 ++ [41] ++ [10]) = _
      rw [ih]
      simp
theorem spec_whole {n l ts} (h : Kids n l [] ts) : specW l [] [] = ts.flatMap (fun t => t ++ [10]) := by
  rw [spec_row h []]; rfl
/-- how many bytes a row of nodes can give at most -/
def cost (l : List Nd) : Nat := (l.map fun x => 2 * x.t.length + 8).sum
theorem cost_cons (x : Nd) (l : List Nd) : cost (x :: l) = 2 * x.t.length + 8 + cost l := by unfold cost; simp
def sumL (ts : List (List UInt8)) : Nat := (ts.map fun t => t.length + 1).sum
theorem sumL_cons (t : List UInt8) (ts : List (List UInt8)) : sumL (t :: ts) = t.length + 1 + sumL ts := by unfold sumL; simp
theorem flat_len (ts : List (List UInt8)) (c : UInt8) : (ts.flatMap fun u => c :: u).length = sumL ts := by
  induction ts with
  | nil => rfl
  | cons t ts ih => rw [List.flatMap_cons, List.length_append, ih, sumL_cons]; simp
theorem join_len (ts : List (List UInt8)) : (joinS ts).length ≤ sumL ts := by
  cases ts with
  | nil => exact Nat.zero_le _
  | cons t ts => show (t ++ ts.flatMap fun u => 32 :: u).length ≤ _; rw [List.length_append, flat_len, sumL_cons]; omega
theorem quote_len (l : List UInt8) : (l.flatMap (fun c => if c = 34 then [34, 34] else [c])).length ≤ 2 * l.length := by
  induction l with
  | nil => exact Nat.le_refl _
  | cons c l ih =>
    rw [List.flatMap_cons, List.length_append, List.length_cons]
    by_cases h : c = 34
    · rw [if_pos h, show ([34, 34] : List UInt8).length = 2 from rfl]; omega
    · rw [if_neg h, show ([c] : List UInt8).length = 1 from rfl]; omega
end Go.Proofs.YtbeelgaganbblaaDoor.Tree
namespace Go.Proofs
open Go.Shelf
def Tryd.lays166_ren : Go.Shelf.Ren := ⟨fun | 166 => 29 | 240 => 47 | 276 => 84 | n => n, fun | 0 => 0 | 3 => 3 | 4 => 4 | 5 => 5 | 9 => 9 | 20 => 20 | 37 => 37 | 70 => 49 | 72 => 51 | 75 => 54 | 80 => 60 | 164 => 116 | n => n, fun | n => n⟩
theorem Tryd.lays166 : Go.Proofs.Lays.n166 Tryd.prog Tryd.lays166_ren := {
  mixed := by kernel_rfl
  f166 := Tryd.func29.trans (congrArg some (by kernel_rfl))
  f240 := Tryd.func47.trans (congrArg some (by kernel_rfl))
  f276 := Tryd.func84.trans (congrArg some (by kernel_rfl))
  t0 := Tryd.underlying0
  a0 := Tryd.isAgg0
  z0 := Tryd.sizeOf0
  v0 := Tryd.zeroValue0
  t3 := Tryd.underlying3
  a3 := Tryd.isAgg3
  z3 := Tryd.sizeOf3
  v3 := Tryd.zeroValue3
  t4 := Tryd.underlying4
  a4 := Tryd.isAgg4
  z4 := Tryd.sizeOf4
  v4 := Tryd.zeroValue4
  t9 := Tryd.underlying9
  a9 := Tryd.isAgg9
  z9 := Tryd.sizeOf9
  v9 := Tryd.zeroValue9
  t20 := Tryd.underlying20
  a20 := Tryd.isAgg20
  z20 := Tryd.sizeOf20
  v20 := Tryd.zeroValue20
  t37 := Tryd.underlying37
  a37 := Tryd.isAgg37
  z37 := Tryd.sizeOf37
  v37 := Tryd.zeroValue37
  t70 := Tryd.underlying49
  a70 := Tryd.isAgg49
  z70 := Tryd.sizeOf49
  v70 := Tryd.zeroValue49
  t72 := Tryd.underlying51
  a72 := Tryd.isAgg51
  z72 := Tryd.sizeOf51
  v72 := Tryd.zeroValue51
  t75 := Tryd.underlying54
  a75 := Tryd.isAgg54
  z75 := Tryd.sizeOf54
  v75 := Tryd.zeroValue54
  t164 := Tryd.underlying116
  a164 := Tryd.isAgg116
  z164 := Tryd.sizeOf116
  v164 := Tryd.zeroValue116 }
theorem Tryd.Builder_Extra_166 : Builder.Extra Tryd.prog Tryd.lays166_ren := {
  sizeBuilder := by kernel_rfl
  liesBuilder := by kernel_rfl
  t5 := Tryd.underlying5
  a5 := Tryd.isAgg5
  z5 := Tryd.sizeOf5
  v5 := Tryd.zeroValue5
  infoByte := by kernel_rfl
  cellsByte := by kernel_rfl
  sizeByte := by kernel_rfl
  neB5 := by decide }
open Go.RowKit in
theorem Tryd.Builder_WriteString_k (B b : Nat) (bs : List Value) (s : ByteArray) (w : World) (h : Lib.IsBuilderF 51 5 B b bs w) (hlen : bs.length + s.size ≤ 140737488355328) (hBw : B ≤ w.heap.size) :
    Calls Tryd.prog 29 #[.pointer (some ⟨b, 0, none⟩), .string s] w fun e w' => e = .returned (.tuple #[.int .i64 s.size, .nilIface]) ∧ (Lib.BuilderAtF 51 5 B b (.pointer (some ⟨b, 0, none⟩)) (bs ++ Lib.strCells s) w' ∧ Below B w w' ∧ Lib.OthersKept 5 (some b) w w') := Any.Builder_WriteString_k Tryd.lays166 Tryd.Builder_Extra_166 B b bs s w h hlen hBw
def Tryd.lays169_ren : Go.Shelf.Ren := ⟨fun | 169 => 32 | n => n, fun | 70 => 49 | 9 => 9 | 0 => 0 | 72 => 51 | 37 => 37 | 127 => 87 | 3 => 3 | 5 => 5 | n => n, fun | n => n⟩
theorem Tryd.lays169 : Go.Proofs.Lays.n169 Tryd.prog Tryd.lays169_ren := {
  mixed := by kernel_rfl
  f169 := Tryd.func32.trans (congrArg some (by kernel_rfl))
  t0 := Tryd.underlying0
  a0 := Tryd.isAgg0
  z0 := Tryd.sizeOf0
  v0 := Tryd.zeroValue0
  t3 := Tryd.underlying3
  a3 := Tryd.isAgg3
  z3 := Tryd.sizeOf3
  v3 := Tryd.zeroValue3
  t9 := Tryd.underlying9
  a9 := Tryd.isAgg9
  z9 := Tryd.sizeOf9
  v9 := Tryd.zeroValue9
  t37 := Tryd.underlying37
  a37 := Tryd.isAgg37
  z37 := Tryd.sizeOf37
  v37 := Tryd.zeroValue37
  t70 := Tryd.underlying49
  a70 := Tryd.isAgg49
  z70 := Tryd.sizeOf49
  v70 := Tryd.zeroValue49
  t72 := Tryd.underlying51
  a72 := Tryd.isAgg51
  z72 := Tryd.sizeOf51
  v72 := Tryd.zeroValue51
  t127 := Tryd.underlying87
  a127 := Tryd.isAgg87
  z127 := Tryd.sizeOf87
  v127 := Tryd.zeroValue87 }
theorem Tryd.Builder_Extra_169 : Builder.Extra Tryd.prog Tryd.lays169_ren := {
  sizeBuilder := by kernel_rfl
  liesBuilder := by kernel_rfl
  t5 := Tryd.underlying5
  a5 := Tryd.isAgg5
  z5 := Tryd.sizeOf5
  v5 := Tryd.zeroValue5
  infoByte := by kernel_rfl
  cellsByte := by kernel_rfl
  sizeByte := by kernel_rfl
  neB5 := by decide }
open Go.RowKit in
/-- (*strings.Builder).String: "String returns the accumulated string.": WHATEVER THE BUILDER HOLDS; THE FORM '_k': OVER 'Lib.IsBuilderF' (a builder that 'String()' may have read), AND WITH THE FRAME THAT REACHES ABOVE THE BUILDER: 'Lib.OthersKept': every block that is not b and is no row of uint8's stands as it stood: the iterator of a range among them. (LAID: no walk: one application.) -/
theorem Tryd.Builder_String_any_k (B b : Nat) (l : List UInt8) (w : World) (h : Lib.IsBuilderF 51 5 B b (Lib.byteCells l) w) (hBw : B ≤ w.heap.size) :
    Calls Tryd.prog 32 #[.pointer (some ⟨b, 0, none⟩)] w fun e w' => e = .returned (.string ⟨l.toArray⟩) ∧ (Lib.IsBuilderF 51 5 B b (Lib.byteCells l) w' ∧ Below B w w' ∧ Lib.OthersKept 5 (some b) w w') := Any.Builder_String_any_k Tryd.lays169 Tryd.Builder_Extra_169 B b l w h hBw
end Go.Proofs
namespace Go.Proofs.YtbeelgaganbblaaDoor.Gn
open Go.RowKit Go.Proofs.YtbeelgaganbblaaDoorW.PrintWords Go.Proofs.YtbeelgaganbblaaDoor Go.Proofs.YtbeelgaganbblaaDoor.By Go.Proofs.YtbeelgaganbblaaDoor.Tok Go.Proofs.YtbeelgaganbblaaDoor.Tree
set_option linter.unusedVariables false
set_option linter.unusedSimpArgs false
set_option maxRecDepth 100000
/-- the cell of bytealg.MaxLen is there -/
def Tab (w : World) : Prop := ∃ m, w.cell? ⟨0, 0, none⟩ = some (.int .i64 m)
theorem Tab.below {B : Nat} {w w' : World} (h : Tab w) (hb : Below B w w') (hB : 0 < B) : Tab w' := by
  obtain ⟨m, hm⟩ := h
  exact ⟨m, (hb.cell hB).trans hm⟩
theorem Tab.lt {w : World} (h : Tab w) : 0 < w.heap.size := by
  obtain ⟨m, hm⟩ := h
  unfold World.cell? at hm
  by_cases hl : 0 < w.heap.size
  · exact hl
  · rw [Array.getElem?_eq_none (by omega)] at hm; simp at hm
theorem Tab.here {w w' : World} (h : Tab w) (hb : Below w.heap.size w w') : Tab w' := h.below hb h.lt
end Go.Proofs.YtbeelgaganbblaaDoor.Gn
namespace Go.Proofs.YtbeelgaganbblaaDoor
open Go.RowKit Go.Proofs.YtbeelgaganbblaaDoorW.PrintWords Go.Proofs.YtbeelgaganbblaaDoor.By Go.Proofs.YtbeelgaganbblaaDoor.Tree Go.Proofs.YtbeelgaganbblaaDoor.Gn
set_option linter.unusedVariables false
end Go.Proofs.YtbeelgaganbblaaDoor
namespace Go.Proofs.YtbeelgaganbblaaDoor.PFnExactGoodTree
open Go.RowKit Go.Proofs.YtbeelgaganbblaaDoorW.PrintWords Go.Proofs.YtbeelgaganbblaaDoorW.PrintLast Go.Proofs.YtbeelgaganbblaaDoorW.PrintMore
attribute [local go_sem] max2_int min2_int max_two min_two max_three min_three max_four min_four   -- for this text's walks alone
set_option linter.unusedVariables false
set_option linter.unusedSimpArgs false
def errW : Option Int → Value
  | none => .nilIface
  | some c => .iface 0 (.int .i64 c)
theorem errW_none : errW none = .nilIface := rfl
theorem errW_some (c : Int) : errW (some c) = .iface 0 (.int .i64 c) := rfl
theorem info3 : (Tryd.prog.info? 3).map (fun i => (i.zero, i.size, i.bytes)) = some (some (.int .i64 0), 1, 8) := by kernel_rfl
theorem info5 : (Tryd.prog.info? 5).map (fun i => (i.zero, i.size, i.bytes)) = some (some (.int .u8 0), 1, 1) := by kernel_rfl
theorem info43 : (Tryd.prog.info? 43).map (fun i => (i.zero, i.size, i.bytes)) = some (some (.agg #[(.int .i64 0), (.string ⟨#[]⟩), (.int .i64 0), (.int .i64 0)]), 4, 40) := by kernel_rfl
structure S46 where
  f0 : Int
  f1 : ByteArray
  f2 : Int
  f3 : Int
def z46 : S46 := ⟨(0 : Int), (⟨#[]⟩ : ByteArray), (0 : Int), (0 : Int)⟩
structure S43 where
  f0 : Int
  f1 : ByteArray
  f2 : Int
  f3 : Int
def z43 : S43 := ⟨(0 : Int), (⟨#[]⟩ : ByteArray), (0 : Int), (0 : Int)⟩
def k43 : Kd S43 := Kd.iso (Kd.pair (Kd.int .i64) (Kd.pair Kd.string (Kd.pair (Kd.int .i64) (Kd.int .i64)))) (fun x : S43 => (x.f0, x.f1, x.f2, x.f3))
theorem k43_open {w : World} {x : S43} {cs : List Value} (h : k43.K w x cs) : cs = [.int .i64 x.f0, .string x.f1, .int .i64 x.f2, .int .i64 x.f3] := by
  obtain ⟨_, _, rfl, rfl, ⟨_, _, rfl, rfl, ⟨_, _, rfl, rfl, rfl⟩⟩⟩ := h
  exact rfl
theorem k43_mkM (w : World) (base : Nat) (ok : Nat → Prop) (x : S43)  : k43.M w base ok x [.int .i64 x.f0, .string x.f1, .int .i64 x.f2, .int .i64 x.f3] := ⟨[.int .i64 x.f0], [.string x.f1, .int .i64 x.f2, .int .i64 x.f3], rfl, rfl, ⟨[.string x.f1], [.int .i64 x.f2, .int .i64 x.f3], rfl, rfl, ⟨[.int .i64 x.f2], [.int .i64 x.f3], rfl, rfl, rfl⟩⟩⟩
def rd_T43 (xs : List S43) (i : Int) : S43 := xs.getD i.toNat z43
theorem at_T43 {w : World} {A : Option Addr} {n : Nat} {xs : List S43} (h : Kd.C k43 w A n xs) (i : Int) (h0 : 0 ≤ i) (h1 : i < n) : ∃ ad , A = some ad ∧ w.cell? (ad.add (i.toNat * 4)) = some (.int .i64 (rd_T43 xs i).f0) ∧ w.cell? ⟨(ad.add (i.toNat * 4)).block, (ad.add (i.toNat * 4)).off + 1, none⟩ = some (.string (rd_T43 xs i).f1) ∧ w.cell? ⟨(ad.add (i.toNat * 4)).block, (ad.add (i.toNat * 4)).off + 2, none⟩ = some (.int .i64 (rd_T43 xs i).f2) ∧ w.cell? ⟨(ad.add (i.toNat * 4)).block, (ad.add (i.toNat * 4)).off + 3, none⟩ = some (.int .i64 (rd_T43 xs i).f3) := by
  obtain ⟨ad, c, e, _, hK, hc0⟩ := Kd.C_get h z43 i h0 h1
  have hc : ∀ j u, c[j]? = some u → w.cell? (ad.add (i.toNat * 4 + j)) = some u := hc0
  obtain rfl := k43_open hK
  exact ⟨ad, e, hc 0 _ rfl, by rw [← add_field _ _ 1 (by omega)]; exact hc 1 _ rfl, by rw [← add_field _ _ 2 (by omega)]; exact hc 2 _ rfl, by rw [← add_field _ _ 3 (by omega)]; exact hc 3 _ rfl⟩
end Go.Proofs.YtbeelgaganbblaaDoor.PFnExactGoodTree
namespace Go.Proofs.YtbeelgaganbblaaDoor.Pw
open Go.RowKit Go.Proofs.YtbeelgaganbblaaDoor Go.Proofs.YtbeelgaganbblaaDoorW.PrintWords Go.Proofs.YtbeelgaganbblaaDoorW.PrintLast Go.Proofs.YtbeelgaganbblaaDoor.By Go.Proofs.YtbeelgaganbblaaDoor.PFnExactGoodTree
set_option linter.unusedVariables false
set_option linter.unusedSimpArgs false
set_option maxRecDepth 100000
/-- the writer in memory: its nodes, whether something is bad, the count of bytes -/
structure Ws (W0 : World) (b : Nat) (X : Nat → Array Value → Nat → Prop) (N : List S43) (bad : Bool) (size : Int) (w : World) : Prop where
  bel : Below W0.heap.size W0 w
  ge : W0.heap.size ≤ b
  ex : ∃ v, w.heap[b]? = some (.cells #[v, .bool bad, .int .i64 size] 68 (0, 0)) ∧ Kd.R k43 43 w W0.heap.size (fun _ => True) v N
  oth : ∀ k cs t, X k cs t → w.heap[k]? = some (.cells cs t (0, 0)) ∧ t ≠ 43 ∧ k ≠ b
section
variable {W0 w : World} {b : Nat} {X : Nat → Array Value → Nat → Prop} {N : List S43} {bad : Bool} {size : Int}
theorem kept_block {w w1 : World} {B b t : Nat} {v : Value} {N : List S43} {cells : Array Value} (hb : w.heap[b]? = some (.cells cells t (0, 0))) (ht : t ≠ 43) (hR : Kd.R k43 43 w B (fun _ => True) v N) (hg : w.grownBy w1 v.ownBlock) : w1.heap[b]? = some (.cells cells t (0, 0)) := by
  refine blk_grown hb hg (fun e => ?_)
  obtain ⟨cells2, hc⟩ := Kd.R_typed hR b e.symm
  rw [hb] at hc
  injection hc with hc
  injection hc with _ hc _
  exact ht (by first | exact hc | exact hc.symm)
/-- what a method leaves: the row grown, the two cells of the writer stored anew -/
theorem Ws.next {W0 w1 : World} {b : Nat} {X : Nat → Array Value → Nat → Prop} {N : List S43} {bad : Bool} {size z : Int} {v v1 : Value} (ge : W0.heap.size ≤ b) (hb : w1.heap[b]? = some (.cells #[v, .bool bad, .int .i64 size] 68 (0, 0))) (hR : Kd.R k43 43 w1 W0.heap.size (fun _ => True) v1 N) (bel : Below W0.heap.size W0 w1) (oth : ∀ k cs t, X k cs t → w1.heap[k]? = some (.cells cs t (0, 0)) ∧ t ≠ 43 ∧ k ≠ b) :
    Ws W0 b X N bad z ((w1.setCell ⟨b, 0, none⟩ v1).setCell ⟨b, 2, none⟩ (.int .i64 z)) := by
  refine ⟨(bel.setCell (p := ⟨b, 0, none⟩) ge _).setCell (p := ⟨b, 2, none⟩) ge _, ge, ⟨v1, ?_, ?_⟩, fun k cs t hk => ?_⟩
  · exact blk_put (blk_put hb 0 v1 rfl) 2 _ rfl
  · have h1 := Kd.R_types hR hb (by decide)
    exact Kd.R_mono (Kd.R_far (Kd.R_far h1 (p := ⟨b, 0, none⟩) (fun _ hk => hk.2) v1) (p := ⟨b, 2, none⟩) (fun _ hk => hk.2) _) (fun _ _ => trivial)
  · obtain ⟨h1, h2, h3⟩ := oth k cs t hk
    refine ⟨?_, h2, h3⟩
    rw [Below.heap_setCell _ ⟨b, 2, none⟩ _ k h3, Below.heap_setCell _ ⟨b, 0, none⟩ _ k h3]
    exact h1
theorem list_any (hs : Ws W0 b X N bad size w) (n : Int) (hN : N.length ≤ 1000000000) (h0 : 0 ≤ size) (h1 : size ≤ 1000000000000) :
    Calls Tryd.prog 52 #[.pointer (some ⟨b, 0, none⟩), .int .i64 n] w fun e w' => e = .returned (.tuple #[]) ∧ Ws W0 b X (N ++ [⟨1, ⟨#[]⟩, n, 0⟩]) bad (size + 2) w' := by
  obtain ⟨bel, ge, ⟨v, hb, hR⟩, oth⟩ := hs
  have OTH := Lib.hid oth
  clear oth
  obtain ⟨A, c, rfl⟩ := Kd.R_slice hR
  have c0 : w.cell? ⟨b, 0, none⟩ = some (.slice A N.length c) := by rw [Lib.cell_of_heap hb]; rfl
  have c2 : w.cell? ⟨b, 2, none⟩ = some (.int .i64 size) := by rw [Lib.cell_of_heap hb]; rfl
  go_enter Tryd.func52, Tryd.ntmps52
  go_wp2_with (at_builtin; refine Kd.R_append k43 (w0 := W0) W0.heap.size rfl (.tmp 8) (.tmp 11) 25 43 (.agg #[(.int .i64 0), (.string ⟨#[]⟩), (.int .i64 0), (.int .i64 0)]) 40 rfl Tryd.underlying25 info43 rfl (by decide) (by omega) (.slice A N.length c) N (⟨1, ⟨#[]⟩, n, 0⟩ : S43) [.int .i64 1, .string ⟨#[]⟩, .int .i64 n, .int .i64 0] (fun _ => True) (fun _ => False) rfl rfl ?aP (fun _ hk => hk.elim) (fun _ _ => trivial) hR bel bel.size (by omega) ?_)
  case aP => exact k43_mkM _ _ _ (⟨1, ⟨#[]⟩, n, 0⟩ : S43)
  intro v1 w1 hR1 hbel1 hg1 _
  obtain ⟨A1, c1, rfl⟩ := Kd.R_slice hR1
  have hb1 := kept_block hb (by decide) hR hg1
  have OTH1 := Lib.hid (fun k cs t hk => (⟨kept_block (OTH.out k cs t hk).1 (OTH.out k cs t hk).2.1 hR hg1, (OTH.out k cs t hk).2⟩ : w1.heap[k]? = some (.cells cs t (0, 0)) ∧ t ≠ 43 ∧ k ≠ b))
  have d0 : w1.cell? ⟨b, 0, none⟩ = some (.slice A N.length c) := by rw [Lib.cell_of_heap hb1]; rfl
  have d2 : w1.cell? ⟨b, 2, none⟩ = some (.int .i64 size) := by rw [Lib.cell_of_heap hb1]; rfl
  have e0 := blk_frozen hb1 0
  have e2 := blk_frozen hb1 2
  have HB1 := Lib.hid hb1
  have HR1 := Lib.hid hR1
  have HBEL := Lib.hid hbel1
  clear hb1 hR1 hbel1 hg1
  go_wp2
  go_end0
  exact ⟨rfl, Ws.next ge HB1.out (by have h9 := HR1.out; rw [List.length_append] at h9; exact h9) HBEL.out OTH1.out⟩
theorem leaf_any (hs : Ws W0 b X N bad size w) (kd : Int) (t : ByteArray) (ht : t.size ≤ 1048576) (hN : N.length ≤ 1000000000) (h0 : 0 ≤ size) (h1 : size ≤ 1000000000000) :
    Calls Tryd.prog 53 #[.pointer (some ⟨b, 0, none⟩), .int .i64 kd, .string t] w fun e w' => e = .returned (.tuple #[]) ∧ Ws W0 b X (N ++ [⟨kd, t, 0, 0⟩]) bad (size + t.size) w' := by
  obtain ⟨bel, ge, ⟨v, hb, hR⟩, oth⟩ := hs
  have OTH := Lib.hid oth
  clear oth
  obtain ⟨A, c, rfl⟩ := Kd.R_slice hR
  have c0 : w.cell? ⟨b, 0, none⟩ = some (.slice A N.length c) := by rw [Lib.cell_of_heap hb]; rfl
  have c2 : w.cell? ⟨b, 2, none⟩ = some (.int .i64 size) := by rw [Lib.cell_of_heap hb]; rfl
  go_enter Tryd.func53, Tryd.ntmps53
  go_wp2_with (at_builtin; refine Kd.R_append k43 (w0 := W0) W0.heap.size rfl (.tmp 10) (.tmp 14) 25 43 (.agg #[(.int .i64 0), (.string ⟨#[]⟩), (.int .i64 0), (.int .i64 0)]) 40 rfl Tryd.underlying25 info43 rfl (by decide) (by omega) (.slice A N.length c) N (⟨kd, t, 0, 0⟩ : S43) [.int .i64 kd, .string t, .int .i64 0, .int .i64 0] (fun _ => True) (fun _ => False) rfl rfl ?aP (fun _ hk => hk.elim) (fun _ _ => trivial) hR bel bel.size (by omega) ?_)
  case aP => exact k43_mkM _ _ _ (⟨kd, t, 0, 0⟩ : S43)
  intro v1 w1 hR1 hbel1 hg1 _
  obtain ⟨A1, c1, rfl⟩ := Kd.R_slice hR1
  have hb1 := kept_block hb (by decide) hR hg1
  have OTH1 := Lib.hid (fun k cs t hk => (⟨kept_block (OTH.out k cs t hk).1 (OTH.out k cs t hk).2.1 hR hg1, (OTH.out k cs t hk).2⟩ : w1.heap[k]? = some (.cells cs t (0, 0)) ∧ t ≠ 43 ∧ k ≠ b))
  have d0 : w1.cell? ⟨b, 0, none⟩ = some (.slice A N.length c) := by rw [Lib.cell_of_heap hb1]; rfl
  have d2 : w1.cell? ⟨b, 2, none⟩ = some (.int .i64 size) := by rw [Lib.cell_of_heap hb1]; rfl
  have e0 := blk_frozen hb1 0
  have e2 := blk_frozen hb1 2
  have HB1 := Lib.hid hb1
  have HR1 := Lib.hid hR1
  have HBEL := Lib.hid hbel1
  clear hb1 hR1 hbel1 hg1
  go_wp2
  go_end0
  exact ⟨rfl, Ws.next ge HB1.out (by have h9 := HR1.out; rw [List.length_append] at h9; exact h9) HBEL.out OTH1.out⟩
end
end Go.Proofs.YtbeelgaganbblaaDoor.Pw
namespace Go.Proofs.YtbeelgaganbblaaDoor.PFnExactProofText
open Go.RowKit Go.Proofs.YtbeelgaganbblaaDoorW.PrintWords Go.Proofs.YtbeelgaganbblaaDoorW.PrintLast Go.Proofs.YtbeelgaganbblaaDoorW.PrintMore
attribute [local go_sem] max2_int min2_int max_two min_two max_three min_three max_four min_four   -- for this text's walks alone
set_option linter.unusedVariables false
set_option linter.unusedSimpArgs false
def errW : Option Int → Value
  | none => .nilIface
  | some c => .iface 0 (.int .i64 c)
theorem errW_none : errW none = .nilIface := rfl
theorem errW_some (c : Int) : errW (some c) = .iface 0 (.int .i64 c) := rfl
theorem info3 : (Tryd.prog.info? 3).map (fun i => (i.zero, i.size, i.bytes)) = some (some (.int .i64 0), 1, 8) := by kernel_rfl
theorem info9 : (Tryd.prog.info? 9).map (fun i => (i.zero, i.size, i.bytes)) = some (some (.string ⟨#[]⟩), 1, 16) := by kernel_rfl
theorem info71 : (Tryd.prog.info? 71).map (fun i => (i.zero, i.size, i.bytes)) = some (some (.agg #[(.int .i64 0), (.slice none 0 0), (.slice none 0 0), (.slice none 0 0)]), 4, 80) := by kernel_rfl
theorem info77 : (Tryd.prog.info? 77).map (fun i => (i.zero, i.size, i.bytes)) = some (some (.agg #[(.int .i64 0), (.string ⟨#[]⟩), (.slice none 0 0)]), 3, 48) := by kernel_rfl
structure S122 where
  f0 : Int
  f1 : ByteArray
  f2 : (List ByteArray)
def z122 : S122 := ⟨(0 : Int), (⟨#[]⟩ : ByteArray), ([] : List ByteArray)⟩
def k122 : Kd S122 := Kd.iso (Kd.pair (Kd.int .i64) (Kd.pair Kd.string (Kd.slice 9 Kd.string))) (fun x : S122 => (x.f0, x.f1, x.f2))
theorem k122_open {w : World} {x : S122} {cs : List Value} (h : k122.K w x cs) : ∃ A2 c2, cs = [.int .i64 x.f0, .string x.f1, .slice A2 x.f2.length c2] ∧ x.f2.length ≤ c2 ∧ Kd.string.C w A2 x.f2.length x.f2 := by
  obtain ⟨_, _, rfl, rfl, ⟨_, _, rfl, rfl, ⟨A2, c2, rfl, l2, g2⟩⟩⟩ := h
  exact ⟨A2, c2, rfl, l2, g2⟩
def rd_T122 (xs : List S122) (i : Int) : S122 := xs.getD i.toNat z122
theorem at_T122 {w : World} {A : Option Addr} {n : Nat} {xs : List S122} (h : Kd.C k122 w A n xs) (i : Int) (h0 : 0 ≤ i) (h1 : i < n) : ∃ ad A2 c2, A = some ad ∧ w.cell? (ad.add (i.toNat * 3)) = some (.int .i64 (rd_T122 xs i).f0) ∧ w.cell? ⟨(ad.add (i.toNat * 3)).block, (ad.add (i.toNat * 3)).off + 1, none⟩ = some (.string (rd_T122 xs i).f1) ∧ w.cell? ⟨(ad.add (i.toNat * 3)).block, (ad.add (i.toNat * 3)).off + 2, none⟩ = some (.slice A2 (rd_T122 xs i).f2.length c2) ∧ (rd_T122 xs i).f2.length ≤ c2 ∧ Kd.string.C w A2 (rd_T122 xs i).f2.length (rd_T122 xs i).f2 := by
  obtain ⟨ad, c, e, _, hK, hc0⟩ := Kd.C_get h z122 i h0 h1
  have hc : ∀ j u, c[j]? = some u → w.cell? (ad.add (i.toNat * 3 + j)) = some u := hc0
  obtain ⟨A2, c2, rfl, l2, g2⟩ := k122_open hK
  exact ⟨ad, A2, c2, e, hc 0 _ rfl, by rw [← add_field _ _ 1 (by omega)]; exact hc 1 _ rfl, by rw [← add_field _ _ 2 (by omega)]; exact hc 2 _ rfl, l2, g2⟩
structure S65 where
  f0 : Int
  f1 : (List Int)
  f2 : (List Int)
  f3 : (List S122)
def z65 : S65 := ⟨(0 : Int), ([] : List Int), ([] : List Int), ([] : List S122)⟩
def k65 : Kd S65 := Kd.iso (Kd.pair (Kd.int .i64) (Kd.pair (Kd.slice 3 (Kd.int .i64)) (Kd.pair (Kd.slice 3 (Kd.int .i64)) (Kd.slice 122 k122)))) (fun x : S65 => (x.f0, x.f1, x.f2, x.f3))
theorem k65_open {w : World} {x : S65} {cs : List Value} (h : k65.K w x cs) : ∃ A1 c1 A2 c2 A3 c3, cs = [.int .i64 x.f0, .slice A1 x.f1.length c1, .slice A2 x.f2.length c2, .slice A3 x.f3.length c3] ∧ x.f1.length ≤ c1 ∧ (Kd.int .i64).C w A1 x.f1.length x.f1 ∧ x.f2.length ≤ c2 ∧ (Kd.int .i64).C w A2 x.f2.length x.f2 ∧ x.f3.length ≤ c3 ∧ k122.C w A3 x.f3.length x.f3 := by
  obtain ⟨_, _, rfl, rfl, ⟨_, _, rfl, ⟨A1, c1, rfl, l1, g1⟩, ⟨_, _, rfl, ⟨A2, c2, rfl, l2, g2⟩, ⟨A3, c3, rfl, l3, g3⟩⟩⟩⟩ := h
  exact ⟨A1, c1, A2, c2, A3, c3, rfl, l1, g1, l2, g2, l3, g3⟩
def rd_T65 (xs : List S65) (i : Int) : S65 := xs.getD i.toNat z65
theorem at_T65 {w : World} {A : Option Addr} {n : Nat} {xs : List S65} (h : Kd.C k65 w A n xs) (i : Int) (h0 : 0 ≤ i) (h1 : i < n) : ∃ ad A1 c1 A2 c2 A3 c3, A = some ad ∧ w.cell? (ad.add (i.toNat * 4)) = some (.int .i64 (rd_T65 xs i).f0) ∧ w.cell? ⟨(ad.add (i.toNat * 4)).block, (ad.add (i.toNat * 4)).off + 1, none⟩ = some (.slice A1 (rd_T65 xs i).f1.length c1) ∧ w.cell? ⟨(ad.add (i.toNat * 4)).block, (ad.add (i.toNat * 4)).off + 2, none⟩ = some (.slice A2 (rd_T65 xs i).f2.length c2) ∧ w.cell? ⟨(ad.add (i.toNat * 4)).block, (ad.add (i.toNat * 4)).off + 3, none⟩ = some (.slice A3 (rd_T65 xs i).f3.length c3) ∧ (rd_T65 xs i).f1.length ≤ c1 ∧ (Kd.int .i64).C w A1 (rd_T65 xs i).f1.length (rd_T65 xs i).f1 ∧ (rd_T65 xs i).f2.length ≤ c2 ∧ (Kd.int .i64).C w A2 (rd_T65 xs i).f2.length (rd_T65 xs i).f2 ∧ (rd_T65 xs i).f3.length ≤ c3 ∧ k122.C w A3 (rd_T65 xs i).f3.length (rd_T65 xs i).f3 := by
  obtain ⟨ad, c, e, _, hK, hc0⟩ := Kd.C_get h z65 i h0 h1
  have hc : ∀ j u, c[j]? = some u → w.cell? (ad.add (i.toNat * 4 + j)) = some u := hc0
  obtain ⟨A1, c1, A2, c2, A3, c3, rfl, l1, g1, l2, g2, l3, g3⟩ := k65_open hK
  exact ⟨ad, A1, c1, A2, c2, A3, c3, e, hc 0 _ rfl, by rw [← add_field _ _ 1 (by omega)]; exact hc 1 _ rfl, by rw [← add_field _ _ 2 (by omega)]; exact hc 2 _ rfl, by rw [← add_field _ _ 3 (by omega)]; exact hc 3 _ rfl, l1, g1, l2, g2, l3, g3⟩
structure S77 where
  f0 : Int
  f1 : ByteArray
  f2 : (List ByteArray)
def z77 : S77 := ⟨(0 : Int), (⟨#[]⟩ : ByteArray), ([] : List ByteArray)⟩
def k77 : Kd S77 := Kd.iso (Kd.pair (Kd.int .i64) (Kd.pair Kd.string (Kd.slice 9 Kd.string))) (fun x : S77 => (x.f0, x.f1, x.f2))
theorem k77_open {w : World} {x : S77} {cs : List Value} (h : k77.K w x cs) : ∃ A2 c2, cs = [.int .i64 x.f0, .string x.f1, .slice A2 x.f2.length c2] ∧ x.f2.length ≤ c2 ∧ Kd.string.C w A2 x.f2.length x.f2 := by
  obtain ⟨_, _, rfl, rfl, ⟨_, _, rfl, rfl, ⟨A2, c2, rfl, l2, g2⟩⟩⟩ := h
  exact ⟨A2, c2, rfl, l2, g2⟩
theorem k77_openM {w : World} {base : Nat} {ok : Nat → Prop} {x : S77} {cs : List Value} (h : k77.M w base ok x cs) : ∃ v2, cs = [.int .i64 x.f0, .string x.f1, v2] ∧ Kd.string.R 9 w base ok v2 x.f2 := by
  obtain ⟨_, _, rfl, rfl, ⟨_, _, rfl, rfl, ⟨v2, rfl, g2⟩⟩⟩ := h
  exact ⟨v2, rfl, g2⟩
theorem k77_mkM (w : World) (base : Nat) (ok : Nat → Prop) (x : S77) {v2 : Value} (g2 : Kd.string.R 9 w base ok v2 x.f2) : k77.M w base ok x [.int .i64 x.f0, .string x.f1, v2] := ⟨[.int .i64 x.f0], [.string x.f1, v2], rfl, rfl, ⟨[.string x.f1], [v2], rfl, rfl, ⟨v2, rfl, g2⟩⟩⟩
def rd_T77 (xs : List S77) (i : Int) : S77 := xs.getD i.toNat z77
theorem at_T77 {w : World} {A : Option Addr} {n : Nat} {xs : List S77} (h : Kd.C k77 w A n xs) (i : Int) (h0 : 0 ≤ i) (h1 : i < n) : ∃ ad A2 c2, A = some ad ∧ w.cell? (ad.add (i.toNat * 3)) = some (.int .i64 (rd_T77 xs i).f0) ∧ w.cell? ⟨(ad.add (i.toNat * 3)).block, (ad.add (i.toNat * 3)).off + 1, none⟩ = some (.string (rd_T77 xs i).f1) ∧ w.cell? ⟨(ad.add (i.toNat * 3)).block, (ad.add (i.toNat * 3)).off + 2, none⟩ = some (.slice A2 (rd_T77 xs i).f2.length c2) ∧ (rd_T77 xs i).f2.length ≤ c2 ∧ Kd.string.C w A2 (rd_T77 xs i).f2.length (rd_T77 xs i).f2 := by
  obtain ⟨ad, c, e, _, hK, hc0⟩ := Kd.C_get h z77 i h0 h1
  have hc : ∀ j u, c[j]? = some u → w.cell? (ad.add (i.toNat * 3 + j)) = some u := hc0
  obtain ⟨A2, c2, rfl, l2, g2⟩ := k77_open hK
  exact ⟨ad, A2, c2, e, hc 0 _ rfl, by rw [← add_field _ _ 1 (by omega)]; exact hc 1 _ rfl, by rw [← add_field _ _ 2 (by omega)]; exact hc 2 _ rfl, l2, g2⟩
structure S71 where
  f0 : Int
  f1 : (List Int)
  f2 : (List Int)
  f3 : (List S77)
def z71 : S71 := ⟨(0 : Int), ([] : List Int), ([] : List Int), ([] : List S77)⟩
def k71 : Kd S71 := Kd.iso (Kd.pair (Kd.int .i64) (Kd.pair (Kd.slice 3 (Kd.int .i64)) (Kd.pair (Kd.slice 3 (Kd.int .i64)) (Kd.slice 77 k77)))) (fun x : S71 => (x.f0, x.f1, x.f2, x.f3))
theorem k71_open {w : World} {x : S71} {cs : List Value} (h : k71.K w x cs) : ∃ A1 c1 A2 c2 A3 c3, cs = [.int .i64 x.f0, .slice A1 x.f1.length c1, .slice A2 x.f2.length c2, .slice A3 x.f3.length c3] ∧ x.f1.length ≤ c1 ∧ (Kd.int .i64).C w A1 x.f1.length x.f1 ∧ x.f2.length ≤ c2 ∧ (Kd.int .i64).C w A2 x.f2.length x.f2 ∧ x.f3.length ≤ c3 ∧ k77.C w A3 x.f3.length x.f3 := by
  obtain ⟨_, _, rfl, rfl, ⟨_, _, rfl, ⟨A1, c1, rfl, l1, g1⟩, ⟨_, _, rfl, ⟨A2, c2, rfl, l2, g2⟩, ⟨A3, c3, rfl, l3, g3⟩⟩⟩⟩ := h
  exact ⟨A1, c1, A2, c2, A3, c3, rfl, l1, g1, l2, g2, l3, g3⟩
theorem k71_openM {w : World} {base : Nat} {ok : Nat → Prop} {x : S71} {cs : List Value} (h : k71.M w base ok x cs) : ∃ v1 v2 v3, cs = [.int .i64 x.f0, v1, v2, v3] ∧ (Kd.int .i64).R 3 w base ok v1 x.f1 ∧ (Kd.int .i64).R 3 w base ok v2 x.f2 ∧ k77.R 77 w base ok v3 x.f3 := by
  obtain ⟨_, _, rfl, rfl, ⟨_, _, rfl, ⟨v1, rfl, g1⟩, ⟨_, _, rfl, ⟨v2, rfl, g2⟩, ⟨v3, rfl, g3⟩⟩⟩⟩ := h
  exact ⟨v1, v2, v3, rfl, g1, g2, g3⟩
theorem k71_mkM (w : World) (base : Nat) (ok : Nat → Prop) (x : S71) {v1 : Value} (g1 : (Kd.int .i64).R 3 w base ok v1 x.f1) {v2 : Value} (g2 : (Kd.int .i64).R 3 w base ok v2 x.f2) {v3 : Value} (g3 : k77.R 77 w base ok v3 x.f3) : k71.M w base ok x [.int .i64 x.f0, v1, v2, v3] := ⟨[.int .i64 x.f0], [v1, v2, v3], rfl, rfl, ⟨[v1], [v2, v3], rfl, ⟨v1, rfl, g1⟩, ⟨[v2], [v3], rfl, ⟨v2, rfl, g2⟩, ⟨v3, rfl, g3⟩⟩⟩⟩
def rd_T71 (xs : List S71) (i : Int) : S71 := xs.getD i.toNat z71
theorem at_T71 {w : World} {A : Option Addr} {n : Nat} {xs : List S71} (h : Kd.C k71 w A n xs) (i : Int) (h0 : 0 ≤ i) (h1 : i < n) : ∃ ad A1 c1 A2 c2 A3 c3, A = some ad ∧ w.cell? (ad.add (i.toNat * 4)) = some (.int .i64 (rd_T71 xs i).f0) ∧ w.cell? ⟨(ad.add (i.toNat * 4)).block, (ad.add (i.toNat * 4)).off + 1, none⟩ = some (.slice A1 (rd_T71 xs i).f1.length c1) ∧ w.cell? ⟨(ad.add (i.toNat * 4)).block, (ad.add (i.toNat * 4)).off + 2, none⟩ = some (.slice A2 (rd_T71 xs i).f2.length c2) ∧ w.cell? ⟨(ad.add (i.toNat * 4)).block, (ad.add (i.toNat * 4)).off + 3, none⟩ = some (.slice A3 (rd_T71 xs i).f3.length c3) ∧ (rd_T71 xs i).f1.length ≤ c1 ∧ (Kd.int .i64).C w A1 (rd_T71 xs i).f1.length (rd_T71 xs i).f1 ∧ (rd_T71 xs i).f2.length ≤ c2 ∧ (Kd.int .i64).C w A2 (rd_T71 xs i).f2.length (rd_T71 xs i).f2 ∧ (rd_T71 xs i).f3.length ≤ c3 ∧ k77.C w A3 (rd_T71 xs i).f3.length (rd_T71 xs i).f3 := by
  obtain ⟨ad, c, e, _, hK, hc0⟩ := Kd.C_get h z71 i h0 h1
  have hc : ∀ j u, c[j]? = some u → w.cell? (ad.add (i.toNat * 4 + j)) = some u := hc0
  obtain ⟨A1, c1, A2, c2, A3, c3, rfl, l1, g1, l2, g2, l3, g3⟩ := k71_open hK
  exact ⟨ad, A1, c1, A2, c2, A3, c3, e, hc 0 _ rfl, by rw [← add_field _ _ 1 (by omega)]; exact hc 1 _ rfl, by rw [← add_field _ _ 2 (by omega)]; exact hc 2 _ rfl, by rw [← add_field _ _ 3 (by omega)]; exact hc 3 _ rfl, l1, g1, l2, g2, l3, g3⟩
end Go.Proofs.YtbeelgaganbblaaDoor.PFnExactProofText
namespace Go.Proofs.YtbeelgaganbblaaDoor.PFnExactProofText
open Go.RowKit Go.Proofs.YtbeelgaganbblaaDoorW.PrintWords Go.Proofs.YtbeelgaganbblaaDoorW.PrintLast Go.Proofs.YtbeelgaganbblaaDoorW.PrintMore
attribute [local go_sem] max2_int min2_int max_two min_two max_three min_three max_four min_four   -- for this text's walks alone
set_option linter.unusedVariables false
set_option linter.unusedSimpArgs false
mutual
def spec_IsInt.j0 : Nat → ByteArray → Bool → Option (Bool)
  | 0, _, _ => none
  | k + 1, x0, x11 => if x11 = true then (if 1 ≤ (x0.size : Int) then (if (x0.extract 1 x0.size).toList = ([48] : List UInt8) then (some false) else (spec_IsInt.j1 k (x0.extract 1 x0.size))) else (none)) else (spec_IsInt.j1 k x0)
def spec_IsInt.j1 : Nat → ByteArray → Option (Bool)
  | 0, _ => none
  | k + 1, x0 => if (x0.size : Int) = 0 then (spec_IsInt.j2 k x0 true) else (if (x0.size : Int) > 2500 then (spec_IsInt.j2 k x0 true) else (if (x0.size : Int) > 1 then (if 0 < (x0.size : Int) then (spec_IsInt.j2 k x0 ((bt x0 0) == 48)) else (none)) else (spec_IsInt.j2 k x0 false)))
def spec_IsInt.j2 : Nat → ByteArray → Bool → Option (Bool)
  | 0, _, _ => none
  | k + 1, x0, x33 => if x33 = true then (some false) else (spec_IsInt.l0 k x0 0)
def spec_IsInt.l0 : Nat → ByteArray → Int → Option (Bool)
  | 0, _, _ => none
  | k + 1, x0, x3 => if x3 < (x0.size : Int) then (if 0 ≤ x3 then (if (bt x0 x3) < 48 then (some false) else (if (bt x0 x3) > 57 then (some false) else (spec_IsInt.l0 k x0 (wrap64 (x3 + 1))))) else (none)) else (some true)
end
def spec_IsInt.f (k : Nat) (a0 : ByteArray) : Option (Bool) := if (a0.size : Int) > 0 then (if 0 < (a0.size : Int) then (spec_IsInt.j0 k a0 ((bt a0 0) == 45)) else (none)) else (spec_IsInt.j0 k a0 false)
set_option maxHeartbeats 8000000 in
set_option maxRecDepth 100000 in
theorem spec_IsInt.calls (k : Nat) (a0 : ByteArray) (r : Bool) (w : World) (h : spec_IsInt.f k a0 = some r) :
    Calls Tryd.prog 89 #[.string a0] w fun e w' => e = .returned (.bool r) ∧ Drawn0 w w' := by
  have H : (if (a0.size : Int) > 0 then (if 0 < (a0.size : Int) then (spec_IsInt.j0 k a0 ((bt a0 0) == 45)) else (none)) else (spec_IsInt.j0 k a0 false)) = some r := h
  clear h
  have HC2 := Aside0.mk H
  clear H
  go_enter Tryd.func89, Tryd.ntmps89
  go_upto_region 1 with (fail)
  go_cut [11] (fun v11 wc => ∃ (kq : Nat) (x11_1 : Bool), v11 = .bool x11_1 ∧ Aside0 (spec_IsInt.j0 kq a0 x11_1 = some r) ∧ Aside0 (kq ≤ k) ∧ Drawn0 w wc)
  case first =>
    have H := HC2.out
    clear HC2
    by_cases c3 : (a0.size : Int) > 0
    · rw [if_pos c3] at H
      have c3b0 : decide (0 < (a0.size : Int)) = true := decide_eq_true c3
      have c3b1 : decide (0 < a0.size) = true := decide_eq_true (by omega)
      clear c3
      (first | rw [c3b0] | (simp only [i64_w, i32_w]; rw [c3b0]) | rw [c3b1] | skip)
      by_cases c4 : 0 < (a0.size : Int)
      · rw [if_pos c4] at H
        have c4b0 : decide (0 < (a0.size : Int)) = true := decide_eq_true c4
        have c4b1 : decide (0 < a0.size) = true := decide_eq_true (by omega)
        clear c4
        have H' := Aside0.mk H
        clear H
        have p5 : 0 ≤ (0 : Int) := (by omega)
        have q5 : 0 < a0.size := (by have : (0 : Int) < (a0.size : Int) := of_decide_eq_true (by first | (with_reducible assumption) | assumption); omega)
        have hx5 : ∀ h : 0 < a0.size, ((a0[0]'h).toNat : Int) = bt a0 0 := bt_at a0 0
        clear p5
        have qi5 : (0 < (a0.size : Int)) = True := eq_true (of_decide_eq_true (by first | (with_reducible assumption) | assumption))
        replace q5 := eq_true q5
        go_wp2
        go_meet
        case rel => exact ⟨_, (((bt a0 0) == 45)), (by first | rfl | (simp; done) | (simp [*]; done)), H', ⟨by first | omega | exact Nat.le_refl _⟩, by repeat (first | exact Drawn0.refl _ | apply Drawn0.step)⟩
      · rw [if_neg c4] at H
        exact absurd H (by simp)
    · rw [if_neg c3] at H
      have c3b0 : decide (0 < (a0.size : Int)) = false := decide_eq_false c3
      have c3b1 : decide (0 < a0.size) = false := decide_eq_false (by omega)
      clear c3
      (first | rw [c3b0] | (simp only [i64_w, i32_w]; rw [c3b0]) | rw [c3b1] | skip)
      have H' := Aside0.mk H
      clear H
      go_wp2
      go_meet
      case rel => exact ⟨_, (false), (by first | rfl | (simp; done) | (simp [*]; done)), H', ⟨by first | omega | exact Nat.le_refl _⟩, by repeat (first | exact Drawn0.refl _ | apply Drawn0.step)⟩
  case rest =>
    clear HC2
    try clear p2
    try clear c3
    try clear c3b0
    try clear c3b1
    try clear c4
    try clear c4b0
    try clear c4b1
    try clear p5
    try clear q5
    try clear hx5
    try clear qi5
    try clear p5
    try clear q5
    obtain ⟨kq, x11_1, rfl, HA, HJ1, ⟨mc1, rfl⟩⟩ := hcut
    cases kq with
    | zero => exact absurd HA.out (by simp [spec_IsInt.j0])
    | succ kj1 =>
      have H := HA.out
      clear HA
      simp only [spec_IsInt.j0] at H
      have HC6 := Aside0.mk H
      clear H
      go_upto_if 11 with (fail)
      go_cut [0] (fun v0 wc => ∃ (kq : Nat) (x0_5 : ByteArray), v0 = .string x0_5 ∧ Aside0 (spec_IsInt.j1 kq x0_5 = some r) ∧ Aside0 (kq ≤ kj1) ∧ Drawn0 w wc)
      case first =>
        have H := HC6.out
        clear HC6
        by_cases c7 : x11_1 = true
        · subst c7
          have H1 : (if 1 ≤ (a0.size : Int) then (if (a0.extract 1 a0.size).toList = ([48] : List UInt8) then (some false) else (spec_IsInt.j1 kj1 (a0.extract 1 a0.size))) else (none)) = some r := by rw [if_pos rfl] at H; exact H
          clear H
          have H := H1
          clear H1
          by_cases c8 : 1 ≤ (a0.size : Int)
          · rw [if_pos c8] at H
            have c8b0 := eq_true c8
            have c8b1 : decide (1 ≤ (a0.size : Int)) = true := decide_eq_true c8
            clear c8
            by_cases c9 : (a0.extract 1 a0.size).toList = ([48] : List UInt8)
            · rw [if_pos c9] at H
              have c9b0 : ((a0.extract 1 a0.size).toList == ([48] : List UInt8)) = true := beq_iff_eq.mpr c9
              have c9b1 : ((a0.extract 1 a0.size).toList != ([48] : List UInt8)) = false := bne_eq_false_iff_eq.mpr c9
              clear c9
              (first | rw [c9b0] | (simp only [i64_w, i32_w]; rw [c9b0]) | rw [c9b1] | skip)
              obtain rfl := Option.some.inj H
              go_wp2
              go_ret
              exact ⟨by first | rfl | (simp; done) | (simp [*]; done), by repeat (first | exact Drawn0.refl _ | apply Drawn0.step)⟩
            · rw [if_neg c9] at H
              have c9b0 : ((a0.extract 1 a0.size).toList == ([48] : List UInt8)) = false := beq_eq_false_iff_ne.mpr c9
              have c9b1 : ((a0.extract 1 a0.size).toList != ([48] : List UInt8)) = true := bne_iff_ne.mpr c9
              (first | rw [c9b0] | (simp only [i64_w, i32_w]; rw [c9b0]) | rw [c9b1] | skip)
              have H' := Aside0.mk H
              clear H
              go_wp2
              go_meet
              case rel => exact ⟨_, (a0.extract 1 a0.size), (by first | rfl | (simp; done) | (simp [*]; done)), H', ⟨by have := HJ1.out; first | omega | exact Nat.le_refl _⟩, by repeat (first | exact Drawn0.refl _ | apply Drawn0.step)⟩
          · rw [if_neg c8] at H
            exact absurd H (by simp)
        · replace c7 := Bool.eq_false_iff.mpr c7
          subst c7
          have H1 : (spec_IsInt.j1 kj1 a0) = some r := by rw [if_neg (show ¬ (false = true) by decide)] at H; exact H
          clear H
          have H := H1
          clear H1
          have H' := Aside0.mk H
          clear H
          go_wp2
          go_meet
          case rel => exact ⟨_, (a0), (by first | rfl | (simp; done) | (simp [*]; done)), H', ⟨by have := HJ1.out; first | omega | exact Nat.le_refl _⟩, by repeat (first | exact Drawn0.refl _ | apply Drawn0.step)⟩
      case rest =>
        clear HC6
        try clear c1
        try clear p2
        try clear c3
        try clear c3b0
        try clear c3b1
        try clear c4
        try clear c4b0
        try clear c4b1
        try clear p5
        try clear q5
        try clear hx5
        try clear qi5
        try clear c7
        try clear c8
        try clear c8b0
        try clear c8b1
        try clear c9
        try clear c9b0
        try clear c9b1
        try clear p2
        try clear p5
        try clear q5
        obtain ⟨kq, x0_5, rfl, HA, HJ5, ⟨mc5, rfl⟩⟩ := hcut
        cases kq with
        | zero => exact absurd HA.out (by simp [spec_IsInt.j1])
        | succ kj5 =>
          have H := HA.out
          clear HA
          simp only [spec_IsInt.j1] at H
          have HC10 := Aside0.mk H
          clear H
          go_upto_region 5 with (fail)
          go_cut [33] (fun v33 wc => ∃ (kq : Nat) (x33_9 : Bool), v33 = .bool x33_9 ∧ Aside0 (spec_IsInt.j2 kq x0_5 x33_9 = some r) ∧ Aside0 (kq ≤ kj5) ∧ Drawn0 w wc)
          case first =>
            have H := HC10.out
            clear HC10
            by_cases c11 : (x0_5.size : Int) = 0
            · rw [if_pos c11] at H
              have c11b0 : ((x0_5.size : Int) == 0) = true := beq_iff_eq.mpr c11
              have c11b1 : ((x0_5.size : Int) != 0) = false := bne_eq_false_iff_eq.mpr c11
              clear c11
              (first | rw [c11b0] | (simp only [i64_w, i32_w]; rw [c11b0]) | rw [c11b1] | skip)
              have H' := Aside0.mk H
              clear H
              go_wp2
              go_meet
              case rel => exact ⟨_, (true), (by first | rfl | (simp; done) | (simp [*]; done)), H', ⟨by have := HJ1.out; have := HJ5.out; first | omega | exact Nat.le_refl _⟩, by repeat (first | exact Drawn0.refl _ | apply Drawn0.step)⟩
            · rw [if_neg c11] at H
              have c11b0 : ((x0_5.size : Int) == 0) = false := beq_eq_false_iff_ne.mpr c11
              have c11b1 : ((x0_5.size : Int) != 0) = true := bne_iff_ne.mpr c11
              (first | rw [c11b0] | (simp only [i64_w, i32_w]; rw [c11b0]) | rw [c11b1] | skip)
              by_cases c12 : (x0_5.size : Int) > 2500
              · rw [if_pos c12] at H
                have c12b0 : decide (2500 < (x0_5.size : Int)) = true := decide_eq_true c12
                have c12b1 : decide (2500 < x0_5.size) = true := decide_eq_true (by omega)
                clear c12
                have H' := Aside0.mk H
                clear H
                go_wp2
                go_meet
                case rel => exact ⟨_, (true), (by first | rfl | (simp; done) | (simp [*]; done)), H', ⟨by have := HJ1.out; have := HJ5.out; first | omega | exact Nat.le_refl _⟩, by repeat (first | exact Drawn0.refl _ | apply Drawn0.step)⟩
              · rw [if_neg c12] at H
                have c12b0 : decide (2500 < (x0_5.size : Int)) = false := decide_eq_false c12
                have c12b1 : decide (2500 < x0_5.size) = false := decide_eq_false (by omega)
                clear c12
                by_cases c13 : (x0_5.size : Int) > 1
                · rw [if_pos c13] at H
                  have c13b0 : decide (1 < (x0_5.size : Int)) = true := decide_eq_true c13
                  have c13b1 : decide (1 < x0_5.size) = true := decide_eq_true (by omega)
                  clear c13
                  by_cases c14 : 0 < (x0_5.size : Int)
                  · rw [if_pos c14] at H
                    have c14b0 : decide (0 < (x0_5.size : Int)) = true := decide_eq_true c14
                    have c14b1 : decide (0 < x0_5.size) = true := decide_eq_true (by omega)
                    clear c14
                    have H' := Aside0.mk H
                    clear H
                    have p15 : 0 ≤ (0 : Int) := (by omega)
                    have q15 : 0 < x0_5.size := (by have : (0 : Int) < (x0_5.size : Int) := of_decide_eq_true (by first | (with_reducible assumption) | assumption); omega)
                    have hx15 : ∀ h : 0 < x0_5.size, ((x0_5[0]'h).toNat : Int) = bt x0_5 0 := bt_at x0_5 0
                    clear p15
                    have qi15 : (0 < (x0_5.size : Int)) = True := eq_true (of_decide_eq_true (by first | (with_reducible assumption) | assumption))
                    replace q15 := eq_true q15
                    go_wp2
                    go_meet
                    case rel => exact ⟨_, (((bt x0_5 0) == 48)), (by first | rfl | (simp; done) | (simp [*]; done)), H', ⟨by have := HJ1.out; have := HJ5.out; first | omega | exact Nat.le_refl _⟩, by repeat (first | exact Drawn0.refl _ | apply Drawn0.step)⟩
                  · rw [if_neg c14] at H
                    exact absurd H (by simp)
                · rw [if_neg c13] at H
                  have c13b0 : decide (1 < (x0_5.size : Int)) = false := decide_eq_false c13
                  have c13b1 : decide (1 < x0_5.size) = false := decide_eq_false (by omega)
                  clear c13
                  have H' := Aside0.mk H
                  clear H
                  go_wp2
                  go_meet
                  case rel => exact ⟨_, (false), (by first | rfl | (simp; done) | (simp [*]; done)), H', ⟨by have := HJ1.out; have := HJ5.out; first | omega | exact Nat.le_refl _⟩, by repeat (first | exact Drawn0.refl _ | apply Drawn0.step)⟩
          case rest =>
            clear HC10
            try clear c1
            try clear p1
            try clear q1
            try clear hx1
            try clear qi1
            try clear p2
            try clear c3
            try clear c3b0
            try clear c3b1
            try clear c4
            try clear c4b0
            try clear c4b1
            try clear c5
            try clear p5
            try clear q5
            try clear hx5
            try clear qi5
            try clear c7
            try clear c8
            try clear c8b0
            try clear c8b1
            try clear c9
            try clear c9b0
            try clear c9b1
            try clear c11
            try clear c11b0
            try clear c11b1
            try clear c12
            try clear c12b0
            try clear c12b1
            try clear c13
            try clear c13b0
            try clear c13b1
            try clear c14
            try clear c14b0
            try clear c14b1
            try clear p15
            try clear q15
            try clear hx15
            try clear qi15
            try clear p15
            try clear p2
            try clear p5
            try clear q15
            try clear q5
            obtain ⟨kq, x33_9, rfl, HA, HJ9, ⟨mc9, rfl⟩⟩ := hcut
            cases kq with
            | zero => exact absurd HA.out (by simp [spec_IsInt.j2])
            | succ kj9 =>
              have H := HA.out
              clear HA
              simp only [spec_IsInt.j2] at H
              by_cases c16 : x33_9 = true
              · subst c16
                have H1 : (some false) = some r := by rw [if_pos rfl] at H; exact H
                clear H
                have H := H1
                clear H1
                obtain rfl := Option.some.inj H
                go_wp2
                go_ret
                exact ⟨by first | rfl | (simp; done) | (simp [*]; done), by repeat (first | exact Drawn0.refl _ | apply Drawn0.step)⟩
              · replace c16 := Bool.eq_false_iff.mpr c16
                subst c16
                have H1 : (spec_IsInt.l0 kj9 x0_5 0) = some r := by rw [if_neg (show ¬ (false = true) by decide)] at H; exact H
                clear H
                have H := H1
                clear H1
                have H' := Aside0.mk H
                clear H
                go_wp2
                go_loopg [3] kj9 (fun kq v3 w' => ∃ (x3_4 : Int), v3 = .int .i64 x3_4 ∧ Aside0 (spec_IsInt.l0 kq x0_5 x3_4 = some r) ∧ Aside0 (kq ≤ kj9) ∧ Drawn0 w w')
                case atStart => exact ⟨(0), (by first | rfl | (simp; done) | (simp [*]; done)), H', ⟨Nat.le_refl _⟩, by repeat (first | exact Drawn0.refl _ | apply Drawn0.step)⟩
                case round =>
                  clear H'
                  try clear c1
                  try clear p1
                  try clear q1
                  try clear hx1
                  try clear qi1
                  try clear p2
                  try clear c3
                  try clear c3b0
                  try clear c3b1
                  try clear c4
                  try clear c4b0
                  try clear c4b1
                  try clear c5
                  try clear p5
                  try clear q5
                  try clear hx5
                  try clear qi5
                  try clear c7
                  try clear c8
                  try clear c8b0
                  try clear c8b1
                  try clear c9
                  try clear c9b0
                  try clear c9b1
                  try clear c11
                  try clear c11b0
                  try clear c11b1
                  try clear c12
                  try clear c12b0
                  try clear c12b1
                  try clear c13
                  try clear c13b0
                  try clear c13b1
                  try clear c14
                  try clear c14b0
                  try clear c14b1
                  try clear p15
                  try clear q15
                  try clear hx15
                  try clear qi15
                  try clear c16
                  try clear p1
                  try clear p15
                  try clear p2
                  try clear p5
                  try clear q1
                  try clear q15
                  try clear q5
                  obtain ⟨x3_4, rfl, HA, HK4, ⟨m4, rfl⟩⟩ := hrel
                  cases gk with
                  | zero => exact absurd HA.out (by simp [spec_IsInt.l0])
                  | succ k4 =>
                    have H := HA.out
                    clear HA
                    simp only [spec_IsInt.l0] at H
                    by_cases c17 : x3_4 < (x0_5.size : Int)
                    · rw [if_pos c17] at H
                      have c17b0 : decide (x3_4 < (x0_5.size : Int)) = true := decide_eq_true c17
                      clear c17
                      by_cases c18 : 0 ≤ x3_4
                      · rw [if_pos c18] at H
                        have c18b0 : decide (0 ≤ x3_4) = true := decide_eq_true c18
                        clear c18
                        by_cases c20 : (bt x0_5 x3_4) < 48
                        · rw [if_pos c20] at H
                          have c20b0 : decide ((bt x0_5 x3_4) < 48) = true := decide_eq_true c20
                          clear c20
                          obtain rfl := Option.some.inj H
                          have p19 : 0 ≤ (x3_4 : Int) := of_decide_eq_true (by first | (with_reducible assumption) | assumption)
                          have q19 : x3_4 < (x0_5.size : Int) := of_decide_eq_true (by first | (with_reducible assumption) | assumption)
                          have hx19 := bt_at x0_5 x3_4
                          replace p19 := eq_true p19
                          replace q19 := eq_true q19
                          go_wp2
                          go_ret
                          exact ⟨by first | rfl | (simp; done) | (simp [*]; done), by repeat (first | exact Drawn0.refl _ | apply Drawn0.step)⟩
                        · rw [if_neg c20] at H
                          have c20b0 : decide ((bt x0_5 x3_4) < 48) = false := decide_eq_false c20
                          clear c20
                          by_cases c22 : (bt x0_5 x3_4) > 57
                          · rw [if_pos c22] at H
                            have c22b0 : decide (57 < (bt x0_5 x3_4)) = true := decide_eq_true c22
                            clear c22
                            obtain rfl := Option.some.inj H
                            have p19 : 0 ≤ (x3_4 : Int) := of_decide_eq_true (by first | (with_reducible assumption) | assumption)
                            have q19 : x3_4 < (x0_5.size : Int) := of_decide_eq_true (by first | (with_reducible assumption) | assumption)
                            have hx19 := bt_at x0_5 x3_4
                            replace p19 := eq_true p19
                            replace q19 := eq_true q19
                            have p21 : 0 ≤ (x3_4 : Int) := of_decide_eq_true (by first | (with_reducible assumption) | assumption)
                            have q21 : x3_4 < (x0_5.size : Int) := of_decide_eq_true (by first | (with_reducible assumption) | assumption)
                            have hx21 := bt_at x0_5 x3_4
                            replace p21 := eq_true p21
                            replace q21 := eq_true q21
                            go_wp2
                            go_ret
                            exact ⟨by first | rfl | (simp; done) | (simp [*]; done), by repeat (first | exact Drawn0.refl _ | apply Drawn0.step)⟩
                          · rw [if_neg c22] at H
                            have c22b0 : decide (57 < (bt x0_5 x3_4)) = false := decide_eq_false c22
                            clear c22
                            have H' := Aside0.mk H
                            clear H
                            have p19 : 0 ≤ (x3_4 : Int) := of_decide_eq_true (by first | (with_reducible assumption) | assumption)
                            have q19 : x3_4 < (x0_5.size : Int) := of_decide_eq_true (by first | (with_reducible assumption) | assumption)
                            have hx19 := bt_at x0_5 x3_4
                            replace p19 := eq_true p19
                            replace q19 := eq_true q19
                            have p21 : 0 ≤ (x3_4 : Int) := of_decide_eq_true (by first | (with_reducible assumption) | assumption)
                            have q21 : x3_4 < (x0_5.size : Int) := of_decide_eq_true (by first | (with_reducible assumption) | assumption)
                            have hx21 := bt_at x0_5 x3_4
                            replace p21 := eq_true p21
                            replace q21 := eq_true q21
                            go_wp2
                            go_roundg k4
                            case measure => have := HJ1.out; have := HJ5.out; have := HJ9.out; have := HK4.out; omega
                            case rel => exact ⟨(wrap64 (x3_4 + 1)), (by first | rfl | (simp; done) | (simp [*]; done)), H', ⟨by have := HJ1.out; have := HJ5.out; have := HJ9.out; have := HK4.out; omega⟩, by repeat (first | exact Drawn0.refl _ | apply Drawn0.step)⟩
                      · rw [if_neg c18] at H
                        exact absurd H (by simp)
                    · rw [if_neg c17] at H
                      have c17b0 : decide (x3_4 < (x0_5.size : Int)) = false := decide_eq_false c17
                      clear c17
                      obtain rfl := Option.some.inj H
                      go_wp2
                      go_ret
                      exact ⟨by first | rfl | (simp; done) | (simp [*]; done), by repeat (first | exact Drawn0.refl _ | apply Drawn0.step)⟩
def laws_toIntS.l0 : Nat → List Int → List Int → Int → Option (List Int)
  | 0, _, _, _ => none
  | k + 1, x0, x3, x4 => if x4 < (x0.length : Int) then (if 0 ≤ x4 then (if x4 < (x3.length : Int) then (laws_toIntS.l0 k x0 (x3.set (x4 : Int).toNat (rd x0 x4)) (wrap64 (x4 + 1))) else (none)) else (none)) else (some x3)
def laws_toIntS.f (k : Nat) (l0 : List Int) : Option (List Int) := if 0 ≤ (l0.length : Int) then (if ((l0.length : Int) : Int).toNat ≤ 35184372088832 then (laws_toIntS.l0 k l0 (List.replicate ((l0.length : Int) : Int).toNat 0) 0) else (none)) else (none)
set_option maxHeartbeats 8000000 in
set_option maxRecDepth 100000 in
theorem laws_toIntS.calls (k : Nat) (A0 : Option Addr) (c0 : Nat) (l0 : List Int) (r : List Int) (w : World) (hr0 : Kd.C (Kd.int .i64) w A0 l0.length l0) (hc0 : l0.length ≤ c0) (h : laws_toIntS.f k l0 = some r) :
    Calls Tryd.prog 56 #[.slice A0 l0.length c0] w fun e w' => ∃ v0_ : Value, e = .returned (v0_) ∧ Kd.R (Kd.int .i64) 3 w' w.heap.size (fun _ => True) v0_ r ∧ Below w.heap.size w w' := by
  have HR0 := Aside0.mk hr0
  have HC0 := Aside0.mk hc0
  clear hr0 hc0
  have HB := Aside0.mk (Below.refl w.heap.size w)
  have H : (if 0 ≤ (l0.length : Int) then (if ((l0.length : Int) : Int).toNat ≤ 35184372088832 then (laws_toIntS.l0 k l0 (List.replicate ((l0.length : Int) : Int).toNat 0) 0) else (none)) else (none)) = some r := h
  clear h
  by_cases c2 : 0 ≤ (l0.length : Int)
  · rw [if_pos c2] at H
    have c2b0 := eq_true c2
    have c2b1 : decide (0 ≤ (l0.length : Int)) = true := decide_eq_true c2
    clear c2
    by_cases c3 : ((l0.length : Int) : Int).toNat ≤ 35184372088832
    · rw [if_pos c3] at H
      have c3b0 := eq_true c3
      have c3b1 : decide (((l0.length : Int) : Int).toNat ≤ 35184372088832) = true := decide_eq_true c3
      clear c3
      obtain ⟨y112, hy112⟩ : ∃ y_ : List Int, y_ = (List.replicate ((l0.length : Int) : Int).toNat 0) := ⟨_, rfl⟩
      replace H : (laws_toIntS.l0 k l0 y112 0) = some r := by first | (rw [hy112]; with_reducible exact H) | (have H2_ := (Option.bind_some _ _).symm.trans H; rw [hy112]; with_reducible exact H2_) | (have H2_ := (Option.bind_some _ _).symm.trans H; with_reducible exact H2_) | with_reducible exact H | (rw [hy112]; exact H) | exact H
      have Ny112 := Aside0.mk hy112
      clear hy112
      have H' := Aside0.mk H
      clear H
      go_enter Tryd.func56, Tryd.ntmps56
      go_wp2_with (first | ((with_reducible refine gate_dst (N := 7) rfl ?_); refine Kd.R_make (Kd.int .i64) _ 3 rfl (N := 7) rfl 62 _ _ rfl (l0.length : Int) rfl rfl Tryd.underlying62 (.int .i64 0) 8 info3 rfl (by decide) (by omega) 0 (ok := fun _ => True) (okp := fun _ => True) rfl (fun _ hk => hk) trivial (of_decide_eq_true (by first | (with_reducible assumption) | assumption)) (Nat.le_trans (Nat.mul_le_mul_right _ (of_decide_eq_true (by first | (with_reducible assumption) | assumption) : (l0.length : Int).toNat ≤ 35184372088832)) (by omega)) (Below.refl _ _) (Nat.le_refl _) ?_; intro v113 w4 ho5 hb hg_ hnew_; clear hg_ hnew_; (first | rw [← Ny112.out] at ho5 | (simp only [Int.reduceToNat] at ho5; rw [← Ny112.out] at ho5)); have n0_ := Aside0.mk (Kd.R_lower ho5 (below_size (by repeat (first | (with_reducible first | exact HB.out | apply below_alloc | apply pw_below_drewN | apply below_drew1) | exact HB.out)))); have n1_ := Aside0.mk (below_step (by repeat (first | (with_reducible first | exact HB.out | apply below_alloc | apply pw_below_drewN | apply below_drew1) | exact HB.out)) hb); clear HB; have HO114 := n0_; have HB := n1_; clear n0_ n1_; clear hb ho5))
      go_loopg [4] k (fun kq v4 w' => ∃ (x3_1 : List Int) (x4_1 : Int), v4 = .int .i64 x4_1 ∧ Aside0 (laws_toIntS.l0 kq l0 x3_1 x4_1 = some r) ∧ Aside0 (kq ≤ k) ∧ Aside0 (Kd.R (Kd.int .i64) 3 w' w.heap.size (fun _ => True) v113 x3_1) ∧ Aside0 (Below w.heap.size w w'))
      case atStart => exact ⟨(y112), (0), (by first | rfl | (simp; done) | (simp [*]; done)), H', ⟨Nat.le_refl _⟩, ⟨by (with_reducible repeat (first | apply Kd.R_alloc | apply Kd.R_drewN | apply Kd.R_drew)); exact HO114.out⟩, ⟨by repeat (first | (with_reducible first | exact HB.out | apply below_alloc | apply pw_below_drewN | apply below_drew1) | exact HB.out)⟩⟩
      case round =>
        clear H'
        try clear c2
        try clear c2b0
        try clear c2b1
        try clear p2
        try clear c3
        try clear c3b0
        try clear c3b1
        try clear c5
        obtain ⟨x3_1, x4_1, rfl, HA, HK1, HO_3, HB⟩ := hrel
        cases gk with
        | zero => exact absurd HA.out (by simp [laws_toIntS.l0])
        | succ k1 =>
          have H := HA.out
          clear HA
          simp only [laws_toIntS.l0] at H
          by_cases c6 : x4_1 < (l0.length : Int)
          · rw [if_pos c6] at H
            have c6b0 : decide (x4_1 < (l0.length : Int)) = true := decide_eq_true c6
            clear c6
            by_cases c7 : 0 ≤ x4_1
            · rw [if_pos c7] at H
              have c7b0 : decide (0 ≤ x4_1) = true := decide_eq_true c7
              clear c7
              by_cases c8 : x4_1 < (x3_1.length : Int)
              · rw [if_pos c8] at H
                have c8b0 : decide (x4_1 < (x3_1.length : Int)) = true := decide_eq_true c8
                clear c8
                obtain ⟨y116, hy116⟩ : ∃ y_ : List Int, y_ = (x3_1.set (x4_1 : Int).toNat (rd l0 x4_1)) := ⟨_, rfl⟩
                replace H : (laws_toIntS.l0 k1 l0 y116 (wrap64 (x4_1 + 1))) = some r := by first | (rw [hy116]; with_reducible exact H) | (have H2_ := (Option.bind_some _ _).symm.trans H; rw [hy116]; with_reducible exact H2_) | (have H2_ := (Option.bind_some _ _).symm.trans H; with_reducible exact H2_) | with_reducible exact H | (rw [hy116]; exact H) | exact H
                have Ny116 := Aside0.mk hy116
                clear hy116
                have H' := Aside0.mk H
                clear H
                have p115 : 0 ≤ (x4_1 : Int) := of_decide_eq_true (by first | (with_reducible assumption) | assumption)
                have q115 : x4_1 < (l0.length : Int) := of_decide_eq_true (by first | (with_reducible assumption) | assumption)
                obtain ⟨ad115, e115, hx115_0⟩ := Kd.at_int HR0.out x4_1 p115 q115
                cases e115
                replace hx115_0 := (HB.out.cell (World.block_lt_of_cell? w _ hx115_0)).trans hx115_0
                replace p115 := eq_true p115
                replace q115 := eq_true q115
                have p9 : 0 ≤ (x4_1 : Int) := of_decide_eq_true (by first | (with_reducible assumption) | assumption)
                have q9 : (x4_1 : Int) < ((x3_1.length : Int) : Int) := of_decide_eq_true (by first | (with_reducible assumption) | assumption)
                obtain ⟨go9, co9, eo9, gb9, gl9, cl9, HG9⟩ := Kd.R_form HO_3.out (by omega)
                (first | cases eo9 | (injection eo9 with ea_ en_ ec_; (first | subst ea_ | (injection ea_ with ea_; subst ea_)); subst ec_; clear en_))
                have GB9 := Aside0.mk gb9
                have GG9 := Aside0.mk HG9
                clear gb9 gl9 HG9
                obtain ⟨hx9_0, hf9_0⟩ := Kd.R_celln 0 HO_3.out (x4_1 : Int) p9 q9
                replace p9 := eq_true p9
                replace q9 := eq_true q9
                have HP10 := Kd.R_putg HO_3.out (x4_1 : Int) (rd l0 x4_1)
                go_wp2_with (first | ((with_reducible refine gate_store (t := 3) (p := 20) rfl ?_); refine store_event (t := 3) (p := 20) (v := ?vo_w11) (w1 := (wr.setCell ⟨go9, (x4_1 : Int).toNat, none⟩ (.int .i64 (rd l0 x4_1)))) ?hg ?ho ?hn ?hr ?_; (case ho => rfl); (case hg => rfl); (case hn => rfl); (case hr => first | (go_simp; done) | (go_simp; rfl)); intro w11 hw; have hg : wr.grownBy w11 (some go9) := (by rw [hw]; exact HP10.2); have hp_ : Kd.R (Kd.int .i64) 3 w11 w.heap.size (fun _ => True) (.slice (some ⟨go9, 0, none⟩) x3_1.length co9) y116 := (by rw [hw, Ny116.out]; exact HP10.1); clear HP10; have n0_ := Aside0.mk (hp_); have n1_ := Aside0.mk ((by rw [hw]; exact below_set (HB.out) GB9.out : Below w.heap.size w w11)); clear HO_3; clear HB; have HO_3 := n0_; have HB := n1_; clear n0_ n1_; clear hg hw hp_))
                go_roundg k1
                case measure => have := HK1.out; omega
                case rel => exact ⟨(y116), (wrap64 (x4_1 + 1)), (by first | rfl | (simp; done) | (simp [*]; done)), H', ⟨by have := HK1.out; omega⟩, ⟨by (with_reducible repeat (first | apply Kd.R_alloc | apply Kd.R_drewN | apply Kd.R_drew)); exact HO_3.out⟩, ⟨by repeat (first | (with_reducible first | exact HB.out | apply below_alloc | apply pw_below_drewN | apply below_drew1) | exact HB.out)⟩⟩
              · rw [if_neg c8] at H
                exact absurd H (by simp)
            · rw [if_neg c7] at H
              exact absurd H (by simp)
          · rw [if_neg c6] at H
            have c6b0 : decide (x4_1 < (l0.length : Int)) = false := decide_eq_false c6
            clear c6
            obtain rfl := Option.some.inj H
            go_wp2
            go_ret
            exact ⟨_, by first | rfl | (simp [errW_none, errW_some] <;> rfl) | (simp [*, errW_none, errW_some] <;> rfl), by (with_reducible repeat (first | apply Kd.R_alloc | apply Kd.R_drewN | apply Kd.R_drew)); exact HO_3.out, by repeat (first | (with_reducible first | exact HB.out | apply below_alloc | apply pw_below_drewN | apply below_drew1) | exact HB.out)⟩
    · rw [if_neg c3] at H
      exact absurd H (by simp)
  · rw [if_neg c2] at H
    exact absurd H (by simp)
def laws_toStringS.l0 : Nat → List ByteArray → List ByteArray → Int → Option (List ByteArray)
  | 0, _, _, _ => none
  | k + 1, x0, x3, x4 => if x4 < (x0.length : Int) then (if 0 ≤ x4 then (if x4 < (x3.length : Int) then (laws_toStringS.l0 k x0 (x3.set (x4 : Int).toNat (rdOf ByteArray.empty x0 x4)) (wrap64 (x4 + 1))) else (none)) else (none)) else (some x3)
def laws_toStringS.f (k : Nat) (l0 : List ByteArray) : Option (List ByteArray) := if 0 ≤ (l0.length : Int) then (if ((l0.length : Int) : Int).toNat ≤ 17592186044416 then (laws_toStringS.l0 k l0 (List.replicate ((l0.length : Int) : Int).toNat (⟨#[]⟩ : ByteArray)) 0) else (none)) else (none)
set_option maxHeartbeats 8000000 in
set_option maxRecDepth 100000 in
theorem laws_toStringS.calls (k : Nat) (A0 : Option Addr) (c0 : Nat) (l0 : List ByteArray) (r : List ByteArray) (w : World) (hr0 : Kd.C Kd.string w A0 l0.length l0) (hc0 : l0.length ≤ c0) (h : laws_toStringS.f k l0 = some r) :
    Calls Tryd.prog 109 #[.slice A0 l0.length c0] w fun e w' => ∃ v0_ : Value, e = .returned (v0_) ∧ Kd.R Kd.string 9 w' w.heap.size (fun _ => True) v0_ r ∧ Below w.heap.size w w' := by
  have HR0 := Aside0.mk hr0
  have HC0 := Aside0.mk hc0
  clear hr0 hc0
  have HB := Aside0.mk (Below.refl w.heap.size w)
  have H : (if 0 ≤ (l0.length : Int) then (if ((l0.length : Int) : Int).toNat ≤ 17592186044416 then (laws_toStringS.l0 k l0 (List.replicate ((l0.length : Int) : Int).toNat (⟨#[]⟩ : ByteArray)) 0) else (none)) else (none)) = some r := h
  clear h
  by_cases c2 : 0 ≤ (l0.length : Int)
  · rw [if_pos c2] at H
    have c2b0 := eq_true c2
    have c2b1 : decide (0 ≤ (l0.length : Int)) = true := decide_eq_true c2
    clear c2
    by_cases c3 : ((l0.length : Int) : Int).toNat ≤ 17592186044416
    · rw [if_pos c3] at H
      have c3b0 := eq_true c3
      have c3b1 : decide (((l0.length : Int) : Int).toNat ≤ 17592186044416) = true := decide_eq_true c3
      clear c3
      obtain ⟨y117, hy117⟩ : ∃ y_ : List ByteArray, y_ = (List.replicate ((l0.length : Int) : Int).toNat (⟨#[]⟩ : ByteArray)) := ⟨_, rfl⟩
      replace H : (laws_toStringS.l0 k l0 y117 0) = some r := by first | (rw [hy117]; with_reducible exact H) | (have H2_ := (Option.bind_some _ _).symm.trans H; rw [hy117]; with_reducible exact H2_) | (have H2_ := (Option.bind_some _ _).symm.trans H; with_reducible exact H2_) | with_reducible exact H | (rw [hy117]; exact H) | exact H
      have Ny117 := Aside0.mk hy117
      clear hy117
      have H' := Aside0.mk H
      clear H
      go_enter Tryd.func109, Tryd.ntmps109
      go_wp2_with (first | ((with_reducible refine gate_dst (N := 7) rfl ?_); refine Kd.R_make Kd.string _ 9 rfl (N := 7) rfl 74 _ _ rfl (l0.length : Int) rfl rfl Tryd.underlying74 (.string ⟨#[]⟩) 16 info9 rfl (by decide) (by omega) (⟨#[]⟩ : ByteArray) (ok := fun _ => True) (okp := fun _ => True) rfl (fun _ hk => hk) trivial (of_decide_eq_true (by first | (with_reducible assumption) | assumption)) (Nat.le_trans (Nat.mul_le_mul_right _ (of_decide_eq_true (by first | (with_reducible assumption) | assumption) : (l0.length : Int).toNat ≤ 17592186044416)) (by omega)) (Below.refl _ _) (Nat.le_refl _) ?_; intro v118 w4 ho5 hb hg_ hnew_; clear hg_ hnew_; (first | rw [← Ny117.out] at ho5 | (simp only [Int.reduceToNat] at ho5; rw [← Ny117.out] at ho5)); have n0_ := Aside0.mk (Kd.R_lower ho5 (below_size (by repeat (first | (with_reducible first | exact HB.out | apply below_alloc | apply pw_below_drewN | apply below_drew1) | exact HB.out)))); have n1_ := Aside0.mk (below_step (by repeat (first | (with_reducible first | exact HB.out | apply below_alloc | apply pw_below_drewN | apply below_drew1) | exact HB.out)) hb); clear HB; have HO119 := n0_; have HB := n1_; clear n0_ n1_; clear hb ho5))
      go_loopg [4] k (fun kq v4 w' => ∃ (x3_1 : List ByteArray) (x4_1 : Int), v4 = .int .i64 x4_1 ∧ Aside0 (laws_toStringS.l0 kq l0 x3_1 x4_1 = some r) ∧ Aside0 (kq ≤ k) ∧ Aside0 (Kd.R Kd.string 9 w' w.heap.size (fun _ => True) v118 x3_1) ∧ Aside0 (Below w.heap.size w w'))
      case atStart => exact ⟨(y117), (0), (by first | rfl | (simp; done) | (simp [*]; done)), H', ⟨Nat.le_refl _⟩, ⟨by (with_reducible repeat (first | apply Kd.R_alloc | apply Kd.R_drewN | apply Kd.R_drew)); exact HO119.out⟩, ⟨by repeat (first | (with_reducible first | exact HB.out | apply below_alloc | apply pw_below_drewN | apply below_drew1) | exact HB.out)⟩⟩
      case round =>
        clear H'
        try clear c1
        try clear c2
        try clear c2b0
        try clear c2b1
        try clear p2
        try clear c3
        try clear c3b0
        try clear c3b1
        obtain ⟨x3_1, x4_1, rfl, HA, HK1, HO_3, HB⟩ := hrel
        cases gk with
        | zero => exact absurd HA.out (by simp [laws_toStringS.l0])
        | succ k1 =>
          have H := HA.out
          clear HA
          simp only [laws_toStringS.l0] at H
          by_cases c6 : x4_1 < (l0.length : Int)
          · rw [if_pos c6] at H
            have c6b0 : decide (x4_1 < (l0.length : Int)) = true := decide_eq_true c6
            clear c6
            by_cases c7 : 0 ≤ x4_1
            · rw [if_pos c7] at H
              have c7b0 : decide (0 ≤ x4_1) = true := decide_eq_true c7
              clear c7
              by_cases c8 : x4_1 < (x3_1.length : Int)
              · rw [if_pos c8] at H
                have c8b0 : decide (x4_1 < (x3_1.length : Int)) = true := decide_eq_true c8
                clear c8
                obtain ⟨y121, hy121⟩ : ∃ y_ : List ByteArray, y_ = (x3_1.set (x4_1 : Int).toNat (rdOf ByteArray.empty l0 x4_1)) := ⟨_, rfl⟩
                replace H : (laws_toStringS.l0 k1 l0 y121 (wrap64 (x4_1 + 1))) = some r := by first | (rw [hy121]; with_reducible exact H) | (have H2_ := (Option.bind_some _ _).symm.trans H; rw [hy121]; with_reducible exact H2_) | (have H2_ := (Option.bind_some _ _).symm.trans H; with_reducible exact H2_) | with_reducible exact H | (rw [hy121]; exact H) | exact H
                have Ny121 := Aside0.mk hy121
                clear hy121
                have H' := Aside0.mk H
                clear H
                have p120 : 0 ≤ (x4_1 : Int) := of_decide_eq_true (by first | (with_reducible assumption) | assumption)
                have q120 : x4_1 < (l0.length : Int) := of_decide_eq_true (by first | (with_reducible assumption) | assumption)
                obtain ⟨ad120, e120, hx120_0⟩ := Kd.at_string HR0.out x4_1 p120 q120
                cases e120
                replace hx120_0 := (HB.out.cell (World.block_lt_of_cell? w _ hx120_0)).trans hx120_0
                replace p120 := eq_true p120
                replace q120 := eq_true q120
                have p9 : 0 ≤ (x4_1 : Int) := of_decide_eq_true (by first | (with_reducible assumption) | assumption)
                have q9 : (x4_1 : Int) < ((x3_1.length : Int) : Int) := of_decide_eq_true (by first | (with_reducible assumption) | assumption)
                obtain ⟨go9, co9, eo9, gb9, gl9, cl9, HG9⟩ := Kd.R_form HO_3.out (by omega)
                (first | cases eo9 | (injection eo9 with ea_ en_ ec_; (first | subst ea_ | (injection ea_ with ea_; subst ea_)); subst ec_; clear en_))
                have GB9 := Aside0.mk gb9
                have GG9 := Aside0.mk HG9
                clear gb9 gl9 HG9
                obtain ⟨hx9_0, hf9_0⟩ := Kd.R_celln (⟨#[]⟩ : ByteArray) HO_3.out (x4_1 : Int) p9 q9
                replace p9 := eq_true p9
                replace q9 := eq_true q9
                have HP10 := Kd.R_putg HO_3.out (x4_1 : Int) (rdOf ByteArray.empty l0 x4_1)
                go_wp2_with (first | ((with_reducible refine gate_store (t := 9) (p := 20) rfl ?_); refine store_event (t := 9) (p := 20) (v := ?vo_w11) (w1 := (wr.setCell ⟨go9, (x4_1 : Int).toNat, none⟩ (.string (rdOf ByteArray.empty l0 x4_1)))) ?hg ?ho ?hn ?hr ?_; (case ho => rfl); (case hg => rfl); (case hn => rfl); (case hr => first | (go_simp; done) | (go_simp; rfl)); intro w11 hw; have hg : wr.grownBy w11 (some go9) := (by rw [hw]; exact HP10.2); have hp_ : Kd.R Kd.string 9 w11 w.heap.size (fun _ => True) (.slice (some ⟨go9, 0, none⟩) x3_1.length co9) y121 := (by rw [hw, Ny121.out]; exact HP10.1); clear HP10; have n0_ := Aside0.mk (hp_); have n1_ := Aside0.mk ((by rw [hw]; exact below_set (HB.out) GB9.out : Below w.heap.size w w11)); clear HO_3; clear HB; have HO_3 := n0_; have HB := n1_; clear n0_ n1_; clear hg hw hp_))
                go_roundg k1
                case measure => have := HK1.out; omega
                case rel => exact ⟨(y121), (wrap64 (x4_1 + 1)), (by first | rfl | (simp; done) | (simp [*]; done)), H', ⟨by have := HK1.out; omega⟩, ⟨by (with_reducible repeat (first | apply Kd.R_alloc | apply Kd.R_drewN | apply Kd.R_drew)); exact HO_3.out⟩, ⟨by repeat (first | (with_reducible first | exact HB.out | apply below_alloc | apply pw_below_drewN | apply below_drew1) | exact HB.out)⟩⟩
              · rw [if_neg c8] at H
                exact absurd H (by simp)
            · rw [if_neg c7] at H
              exact absurd H (by simp)
          · rw [if_neg c6] at H
            have c6b0 : decide (x4_1 < (l0.length : Int)) = false := decide_eq_false c6
            clear c6
            obtain rfl := Option.some.inj H
            go_wp2
            go_ret
            exact ⟨_, by first | rfl | (simp [errW_none, errW_some] <;> rfl) | (simp [*, errW_none, errW_some] <;> rfl), by (with_reducible repeat (first | apply Kd.R_alloc | apply Kd.R_drewN | apply Kd.R_drew)); exact HO_3.out, by repeat (first | (with_reducible first | exact HB.out | apply below_alloc | apply pw_below_drewN | apply below_drew1) | exact HB.out)⟩
    · rw [if_neg c3] at H
      exact absurd H (by simp)
  · rw [if_neg c2] at H
    exact absurd H (by simp)
def laws_toTreeNode.f (k : Nat) (a0_0 : Int) (a0_1 : ByteArray) (l0_2 : List ByteArray) : Option (Int × ByteArray × List ByteArray) := (laws_toStringS.f k l0_2).bind fun t125 => (some (a0_0, a0_1, t125))
set_option maxHeartbeats 8000000 in
set_option maxRecDepth 100000 in
theorem laws_toTreeNode.calls (k : Nat) (a0_0 : Int) (a0_1 : ByteArray) (A0_2 : Option Addr) (c0_2 : Nat) (l0_2 : List ByteArray) (r1 : Int) (r2 : ByteArray) (r3 : List ByteArray) (w : World) (hr0_2 : Kd.C Kd.string w A0_2 l0_2.length l0_2) (hc0_2 : l0_2.length ≤ c0_2) (h : laws_toTreeNode.f k a0_0 a0_1 l0_2 = some (r1, r2, r3)) :
    Calls Tryd.prog 92 #[.agg #[.int .i64 a0_0, .string a0_1, .slice A0_2 l0_2.length c0_2]] w fun e w' => ∃ v2_ : Value, e = .returned (.agg #[.int .i64 r1, .string r2, v2_]) ∧ Kd.R Kd.string 9 w' w.heap.size (fun _ => True) v2_ r3 ∧ Below w.heap.size w w' := by
  have hu122 := Tryd.underlying122
  have hu77 := Tryd.underlying77
  have HR0_2 := Aside0.mk hr0_2
  have HC0_2 := Aside0.mk hc0_2
  clear hr0_2 hc0_2
  have HB := Aside0.mk (Below.refl w.heap.size w)
  have H : ((laws_toStringS.f k l0_2).bind fun t125 => (some (a0_0, a0_1, t125))) = some (r1, r2, r3) := h
  clear h
  replace H := Option.bind_eq_some_iff.mp H
  obtain ⟨t125, A20, H⟩ := H
  replace H : (some (a0_0, a0_1, t125)) = some (r1, r2, r3) := H
  have A2 := Aside0.mk A20
  clear A20
  simp only [Option.some.injEq, Prod.mk.injEq] at H
  obtain ⟨rfl, rfl, rfl⟩ := H
  go_enter Tryd.func92, Tryd.ntmps92
  go_wp2_with (first | ((with_reducible refine gate_dst (N := 1) rfl ?_); refine box_event ?hg (N := 1) ?hd (cs := #[.int .i64 a0_0, .string a0_1, .slice A0_2 l0_2.length c0_2]) (t := 122) ?hr ?_; (case hd => rfl); (case hg => rfl); (case hr => first | (go_simp; done) | (go_simp; rfl)); intro gb122 hg w3 hbox hb; have n0_ := Aside0.mk (below_step (by repeat (first | (with_reducible first | exact HB.out | apply below_alloc | apply pw_below_drewN | apply below_drew1) | exact HB.out)) hb); have n1_ := Aside0.mk (hbox); have n2_ := Aside0.mk ((by rw [hg]; exact (below_size (by repeat (first | (with_reducible first | exact HB.out | apply below_alloc | apply pw_below_drewN | apply below_drew1) | exact HB.out))) : w.heap.size ≤ gb122)); have n3_ := Aside0.mk ((by rw [hg]; exact (below_size (by repeat (first | (with_reducible first | exact HB.out | apply below_alloc | apply pw_below_drewN | apply below_drew1) | exact HB.out))) : w.heap.size ≤ gb122)); clear HB; have HB := n0_; have BK122 := n1_; have GW122 := n2_; have GE122 := n3_; clear n0_ n1_ n2_ n3_; clear hb hbox hg) | ((with_reducible refine gate_dst (N := 2) rfl ?_); refine box_event ?hg (N := 2) ?hd (cs := #[.int .i64 0, .string (⟨#[]⟩ : ByteArray), .slice none 0 0]) (t := 77) ?hr ?_; (case hd => rfl); (case hg => rfl); (case hr => first | (go_simp; done) | (go_simp; rfl)); intro gb123 hg w4 hbox hb; have n0_ := Aside0.mk (blk_below (g := gb122) (o := .cells #[.int .i64 a0_0, .string a0_1, .slice A0_2 l0_2.length c0_2] 122 (0, 0)) (by (with_reducible repeat (first | refine blk_drewN ?_ _ | refine blk_drew ?_ | refine blk_alloc ?_ _)); exact BK122.out) hb); have n1_ := Aside0.mk (below_step (by repeat (first | (with_reducible first | exact HB.out | apply below_alloc | apply pw_below_drewN | apply below_drew1 | refine below_set ?_ GE122.out) | exact HB.out)) hb); have n2_ := Aside0.mk (hbox); have n3_ := Aside0.mk ((by rw [hg]; exact (below_size (by repeat (first | (with_reducible first | exact HB.out | apply below_alloc | apply pw_below_drewN | apply below_drew1 | refine below_set ?_ GE122.out) | exact HB.out))) : w.heap.size ≤ gb123)); have n4_ := Aside0.mk ((by rw [hg]; exact (below_size (by repeat (first | (with_reducible first | exact HB.out | apply below_alloc | apply pw_below_drewN | apply below_drew1 | refine below_set ?_ GE122.out) | exact HB.out))) : w.heap.size ≤ gb123)); have n5_ := Aside0.mk ((by rw [hg]; exact Nat.ne_of_lt (blk_lt (g := gb122) (o := .cells #[.int .i64 a0_0, .string a0_1, .slice A0_2 l0_2.length c0_2] 122 (0, 0)) (by (with_reducible repeat (first | refine blk_drewN ?_ _ | refine blk_drew ?_ | refine blk_alloc ?_ _)); exact BK122.out)) : gb122 ≠ gb123)); have n6_ := Aside0.mk ((by rw [hg]; exact Nat.ne_of_gt (blk_lt (g := gb122) (o := .cells #[.int .i64 a0_0, .string a0_1, .slice A0_2 l0_2.length c0_2] 122 (0, 0)) (by (with_reducible repeat (first | refine blk_drewN ?_ _ | refine blk_drew ?_ | refine blk_alloc ?_ _)); exact BK122.out)) : gb123 ≠ gb122)); clear BK122; clear HB; have BK122 := n0_; have HB := n1_; have BK123 := n2_; have GW123 := n3_; have GE123 := n4_; have NB122_123 := n5_; have NB123_122 := n6_; clear n0_ n1_ n2_ n3_ n4_ n5_ n6_; clear hb hbox hg) | ((with_reducible refine gate_dst (N := 3) rfl ?_); refine box_event ?hg (N := 3) ?hd (cs := #[.int .i64 0, .string (⟨#[]⟩ : ByteArray), .slice none 0 0]) (t := 77) ?hr ?_; (case hd => rfl); (case hg => rfl); (case hr => first | (go_simp; done) | (go_simp; rfl)); intro gb124 hg w5 hbox hb; have n0_ := Aside0.mk (blk_below (g := gb122) (o := .cells #[.int .i64 a0_0, .string a0_1, .slice A0_2 l0_2.length c0_2] 122 (0, 0)) (by (with_reducible repeat (first | refine blk_drewN ?_ _ | refine blk_drew ?_ | refine blk_alloc ?_ _)); exact BK122.out) hb); have n1_ := Aside0.mk (blk_below (g := gb123) (o := .cells #[.int .i64 0, .string (⟨#[]⟩ : ByteArray), .slice none 0 0] 77 (0, 0)) (by (with_reducible repeat (first | refine blk_drewN ?_ _ | refine blk_drew ?_ | refine blk_alloc ?_ _)); exact BK123.out) hb); have n2_ := Aside0.mk (below_step (by repeat (first | (with_reducible first | exact HB.out | apply below_alloc | apply pw_below_drewN | apply below_drew1 | refine below_set ?_ GE122.out | refine below_set ?_ GE123.out) | exact HB.out)) hb); have n3_ := Aside0.mk (hbox); have n4_ := Aside0.mk ((by rw [hg]; exact (below_size (by repeat (first | (with_reducible first | exact HB.out | apply below_alloc | apply pw_below_drewN | apply below_drew1 | refine below_set ?_ GE122.out | refine below_set ?_ GE123.out) | exact HB.out))) : w.heap.size ≤ gb124)); have n5_ := Aside0.mk ((by rw [hg]; exact (below_size (by repeat (first | (with_reducible first | exact HB.out | apply below_alloc | apply pw_below_drewN | apply below_drew1 | refine below_set ?_ GE122.out | refine below_set ?_ GE123.out) | exact HB.out))) : w.heap.size ≤ gb124)); have n6_ := Aside0.mk ((by rw [hg]; exact Nat.ne_of_lt (blk_lt (g := gb122) (o := .cells #[.int .i64 a0_0, .string a0_1, .slice A0_2 l0_2.length c0_2] 122 (0, 0)) (by (with_reducible repeat (first | refine blk_drewN ?_ _ | refine blk_drew ?_ | refine blk_alloc ?_ _)); exact BK122.out)) : gb122 ≠ gb124)); have n7_ := Aside0.mk ((by rw [hg]; exact Nat.ne_of_gt (blk_lt (g := gb122) (o := .cells #[.int .i64 a0_0, .string a0_1, .slice A0_2 l0_2.length c0_2] 122 (0, 0)) (by (with_reducible repeat (first | refine blk_drewN ?_ _ | refine blk_drew ?_ | refine blk_alloc ?_ _)); exact BK122.out)) : gb124 ≠ gb122)); have n8_ := Aside0.mk ((by rw [hg]; exact Nat.ne_of_lt (blk_lt (g := gb123) (o := .cells #[.int .i64 0, .string (⟨#[]⟩ : ByteArray), .slice none 0 0] 77 (0, 0)) (by (with_reducible repeat (first | refine blk_drewN ?_ _ | refine blk_drew ?_ | refine blk_alloc ?_ _)); exact BK123.out)) : gb123 ≠ gb124)); have n9_ := Aside0.mk ((by rw [hg]; exact Nat.ne_of_gt (blk_lt (g := gb123) (o := .cells #[.int .i64 0, .string (⟨#[]⟩ : ByteArray), .slice none 0 0] 77 (0, 0)) (by (with_reducible repeat (first | refine blk_drewN ?_ _ | refine blk_drew ?_ | refine blk_alloc ?_ _)); exact BK123.out)) : gb124 ≠ gb123)); clear BK122; clear BK123; clear HB; have BK122 := n0_; have BK123 := n1_; have HB := n2_; have BK124 := n3_; have GW124 := n4_; have GE124 := n5_; have NB122_124 := n6_; have NB124_122 := n7_; have NB123_124 := n8_; have NB124_123 := n9_; clear n0_ n1_ n2_ n3_ n4_ n5_ n6_ n7_ n8_ n9_; clear hb hbox hg; have hnb6 := NB122_123.out; have hnc6 := NB123_122.out; have hnb7 := NB122_124.out; have hnc7 := NB124_122.out; have hcz8_0 : w5.cell? ⟨gb122, 0, none⟩ = some (.int .i64 a0_0) := (blk_cell BK122.out 0).trans rfl; have hcz8_1 : w5.cell? ⟨gb122, 1, none⟩ = some (.string a0_1) := (blk_cell BK122.out 1).trans rfl; have hcz8_2 : w5.cell? ⟨gb122, 2, none⟩ = some (.slice A0_2 l0_2.length c0_2) := (blk_cell BK122.out 2).trans rfl; have hfz8_0 := blk_frozen BK122.out 0; have hfz8_1 := blk_frozen BK122.out 1; have hfz8_2 := blk_frozen BK122.out 2; have hnb9 := NB124_123.out; have hnc9 := NB123_124.out; have hcz10_0 : w5.cell? ⟨gb124, 0, none⟩ = some (.int .i64 0) := (blk_cell BK124.out 0).trans rfl; have hcz10_1 : w5.cell? ⟨gb124, 1, none⟩ = some (.string (⟨#[]⟩ : ByteArray)) := (blk_cell BK124.out 1).trans rfl; have hcz10_2 : w5.cell? ⟨gb124, 2, none⟩ = some (.slice none 0 0) := (blk_cell BK124.out 2).trans rfl; have hfz10_0 := blk_frozen BK124.out 0; have hfz10_1 := blk_frozen BK124.out 1; have hfz10_2 := blk_frozen BK124.out 2) | ((with_reducible refine gate_callee (f := 109) rfl ?_); refine goesL_ (some 12) rfl rfl Tryd.func109 (by kernel_rfl) rfl #[.slice A0_2 l0_2.length c0_2] rfl (by (try simp only [List.map_toArray, List.map_cons, List.map_nil]); first | done | rfl | (simp only [List.length_drop, List.length_take]; rfl)) ?_; (with_reducible refine (laws_toStringS.calls k _ _ l0_2 t125 _ ?side1 ?side2 A2.out).mono ?_); (case side1 => exact Kd.C_below HR0_2.out (by repeat (first | (with_reducible first | exact HB.out | apply below_alloc | apply pw_below_drewN | apply below_drew1 | refine below_set ?_ GE122.out | refine below_set ?_ GE123.out | refine below_set ?_ GE124.out) | exact HB.out))); (case side2 => exact HC0_2.out); rintro e w11 ⟨v126, rfl, ho0, hb⟩; refine ⟨_, rfl, ?_⟩; have n0_ := Aside0.mk (Kd.R_lower ho0 (below_size (by repeat (first | (with_reducible first | exact HB.out | apply below_alloc | apply pw_below_drewN | apply below_drew1 | refine below_set ?_ GE122.out | refine below_set ?_ GE123.out | refine below_set ?_ GE124.out) | exact HB.out)))); have n1_ := Aside0.mk (blk_below (g := gb122) (o := .cells #[.int .i64 a0_0, .string a0_1, .slice A0_2 l0_2.length c0_2] 122 (0, 0)) (by (with_reducible repeat (first | refine blk_drewN ?_ _ | refine blk_drew ?_ | refine blk_alloc ?_ _)); refine blk_far ?_ NB122_124.out _; (with_reducible repeat (first | refine blk_drewN ?_ _ | refine blk_drew ?_ | refine blk_alloc ?_ _)); refine blk_far ?_ NB122_124.out _; (with_reducible repeat (first | refine blk_drewN ?_ _ | refine blk_drew ?_ | refine blk_alloc ?_ _)); exact BK122.out) hb); have n2_ := Aside0.mk (blk_below (g := gb123) (o := .cells #[.int .i64 0, .string (⟨#[]⟩ : ByteArray), .slice none 0 0] 77 (0, 0)) (by (with_reducible repeat (first | refine blk_drewN ?_ _ | refine blk_drew ?_ | refine blk_alloc ?_ _)); refine blk_far ?_ NB123_124.out _; (with_reducible repeat (first | refine blk_drewN ?_ _ | refine blk_drew ?_ | refine blk_alloc ?_ _)); refine blk_far ?_ NB123_124.out _; (with_reducible repeat (first | refine blk_drewN ?_ _ | refine blk_drew ?_ | refine blk_alloc ?_ _)); exact BK123.out) hb); have n3_ := Aside0.mk (blk_below (g := gb124) (o := .cells #[.int .i64 a0_0, .string a0_1, .slice none 0 0] 77 (0, 0)) (by (with_reducible repeat (first | refine blk_drewN ?_ _ | refine blk_drew ?_ | refine blk_alloc ?_ _)); refine blk_put (cs := #[.int .i64 a0_0, .string (⟨#[]⟩ : ByteArray), .slice none 0 0]) ?_ 1 _ rfl; (with_reducible repeat (first | refine blk_drewN ?_ _ | refine blk_drew ?_ | refine blk_alloc ?_ _)); refine blk_put (cs := #[.int .i64 0, .string (⟨#[]⟩ : ByteArray), .slice none 0 0]) ?_ 0 _ rfl; (with_reducible repeat (first | refine blk_drewN ?_ _ | refine blk_drew ?_ | refine blk_alloc ?_ _)); exact BK124.out) hb); have n4_ := Aside0.mk (below_step (by repeat (first | (with_reducible first | exact HB.out | apply below_alloc | apply pw_below_drewN | apply below_drew1 | refine below_set ?_ GE122.out | refine below_set ?_ GE123.out | refine below_set ?_ GE124.out) | exact HB.out)) hb); clear BK122; clear BK123; clear BK124; clear HB; have HO127 := n0_; have BK122 := n1_; have BK123 := n2_; have BK124 := n3_; have HB := n4_; clear n0_ n1_ n2_ n3_ n4_; (try clear hb); (try clear hb2); (try clear hk); (try clear hi); (try clear ho0); obtain ⟨Ao12, co12, eo12⟩ := Kd.R_slice HO127.out; subst eo12; have hcz13_0 : w11.cell? ⟨gb124, 0, none⟩ = some (.int .i64 a0_0) := (blk_cell BK124.out 0).trans rfl; have hcz13_1 : w11.cell? ⟨gb124, 1, none⟩ = some (.string a0_1) := (blk_cell BK124.out 1).trans rfl; have hcz13_2 : w11.cell? ⟨gb124, 2, none⟩ = some (.slice none 0 0) := (blk_cell BK124.out 2).trans rfl; have hfz13_0 := blk_frozen BK124.out 0; have hfz13_1 := blk_frozen BK124.out 1; have hfz13_2 := blk_frozen BK124.out 2; have hcz14_0 : w11.cell? ⟨gb123, 0, none⟩ = some (.int .i64 0) := (blk_cell BK123.out 0).trans rfl; have hcz14_1 : w11.cell? ⟨gb123, 1, none⟩ = some (.string (⟨#[]⟩ : ByteArray)) := (blk_cell BK123.out 1).trans rfl; have hcz14_2 : w11.cell? ⟨gb123, 2, none⟩ = some (.slice none 0 0) := (blk_cell BK123.out 2).trans rfl; have hfz14_0 := blk_frozen BK123.out 0; have hfz14_1 := blk_frozen BK123.out 1; have hfz14_2 := blk_frozen BK123.out 2))
  refine bodyPost_ret (results_cell_row rfl _ _ gb123 77 #[.int .i64 a0_0, .string a0_1, .slice Ao12 t125.length co12] (0, 0) _ rfl (by (with_reducible repeat (first | refine blk_drewN ?_ _ | refine blk_drew ?_ | refine blk_alloc ?_ _)); refine blk_put (cs := #[.int .i64 a0_0, .string a0_1, .slice none 0 0]) ?_ 2 _ rfl; (with_reducible repeat (first | refine blk_drewN ?_ _ | refine blk_drew ?_ | refine blk_alloc ?_ _)); refine blk_put (cs := #[.int .i64 a0_0, .string (⟨#[]⟩ : ByteArray), .slice none 0 0]) ?_ 1 _ rfl; (with_reducible repeat (first | refine blk_drewN ?_ _ | refine blk_drew ?_ | refine blk_alloc ?_ _)); refine blk_put (cs := #[.int .i64 0, .string (⟨#[]⟩ : ByteArray), .slice none 0 0]) ?_ 0 _ rfl; (with_reducible repeat (first | refine blk_drewN ?_ _ | refine blk_drew ?_ | refine blk_alloc ?_ _)); refine blk_far ?_ NB123_124.out _; (with_reducible repeat (first | refine blk_drewN ?_ _ | refine blk_drew ?_ | refine blk_alloc ?_ _)); exact BK123.out) Tryd.underlying77 rfl (by kernel_rfl)) rfl ?_
  exact ⟨_, by first | rfl | (simp [errW_none, errW_some] <;> rfl) | (simp [*, errW_none, errW_some] <;> rfl), by (with_reducible repeat (first | apply Kd.R_alloc | apply Kd.R_drewN | apply Kd.R_drew)); exact Kd.R_mono (Kd.R_far (p := ⟨gb123, 2, none⟩) (Kd.R_far (p := ⟨gb123, 1, none⟩) (Kd.R_far (p := ⟨gb123, 0, none⟩) (Kd.R_far (p := ⟨gb124, 2, none⟩) (Kd.R_types (Kd.R_types HO127.out BK124.out (by decide)) BK123.out (by decide)) (fun _ hk => hk.1.2) (.slice Ao12 t125.length co12)) (fun _ hk => hk.2) (.int .i64 a0_0)) (fun _ hk => hk.2) (.string a0_1)) (fun _ hk => hk.2) (.slice Ao12 t125.length co12)) (fun _ hk => trivial), by repeat (first | (with_reducible first | exact HB.out | apply below_alloc | apply pw_below_drewN | apply below_drew1 | refine below_set ?_ GE122.out | refine below_set ?_ GE123.out | refine below_set ?_ GE124.out) | exact HB.out)⟩
end Go.Proofs.YtbeelgaganbblaaDoor.PFnExactProofText
namespace Go.Proofs.YtbeelgaganbblaaDoor.PFnExactProofText
open Go.RowKit Go.Proofs.YtbeelgaganbblaaDoorW.PrintWords Go.Proofs.YtbeelgaganbblaaDoorW.PrintLast Go.Proofs.YtbeelgaganbblaaDoorW.PrintMore
attribute [local go_sem] max2_int min2_int max_two min_two max_three min_three max_four min_four   -- for this text's walks alone
set_option linter.unusedVariables false
set_option linter.unusedSimpArgs false
mutual
def impl_isInt.j0 : Nat → ByteArray → Int → Bool → Option (Bool)
  | 0, _, _, _ => none
  | k + 1, x0, x1, x12 => if x12 = true then (if 1 ≤ (x0.size : Int) then (if (x0.extract 1 x0.size).toList = ([48] : List UInt8) then (some false) else (impl_isInt.j1 k (x0.extract 1 x0.size) x1)) else (none)) else (impl_isInt.j1 k x0 x1)
def impl_isInt.j1 : Nat → ByteArray → Int → Option (Bool)
  | 0, _, _ => none
  | k + 1, x0, x1 => if x0.toList = ([] : List UInt8) then (impl_isInt.j2 k x0 true) else (if (x0.size : Int) > x1 then (impl_isInt.j2 k x0 true) else (if 0 < (x0.size : Int) then (if (bt x0 0) = 48 then (impl_isInt.j2 k x0 (decide ((x0.size : Int) > 1))) else (impl_isInt.j2 k x0 false)) else (none)))
def impl_isInt.j2 : Nat → ByteArray → Bool → Option (Bool)
  | 0, _, _ => none
  | k + 1, x0, x34 => if x34 = true then (some false) else (impl_isInt.l0 k x0 (x0.size : Int) 0)
def impl_isInt.l0 : Nat → ByteArray → Int → Int → Option (Bool)
  | 0, _, _, _ => none
  | k + 1, x0, x36, x37 => if x37 < x36 then (if 0 ≤ x37 then (if x37 < (x0.size : Int) then (if (bt x0 x37) < 48 then (some false) else (if (bt x0 x37) > 57 then (some false) else (impl_isInt.l0 k x0 x36 (wrap64 (x37 + 1))))) else (none)) else (none)) else (some true)
end
def impl_isInt.f (k : Nat) (a0 : ByteArray) (a1 : Int) : Option (Bool) := if a0.toList = ([] : List UInt8) then (impl_isInt.j0 k a0 a1 false) else (if 0 < (a0.size : Int) then (impl_isInt.j0 k a0 a1 ((bt a0 0) == 45)) else (none))
set_option maxHeartbeats 8000000 in
set_option maxRecDepth 100000 in
theorem impl_isInt.calls (k : Nat) (a0 : ByteArray) (a1 : Int) (r : Bool) (w : World) (h : impl_isInt.f k a0 a1 = some r) :
    Calls Tryd.prog 60 #[.string a0, .int .i64 a1] w fun e w' => e = .returned (.bool r) ∧ Drawn0 w w' := by
  have H : (if a0.toList = ([] : List UInt8) then (impl_isInt.j0 k a0 a1 false) else (if 0 < (a0.size : Int) then (impl_isInt.j0 k a0 a1 ((bt a0 0) == 45)) else (none))) = some r := h
  clear h
  have HC3 := Aside0.mk H
  clear H
  go_enter Tryd.func60, Tryd.ntmps60
  go_upto_region 1 with (fail)
  go_cut [12] (fun v12 wc => ∃ (kq : Nat) (x12_2 : Bool), v12 = .bool x12_2 ∧ Aside0 (impl_isInt.j0 kq a0 a1 x12_2 = some r) ∧ Aside0 (kq ≤ k) ∧ Drawn0 w wc)
  case first =>
    have H := HC3.out
    clear HC3
    by_cases c4 : a0.toList = ([] : List UInt8)
    · rw [if_pos c4] at H
      have c4b0 : (a0.toList == ([] : List UInt8)) = true := beq_iff_eq.mpr c4
      have c4b1 : (a0.toList != ([] : List UInt8)) = false := bne_eq_false_iff_eq.mpr c4
      clear c4
      (first | rw [c4b0] | (simp only [i64_w, i32_w]; rw [c4b0]) | rw [c4b1] | skip)
      have H' := Aside0.mk H
      clear H
      go_wp2
      go_meet
      case rel => exact ⟨_, (false), (by first | rfl | (simp; done) | (simp [*]; done)), H', ⟨by first | omega | exact Nat.le_refl _⟩, by repeat (first | exact Drawn0.refl _ | apply Drawn0.step)⟩
    · rw [if_neg c4] at H
      have c4b0 : (a0.toList == ([] : List UInt8)) = false := beq_eq_false_iff_ne.mpr c4
      have c4b1 : (a0.toList != ([] : List UInt8)) = true := bne_iff_ne.mpr c4
      (first | rw [c4b0] | (simp only [i64_w, i32_w]; rw [c4b0]) | rw [c4b1] | skip)
      by_cases c5 : 0 < (a0.size : Int)
      · rw [if_pos c5] at H
        have c5b0 : decide (0 < (a0.size : Int)) = true := decide_eq_true c5
        have c5b1 : decide (0 < a0.size) = true := decide_eq_true (by omega)
        clear c5
        have H' := Aside0.mk H
        clear H
        have p6 : 0 ≤ (0 : Int) := (by omega)
        have q6 : 0 < a0.size := (by have : (0 : Int) < (a0.size : Int) := of_decide_eq_true (by first | (with_reducible assumption) | assumption); omega)
        have hx6 : ∀ h : 0 < a0.size, ((a0[0]'h).toNat : Int) = bt a0 0 := bt_at a0 0
        clear p6
        have qi6 : (0 < (a0.size : Int)) = True := eq_true (of_decide_eq_true (by first | (with_reducible assumption) | assumption))
        replace q6 := eq_true q6
        go_wp2
        go_meet
        case rel => exact ⟨_, (((bt a0 0) == 45)), (by first | rfl | (simp; done) | (simp [*]; done)), H', ⟨by first | omega | exact Nat.le_refl _⟩, by repeat (first | exact Drawn0.refl _ | apply Drawn0.step)⟩
      · rw [if_neg c5] at H
        exact absurd H (by simp)
  case rest =>
    clear HC3
    try clear p2
    try clear c4
    try clear c4b0
    try clear c4b1
    try clear c5
    try clear c5b0
    try clear c5b1
    try clear c6
    try clear p6
    try clear q6
    try clear hx6
    try clear qi6
    try clear p6
    try clear q6
    obtain ⟨kq, x12_2, rfl, HA, HJ2, ⟨mc2, rfl⟩⟩ := hcut
    cases kq with
    | zero => exact absurd HA.out (by simp [impl_isInt.j0])
    | succ kj2 =>
      have H := HA.out
      clear HA
      simp only [impl_isInt.j0] at H
      have HC7 := Aside0.mk H
      clear H
      go_upto_if 12 with (fail)
      go_cut [0] (fun v0 wc => ∃ (kq : Nat) (x0_6 : ByteArray), v0 = .string x0_6 ∧ Aside0 (impl_isInt.j1 kq x0_6 a1 = some r) ∧ Aside0 (kq ≤ kj2) ∧ Drawn0 w wc)
      case first =>
        have H := HC7.out
        clear HC7
        by_cases c8 : x12_2 = true
        · subst c8
          have H1 : (if 1 ≤ (a0.size : Int) then (if (a0.extract 1 a0.size).toList = ([48] : List UInt8) then (some false) else (impl_isInt.j1 kj2 (a0.extract 1 a0.size) a1)) else (none)) = some r := by rw [if_pos rfl] at H; exact H
          clear H
          have H := H1
          clear H1
          by_cases c9 : 1 ≤ (a0.size : Int)
          · rw [if_pos c9] at H
            have c9b0 := eq_true c9
            have c9b1 : decide (1 ≤ (a0.size : Int)) = true := decide_eq_true c9
            clear c9
            by_cases c10 : (a0.extract 1 a0.size).toList = ([48] : List UInt8)
            · rw [if_pos c10] at H
              have c10b0 : ((a0.extract 1 a0.size).toList == ([48] : List UInt8)) = true := beq_iff_eq.mpr c10
              have c10b1 : ((a0.extract 1 a0.size).toList != ([48] : List UInt8)) = false := bne_eq_false_iff_eq.mpr c10
              clear c10
              (first | rw [c10b0] | (simp only [i64_w, i32_w]; rw [c10b0]) | rw [c10b1] | skip)
              obtain rfl := Option.some.inj H
              go_wp2
              go_ret
              exact ⟨by first | rfl | (simp; done) | (simp [*]; done), by repeat (first | exact Drawn0.refl _ | apply Drawn0.step)⟩
            · rw [if_neg c10] at H
              have c10b0 : ((a0.extract 1 a0.size).toList == ([48] : List UInt8)) = false := beq_eq_false_iff_ne.mpr c10
              have c10b1 : ((a0.extract 1 a0.size).toList != ([48] : List UInt8)) = true := bne_iff_ne.mpr c10
              (first | rw [c10b0] | (simp only [i64_w, i32_w]; rw [c10b0]) | rw [c10b1] | skip)
              have H' := Aside0.mk H
              clear H
              go_wp2
              go_meet
              case rel => exact ⟨_, (a0.extract 1 a0.size), (by first | rfl | (simp; done) | (simp [*]; done)), H', ⟨by have := HJ2.out; first | omega | exact Nat.le_refl _⟩, by repeat (first | exact Drawn0.refl _ | apply Drawn0.step)⟩
          · rw [if_neg c9] at H
            exact absurd H (by simp)
        · replace c8 := Bool.eq_false_iff.mpr c8
          subst c8
          have H1 : (impl_isInt.j1 kj2 a0 a1) = some r := by rw [if_neg (show ¬ (false = true) by decide)] at H; exact H
          clear H
          have H := H1
          clear H1
          have H' := Aside0.mk H
          clear H
          go_wp2
          go_meet
          case rel => exact ⟨_, (a0), (by first | rfl | (simp; done) | (simp [*]; done)), H', ⟨by have := HJ2.out; first | omega | exact Nat.le_refl _⟩, by repeat (first | exact Drawn0.refl _ | apply Drawn0.step)⟩
      case rest =>
        clear HC7
        try clear c1
        try clear c2
        try clear p2
        try clear c4
        try clear c4b0
        try clear c4b1
        try clear c5
        try clear c5b0
        try clear c5b1
        try clear c6
        try clear p6
        try clear q6
        try clear hx6
        try clear qi6
        try clear c8
        try clear c9
        try clear c9b0
        try clear c9b1
        try clear c10
        try clear c10b0
        try clear c10b1
        try clear p2
        try clear p6
        try clear q6
        obtain ⟨kq, x0_6, rfl, HA, HJ6, ⟨mc6, rfl⟩⟩ := hcut
        cases kq with
        | zero => exact absurd HA.out (by simp [impl_isInt.j1])
        | succ kj6 =>
          have H := HA.out
          clear HA
          simp only [impl_isInt.j1] at H
          have HC11 := Aside0.mk H
          clear H
          go_upto_region 5 with (fail)
          go_cut [34] (fun v34 wc => ∃ (kq : Nat) (x34_10 : Bool), v34 = .bool x34_10 ∧ Aside0 (impl_isInt.j2 kq x0_6 x34_10 = some r) ∧ Aside0 (kq ≤ kj6) ∧ Drawn0 w wc)
          case first =>
            have H := HC11.out
            clear HC11
            by_cases c12 : x0_6.toList = ([] : List UInt8)
            · rw [if_pos c12] at H
              have c12b0 : (x0_6.toList == ([] : List UInt8)) = true := beq_iff_eq.mpr c12
              have c12b1 : (x0_6.toList != ([] : List UInt8)) = false := bne_eq_false_iff_eq.mpr c12
              clear c12
              (first | rw [c12b0] | (simp only [i64_w, i32_w]; rw [c12b0]) | rw [c12b1] | skip)
              have H' := Aside0.mk H
              clear H
              go_wp2
              go_meet
              case rel => exact ⟨_, (true), (by first | rfl | (simp; done) | (simp [*]; done)), H', ⟨by have := HJ2.out; have := HJ6.out; first | omega | exact Nat.le_refl _⟩, by repeat (first | exact Drawn0.refl _ | apply Drawn0.step)⟩
            · rw [if_neg c12] at H
              have c12b0 : (x0_6.toList == ([] : List UInt8)) = false := beq_eq_false_iff_ne.mpr c12
              have c12b1 : (x0_6.toList != ([] : List UInt8)) = true := bne_iff_ne.mpr c12
              (first | rw [c12b0] | (simp only [i64_w, i32_w]; rw [c12b0]) | rw [c12b1] | skip)
              by_cases c13 : (x0_6.size : Int) > a1
              · rw [if_pos c13] at H
                have c13b0 : decide (a1 < (x0_6.size : Int)) = true := decide_eq_true c13
                clear c13
                have H' := Aside0.mk H
                clear H
                go_wp2
                go_meet
                case rel => exact ⟨_, (true), (by first | rfl | (simp; done) | (simp [*]; done)), H', ⟨by have := HJ2.out; have := HJ6.out; first | omega | exact Nat.le_refl _⟩, by repeat (first | exact Drawn0.refl _ | apply Drawn0.step)⟩
              · rw [if_neg c13] at H
                have c13b0 : decide (a1 < (x0_6.size : Int)) = false := decide_eq_false c13
                clear c13
                by_cases c14 : 0 < (x0_6.size : Int)
                · rw [if_pos c14] at H
                  have c14b0 : decide (0 < (x0_6.size : Int)) = true := decide_eq_true c14
                  have c14b1 : decide (0 < x0_6.size) = true := decide_eq_true (by omega)
                  clear c14
                  by_cases c16 : (bt x0_6 0) = 48
                  · rw [if_pos c16] at H
                    have c16b0 : ((bt x0_6 0) == 48) = true := beq_iff_eq.mpr c16
                    have c16b1 : ((bt x0_6 0) != 48) = false := bne_eq_false_iff_eq.mpr c16
                    clear c16
                    have H' := Aside0.mk H
                    clear H
                    have p15 : 0 ≤ (0 : Int) := (by omega)
                    have q15 : 0 < x0_6.size := (by have : (0 : Int) < (x0_6.size : Int) := of_decide_eq_true (by first | (with_reducible assumption) | assumption); omega)
                    have hx15 : ∀ h : 0 < x0_6.size, ((x0_6[0]'h).toNat : Int) = bt x0_6 0 := bt_at x0_6 0
                    clear p15
                    have qi15 : (0 < (x0_6.size : Int)) = True := eq_true (of_decide_eq_true (by first | (with_reducible assumption) | assumption))
                    replace q15 := eq_true q15
                    go_wp2
                    go_meet
                    case rel => exact ⟨_, (decide ((x0_6.size : Int) > 1)), (by first | rfl | (simp; done) | (simp [*]; done)), H', ⟨by have := HJ2.out; have := HJ6.out; first | omega | exact Nat.le_refl _⟩, by repeat (first | exact Drawn0.refl _ | apply Drawn0.step)⟩
                  · rw [if_neg c16] at H
                    have c16b0 : ((bt x0_6 0) == 48) = false := beq_eq_false_iff_ne.mpr c16
                    have c16b1 : ((bt x0_6 0) != 48) = true := bne_iff_ne.mpr c16
                    have H' := Aside0.mk H
                    clear H
                    have p15 : 0 ≤ (0 : Int) := (by omega)
                    have q15 : 0 < x0_6.size := (by have : (0 : Int) < (x0_6.size : Int) := of_decide_eq_true (by first | (with_reducible assumption) | assumption); omega)
                    have hx15 : ∀ h : 0 < x0_6.size, ((x0_6[0]'h).toNat : Int) = bt x0_6 0 := bt_at x0_6 0
                    clear p15
                    have qi15 : (0 < (x0_6.size : Int)) = True := eq_true (of_decide_eq_true (by first | (with_reducible assumption) | assumption))
                    replace q15 := eq_true q15
                    go_wp2
                    go_meet
                    case rel => exact ⟨_, (false), (by first | rfl | (simp; done) | (simp [*]; done)), H', ⟨by have := HJ2.out; have := HJ6.out; first | omega | exact Nat.le_refl _⟩, by repeat (first | exact Drawn0.refl _ | apply Drawn0.step)⟩
                · rw [if_neg c14] at H
                  exact absurd H (by simp)
          case rest =>
            clear HC11
            try clear c1
            try clear p1
            try clear q1
            try clear hx1
            try clear qi1
            try clear c2
            try clear p2
            try clear c4
            try clear c4b0
            try clear c4b1
            try clear c5
            try clear c5b0
            try clear c5b1
            try clear c6
            try clear p6
            try clear q6
            try clear hx6
            try clear qi6
            try clear c8
            try clear c9
            try clear c9b0
            try clear c9b1
            try clear c10
            try clear c10b0
            try clear c10b1
            try clear c12
            try clear c12b0
            try clear c12b1
            try clear c13
            try clear c13b0
            try clear c14
            try clear c14b0
            try clear c14b1
            try clear p15
            try clear q15
            try clear hx15
            try clear qi15
            try clear c16
            try clear c16b0
            try clear c16b1
            try clear p15
            try clear p2
            try clear p6
            try clear q15
            try clear q6
            obtain ⟨kq, x34_10, rfl, HA, HJ10, ⟨mc10, rfl⟩⟩ := hcut
            cases kq with
            | zero => exact absurd HA.out (by simp [impl_isInt.j2])
            | succ kj10 =>
              have H := HA.out
              clear HA
              simp only [impl_isInt.j2] at H
              by_cases c17 : x34_10 = true
              · subst c17
                have H1 : (some false) = some r := by rw [if_pos rfl] at H; exact H
                clear H
                have H := H1
                clear H1
                obtain rfl := Option.some.inj H
                go_wp2
                go_ret
                exact ⟨by first | rfl | (simp; done) | (simp [*]; done), by repeat (first | exact Drawn0.refl _ | apply Drawn0.step)⟩
              · replace c17 := Bool.eq_false_iff.mpr c17
                subst c17
                have H1 : (impl_isInt.l0 kj10 x0_6 (x0_6.size : Int) 0) = some r := by rw [if_neg (show ¬ (false = true) by decide)] at H; exact H
                clear H
                have H := H1
                clear H1
                have H' := Aside0.mk H
                clear H
                go_wp2
                go_loopg [37] kj10 (fun kq v37 w' => ∃ (x37_4 : Int), v37 = .int .i64 x37_4 ∧ Aside0 (impl_isInt.l0 kq x0_6 (x0_6.size : Int) x37_4 = some r) ∧ Aside0 (kq ≤ kj10) ∧ Drawn0 w w')
                case atStart => exact ⟨(0), (by first | rfl | (simp; done) | (simp [*]; done)), H', ⟨Nat.le_refl _⟩, by repeat (first | exact Drawn0.refl _ | apply Drawn0.step)⟩
                case round =>
                  clear H'
                  try clear c1
                  try clear p1
                  try clear q1
                  try clear hx1
                  try clear qi1
                  try clear c2
                  try clear p2
                  try clear c4
                  try clear c4b0
                  try clear c4b1
                  try clear c5
                  try clear c5b0
                  try clear c5b1
                  try clear c6
                  try clear p6
                  try clear q6
                  try clear hx6
                  try clear qi6
                  try clear c8
                  try clear c9
                  try clear c9b0
                  try clear c9b1
                  try clear c10
                  try clear c10b0
                  try clear c10b1
                  try clear c12
                  try clear c12b0
                  try clear c12b1
                  try clear c13
                  try clear c13b0
                  try clear c14
                  try clear c14b0
                  try clear c14b1
                  try clear p15
                  try clear q15
                  try clear hx15
                  try clear qi15
                  try clear c16
                  try clear c16b0
                  try clear c16b1
                  try clear c17
                  try clear p1
                  try clear p15
                  try clear p2
                  try clear p6
                  try clear q1
                  try clear q15
                  try clear q6
                  obtain ⟨x37_4, rfl, HA, HK4, ⟨m4, rfl⟩⟩ := hrel
                  cases gk with
                  | zero => exact absurd HA.out (by simp [impl_isInt.l0])
                  | succ k4 =>
                    have H := HA.out
                    clear HA
                    simp only [impl_isInt.l0] at H
                    by_cases c18 : x37_4 < (x0_6.size : Int)
                    · rw [if_pos c18] at H
                      have c18b0 : decide (x37_4 < (x0_6.size : Int)) = true := decide_eq_true c18
                      clear c18
                      by_cases c19 : 0 ≤ x37_4
                      · rw [if_pos c19] at H
                        have c19b0 : decide (0 ≤ x37_4) = true := decide_eq_true c19
                        clear c19
                        by_cases c20 : x37_4 < (x0_6.size : Int)
                        · rw [if_pos c20] at H
                          have c20b0 : decide (x37_4 < (x0_6.size : Int)) = true := decide_eq_true c20
                          clear c20
                          by_cases c22 : (bt x0_6 x37_4) < 48
                          · rw [if_pos c22] at H
                            have c22b0 : decide ((bt x0_6 x37_4) < 48) = true := decide_eq_true c22
                            clear c22
                            obtain rfl := Option.some.inj H
                            have p21 : 0 ≤ (x37_4 : Int) := of_decide_eq_true (by first | (with_reducible assumption) | assumption)
                            have q21 : x37_4 < (x0_6.size : Int) := of_decide_eq_true (by first | (with_reducible assumption) | assumption)
                            have hx21 := bt_at x0_6 x37_4
                            replace p21 := eq_true p21
                            replace q21 := eq_true q21
                            go_wp2
                            go_ret
                            exact ⟨by first | rfl | (simp; done) | (simp [*]; done), by repeat (first | exact Drawn0.refl _ | apply Drawn0.step)⟩
                          · rw [if_neg c22] at H
                            have c22b0 : decide ((bt x0_6 x37_4) < 48) = false := decide_eq_false c22
                            clear c22
                            by_cases c24 : (bt x0_6 x37_4) > 57
                            · rw [if_pos c24] at H
                              have c24b0 : decide (57 < (bt x0_6 x37_4)) = true := decide_eq_true c24
                              clear c24
                              obtain rfl := Option.some.inj H
                              have p21 : 0 ≤ (x37_4 : Int) := of_decide_eq_true (by first | (with_reducible assumption) | assumption)
                              have q21 : x37_4 < (x0_6.size : Int) := of_decide_eq_true (by first | (with_reducible assumption) | assumption)
                              have hx21 := bt_at x0_6 x37_4
                              replace p21 := eq_true p21
                              replace q21 := eq_true q21
                              have p23 : 0 ≤ (x37_4 : Int) := of_decide_eq_true (by first | (with_reducible assumption) | assumption)
                              have q23 : x37_4 < (x0_6.size : Int) := of_decide_eq_true (by first | (with_reducible assumption) | assumption)
                              have hx23 := bt_at x0_6 x37_4
                              replace p23 := eq_true p23
                              replace q23 := eq_true q23
                              go_wp2
                              go_ret
                              exact ⟨by first | rfl | (simp; done) | (simp [*]; done), by repeat (first | exact Drawn0.refl _ | apply Drawn0.step)⟩
                            · rw [if_neg c24] at H
                              have c24b0 : decide (57 < (bt x0_6 x37_4)) = false := decide_eq_false c24
                              clear c24
                              have H' := Aside0.mk H
                              clear H
                              have p21 : 0 ≤ (x37_4 : Int) := of_decide_eq_true (by first | (with_reducible assumption) | assumption)
                              have q21 : x37_4 < (x0_6.size : Int) := of_decide_eq_true (by first | (with_reducible assumption) | assumption)
                              have hx21 := bt_at x0_6 x37_4
                              replace p21 := eq_true p21
                              replace q21 := eq_true q21
                              have p23 : 0 ≤ (x37_4 : Int) := of_decide_eq_true (by first | (with_reducible assumption) | assumption)
                              have q23 : x37_4 < (x0_6.size : Int) := of_decide_eq_true (by first | (with_reducible assumption) | assumption)
                              have hx23 := bt_at x0_6 x37_4
                              replace p23 := eq_true p23
                              replace q23 := eq_true q23
                              go_wp2
                              go_roundg k4
                              case measure => have := HJ2.out; have := HJ6.out; have := HJ10.out; have := HK4.out; omega
                              case rel => exact ⟨(wrap64 (x37_4 + 1)), (by first | rfl | (simp; done) | (simp [*]; done)), H', ⟨by have := HJ2.out; have := HJ6.out; have := HJ10.out; have := HK4.out; omega⟩, by repeat (first | exact Drawn0.refl _ | apply Drawn0.step)⟩
                        · rw [if_neg c20] at H
                          exact absurd H (by simp)
                      · rw [if_neg c19] at H
                        exact absurd H (by simp)
                    · rw [if_neg c18] at H
                      have c18b0 : decide (x37_4 < (x0_6.size : Int)) = false := decide_eq_false c18
                      clear c18
                      obtain rfl := Option.some.inj H
                      go_wp2
                      go_ret
                      exact ⟨by first | rfl | (simp; done) | (simp [*]; done), by repeat (first | exact Drawn0.refl _ | apply Drawn0.step)⟩
def impl_IsInt.f (k : Nat) (a0 : ByteArray) : Option (Bool) := (impl_isInt.f k a0 2500).bind fun t186 => (some t186)
set_option maxHeartbeats 8000000 in
set_option maxRecDepth 100000 in
theorem impl_IsInt.calls (k : Nat) (a0 : ByteArray) (r : Bool) (w : World) (h : impl_IsInt.f k a0 = some r) :
    Calls Tryd.prog 38 #[.string a0] w fun e w' => e = .returned (.bool r) ∧ Drawn0 w w' := by
  have H : ((impl_isInt.f k a0 2500).bind fun t186 => (some t186)) = some r := h
  clear h
  replace H := Option.bind_eq_some_iff.mp H
  obtain ⟨t186, A20, H⟩ := H
  replace H : (some t186) = some r := H
  have A2 := Aside0.mk A20
  clear A20
  obtain rfl := Option.some.inj H
  go_enter Tryd.func38, Tryd.ntmps38
  go_wp2_with (first | ((with_reducible refine gate_callee (f := 60) rfl ?_); refine goesL_ (some 4) rfl rfl Tryd.func60 (by kernel_rfl) rfl #[.string a0, .int .i64 2500] rfl (by (try simp only [List.map_toArray, List.map_cons, List.map_nil]); first | done | rfl | (simp only [List.length_drop, List.length_take]; rfl)) ?_; (with_reducible refine (impl_isInt.calls k a0 2500 t186 _ A2.out).mono ?_); rintro e w' ⟨rfl, ⟨nd, rfl⟩⟩; refine ⟨_, rfl, ?_⟩))
  go_ret
  exact ⟨by first | rfl | (simp; done) | (simp [*]; done), by repeat (first | exact Drawn0.refl _ | apply Drawn0.step)⟩
def laws_eqIntS.l0 : Nat → List Int → List Int → Int → Option (Bool)
  | 0, _, _, _ => none
  | k + 1, x0, x1, x5 => if x5 < (x0.length : Int) then (if 0 ≤ x5 then (if x5 < (x1.length : Int) then (if (rd x0 x5) = (rd x1 x5) then (laws_eqIntS.l0 k x0 x1 (wrap64 (x5 + 1))) else (some false)) else (none)) else (none)) else (some true)
def laws_eqIntS.f (k : Nat) (l0 : List Int) (l1 : List Int) : Option (Bool) := if (l0.length : Int) = (l1.length : Int) then (laws_eqIntS.l0 k l0 l1 0) else (some false)
set_option maxHeartbeats 8000000 in
set_option maxRecDepth 100000 in
theorem laws_eqIntS.calls (k : Nat) (A0 : Option Addr) (c0 : Nat) (l0 : List Int) (A1 : Option Addr) (c1 : Nat) (l1 : List Int) (r : Bool) (w : World) (hr0 : Kd.C (Kd.int .i64) w A0 l0.length l0) (hc0 : l0.length ≤ c0) (hr1 : Kd.C (Kd.int .i64) w A1 l1.length l1) (hc1 : l1.length ≤ c1) (h : laws_eqIntS.f k l0 l1 = some r) :
    Calls Tryd.prog 62 #[.slice A0 l0.length c0, .slice A1 l1.length c1] w fun e w' => e = .returned (.bool r) ∧ Drawn0 w w' := by
  have HR0 := Aside0.mk hr0
  have HC0 := Aside0.mk hc0
  clear hr0 hc0
  have HR1 := Aside0.mk hr1
  have HC1 := Aside0.mk hc1
  clear hr1 hc1
  have H : (if (l0.length : Int) = (l1.length : Int) then (laws_eqIntS.l0 k l0 l1 0) else (some false)) = some r := h
  clear h
  by_cases c3 : (l0.length : Int) = (l1.length : Int)
  · rw [if_pos c3] at H
    have c3b0 : ((l0.length : Int) == (l1.length : Int)) = true := beq_iff_eq.mpr c3
    have c3b1 : ((l0.length : Int) != (l1.length : Int)) = false := bne_eq_false_iff_eq.mpr c3
    have c3b2 : (l0.length == l1.length) = true := by first | simpa using c3 | (simp at c3 ⊢; omega)
    clear c3
    have H' := Aside0.mk H
    clear H
    go_enter Tryd.func62, Tryd.ntmps62
    go_wp2
    repeat (go_quiet (fail); try go_wp2)
    go_loopg [5] k (fun kq v5 w' => ∃ (x5_1 : Int), v5 = .int .i64 x5_1 ∧ Aside0 (laws_eqIntS.l0 kq l0 l1 x5_1 = some r) ∧ Aside0 (kq ≤ k) ∧ Drawn0 w w')
    case atStart => exact ⟨(0), (by first | rfl | (simp; done) | (simp [*]; done)), H', ⟨Nat.le_refl _⟩, by repeat (first | exact Drawn0.refl _ | apply Drawn0.step)⟩
    case round =>
      clear H'
      try clear c1
      try clear p2
      try clear c3
      try clear c3b0
      try clear c3b1
      try clear c3b2
      obtain ⟨x5_1, rfl, HA, HK1, ⟨m1, rfl⟩⟩ := hrel
      cases gk with
      | zero => exact absurd HA.out (by simp [laws_eqIntS.l0])
      | succ k1 =>
        have H := HA.out
        clear HA
        simp only [laws_eqIntS.l0] at H
        by_cases c4 : x5_1 < (l0.length : Int)
        · rw [if_pos c4] at H
          have c4b0 : decide (x5_1 < (l0.length : Int)) = true := decide_eq_true c4
          clear c4
          by_cases c5 : 0 ≤ x5_1
          · rw [if_pos c5] at H
            have c5b0 : decide (0 ≤ x5_1) = true := decide_eq_true c5
            clear c5
            by_cases c6 : x5_1 < (l1.length : Int)
            · rw [if_pos c6] at H
              have c6b0 : decide (x5_1 < (l1.length : Int)) = true := decide_eq_true c6
              clear c6
              by_cases c7 : (rd l0 x5_1) = (rd l1 x5_1)
              · rw [if_pos c7] at H
                have c7b0 : ((rd l0 x5_1) == (rd l1 x5_1)) = true := beq_iff_eq.mpr c7
                have c7b1 : ((rd l0 x5_1) != (rd l1 x5_1)) = false := bne_eq_false_iff_eq.mpr c7
                clear c7
                have H' := Aside0.mk H
                clear H
                have p188 : 0 ≤ (x5_1 : Int) := of_decide_eq_true (by first | (with_reducible assumption) | assumption)
                have q188 : x5_1 < (l0.length : Int) := of_decide_eq_true (by first | (with_reducible assumption) | assumption)
                obtain ⟨ad188, e188, hx188_0⟩ := Kd.at_int HR0.out x5_1 p188 q188
                cases e188
                replace p188 := eq_true p188
                replace q188 := eq_true q188
                have p189 : 0 ≤ (x5_1 : Int) := of_decide_eq_true (by first | (with_reducible assumption) | assumption)
                have q189 : x5_1 < (l1.length : Int) := of_decide_eq_true (by first | (with_reducible assumption) | assumption)
                obtain ⟨ad189, e189, hx189_0⟩ := Kd.at_int HR1.out x5_1 p189 q189
                cases e189
                replace p189 := eq_true p189
                replace q189 := eq_true q189
                go_wp2
                repeat (go_quiet (fail); try go_wp2)
                go_roundg k1
                case measure => have := HK1.out; omega
                case rel => exact ⟨(wrap64 (x5_1 + 1)), (by first | rfl | (simp; done) | (simp [*]; done)), H', ⟨by have := HK1.out; omega⟩, by repeat (first | exact Drawn0.refl _ | apply Drawn0.step)⟩
              · rw [if_neg c7] at H
                have c7b0 : ((rd l0 x5_1) == (rd l1 x5_1)) = false := beq_eq_false_iff_ne.mpr c7
                have c7b1 : ((rd l0 x5_1) != (rd l1 x5_1)) = true := bne_iff_ne.mpr c7
                obtain rfl := Option.some.inj H
                have p188 : 0 ≤ (x5_1 : Int) := of_decide_eq_true (by first | (with_reducible assumption) | assumption)
                have q188 : x5_1 < (l0.length : Int) := of_decide_eq_true (by first | (with_reducible assumption) | assumption)
                obtain ⟨ad188, e188, hx188_0⟩ := Kd.at_int HR0.out x5_1 p188 q188
                cases e188
                replace p188 := eq_true p188
                replace q188 := eq_true q188
                have p189 : 0 ≤ (x5_1 : Int) := of_decide_eq_true (by first | (with_reducible assumption) | assumption)
                have q189 : x5_1 < (l1.length : Int) := of_decide_eq_true (by first | (with_reducible assumption) | assumption)
                obtain ⟨ad189, e189, hx189_0⟩ := Kd.at_int HR1.out x5_1 p189 q189
                cases e189
                replace p189 := eq_true p189
                replace q189 := eq_true q189
                go_wp2
                repeat (go_quiet (fail); try go_wp2)
                go_ret
                exact ⟨by first | rfl | (simp; done) | (simp [*]; done), by repeat (first | exact Drawn0.refl _ | apply Drawn0.step)⟩
            · rw [if_neg c6] at H
              exact absurd H (by simp)
          · rw [if_neg c5] at H
            exact absurd H (by simp)
        · rw [if_neg c4] at H
          have c4b0 : decide (x5_1 < (l0.length : Int)) = false := decide_eq_false c4
          clear c4
          obtain rfl := Option.some.inj H
          go_wp2
          repeat (go_quiet (fail); try go_wp2)
          go_ret
          exact ⟨by first | rfl | (simp; done) | (simp [*]; done), by repeat (first | exact Drawn0.refl _ | apply Drawn0.step)⟩
  · rw [if_neg c3] at H
    have c3b0 : ((l0.length : Int) == (l1.length : Int)) = false := beq_eq_false_iff_ne.mpr c3
    have c3b1 : ((l0.length : Int) != (l1.length : Int)) = true := bne_iff_ne.mpr c3
    have c3b2 : (l0.length == l1.length) = false := by first | simpa using c3 | (simp at c3 ⊢; omega)
    obtain rfl := Option.some.inj H
    go_enter Tryd.func62, Tryd.ntmps62
    go_wp2
    repeat (go_quiet (fail); try go_wp2)
    go_ret
    exact ⟨by first | rfl | (simp; done) | (simp [*]; done), by repeat (first | exact Drawn0.refl _ | apply Drawn0.step)⟩
def laws_eqStringS.l0 : Nat → List ByteArray → List ByteArray → Int → Option (Bool)
  | 0, _, _, _ => none
  | k + 1, x0, x1, x5 => if x5 < (x0.length : Int) then (if 0 ≤ x5 then (if x5 < (x1.length : Int) then (if (rdOf ByteArray.empty x0 x5).toList = (rdOf ByteArray.empty x1 x5).toList then (laws_eqStringS.l0 k x0 x1 (wrap64 (x5 + 1))) else (some false)) else (none)) else (none)) else (some true)
def laws_eqStringS.f (k : Nat) (l0 : List ByteArray) (l1 : List ByteArray) : Option (Bool) := if (l0.length : Int) = (l1.length : Int) then (laws_eqStringS.l0 k l0 l1 0) else (some false)
set_option maxHeartbeats 8000000 in
set_option maxRecDepth 100000 in
theorem laws_eqStringS.calls (k : Nat) (A0 : Option Addr) (c0 : Nat) (l0 : List ByteArray) (A1 : Option Addr) (c1 : Nat) (l1 : List ByteArray) (r : Bool) (w : World) (hr0 : Kd.C Kd.string w A0 l0.length l0) (hc0 : l0.length ≤ c0) (hr1 : Kd.C Kd.string w A1 l1.length l1) (hc1 : l1.length ≤ c1) (h : laws_eqStringS.f k l0 l1 = some r) :
    Calls Tryd.prog 115 #[.slice A0 l0.length c0, .slice A1 l1.length c1] w fun e w' => e = .returned (.bool r) ∧ Drawn0 w w' := by
  have HR0 := Aside0.mk hr0
  have HC0 := Aside0.mk hc0
  clear hr0 hc0
  have HR1 := Aside0.mk hr1
  have HC1 := Aside0.mk hc1
  clear hr1 hc1
  have H : (if (l0.length : Int) = (l1.length : Int) then (laws_eqStringS.l0 k l0 l1 0) else (some false)) = some r := h
  clear h
  by_cases c3 : (l0.length : Int) = (l1.length : Int)
  · rw [if_pos c3] at H
    have c3b0 : ((l0.length : Int) == (l1.length : Int)) = true := beq_iff_eq.mpr c3
    have c3b1 : ((l0.length : Int) != (l1.length : Int)) = false := bne_eq_false_iff_eq.mpr c3
    have c3b2 : (l0.length == l1.length) = true := by first | simpa using c3 | (simp at c3 ⊢; omega)
    clear c3
    have H' := Aside0.mk H
    clear H
    go_enter Tryd.func115, Tryd.ntmps115
    go_wp2
    repeat (go_quiet (fail); try go_wp2)
    go_loopg [5] k (fun kq v5 w' => ∃ (x5_1 : Int), v5 = .int .i64 x5_1 ∧ Aside0 (laws_eqStringS.l0 kq l0 l1 x5_1 = some r) ∧ Aside0 (kq ≤ k) ∧ Drawn0 w w')
    case atStart => exact ⟨(0), (by first | rfl | (simp; done) | (simp [*]; done)), H', ⟨Nat.le_refl _⟩, by repeat (first | exact Drawn0.refl _ | apply Drawn0.step)⟩
    case round =>
      clear H'
      try clear c1
      try clear p2
      try clear c3
      try clear c3b0
      try clear c3b1
      try clear c3b2
      obtain ⟨x5_1, rfl, HA, HK1, ⟨m1, rfl⟩⟩ := hrel
      cases gk with
      | zero => exact absurd HA.out (by simp [laws_eqStringS.l0])
      | succ k1 =>
        have H := HA.out
        clear HA
        simp only [laws_eqStringS.l0] at H
        by_cases c4 : x5_1 < (l0.length : Int)
        · rw [if_pos c4] at H
          have c4b0 : decide (x5_1 < (l0.length : Int)) = true := decide_eq_true c4
          clear c4
          by_cases c5 : 0 ≤ x5_1
          · rw [if_pos c5] at H
            have c5b0 : decide (0 ≤ x5_1) = true := decide_eq_true c5
            clear c5
            by_cases c6 : x5_1 < (l1.length : Int)
            · rw [if_pos c6] at H
              have c6b0 : decide (x5_1 < (l1.length : Int)) = true := decide_eq_true c6
              clear c6
              by_cases c7 : (rdOf ByteArray.empty l0 x5_1).toList = (rdOf ByteArray.empty l1 x5_1).toList
              · rw [if_pos c7] at H
                have c7b0 : ((rdOf ByteArray.empty l0 x5_1).toList == (rdOf ByteArray.empty l1 x5_1).toList) = true := beq_iff_eq.mpr c7
                have c7b1 : ((rdOf ByteArray.empty l0 x5_1).toList != (rdOf ByteArray.empty l1 x5_1).toList) = false := bne_eq_false_iff_eq.mpr c7
                clear c7
                have H' := Aside0.mk H
                clear H
                have p190 : 0 ≤ (x5_1 : Int) := of_decide_eq_true (by first | (with_reducible assumption) | assumption)
                have q190 : x5_1 < (l0.length : Int) := of_decide_eq_true (by first | (with_reducible assumption) | assumption)
                obtain ⟨ad190, e190, hx190_0⟩ := Kd.at_string HR0.out x5_1 p190 q190
                cases e190
                replace p190 := eq_true p190
                replace q190 := eq_true q190
                have p191 : 0 ≤ (x5_1 : Int) := of_decide_eq_true (by first | (with_reducible assumption) | assumption)
                have q191 : x5_1 < (l1.length : Int) := of_decide_eq_true (by first | (with_reducible assumption) | assumption)
                obtain ⟨ad191, e191, hx191_0⟩ := Kd.at_string HR1.out x5_1 p191 q191
                cases e191
                replace p191 := eq_true p191
                replace q191 := eq_true q191
                go_wp2
                repeat (go_quiet (fail); try go_wp2)
                go_roundg k1
                case measure => have := HK1.out; omega
                case rel => exact ⟨(wrap64 (x5_1 + 1)), (by first | rfl | (simp; done) | (simp [*]; done)), H', ⟨by have := HK1.out; omega⟩, by repeat (first | exact Drawn0.refl _ | apply Drawn0.step)⟩
              · rw [if_neg c7] at H
                have c7b0 : ((rdOf ByteArray.empty l0 x5_1).toList == (rdOf ByteArray.empty l1 x5_1).toList) = false := beq_eq_false_iff_ne.mpr c7
                have c7b1 : ((rdOf ByteArray.empty l0 x5_1).toList != (rdOf ByteArray.empty l1 x5_1).toList) = true := bne_iff_ne.mpr c7
                obtain rfl := Option.some.inj H
                have p190 : 0 ≤ (x5_1 : Int) := of_decide_eq_true (by first | (with_reducible assumption) | assumption)
                have q190 : x5_1 < (l0.length : Int) := of_decide_eq_true (by first | (with_reducible assumption) | assumption)
                obtain ⟨ad190, e190, hx190_0⟩ := Kd.at_string HR0.out x5_1 p190 q190
                cases e190
                replace p190 := eq_true p190
                replace q190 := eq_true q190
                have p191 : 0 ≤ (x5_1 : Int) := of_decide_eq_true (by first | (with_reducible assumption) | assumption)
                have q191 : x5_1 < (l1.length : Int) := of_decide_eq_true (by first | (with_reducible assumption) | assumption)
                obtain ⟨ad191, e191, hx191_0⟩ := Kd.at_string HR1.out x5_1 p191 q191
                cases e191
                replace p191 := eq_true p191
                replace q191 := eq_true q191
                go_wp2
                repeat (go_quiet (fail); try go_wp2)
                go_ret
                exact ⟨by first | rfl | (simp; done) | (simp [*]; done), by repeat (first | exact Drawn0.refl _ | apply Drawn0.step)⟩
            · rw [if_neg c6] at H
              exact absurd H (by simp)
          · rw [if_neg c5] at H
            exact absurd H (by simp)
        · rw [if_neg c4] at H
          have c4b0 : decide (x5_1 < (l0.length : Int)) = false := decide_eq_false c4
          clear c4
          obtain rfl := Option.some.inj H
          go_wp2
          repeat (go_quiet (fail); try go_wp2)
          go_ret
          exact ⟨by first | rfl | (simp; done) | (simp [*]; done), by repeat (first | exact Drawn0.refl _ | apply Drawn0.step)⟩
  · rw [if_neg c3] at H
    have c3b0 : ((l0.length : Int) == (l1.length : Int)) = false := beq_eq_false_iff_ne.mpr c3
    have c3b1 : ((l0.length : Int) != (l1.length : Int)) = true := bne_iff_ne.mpr c3
    have c3b2 : (l0.length == l1.length) = false := by first | simpa using c3 | (simp at c3 ⊢; omega)
    obtain rfl := Option.some.inj H
    go_enter Tryd.func115, Tryd.ntmps115
    go_wp2
    repeat (go_quiet (fail); try go_wp2)
    go_ret
    exact ⟨by first | rfl | (simp; done) | (simp [*]; done), by repeat (first | exact Drawn0.refl _ | apply Drawn0.step)⟩
end Go.Proofs.YtbeelgaganbblaaDoor.PFnExactProofText
namespace Go.Proofs.YtbeelgaganbblaaDoor.PFnExactProofText
open Go.RowKit Go.Proofs.YtbeelgaganbblaaDoor Go.Proofs.YtbeelgaganbblaaDoorW.PrintWords Go.Proofs.YtbeelgaganbblaaDoor.By
set_option linter.unusedVariables false
set_option linter.unusedSimpArgs false
theorem spec_IsInt_l0 (s : ByteArray) (hn : s.size ≤ 140737488351232) (d : Nat) : ∀ (k i : Nat), i ≤ s.size → s.size - i = d → d < k →
    spec_IsInt.l0 k s (i : Int) = some (digs ((L s).drop i)) := by
  induction d with
  | zero =>
    intro k i hi hd hk
    obtain ⟨k, rfl⟩ : ∃ m, k = m + 1 := ⟨k - 1, by omega⟩
    rw [drop_all s i (by omega)]
    simp only [spec_IsInt.l0]
    rw [if_neg (by omega)]
    rfl
  | succ d ih =>
    intro k i hi hd hk
    obtain ⟨k, rfl⟩ : ∃ m, k = m + 1 := ⟨k - 1, by omega⟩
    have hlt : i < s.size := by omega
    have hw : wrap64 ((i : Int) + 1) = ((i + 1 : Nat) : Int) := by rw [wrap64_succ (by omega) (by omega)]; omega
    rw [drop_cons s i hlt, digs_cons]
    simp only [spec_IsInt.l0]
    rw [if_pos (by omega), if_pos (by omega), bt_get s i hlt, hw]
    by_cases h1 : (((L s)[i]'(by rw [L_length]; exact hlt)).toNat : Int) < 48
    · rw [if_pos h1, dig_lt h1]; rfl
    · rw [if_neg h1]
      by_cases h2 : (((L s)[i]'(by rw [L_length]; exact hlt)).toNat : Int) > 57
      · rw [if_pos h2, dig_gt h2]; rfl
      · rw [if_neg h2, dig_mid h1 h2, ih k (i + 1) (by omega) (by omega) (by omega), Bool.true_and]
theorem impl_isInt_l0 (s : ByteArray) (hn : s.size ≤ 140737488351232) (d : Nat) : ∀ (k i : Nat), i ≤ s.size → s.size - i = d → d < k →
    impl_isInt.l0 k s (s.size : Int) (i : Int) = some (digs ((L s).drop i)) := by
  induction d with
  | zero =>
    intro k i hi hd hk
    obtain ⟨k, rfl⟩ : ∃ m, k = m + 1 := ⟨k - 1, by omega⟩
    rw [drop_all s i (by omega)]
    simp only [impl_isInt.l0]
    rw [if_neg (by omega)]
    rfl
  | succ d ih =>
    intro k i hi hd hk
    obtain ⟨k, rfl⟩ : ∃ m, k = m + 1 := ⟨k - 1, by omega⟩
    have hlt : i < s.size := by omega
    have hw : wrap64 ((i : Int) + 1) = ((i + 1 : Nat) : Int) := by rw [wrap64_succ (by omega) (by omega)]; omega
    rw [drop_cons s i hlt, digs_cons]
    simp only [impl_isInt.l0]
    rw [if_pos (by omega), if_pos (by omega), if_pos (by omega), bt_get s i hlt, hw]
    by_cases h1 : (((L s)[i]'(by rw [L_length]; exact hlt)).toNat : Int) < 48
    · rw [if_pos h1, dig_lt h1]; rfl
    · rw [if_neg h1]
      by_cases h2 : (((L s)[i]'(by rw [L_length]; exact hlt)).toNat : Int) > 57
      · rw [if_pos h2, dig_gt h2]; rfl
      · rw [if_neg h2, dig_mid h1 h2, ih k (i + 1) (by omega) (by omega) (by omega), Bool.true_and]
theorem spec_IsInt_j1 (s : ByteArray) (hn : s.size ≤ 140737488351232) (k : Nat) (hk : s.size + 3 ≤ k) :
    spec_IsInt.j1 k s = some (natText 2500 (L s)) := by
  obtain ⟨k, rfl⟩ : ∃ m, k = m + 2 := ⟨k - 2, by omega⟩
  have hl := spec_IsInt_l0 s hn s.size k 0 (by omega) (by omega) (by omega)
  have hl' : spec_IsInt.l0 k s 0 = some (digs (L s)) := hl
  have hL := L_length s
  simp only [spec_IsInt.j1, spec_IsInt.j2, hl', Bool.false_eq_true, if_false, if_true]
  unfold natText
  rw [hL]
  by_cases h0 : s.size = 0
  · rw [if_pos (by omega)]; simp [h0]
  rw [if_neg (by omega)]
  by_cases h1 : s.size ≤ 2500
  · rw [if_neg (by omega)]
    by_cases h2 : 1 < s.size
    · rw [if_pos (by omega), if_pos (by omega)]
      have hb := bt_eq_iff s 0 (by omega) 48 (by omega)
      by_cases h3 : (L s)[0]? = some 48
      · have h4 : bt s 0 = 48 := hb.2 h3
        simp [h0, h1, h2, h3, h4]
      · have h4 : ¬ bt s 0 = 48 := fun e => h3 (hb.1 e)
        simp [h0, h1, h2, h3, h4]
    · rw [if_neg (by omega)]
      simp [h0, h1, h2]
  · rw [if_pos (by omega)]; simp [h1]
theorem impl_isInt_j1 (s : ByteArray) (hn : s.size ≤ 140737488351232) (D : Nat) (k : Nat) (hk : s.size + 3 ≤ k) :
    impl_isInt.j1 k s (D : Int) = some (natText D (L s)) := by
  obtain ⟨k, rfl⟩ : ∃ m, k = m + 2 := ⟨k - 2, by omega⟩
  have hl := impl_isInt_l0 s hn s.size k 0 (by omega) (by omega) (by omega)
  have hl' : impl_isInt.l0 k s (s.size : Int) 0 = some (digs (L s)) := hl
  have hL := L_length s
  simp only [impl_isInt.j1, impl_isInt.j2, hl', Bool.false_eq_true, if_false, if_true]
  unfold natText
  rw [hL]
  by_cases h0 : s.size = 0
  · rw [if_pos ((nil_iff s).2 h0)]; simp [h0]
  rw [if_neg (fun e => h0 ((nil_iff s).1 e))]
  by_cases h1 : s.size ≤ D
  · rw [if_neg (by omega), if_pos (by omega)]
    have hb := bt_eq_iff s 0 (by omega) 48 (by omega)
    by_cases h3 : (L s)[0]? = some 48
    · have h4 : bt s 0 = 48 := hb.2 h3
      rw [if_pos h4]
      by_cases h2 : 1 < s.size
      · simp [h0, h1, h2, h3]; intro h; omega
      · simp [h0, h1, h2, h3]; intro h; omega
    · have h4 : ¬ bt s 0 = 48 := fun e => h3 (hb.1 e)
      rw [if_neg h4]
      simp [h0, h1, h3]
  · rw [if_pos (by omega)]; simp [h1]
theorem spec_IsInt_is (s : ByteArray) (hn : s.size ≤ 140737488351232) (k : Nat) (hk : s.size + 4 ≤ k) :
    spec_IsInt.f k s = some (intText 2500 (L s)) := by
  obtain ⟨k, rfl⟩ : ∃ m, k = m + 1 := ⟨k - 1, by omega⟩
  have hL := L_length s
  unfold spec_IsInt.f intText
  by_cases h0 : s.size = 0
  · rw [if_neg (by omega)]
    simp only [spec_IsInt.j0, Bool.false_eq_true, if_false]
    rw [spec_IsInt_j1 s hn k (by omega), if_neg]
    rw [List.length_eq_zero_iff.1 (hL.trans h0)]; simp
  rw [if_pos (by omega), if_pos (by omega)]
  have hb := bt_eq_iff s 0 (by omega) 45 (by omega)
  by_cases h3 : (L s)[0]? = some 45
  · have h4 : bt s 0 = 45 := hb.2 h3
    have h5 : (bt s 0 == 45) = true := by rw [h4]; rfl
    rw [if_pos h3, h5]
    simp only [spec_IsInt.j0, if_true]
    rw [if_pos (by omega), toList_L, L_extract_end]
    by_cases h6 : (L s).drop 1 = [48]
    · rw [if_pos h6, if_pos h6]
    · rw [if_neg h6, if_neg h6, spec_IsInt_j1 _ (by rw [size_extract_end]; omega) k (by rw [size_extract_end]; omega), L_extract_end]
  · have h4 : ¬ bt s 0 = 45 := fun e => h3 (hb.1 e)
    have h5 : (bt s 0 == 45) = false := beq_eq_false_iff_ne.2 h4
    rw [if_neg h3, h5]
    simp only [spec_IsInt.j0, Bool.false_eq_true, if_false]
    rw [spec_IsInt_j1 s hn k (by omega)]
theorem impl_isInt_is (s : ByteArray) (hn : s.size ≤ 140737488351232) (D k : Nat) (hk : s.size + 4 ≤ k) :
    impl_isInt.f k s (D : Int) = some (intText D (L s)) := by
  obtain ⟨k, rfl⟩ : ∃ m, k = m + 1 := ⟨k - 1, by omega⟩
  have hL := L_length s
  unfold impl_isInt.f intText
  by_cases h0 : s.size = 0
  · rw [if_pos ((nil_iff s).2 h0)]
    simp only [impl_isInt.j0, Bool.false_eq_true, if_false]
    rw [impl_isInt_j1 s hn D k (by omega), if_neg]
    rw [List.length_eq_zero_iff.1 (hL.trans h0)]; simp
  rw [if_neg (fun e => h0 ((nil_iff s).1 e)), if_pos (by omega)]
  have hb := bt_eq_iff s 0 (by omega) 45 (by omega)
  by_cases h3 : (L s)[0]? = some 45
  · have h4 : bt s 0 = 45 := hb.2 h3
    have h5 : (bt s 0 == 45) = true := by rw [h4]; rfl
    rw [if_pos h3, h5]
    simp only [impl_isInt.j0, if_true]
    rw [if_pos (by omega), toList_L, L_extract_end]
    by_cases h6 : (L s).drop 1 = [48]
    · rw [if_pos h6, if_pos h6]
    · rw [if_neg h6, if_neg h6, impl_isInt_j1 _ (by rw [size_extract_end]; omega) D k (by rw [size_extract_end]; omega), L_extract_end]
  · have h4 : ¬ bt s 0 = 45 := fun e => h3 (hb.1 e)
    have h5 : (bt s 0 == 45) = false := beq_eq_false_iff_ne.2 h4
    rw [if_neg h3, h5]
    simp only [impl_isInt.j0, Bool.false_eq_true, if_false]
    rw [impl_isInt_j1 s hn D k (by omega)]
end Go.Proofs.YtbeelgaganbblaaDoor.PFnExactProofText
namespace Go.Proofs.YtbeelgaganbblaaDoor.Pw
open Go.RowKit Go.Proofs.YtbeelgaganbblaaDoor Go.Proofs.YtbeelgaganbblaaDoorW.PrintWords Go.Proofs.YtbeelgaganbblaaDoorW.PrintLast Go.Proofs.YtbeelgaganbblaaDoor.By Go.Proofs.YtbeelgaganbblaaDoor.PFnExactGoodTree
set_option linter.unusedVariables false
set_option linter.unusedSimpArgs false
set_option maxRecDepth 100000
/-- the writer: its nodes, whether something is bad, the bytes -/
structure Wr where
  N : List S43
  bad : Bool
  size : Nat
def Wr.list (n : Int) (s : Wr) : Wr := ⟨s.N ++ [⟨1, ⟨#[]⟩, n, 0⟩], s.bad, s.size + 2⟩
def Wr.leaf (k : Int) (t : ByteArray) (s : Wr) : Wr := ⟨s.N ++ [⟨k, t, 0, 0⟩], s.bad, s.size + t.size⟩
def Wr.spoil (s : Wr) : Wr := ⟨s.N, true, s.size⟩
/-- an int text's nodes -/
def Wr.int (t : ByteArray) (s : Wr) : Wr :=
  if intText 2500 (L t) = true then (if (L t)[0]? = some 45 then ((s.list 2).leaf 2 ⟨#[45]⟩).leaf 3 (t.extract 1 t.size) else s.leaf 3 t) else s.spoil
def WsP (W0 : World) (b : Nat) (X : Nat → Array Value → Nat → Prop) (s : Wr) (w : World) : Prop := Ws W0 b X s.N s.bad (s.size : Int) w
theorem Ws.step {W0 w w1 : World} {b : Nat} {X : Nat → Array Value → Nat → Prop} {N : List S43} {bad : Bool} {size : Int} (h : Ws W0 b X N bad size w) (hb : Below w.heap.size w w1) : Ws W0 b X N bad size w1 := by
  obtain ⟨bel, ge, ⟨v, hv, hR⟩, oth⟩ := h
  exact ⟨bel.trans (hb.mono bel.size), ge, ⟨v, by rw [hb.block b (blk_lt hv)]; exact hv, Kd.R_below hR hb⟩, fun k cs t hk => ⟨by rw [hb.block k (blk_lt (oth k cs t hk).1)]; exact (oth k cs t hk).1, (oth k cs t hk).2⟩⟩
/-- a mark put on the writer -/
theorem Ws.mark {W0 w : World} {b : Nat} {X : Nat → Array Value → Nat → Prop} {N : List S43} {bad : Bool} {size : Int} (h : Ws W0 b X N bad size w) : Ws W0 b X N true size (w.setCell ⟨b, 1, none⟩ (.bool true)) := by
  obtain ⟨bel, ge, ⟨v, hv, hR⟩, oth⟩ := h
  have h1 := Kd.R_types hR hv (by decide)
  exact ⟨bel.setCell (p := ⟨b, 1, none⟩) ge _, ge, ⟨v, blk_put hv 1 _ rfl, Kd.R_mono (Kd.R_far h1 (p := ⟨b, 1, none⟩) (fun _ hk => hk.2) _) (fun _ _ => trivial)⟩, fun k cs t hk => ⟨by rw [Below.heap_setCell _ ⟨b, 1, none⟩ _ k (oth k cs t hk).2.2]; exact (oth k cs t hk).1, (oth k cs t hk).2⟩⟩
theorem Ws.cells {W0 w : World} {b : Nat} {X : Nat → Array Value → Nat → Prop} {N : List S43} {bad : Bool} {size : Int} (h : Ws W0 b X N bad size w) : w.cell? ⟨b, 1, none⟩ = some (.bool bad) ∧ w.frozen? ⟨b, 1, none⟩ = false ∧ w.cell? ⟨b, 2, none⟩ = some (.int .i64 size) := by
  obtain ⟨bel, ge, ⟨v, hv, hR⟩, oth⟩ := h
  exact ⟨by rw [Lib.cell_of_heap hv]; rfl, blk_frozen hv 1, by rw [Lib.cell_of_heap hv]; rfl⟩
/-- one block more that nobody writes -/
theorem Ws.more {W0 w : World} {b : Nat} {X : Nat → Array Value → Nat → Prop} {N : List S43} {bad : Bool} {size : Int} (h : Ws W0 b X N bad size w) (cs : Array Value) (t : Nat) (ht : t ≠ 43) : Ws W0 b (fun k c u => X k c u ∨ (k = w.heap.size ∧ c = cs ∧ u = t)) N bad size (w.alloc (.cells cs t)) := by
  have h1 := Ws.step h (below_alloc (Below.refl _ _) (.cells cs t))
  obtain ⟨bel, ge, ⟨v, hv, hR⟩, oth⟩ := h
  have hlt := blk_lt hv
  obtain ⟨bel1, ge1, ex1, oth1⟩ := h1
  refine ⟨bel1, ge1, ex1, fun k c u hk => ?_⟩
  rcases hk with hk | ⟨rfl, rfl, rfl⟩
  · exact oth1 k c u hk
  · exact ⟨by show (w.heap.push _)[w.heap.size]? = _; exact Array.getElem?_push_size, ht, by omega⟩
theorem Ws.less {W0 w : World} {b : Nat} {X Y : Nat → Array Value → Nat → Prop} {N : List S43} {bad : Bool} {size : Int} (h : Ws W0 b X N bad size w) (hXY : ∀ k c u, Y k c u → X k c u) : Ws W0 b Y N bad size w := ⟨h.bel, h.ge, h.ex, fun k c u hk => h.oth k c u (hXY k c u hk)⟩
/-- bounds: of ints written so far, at most a -/
structure Sm (a : Nat) (s : Wr) : Prop where
  n : s.N.length ≤ 30000 + 3 * a
  z : s.size ≤ 30000 + 3000 * a
theorem intText_len {t : ByteArray} (h : intText 2500 (L t) = true) : 0 < t.size ∧ t.size ≤ 2501 ∧ ((L t)[0]? = some 45 → 2 ≤ t.size) := by
  have e := L_length t
  unfold intText at h
  split at h
  · next h0 =>
    split at h
    · cases h
    · unfold natText at h
      simp only [Bool.and_eq_true, decide_eq_true_eq, List.length_drop] at h
      omega
  · next h0 =>
    unfold natText at h
    simp only [Bool.and_eq_true, decide_eq_true_eq] at h
    exact ⟨by omega, by omega, fun h1 => absurd h1 h0⟩
theorem int_any {W0 w : World} {b a : Nat} {X : Nat → Array Value → Nat → Prop} {s : Wr} (hs : WsP W0 b X s w) (t : ByteArray) (ht : t.size ≤ 1048576) (hm : Sm a s) (ha : a ≤ 100000000) :
    Calls Tryd.prog 54 #[.pointer (some ⟨b, 0, none⟩), .string t] w fun e w' => e = .returned (.tuple #[]) ∧ WsP W0 b X (s.int t) w' := by
  have hI : PFnExactProofText.spec_IsInt.f (t.size + 4) t = some (intText 2500 (L t)) := PFnExactProofText.spec_IsInt_is t (by omega) _ (Nat.le_refl _)
  have hN := hm.n
  have hZ := hm.z
  go_enter Tryd.func54, Tryd.ntmps54
  go_wp2_with fail
  refine (PFnExactProofText.spec_IsInt.calls _ _ _ w hI).mono ?_
  rintro e w1 ⟨rfl, hd⟩
  have hs1 := Ws.step hs hd.below
  clear hs hd hI
  cases hI : intText 2500 (L t)
  · have HI : Hid (s.int t = s.spoil) := by show _ = _; unfold Wr.int; rw [if_neg (by rw [hI]; decide)]
    clear hI
    obtain ⟨c0, e0, _⟩ := Ws.cells hs1
    have HS := Lib.hid hs1
    clear hs1
    go_wp2
    ((try simp only [Exit.inBlock, Exit.then]); refine bodyPost_ret (results_none rfl _ _ _) rfl ?_)
    refine ⟨rfl, ?_⟩
    rw [HI.out]
    exact Ws.mark HS.out
  · obtain ⟨l0, l1, l2⟩ := intText_len hI
    have g0 : decide (0 < (t.size : Int)) = true := decide_eq_true (by omega)
    have g1 : decide (1 ≤ (t.size : Int)) = true := decide_eq_true (by omega)
    by_cases hneg : (L t)[0]? = some 45
    · have HI : Hid (s.int t = ((s.list 2).leaf 2 ⟨#[45]⟩).leaf 3 (t.extract 1 t.size)) := by show _ = _; unfold Wr.int; rw [if_pos hI, if_pos hneg]
      have hb45 : bt t 0 = 45 := (bt_eq_iff t 0 (by omega) 45 (by omega)).2 hneg
      have hn : (((t[0]'(by omega)).toNat : Int) != 45) = false := by rw [show (((t[0]'(by omega)).toNat : Int)) = bt t 0 from bt_at t 0 (by show 0 < t.size; omega), hb45]; rfl
      clear hI hneg hb45
      go_wp2_with fail
      refine (list_any hs1 2 (by omega) (by omega) (by omega)).mono ?_
      rintro e w2 ⟨rfl, hs2⟩
      clear hs1
      go_wp2_with fail
      refine (leaf_any hs2 2 ⟨#[45]⟩ (by decide) (by rw [List.length_append]; simp; omega) (by omega) (by omega)).mono ?_
      rintro e w3 ⟨rfl, hs3⟩
      clear hs2
      go_wp2_with fail
      refine (leaf_any hs3 3 (t.extract 1 t.size) (by rw [size_extract_end]; omega) (by rw [List.length_append, List.length_append]; simp; omega) (by omega) (by have : (⟨#[45]⟩ : ByteArray).size = 1 := rfl; omega)).mono ?_
      rintro e w4 ⟨rfl, hs4⟩
      clear hs3
      have HS := Lib.hid hs4
      clear hs4
      go_wp2_with fail
      go_end0
      refine ⟨rfl, ?_⟩
      rw [HI.out]
      have := HS.out
      unfold WsP Wr.leaf Wr.list
      simpa using this
    · have HI : Hid (s.int t = s.leaf 3 t) := by show _ = _; unfold Wr.int; rw [if_pos hI, if_neg hneg]
      have hb45 : ¬ bt t 0 = 45 := fun e => hneg ((bt_eq_iff t 0 (by omega) 45 (by omega)).1 e)
      have hn : (((t[0]'(by omega)).toNat : Int) != 45) = true := by rw [show (((t[0]'(by omega)).toNat : Int)) = bt t 0 from bt_at t 0 (by show 0 < t.size; omega)]; exact bne_iff_ne.2 hb45
      clear hI hneg hb45
      go_wp2_with fail
      refine (leaf_any hs1 3 t ht (by omega) (by omega) (by omega)).mono ?_
      rintro e w2 ⟨rfl, hs2⟩
      clear hs1
      have HS := Lib.hid hs2
      clear hs2
      go_wp2_with fail
      ((try simp only [Exit.inBlock, Exit.then]); refine bodyPost_ret (results_none rfl _ _ _) rfl ?_)
      refine ⟨rfl, ?_⟩
      rw [HI.out]
      have := HS.out
      unfold WsP Wr.leaf
      simpa using this
end Go.Proofs.YtbeelgaganbblaaDoor.Pw
namespace Go.Proofs.YtbeelgaganbblaaDoor.Dig
/-- the number that digits, the lowest first, spell -/
def val : List Nat → Nat
  | [] => 0
  | d :: l => d + 10 * val l
/-- without the zeros at the end -/
def top : List Nat → List Nat
  | [] => []
  | d :: l => if top l = [] ∧ d = 0 then [] else d :: top l
theorem top_snoc (l : List Nat) (d : Nat) : top (l ++ [d]) = if d = 0 then top l else l ++ [d] := by
  induction l with
  | nil => by_cases h : d = 0 <;> simp [top, h]
  | cons x l ih =>
    rw [List.cons_append, top, ih]
    by_cases h : d = 0
    · rw [if_pos h, if_pos h]; rfl
    · rw [if_neg h, if_neg h]; simp
theorem val_top_nil : ∀ l : List Nat, top l = [] ↔ val l = 0
  | [] => by simp [top, val]
  | d :: l => by
    rw [top, val]
    have ih := val_top_nil l
    by_cases h : top l = []
    · have h2 := ih.1 h
      by_cases hd : d = 0
      · simp [h, hd, h2]
      · simp [h, hd, h2]
    · have h2 : val l ≠ 0 := fun e => h (ih.2 e)
      simp [h]; omega
theorem val_append (a b : List Nat) : val (a ++ b) = val a + 10 ^ a.length * val b := by
  induction a with
  | nil => simp [val]
  | cons x a ih => rw [List.cons_append, val, val, ih, List.length_cons, Nat.pow_succ, Nat.mul_add, Nat.mul_comm (10 ^ a.length) 10, ← Nat.mul_assoc, Nat.add_assoc]
def dg8 (d : Nat) : UInt8 := UInt8.ofNat (48 + d)
theorem dec_step {n : Nat} (h : 10 ≤ n) : Lib.decDigits n = Lib.decDigits (n / 10) ++ [dg8 (n % 10)] := by
  rw [Lib.decDigits, dif_neg (by omega)]; rfl
theorem top_text : ∀ l : List Nat, (∀ d ∈ l, d < 10) → 0 < val l → ((top l).reverse.map dg8) = Lib.decDigits (val l)
  | [], _, h => by simp [val] at h
  | d :: l, hd, h => by
    have h0 : d < 10 := hd d List.mem_cons_self
    rw [val] at h ⊢
    rw [top]
    by_cases hz : val l = 0
    · have ht := (val_top_nil l).2 hz
      rw [if_neg (by intro e; omega), ht, hz]
      rw [Lib.decDigits_one (by omega)]
      simp [dg8]
    · have ht : top l ≠ [] := fun e => hz ((val_top_nil l).1 e)
      rw [if_neg (fun e => ht e.1), List.reverse_cons, List.map_append, top_text l (fun x hx => hd x (List.mem_cons_of_mem _ hx)) (by omega)]
      rw [dec_step (n := d + 10 * val l) (by omega), show (d + 10 * val l) / 10 = val l by omega, show (d + 10 * val l) % 10 = d by omega]
      rfl
/-- n digits of x, the lowest first -/
def digs : Nat → Nat → List Nat
  | 0, _ => []
  | n + 1, x => x % 10 :: digs n (x / 10)
theorem digs_len : ∀ n x, (digs n x).length = n
  | 0, _ => rfl
  | n + 1, x => by rw [digs, List.length_cons, digs_len n]
theorem digs_lt : ∀ n x, ∀ d ∈ digs n x, d < 10
  | 0, _, d, h => by simp [digs] at h
  | n + 1, x, d, h => by
    rw [digs] at h
    rcases List.mem_cons.1 h with h | h
    · omega
    · exact digs_lt n _ d h
theorem digs_val : ∀ n x, x < 10 ^ n → val (digs n x) = x
  | 0, x, h => by simp at h; simp [digs, val, h]
  | n + 1, x, h => by
    rw [Nat.pow_succ] at h
    rw [digs, val, digs_val n (x / 10) (by omega)]; omega
theorem digs_snoc : ∀ n x, digs (n + 1) x = digs n x ++ [x / 10 ^ n % 10]
  | 0, x => by simp [digs]
  | n + 1, x => by
    rw [digs, digs_snoc n (x / 10), digs, List.cons_append, Nat.div_div_eq_div_mul, Nat.pow_succ, Nat.mul_comm 10]
/-- the digits of limbs of nine digits, the lowest first -/
def limbDigs (ds : List Nat) : List Nat := ds.flatMap (digs 9)
theorem limbDigs_len (ds : List Nat) : (limbDigs ds).length = 9 * ds.length := by
  unfold limbDigs
  induction ds with
  | nil => rfl
  | cons d l ih => rw [List.flatMap_cons, List.length_append, ih, digs_len, List.length_cons]; omega
theorem limbDigs_lt (ds : List Nat) : ∀ d ∈ limbDigs ds, d < 10 := by
  intro d h
  obtain ⟨x, _, hx⟩ := List.mem_flatMap.1 h
  exact digs_lt 9 x d hx
/-- the number that limbs of nine digits, the lowest first, spell -/
def valB : List Nat → Nat
  | [] => 0
  | d :: l => d + 1000000000 * valB l
theorem limbDigs_val : ∀ ds : List Nat, (∀ d ∈ ds, d < 1000000000) → val (limbDigs ds) = valB ds
  | [], _ => rfl
  | d :: l, h => by
    have e : limbDigs (d :: l) = digs 9 d ++ limbDigs l := rfl
    rw [e, val_append, digs_len, digs_val 9 d (h d List.mem_cons_self), limbDigs_val l (fun x hx => h x (List.mem_cons_of_mem _ hx)), valB]
end Go.Proofs.YtbeelgaganbblaaDoor.Dig
namespace Go.Proofs.YtbeelgaganbblaaDoor.Limb
open Go.RowKit Go.Proofs.YtbeelgaganbblaaDoorW.PrintWords Go.Proofs.YtbeelgaganbblaaDoorW.PrintLast Go.Proofs.YtbeelgaganbblaaDoor Go.Proofs.YtbeelgaganbblaaDoor.By
set_option linter.unusedVariables false
set_option linter.unusedSimpArgs false
set_option maxRecDepth 100000
/-- limbs in a row: what is read of them -/
def Row (w : World) (v : Value) (xs : List Nat) : Prop := ∃ (A : Option Addr) (c : Nat), v = .slice A xs.length c ∧ xs.length ≤ c ∧ (xs = [] ∨ ∃ g o, A = some ⟨g, o, none⟩ ∧ g < w.heap.size ∧ ∀ (j x : Nat), xs[j]? = some x → w.cell? ⟨g, o + j, none⟩ = some (.int .u32 (x : Int)))
theorem Row.below {w w' : World} {B : Nat} {v : Value} {xs : List Nat} (h : Row w v xs) (hb : Below B w w') (hB : w.heap.size ≤ B) : Row w' v xs := by
  obtain ⟨A, c, e, hc, hC⟩ := h
  refine ⟨A, c, e, hc, ?_⟩
  rcases hC with h | ⟨g, o, rfl, hg, hx⟩
  · exact .inl h
  · exact .inr ⟨g, o, rfl, Nat.lt_of_lt_of_le hg hb.size, fun j x hj => by rw [hb.cell (p := ⟨g, o + j, none⟩) (by show g < B; omega)]; exact hx j x hj⟩
/-- the limbs of a number below 10^18 -/
def small (u : Nat) : List Nat := if u = 0 then [] else if u < 1000000000 then [u] else [u % 1000000000, u / 1000000000]
theorem spec_neg_big (v : Int) (ng : Bool) (A : Option Addr) (n c : Nat) (hn : 0 < n) (w : World) :
    Calls Tryd.prog 108 #[.agg #[.int .i64 v, .bool ng, .slice A n c]] w fun e w' => e = .returned (.bool ng) ∧ Below w.heap.size w w' := by
  have h0 : decide (0 < (n : Int)) = true := decide_eq_true (by omega)
  have h1 : decide (0 < n) = true := decide_eq_true hn
  go_enter Tryd.func108, Tryd.ntmps108
  go_wp2_with (go_in)
  go_ret
  exact ⟨rfl, (Below.refl _ _).alloc (Nat.le_refl _) _⟩
theorem spec_neg_small (v : Int) (ng : Bool) (w : World) :
    Calls Tryd.prog 108 #[.agg #[.int .i64 v, .bool ng, .slice none 0 0]] w fun e w' => e = .returned (.bool (decide (v < 0))) ∧ Below w.heap.size w w' := by
  go_enter Tryd.func108, Tryd.ntmps108
  go_wp2_with (go_in)
  go_ret
  exact ⟨rfl, (Below.refl _ _).alloc (Nat.le_refl _) _⟩
theorem spec_limbs_big (v : Int) (ng : Bool) (A : Option Addr) (n c : Nat) (hn : 0 < n) (w : World) :
    Calls Tryd.prog 107 #[.agg #[.int .i64 v, .bool ng, .slice A n c]] w fun e w' => e = .returned (.slice A n c) ∧ Below w.heap.size w w' := by
  have h0 : decide (0 < (n : Int)) = true := decide_eq_true (by omega)
  have h1 : decide (0 < n) = true := decide_eq_true hn
  go_enter Tryd.func107, Tryd.ntmps107
  go_wp2_with (go_in)
  go_ret
  exact ⟨rfl, (Below.refl _ _).alloc (Nat.le_refl _) _⟩
theorem row1 (W : World) (t : TypeId) (a B : Nat) (hB : W.heap.size = B) : Row (W.alloc (.cells #[.int .u32 (a : Int)] t)) (.slice (some ⟨B, 0, none⟩) 1 1) [a] := by
  subst hB
  refine ⟨_, _, rfl, Nat.le_refl _, .inr ⟨_, _, rfl, by simp, fun j x hj => ?_⟩⟩
  rcases j with _ | j
  · cases hj; exact World.cell?_alloc_at _ _ _ _ rfl
  · simp at hj
theorem row2 (W : World) (t : TypeId) (a b B : Nat) (hB : W.heap.size = B) : Row (W.alloc (.cells #[.int .u32 (a : Int), .int .u32 (b : Int)] t)) (.slice (some ⟨B, 0, none⟩) 2 2) [a, b] := by
  subst hB
  refine ⟨_, _, rfl, Nat.le_refl _, .inr ⟨_, _, rfl, by simp, fun j x hj => ?_⟩⟩
  rcases j with _ | _ | j
  · cases hj; exact World.cell?_alloc_at _ _ _ _ rfl
  · cases hj; exact World.cell?_alloc_at _ _ _ _ rfl
  · simp at hj
theorem spec_limbs_small (u : Nat) (hu : u < 1000000000000000000) (v : Int) (hv : v = u ∨ v = -(u : Int)) (ng : Bool) (w : World) :
    Calls Tryd.prog 107 #[.agg #[.int .i64 v, .bool ng, .slice none 0 0]] w fun e w' => ∃ rv, e = .returned rv ∧ Row w' rv (small u) ∧ Below w.heap.size w w' := by
  by_cases h0 : u = 0
  · subst h0
    have : v = 0 := by omega
    subst this
    go_enter Tryd.func107, Tryd.ntmps107
    go_wp2_with (go_in)
    go_ret
    exact ⟨_, rfl, ⟨none, 0, rfl, Nat.le_refl _, .inl rfl⟩, (Below.refl _ _).alloc (Nat.le_refl _) _⟩
  have hd : decide (0 < u) = true := decide_eq_true (by omega)
  have hu1 : 0 < u := by omega
  have gz : decide ((u : Int) < 0) = false := decide_eq_false (by omega)
  have hz : ((u : Int) == 0) = false := beq_eq_false_iff_ne.2 (by omega)
  by_cases h9 : u < 1000000000
  · have hS : Hid (small u = [u]) := by show small u = [u]; unfold small; rw [if_neg h0, if_pos h9]
    have g9 : decide ((u : Int) < 1000000000) = true := decide_eq_true (by omega)
    have gi : (u : Int) < 1000000000 := by omega
    have gd : (u : Int) % 4294967296 = u := by omega
    clear h9 hu
    rcases hv with rfl | rfl
    all_goals
      go_enter Tryd.func107, Tryd.ntmps107
      go_wp2_with (go_in)
      go_ret
      refine ⟨.slice (some ⟨w.heap.size + 1, 0, none⟩) 1 1, rfl, ?_, ((Below.refl _ _).alloc (Nat.le_refl _) _).alloc (by simp) _⟩
      rw [hS.out]
      exact row1 _ _ u _ (by simp)
  · have hS : Hid (small u = [u % 1000000000, u / 1000000000]) := by show small u = _; unfold small; rw [if_neg h0, if_neg h9]
    have g9 : decide ((u : Int) < 1000000000) = false := decide_eq_false (by omega)
    have gi : (u : Int) < 1000000000000000000 := by omega
    have gi' : 1000000000 ≤ (u : Int) := by omega
    clear h9 hu
    rcases hv with rfl | rfl
    all_goals
      go_enter Tryd.func107, Tryd.ntmps107
      go_wp2_with (go_in)
      go_ret
      refine ⟨.slice (some ⟨w.heap.size + 1, 0, none⟩) 2 2, rfl, ?_, ((Below.refl _ _).alloc (Nat.le_refl _) _).alloc (by simp) _⟩
      rw [hS.out]
      exact row2 _ _ (u % 1000000000) (u / 1000000000) _ (by simp)
end Go.Proofs.YtbeelgaganbblaaDoor.Limb
namespace Go.Proofs.YtbeelgaganbblaaDoor.Limb
open Go.RowKit Go.Proofs.YtbeelgaganbblaaDoorW.PrintWords Go.Proofs.YtbeelgaganbblaaDoorW.PrintLast Go.Proofs.YtbeelgaganbblaaDoor Go.Proofs.YtbeelgaganbblaaDoor.By Go.Proofs.YtbeelgaganbblaaDoor.Dig
set_option linter.unusedVariables false
set_option linter.unusedSimpArgs false
set_option maxRecDepth 100000
theorem top_take (xs : List Nat) {m x : Nat} (h : xs[m]? = some x) : top (xs.take (m + 1)) = if x = 0 then top (xs.take m) else xs.take (m + 1) := by
  have : xs.take (m + 1) = xs.take m ++ [x] := by rw [List.take_add_one, h]; rfl
  rw [this, top_snoc]
def u8s (l : List Nat) : List Value := l.map (fun d => Value.int .u8 ((48 + d : Nat) : Int))
theorem u8s_at {l : List Nat} {j d : Nat} (h : l[j]? = some d) : (u8s l)[j]? = some (.int .u8 ((48 + d : Nat) : Int)) := by unfold u8s; rw [List.getElem?_map, h]; rfl
theorem u8s_snoc (l : List Nat) (d : Nat) : u8s l ++ [.int .u8 (48 + (d : Int))] = u8s (l ++ [d]) := by unfold u8s; rw [List.map_append]; simp
theorem limb_next {ds : List Nat} {i x : Nat} (h : ds[i]? = some x) : limbDigs (ds.take (i + 1)) = limbDigs (ds.take i) ++ Dig.digs 9 x := by
  have : ds.take (i + 1) = ds.take i ++ [x] := by rw [List.take_add_one, h]; rfl
  rw [this]; unfold limbDigs; rw [List.flatMap_append]; simp
/-- a step of an append: the row and what lies below it -/
theorem t_step {B m : Nat} {W0 wr w1 : World} {v4 v' : Value} {F : List Nat} {d : Nat} {o : Obj} (hown : wr.ownsRow B 5 1 v4 m (u8s F)) (hbel : Below B W0 wr) (hsz : B ≤ wr.heap.size)
    (hown' : w1.ownsRow B 5 1 v' (m + 1) (u8s F ++ [.int .u8 (48 + (d : Int))])) (hgrow : (wr.alloc o).grownBy w1 v4.ownBlock) :
    w1.ownsRow B 5 1 v' (m + 1) (u8s (F ++ [d])) ∧ Below B W0 w1 ∧ B ≤ w1.heap.size := by
  refine ⟨?_, (hbel.alloc hsz o).grown hgrow (by simp; omega) (fun j hj => by
    rcases hown.2 with ⟨rfl, _⟩ | ⟨g, cap, cur, rfl, hg, _⟩
    · simp [Value.ownBlock] at hj
    · have : g = j := by simpa [Value.ownBlock] using hj
      omega), ?_⟩
  · rw [← u8s_snoc]; exact hown'
  · have := hgrow.size; simp at this; omega
/-- a text's numbers: a sign, then digits -/
def txtInts (neg : Bool) (T : List Nat) : List Int := (if neg then [45] else []) ++ T.map (fun d => ((48 + d : Nat) : Int))
theorem txtInts_str (neg : Bool) (T : List Nat) : strOfNums (txtInts neg T) = ⟨((if neg then [45] else []) ++ T.map dg8).toArray⟩ := by
  unfold strOfNums txtInts
  rw [List.map_append, List.map_map]
  cases neg <;> rfl
theorem txtInts_snoc (neg : Bool) (T : List Nat) (d : Nat) : nums .u8 (txtInts neg T) ++ [.int .u8 ((48 + d : Nat) : Int)] = nums .u8 (txtInts neg (T ++ [d])) := by
  unfold nums txtInts; simp
theorem rev_next {L : List Nat} {M j d : Nat} (h : L[j]? = some d) (hj : j < M) : ((L.take M).drop j).reverse = ((L.take M).drop (j + 1)).reverse ++ [d] := by
  have h2 : (L.take M)[j]? = some d := by rw [List.getElem?_take, if_pos hj]; exact h
  obtain ⟨hl, he⟩ := List.getElem?_eq_some_iff.1 h2
  rw [List.drop_eq_getElem_cons hl, he, List.reverse_cons]
/-- a row is kept by what writes nothing below -/
theorem own_keep {W W' : World} {B e size n : Nat} {v : Value} {xs : List Value} (h : W.ownsRow B e size v n xs) (hb : Below W.heap.size W W') : W'.ownsRow B e size v n xs :=
  h.kept (row := none) ⟨hb.os, hb.tape, hb.output, hb.size, fun i hi _ => hb.block i hi⟩ (by cases v.ownBlock <;> simp)
/-- a step of an append, any row -/
theorem t_step2 {B m : Nat} {W0 wr w1 : World} {v4 v' : Value} {xs ys : List Value} {o : Obj} (hown : wr.ownsRow B 5 1 v4 m xs) (hbel : Below B W0 wr) (hsz : B ≤ wr.heap.size)
    (hown' : w1.ownsRow B 5 1 v' (m + 1) ys) (hgrow : (wr.alloc o).grownBy w1 v4.ownBlock) :
    w1.ownsRow B 5 1 v' (m + 1) ys ∧ Below B W0 w1 ∧ B ≤ w1.heap.size :=
  ⟨hown', (hbel.alloc hsz o).grown hgrow (by simp; omega) (fun j hj => (hown.lt j hj).1), by have := hgrow.size; simp at this; omega⟩
/-- the loop that turns the digits round keeps -/
def VRel (B M : Nat) (W0 : World) (neg : Bool) (L : List Nat) (v9 v10 : Value) (wr : World) : Prop :=
  ∃ (i : Int) (q : Nat), -1 ≤ i ∧ i < M ∧ v10 = .int .i64 i ∧ (q : Int) ≤ M - i ∧ wr.ownsRow B 5 1 v9 q (nums .u8 (txtInts neg ((L.take M).drop (i + 1).toNat).reverse)) ∧ Below B W0 wr ∧ B ≤ wr.heap.size
/-- the loop over limbs keeps -/
def TRel (B n : Nat) (W0 : World) (ds : List Nat) (v23 v4 : Value) (wr : World) : Prop :=
  ∃ (i : Nat), i ≤ n ∧ v23 = .int .i64 i ∧ wr.ownsRow B 5 1 v4 (9 * i) (u8s (limbDigs (ds.take i))) ∧ Below B W0 wr ∧ B ≤ wr.heap.size
/-- the loop over a limb's digits keeps -/
def URel (B i : Nat) (W0 : World) (F : List Nat) (x : Nat) (v4 v6 v7 : Value) (wr : World) : Prop :=
  ∃ (k : Nat), k ≤ 9 ∧ v7 = .int .i64 k ∧ v6 = .int .u32 ((x / 10 ^ k : Nat) : Int) ∧ wr.ownsRow B 5 1 v4 (9 * i + k) (u8s (F ++ Dig.digs k x)) ∧ Below B W0 wr ∧ B ≤ wr.heap.size
set_option maxHeartbeats 4000000 in
theorem spec_text (v : Int) (b neg : Bool) (s : Option Addr) (l c : Nat) (ds : List Nat) (hv : 0 < valB ds) (hlen : ds.length < 100) (hlt : ∀ x ∈ ds, x < 1000000000) (w : World)
    (HL : Hid (∀ W, Below w.heap.size w W → Calls Tryd.prog 107 #[.agg #[.int .i64 v, .bool b, .slice s l c]] W fun e w' => ∃ rv, e = .returned rv ∧ Row w' rv ds ∧ Below W.heap.size W w'))
    (HG : Hid (∀ W, Calls Tryd.prog 108 #[.agg #[.int .i64 v, .bool b, .slice s l c]] W fun e w' => e = .returned (.bool neg) ∧ Below W.heap.size W w')) :
    Calls Tryd.prog 90 #[.agg #[.int .i64 v, .bool b, .slice s l c]] w fun e w' => e = .returned (.string ⟨((if neg then [45] else []) ++ Lib.decDigits (valB ds)).toArray⟩) ∧ Below w.heap.size w w' := by
  obtain ⟨i0, hif, hz0, hz1, hz2⟩ := info_parts (show (Tryd.prog.info? 5).map (fun i => (i.zero, i.size, i.bytes)) = some (some (.int .u8 0), 1, 1) from by kernel_rfl)
  have HI : Hid (Tryd.prog.info? 5 = some i0 ∧ i0.zero = some (.int .u8 0) ∧ i0.size = 1 ∧ i0.bytes = 1) := ⟨hif, hz0, hz1, hz2⟩
  clear hif hz0 hz1 hz2
  have HE : Hid ((top (limbDigs ds)).reverse.map dg8 = Lib.decDigits (valB ds)) := by
    have e := limbDigs_val ds hlt
    have t := top_text (limbDigs ds) (limbDigs_lt ds) (by rw [e]; exact hv)
    rw [e] at t; exact t
  have HV : Hid (top (limbDigs ds) ≠ []) := fun e => by have := (val_top_nil _).1 e; rw [limbDigs_val ds hlt] at this; omega
  have hd : ds ≠ [] := by intro e; subst e; simp [valB] at hv
  clear hv
  obtain ⟨n, hn⟩ : ∃ n, ds.length = n := ⟨_, rfl⟩
  have HN : Hid (ds.length = n) := hn
  have hn0 : 0 < n := by rw [← hn]; exact List.length_pos_iff.2 hd
  have hnz : ((n : Int) == 0) = false := beq_eq_false_iff_ne.2 (by omega)
  rw [hn] at hlen
  clear hn hd
  go_enter Tryd.func90, Tryd.ntmps90
  go_wp2_with (fail)
  refine (HL.out _ ((Below.refl _ _).alloc (Nat.le_refl _) _)).mono ?_
  rintro e w1 ⟨rv, rfl, hrow, hb⟩
  obtain ⟨A, cp, rfl, hcp, hcells⟩ := hrow
  rw [HN.out] at hcp ⊢
  obtain ⟨g, o, rfl, hg, hx⟩ : ∃ g o, A = some ⟨g, o, none⟩ ∧ g < w1.heap.size ∧ ∀ (j x : Nat), ds[j]? = some x → w1.cell? ⟨g, o + j, none⟩ = some (.int .u32 (x : Int)) := by
    rcases hcells with h | ⟨g, o, h⟩
    · exact absurd (by rw [h]; rfl) (Nat.ne_of_gt (HN.out ▸ hn0 : 0 < ds.length))
    · exact ⟨g, o, h⟩
  have HX : Hid (∀ (j x : Nat), ds[j]? = some x → w1.cell? ⟨g, o + j, none⟩ = some (.int .u32 (x : Int))) := hx
  have HB1 : Hid (Below (w.heap.size + 1) (w.alloc (Obj.cells #[Value.int IntKind.i64 v, Value.bool b, Value.slice s l c] 126)) w1) := hb.mono (by simp)
  clear hcells hx hb
  obtain ⟨w2, hmk, hown, hgrow⟩ := run_make_own (P := Tryd.prog) w1 w1.heap.size 37 5 i0 (.int .u8 0) 1 Tryd.underlying37 HI.out.1 HI.out.2.1 HI.out.2.2.1 .i64 .i64 (9 * n + 1) (by rw [HI.out.2.2.2]; omega) (by unfold maxLen; omega) (Nat.le_refl _)
  rw [show (((9 * n + 1 : Nat) : Int)) = 9 * (n : Int) + 1 by omega] at hmk
  go_wp2_with (go_in)
  have hg1 : g ≠ w1.heap.size := Nat.ne_of_lt hg
  go_loopw [4, 23] (fun v4 v23 wr => TRel w1.heap.size n w1 ds v23 v4 wr) (fun _ v23 _ => n - (intOf v23).toNat)
  case atStart => exact ⟨0, by omega, by first | rfl | go_num, hown, (Below.refl _ _).grown hgrow (Nat.le_refl _) (fun k hk => by simp at hk), hgrow.size⟩
  case round =>
    obtain ⟨i, hi, rfl, hown1, hbel, hsz⟩ := hrel
    have HO : Hid (wr.ownsRow w1.heap.size 5 1 u4 (9 * i) (u8s (limbDigs (ds.take i)))) := hown1
    have HB : Hid (Below w1.heap.size w1 wr) := hbel
    clear hown1 hbel
    by_cases hlt2 : i < n
    · obtain ⟨x, hx⟩ : ∃ x, ds[i]? = some x := ⟨_, List.getElem?_eq_getElem (by have := HN.out; omega)⟩
      have hx9 : x < 1000000000 := hlt x (List.mem_of_getElem? hx)
      have HXI : Hid (ds[i]? = some x) := hx
      have hcell : wr.cell? ⟨g, o + i, none⟩ = some (.int .u32 (x : Int)) := by rw [HB.out.cell (p := ⟨g, o + i, none⟩) hg]; exact HX.out i x hx
      clear hx
      go_wp2_with (go_in)
      obtain ⟨wo, rfl⟩ : ∃ wo : World, wo = wr := ⟨_, rfl⟩
      go_loopw [4, 6, 7] (fun v4 v6 v7 wr => URel w1.heap.size i w1 (limbDigs (ds.take i)) x v4 v6 v7 wr) (fun _ _ v7 _ => 9 - (intOf v7).toNat)
      case atStart => exact ⟨0, by omega, by first | rfl | go_num, by simp, by rw [show Dig.digs 0 x = [] from rfl, List.append_nil]; exact HO.out, HB.out, hsz⟩
      case round =>
        obtain ⟨k, hk9, rfl, hv6, hown2, hbel2, hsz2⟩ := hrel
        have HO2 : Hid (wr.ownsRow w1.heap.size 5 1 u4 (9 * i + k) (u8s (limbDigs (ds.take i) ++ Dig.digs k x))) := hown2
        have HB2 : Hid (Below w1.heap.size w1 wr) := hbel2
        clear hown2 hbel2
        obtain ⟨y, hy⟩ : ∃ y, x / 10 ^ k = y := ⟨_, rfl⟩
        have HY : Hid (x / 10 ^ k = y) := hy
        have hy9 : y < 1000000000 := by rw [← hy]; exact Nat.lt_of_le_of_lt (Nat.div_le_self _ _) hx9
        rw [hy] at hv6
        clear hy
        subst hv6
        by_cases hk : k < 9
        · go_wp2_with (first | (at_builtin; refine wpList_append_own _ rfl _ _ 37 rfl w1.heap.size 5 i0 (.int .u8 0) 1 1 Tryd.underlying37 HI.out.1 HI.out.2.1 HI.out.2.2.1 HI.out.2.2.2 rfl (by decide) _ _ _ rfl (HO2.out.alloc _) ⟨wr.heap.size, 0, none⟩ 1 1 [_] rfl rfl (cell_one_new _ _ _) (by simp [Value.oneCell']) (by unfold maxLen; omega) (by omega) (by simp; omega) ?_; intro v' w9 hown' hgrow' _) | go_in)
          obtain ⟨ha, hb', hc'⟩ := t_step (d := y % 10) HO2.out HB2.out hsz2 (by simpa using hown') hgrow'
          refine ⟨⟨k + 1, by omega, by go_num, ?_, ?_, hb', hc'⟩, by simp [intOf]; omega⟩
          · rw [Nat.pow_succ, ← Nat.div_div_eq_div_mul, HY.out]; rfl
          · rw [Dig.digs_snoc, HY.out, ← List.append_assoc]; exact ha
        · have hk' : k = 9 := by omega
          subst hk'
          go_wp2_with (go_in)
          refine ⟨⟨i + 1, by omega, by go_num, ?_, HB2.out, hsz2⟩, by simp [intOf]; omega⟩
          rw [limb_next HXI.out, show 9 * (i + 1) = 9 * i + 9 by omega]; exact HO2.out
    · have hin : i = n := by omega
      subst hin
      clear hlt2 hi
      obtain ⟨L, hL⟩ : ∃ L, limbDigs ds = L := ⟨_, rfl⟩
      have HLL : Hid (limbDigs ds = L) := hL
      have HV' : Hid (top L ≠ []) := by rw [← hL]; exact HV.out
      have HE' : Hid ((top L).reverse.map dg8 = Lib.decDigits (valB ds)) := by rw [← hL]; exact HE.out
      clear HV HE
      have hLn : L.length = 9 * i := by rw [← hL, limbDigs_len, HN.out]
      have hLd : ∀ d ∈ L, d < 10 := by rw [← hL]; exact limbDigs_lt ds
      have hown3 : wr.ownsRow w1.heap.size 5 1 u4 (9 * i) (u8s L) := by rw [← hL, ← show ds.take i = ds from by rw [← HN.out]; exact List.take_length]; exact HO.out
      clear HO
      rcases hown3.2 with ⟨_, h⟩ | ⟨g2, cap, cur, rfl, hg2, _, hcap, hcapm, _⟩
      · exact absurd h (by omega)
      have HO : Hid (wr.ownsRow w1.heap.size 5 1 (.slice (some ⟨g2, 0, none⟩) (9 * i) cap) (9 * i) (u8s L)) := hown3
      have hg2l : g2 < wr.heap.size := by have := own_lt HO.out g2 (by simp [Value.ownBlock]); exact this
      have HC2 : Hid (∀ (j d : Nat), L[j]? = some d → wr.cell? ⟨g2, j, none⟩ = some (.int .u8 ((48 + d : Nat) : Int))) := by
        intro j d hj
        have hjl := (List.getElem?_eq_some_iff.1 hj).1
        rw [HO.out.cellAt j (by omega)]; exact u8s_at hj
      clear hown3 hL
      go_wp2_with (go_in)
      obtain ⟨wo, rfl⟩ : ∃ wo : World, wo = wr := ⟨_, rfl⟩
      go_loop [8] (fun v => ∃ m : Nat, m ≤ 9 * i ∧ v = .int .i64 m ∧ Hid (top (L.take m) = top L)) (fun v => (intOf v).toNat)
      case atStart => exact ⟨9 * i, Nat.le_refl _, by first | rfl | go_num, by show _ = _; rw [← hLn, List.take_length]⟩
      case round =>
        obtain ⟨m, hm, rfl, HT⟩ := hrel
        rcases m with _ | m
        · exact absurd (by rw [← HT.out, List.take_zero]; rfl : top L = []) HV'.out
        · obtain ⟨d, hd⟩ : ∃ d, L[m]? = some d := ⟨_, List.getElem?_eq_getElem (by omega)⟩
          have hcell := HC2.out m d hd
          have HD : Hid (L[m]? = some d) := hd
          have hd9 : d < 10 := hLd d (List.mem_of_getElem? hd)
          clear hd
          by_cases hz : d = 0
          · subst hz
            go_wp2_with (go_in)
            go_round
            case rel => exact ⟨m, by omega, by go_num, by show _ = _; rw [← HT.out, top_take L HD.out, if_pos rfl]⟩
            case measure => simp [intOf]
          · have hz1 : (((48 + d : Nat) : Int) == 48) = false := beq_eq_false_iff_ne.2 (by omega)
            have hz2 : ((48 + (d : Int)) == 48) = false := beq_eq_false_iff_ne.2 (by omega)
            have HTop : Hid (top L = L.take (m + 1)) := by show _ = _; rw [← HT.out, top_take L HD.out, if_neg hz]
            obtain ⟨w3, hmk3, hown4, hgrow3⟩ := run_make_own (P := Tryd.prog) wo wo.heap.size 37 5 i0 (.int .u8 0) 1 Tryd.underlying37 HI.out.1 HI.out.2.1 HI.out.2.2.1 .i64 .i64 (m + 1 + 1) (by rw [HI.out.2.2.2]; omega) (by unfold maxLen; omega) (Nat.le_refl _)
            rw [show (((m + 1 + 1 : Nat) : Int)) = (m : Int) + 1 + 1 by omega] at hmk3
            have hb3 : Below wo.heap.size wo w3 := (Below.refl _ _).grown hgrow3 (Nat.le_refl _) (fun k hk => by simp at hk)
            have hw1 : w.heap.size + 1 ≤ w1.heap.size := by have := HB1.out.size; simp at this; exact this
            have hbw : Below (w.heap.size + 1) (w.alloc (Obj.cells #[Value.int IntKind.i64 v, Value.bool b, Value.slice s l c] 126)) w3 := (HB1.out.trans (HB.out.mono hw1)).trans (hb3.mono (Nat.le_trans hw1 hsz))
            have q0 : w3.cell? ⟨w.heap.size, 0, none⟩ = some (.int .i64 v) := by rw [hbw.cell (p := ⟨w.heap.size, 0, none⟩) (by simp)]; exact World.cell?_alloc_at _ _ _ _ rfl
            have q1 : w3.cell? ⟨w.heap.size, 1, none⟩ = some (.bool b) := by rw [hbw.cell (p := ⟨w.heap.size, 1, none⟩) (by simp)]; exact World.cell?_alloc_at _ _ _ _ rfl
            have q2 : w3.cell? ⟨w.heap.size, 2, none⟩ = some (.slice s l c) := by rw [hbw.cell (p := ⟨w.heap.size, 2, none⟩) (by simp)]; exact World.cell?_alloc_at _ _ _ _ rfl
            have HB3 : Hid (Below wo.heap.size wo w3) := hb3
            have HBW : Hid (Below (w.heap.size + 1) (w.alloc (Obj.cells #[Value.int IntKind.i64 v, Value.bool b, Value.slice s l c] 126)) w3) := hbw
            have HBF : Hid (∀ W, Below wo.heap.size wo W → Below w.heap.size w W) := fun W h => (((Below.refl _ _).alloc (Nat.le_refl _) _).trans ((HB1.out.mono (by omega)).trans (HB.out.mono (by omega)))).trans (h.mono (by omega))
            clear hb3 hbw
            go_wp2_with (fail)
            refine (HG.out _).mono ?_
            rintro e w4 ⟨rfl, hb4⟩
            have HO5 : Hid (w4.ownsRow wo.heap.size 5 1 _ 0 []) := own_keep hown4 hb4
            have HB5 : Hid (Below wo.heap.size wo w4) := HB3.out.trans (hb4.mono hgrow3.size)
            have hsz5 : wo.heap.size ≤ w4.heap.size := Nat.le_trans hgrow3.size hb4.size
            clear hb4 hown4
            cases neg
            · go_wp2_with (go_in)
              go_loopw [9, 10] (fun v9 v10 wq => VRel wo.heap.size (m + 1) wo false L v9 v10 wq) (fun _ v10 _ => (intOf v10 + 1).toNat)
              case atStart => exact ⟨(m : Int), 0, by omega, by omega, by first | rfl | go_num, by omega, by rw [List.drop_eq_nil_of_le (by rw [List.length_take]; omega)]; exact HO5.out, HB5.out, hsz5⟩
              case round =>
                obtain ⟨i', q, hi0, hi1, rfl, hq, hown6, hbel6, hsz6⟩ := hrel
                by_cases hneg : i' = -1
                · subst hneg
                  have hown7 : wr.ownsRow wo.heap.size 5 1 u9 q (nums .u8 (txtInts false (L.take (m + 1)).reverse)) := hown6
                  have HO7 : Hid _ := hown7
                  have HB6 : Hid (Below wo.heap.size wo wr) := hbel6
                  clear hown6 hbel6
                  have hcv := own_string (P := Tryd.prog) (w := wr) Tryd.underlying37 Tryd.underlying5 Tryd.underlying9 hown7
                  clear hown7
                  go_wp2_with (go_in)
                  go_ret
                  exact ⟨by rw [txtInts_str, ← HTop.out, HE'.out]; rfl, HBF.out _ HB6.out⟩
                · obtain ⟨j, rfl⟩ : ∃ j : Nat, i' = j := ⟨i'.toNat, by omega⟩
                  obtain ⟨d2, hd2⟩ : ∃ d, L[j]? = some d := ⟨_, List.getElem?_eq_getElem (by omega)⟩
                  have hcell2 : wr.cell? ⟨g2, j, none⟩ = some (.int .u8 ((48 + d2 : Nat) : Int)) := by rw [hbel6.cell (p := ⟨g2, j, none⟩) hg2l]; exact HC2.out j d2 hd2
                  have HD2 : Hid (L[j]? = some d2) := hd2
                  have HO6 : Hid (wr.ownsRow wo.heap.size 5 1 u9 q (nums .u8 (txtInts false ((L.take (m + 1)).drop ((j : Int) + 1).toNat).reverse))) := hown6
                  have HB6 : Hid (Below wo.heap.size wo wr) := hbel6
                  have hd3 : d2 < 10 := hLd d2 (List.mem_of_getElem? hd2)
                  clear hown6 hbel6 hd2
                  go_wp2_with (first | (at_builtin; refine wpList_append_own _ rfl _ _ 37 rfl wo.heap.size 5 i0 (.int .u8 0) 1 1 Tryd.underlying37 HI.out.1 HI.out.2.1 HI.out.2.2.1 HI.out.2.2.2 rfl (by decide) _ _ _ rfl (HO6.out.alloc _) ⟨wr.heap.size, 0, none⟩ 1 1 [_] rfl rfl (cell_one_new _ _ _) (by simp [Value.oneCell']) (by unfold maxLen; omega) (by omega) (by simp; omega) ?_; intro v' w9 hown' hgrow' _) | go_in)
                  obtain ⟨ha2, hb2', hc2'⟩ := t_step2 HO6.out HB6.out hsz6 hown' hgrow'
                  refine ⟨⟨(j : Int) - 1, q + 1, by omega, by omega, by go_num, by omega, ?_, hb2', hc2'⟩, by simp [intOf]⟩
                  rw [show ((j : Int) - 1 + 1).toNat = j by omega, rev_next HD2.out (by omega), ← txtInts_snoc]
                  exact ha2
            · go_wp2_with (first | (at_builtin; refine wpList_append_own _ rfl _ _ 37 rfl wo.heap.size 5 i0 (.int .u8 0) 1 1 Tryd.underlying37 HI.out.1 HI.out.2.1 HI.out.2.2.1 HI.out.2.2.2 rfl (by decide) _ _ _ rfl (HO5.out.alloc _) ⟨w4.heap.size, 0, none⟩ 1 1 [.int .u8 45] rfl rfl (cell_one_new _ _ _) (by simp [Value.oneCell']) (by unfold maxLen; omega) (by omega) (by simp; omega) ?_; intro v' w9 hown' hgrow' _) | go_in)
              obtain ⟨ha, hb', hc'⟩ := t_step2 HO5.out HB5.out hsz5 hown' hgrow'
              go_loopw [9, 10] (fun v9 v10 wq => VRel wo.heap.size (m + 1) wo true L v9 v10 wq) (fun _ v10 _ => (intOf v10 + 1).toNat)
              case atStart => exact ⟨(m : Int), 1, by omega, by omega, by first | rfl | go_num, by omega, by rw [List.drop_eq_nil_of_le (by rw [List.length_take]; omega)]; exact ha, hb', hc'⟩
              case round =>
                obtain ⟨i', q, hi0, hi1, rfl, hq, hown6, hbel6, hsz6⟩ := hrel
                by_cases hneg : i' = -1
                · subst hneg
                  have hown7 : wr.ownsRow wo.heap.size 5 1 u9 q (nums .u8 (txtInts true (L.take (m + 1)).reverse)) := hown6
                  have HO7 : Hid _ := hown7
                  have HB6 : Hid (Below wo.heap.size wo wr) := hbel6
                  clear hown6 hbel6
                  have hcv := own_string (P := Tryd.prog) (w := wr) Tryd.underlying37 Tryd.underlying5 Tryd.underlying9 hown7
                  clear hown7
                  go_wp2_with (go_in)
                  go_ret
                  exact ⟨by rw [txtInts_str, ← HTop.out, HE'.out]; rfl, HBF.out _ HB6.out⟩
                · obtain ⟨j, rfl⟩ : ∃ j : Nat, i' = j := ⟨i'.toNat, by omega⟩
                  obtain ⟨d2, hd2⟩ : ∃ d, L[j]? = some d := ⟨_, List.getElem?_eq_getElem (by omega)⟩
                  have hcell2 : wr.cell? ⟨g2, j, none⟩ = some (.int .u8 ((48 + d2 : Nat) : Int)) := by rw [hbel6.cell (p := ⟨g2, j, none⟩) hg2l]; exact HC2.out j d2 hd2
                  have HD2 : Hid (L[j]? = some d2) := hd2
                  have HO6 : Hid (wr.ownsRow wo.heap.size 5 1 u9 q (nums .u8 (txtInts true ((L.take (m + 1)).drop ((j : Int) + 1).toNat).reverse))) := hown6
                  have HB6 : Hid (Below wo.heap.size wo wr) := hbel6
                  have hd3 : d2 < 10 := hLd d2 (List.mem_of_getElem? hd2)
                  clear hown6 hbel6 hd2
                  go_wp2_with (first | (at_builtin; refine wpList_append_own _ rfl _ _ 37 rfl wo.heap.size 5 i0 (.int .u8 0) 1 1 Tryd.underlying37 HI.out.1 HI.out.2.1 HI.out.2.2.1 HI.out.2.2.2 rfl (by decide) _ _ _ rfl (HO6.out.alloc _) ⟨wr.heap.size, 0, none⟩ 1 1 [_] rfl rfl (cell_one_new _ _ _) (by simp [Value.oneCell']) (by unfold maxLen; omega) (by omega) (by simp; omega) ?_; intro v' w9 hown' hgrow' _) | go_in)
                  obtain ⟨ha2, hb2', hc2'⟩ := t_step2 HO6.out HB6.out hsz6 hown' hgrow'
                  refine ⟨⟨(j : Int) - 1, q + 1, by omega, by omega, by go_num, by omega, ?_, hb2', hc2'⟩, by simp [intOf]⟩
                  rw [show ((j : Int) - 1 + 1).toNat = j by omega, rev_next HD2.out (by omega), ← txtInts_snoc]
                  exact ha2
end Go.Proofs.YtbeelgaganbblaaDoor.Limb
namespace Go.Proofs.YtbeelgaganbblaaDoor.Limb
open Go.RowKit Go.Proofs.YtbeelgaganbblaaDoor Go.Proofs.YtbeelgaganbblaaDoorW.PrintWords Go.Proofs.YtbeelgaganbblaaDoorW.PrintLast Go.Proofs.YtbeelgaganbblaaDoor.By Go.Proofs.YtbeelgaganbblaaDoor.Dig
set_option linter.unusedVariables false
set_option linter.unusedSimpArgs false
set_option maxRecDepth 100000
theorem small_val (u : Nat) (hu : u < 1000000000000000000) : valB (small u) = u := by
  unfold small
  split
  · next h => rw [h]; rfl
  · split
    · simp [valB]
    · simp [valB]; omega
theorem small_lt (u : Nat) (hu : u < 1000000000000000000) : ∀ x ∈ small u, x < 1000000000 := by
  unfold small
  split
  · intro x hx; simp at hx
  · split
    · intro x hx; simp at hx; omega
    · intro x hx; simp at hx; omega
theorem small_len (u : Nat) : (small u).length ≤ 2 := by unfold small; split; simp; split <;> simp
theorem text_zero (w : World) :
    Calls Tryd.prog 90 #[.agg #[.int .i64 0, .bool false, .slice none 0 0]] w fun e w' => e = .returned (.string ⟨#[48]⟩) ∧ Below w.heap.size w w' := by
  go_enter Tryd.func90, Tryd.ntmps90
  go_wp2_with (fail)
  refine (spec_limbs_small 0 (by decide) 0 (.inl rfl) false _).mono ?_
  rintro e w1 ⟨rv, rfl, hrow, hb⟩
  obtain ⟨A, cp, rfl, hcp, hcells⟩ := hrow
  have hb2 : Hid (Below w.heap.size w w1) := ((Below.refl _ _).alloc (Nat.le_refl _) _).trans (hb.mono (by simp))
  clear hb hcells
  rw [show (small 0).length = 0 from rfl] at hcp ⊢
  go_wp2_with (go_in)
  go_ret
  exact ⟨rfl, hb2.out⟩
def limbsU (n : Nat) : List Nat := [n % 1000000000, n / 1000000000 % 1000000000, n / 1000000000 / 1000000000]
theorem limbsU_lt (n : Nat) (hn : n < 18446744073709551616) : ∀ x ∈ limbsU n, x < 1000000000 := by
  intro x hx
  unfold limbsU at hx
  simp only [List.mem_cons, List.not_mem_nil, or_false] at hx
  omega
theorem limbsU_row (W : World) (t : TypeId) (n : Nat) {B : Nat} (hB : W.heap.size = B) : ∀ (j x : Nat), (limbsU n)[j]? = some x → (W.alloc (.cells #[.int .u32 ((n : Int) % 1000000000), .int .u32 ((n : Int) / 1000000000 % 1000000000), .int .u32 ((n : Int) / 1000000000 / 1000000000)] t)).cell? ⟨B, 0 + j, none⟩ = some (.int .u32 (x : Int)) := by
  subst hB
  intro j x hj
  rcases j with _ | _ | _ | j
  · cases hj; exact World.cell?_alloc_at _ _ _ _ rfl
  · cases hj; exact World.cell?_alloc_at _ _ _ _ rfl
  · cases hj; exact World.cell?_alloc_at _ _ _ _ rfl
  · simp [limbsU] at hj
set_option maxHeartbeats 1000000 in
theorem limbsU_val (n : Nat) : valB (limbsU n) = n := by simp [limbsU, valB]; omega
/-- a whole number's text -/
def sgnT (n : Int) : List UInt8 := (if n < 0 then [45] else []) ++ Lib.decDigits n.natAbs
set_option maxHeartbeats 1000000 in
theorem small_any (n : Int) (h0 : -1000000000000000000 < n) (h1 : n < 1000000000000000000) (w : World) :
    Calls Tryd.prog 91 #[.int .i64 n] w fun e w' => e = .returned (.agg #[.int .i64 n, .bool false, .slice none 0 0]) ∧ Below w.heap.size w w' := by
  have d0 : decide (-1000000000000000000 < n) = true := decide_eq_true h0
  have d1 : decide (n < 1000000000000000000) = true := decide_eq_true h1
  go_enter Tryd.func91, Tryd.ntmps91
  go_wp2_with fail
  exact bodyPost_ret (v := .agg #[.int .i64 n, .bool false, .slice none 0 0]) (by simp [results, Tryd.results91, go_sem, World.cell?_alloc_at, World.frozen?_alloc_at]) rfl ⟨rfl, (Below.refl _ _).alloc (Nat.le_refl _) _⟩
set_option maxHeartbeats 1000000 in
theorem big_any (n : Int) (h0 : -9223372036854775808 ≤ n) (h1 : n ≤ 9223372036854775807) (h2 : n ≤ -1000000000000000000 ∨ 1000000000000000000 ≤ n) (w : World) :
    Calls Tryd.prog 91 #[.int .i64 n] w fun e w' => ∃ g, e = .returned (.agg #[.int .i64 0, .bool (decide (n < 0)), .slice (some ⟨g, 0, none⟩) 3 3]) ∧ w.heap.size ≤ g ∧ g < w'.heap.size ∧ (∀ (j x : Nat), (limbsU n.natAbs)[j]? = some x → w'.cell? ⟨g, 0 + j, none⟩ = some (.int .u32 (x : Int))) ∧ Below w.heap.size w w' := by
  rcases h2 with h2 | h2
  · have d1 : decide (n < 1000000000000000000) = true := decide_eq_true (by omega)
    have d0 : decide (-1000000000000000000 < n) = false := decide_eq_false (by omega)
    have dn : decide (n < 0) = true := decide_eq_true (by omega)
    rw [dn]
    obtain ⟨m, hm⟩ : ∃ m : Nat, m = n.natAbs := ⟨_, rfl⟩
    have hw : ∀ z : Int, IntKind.u64.wrap z = z % 18446744073709551616 := by intro z; simp [IntKind.wrap, IntKind.signed, IntKind.bits]
    have e0 : IntKind.u64.wrap (wrap64 (-n)) = (m : Int) := by rw [hw]; unfold wrap64; omega
    have e1 : (m : Int).tmod 1000000000 = (m : Int) % 1000000000 := Int.tmod_eq_emod_of_nonneg (by omega)
    have e2 : (m : Int).tdiv 1000000000 = (m : Int) / 1000000000 := Int.tdiv_eq_ediv_of_nonneg (by omega)
    have e3 : IntKind.u64.wrap ((m : Int) / 1000000000) = (m : Int) / 1000000000 := by rw [hw]; omega
    have e4 : ((m : Int) / 1000000000).tmod 1000000000 = (m : Int) / 1000000000 % 1000000000 := Int.tmod_eq_emod_of_nonneg (by omega)
    have e5 : ((m : Int) / 1000000000).tdiv 1000000000 = (m : Int) / 1000000000 / 1000000000 := Int.tdiv_eq_ediv_of_nonneg (by omega)
    have e6 : IntKind.u64.wrap ((m : Int) / 1000000000 / 1000000000) = (m : Int) / 1000000000 / 1000000000 := by rw [hw]; omega
    have e7 : (m : Int) % 1000000000 % 4294967296 = (m : Int) % 1000000000 := by omega
    have e8 : (m : Int) / 1000000000 % 1000000000 % 4294967296 = (m : Int) / 1000000000 % 1000000000 := by omega
    have e9 : (m : Int) / 1000000000 / 1000000000 % 4294967296 = (m : Int) / 1000000000 / 1000000000 := by omega
    rw [← hm]; clear hw
    go_enter Tryd.func91, Tryd.ntmps91
    go_wp2_with fail
    try simp only [e0, e1, e2, e3, e4, e5, e6, e7, e8, e9]
    refine bodyPost_ret (v := .agg #[.int .i64 0, .bool true, .slice (some ⟨w.heap.size + 1, 0, none⟩) 3 3]) (by simp [results, Tryd.results91, go_sem, World.cell?_alloc_at, World.frozen?_alloc_at]) rfl ⟨w.heap.size + 1, rfl, by omega, by simp, fun j x hj => ?_, ((Below.refl _ _).alloc (Nat.le_refl _) _).alloc (by simp) _⟩
    subst hm; exact limbsU_row _ _ n.natAbs (by simp) j x hj
  · have d1 : decide (n < 1000000000000000000) = false := decide_eq_false (by omega)
    have dn : decide (n < 0) = false := decide_eq_false (by omega)
    rw [dn]
    obtain ⟨m, rfl⟩ : ∃ m : Nat, n = m := ⟨n.natAbs, by omega⟩
    go_enter Tryd.func91, Tryd.ntmps91
    go_wp2_with fail
    refine bodyPost_ret (v := .agg #[.int .i64 0, .bool false, .slice (some ⟨w.heap.size + 1, 0, none⟩) 3 3]) (by simp [results, Tryd.results91, go_sem, World.cell?_alloc_at, World.frozen?_alloc_at]) rfl ⟨w.heap.size + 1, rfl, by omega, by simp, fun j x hj => ?_, ((Below.refl _ _).alloc (Nat.le_refl _) _).alloc (by simp) _⟩
    exact limbsU_row _ _ m (by simp) j x hj
theorem signed_any (n : Int) (h0 : -9223372036854775808 ≤ n) (h1 : n ≤ 9223372036854775807) (w : World) :
    Calls Tryd.prog 55 #[.int .i64 n] w fun e w' => e = .returned (.string ⟨(sgnT n).toArray⟩) ∧ Below w.heap.size w w' := by
  go_enter Tryd.func55, Tryd.ntmps55
  go_wp2_with fail
  by_cases hs : -1000000000000000000 < n ∧ n < 1000000000000000000
  · refine (small_any n hs.1 hs.2 _).mono ?_
    rintro e w1 ⟨rfl, hb⟩
    have HB : Hid (Below w.heap.size w w1) := hb
    have H1 : Hid (∀ W, Calls Tryd.prog 90 #[.agg #[.int .i64 n, .bool false, .slice none 0 0]] W fun e w' => e = .returned (.string ⟨(sgnT n).toArray⟩) ∧ Below W.heap.size W w') := by
      intro W
      rcases Decidable.em (n = 0) with rfl | hn
      · rw [show (sgnT 0).toArray = #[48] from by unfold sgnT; rw [show (0 : Int).natAbs = 0 from rfl, Lib.decDigits_one (by omega)]; rfl]; exact text_zero W
      · refine (spec_text n false (decide (n < 0)) none 0 0 (small n.natAbs) (by rw [small_val _ (by omega)]; omega) (by have := small_len n.natAbs; omega) (small_lt _ (by omega)) W (fun W1 _ => (spec_limbs_small n.natAbs (by omega) n (by omega) false W1)) (fun W1 => spec_neg_small n false W1)).mono ?_
        rintro e w2 ⟨rfl, hb2⟩
        refine ⟨?_, hb2⟩
        rw [small_val _ (by omega)]
        unfold sgnT
        by_cases h : n < 0 <;> simp [h]
    clear hs hb
    go_wp2_with fail
    refine (H1.out _).mono ?_
    rintro e w2 ⟨rfl, hb2⟩
    have HB2 : Hid (Below w.heap.size w w2) := HB.out.trans (hb2.mono HB.out.size)
    clear hb2
    go_wp2_with fail
    go_ret
    exact ⟨rfl, HB2.out⟩
  · refine (big_any n h0 h1 (by omega) _).mono ?_
    rintro e w1 ⟨g, rfl, hg0, hg1, hrow, hb⟩
    have HB : Hid (Below w.heap.size w w1) := hb
    have H1 : Hid (Calls Tryd.prog 90 #[.agg #[.int .i64 0, .bool (decide (n < 0)), .slice (some ⟨g, 0, none⟩) 3 3]] w1 fun e w' => e = .returned (.string ⟨(sgnT n).toArray⟩) ∧ Below w1.heap.size w1 w') := by
      refine (spec_text 0 (decide (n < 0)) (decide (n < 0)) (some ⟨g, 0, none⟩) 3 3 (limbsU n.natAbs) (by rw [limbsU_val]; omega) (by simp [limbsU]) (limbsU_lt _ (by omega)) w1 (fun W1 hW1 => (spec_limbs_big 0 _ _ 3 3 (by decide) W1).mono ?_) (fun W1 => spec_neg_big 0 _ _ 3 3 (by decide) W1)).mono ?_
      · rintro e w2 ⟨rfl, hb2⟩
        refine ⟨_, rfl, ⟨some ⟨g, 0, none⟩, 3, rfl, Nat.le_refl _, .inr ⟨g, 0, rfl, Nat.lt_of_lt_of_le hg1 (Nat.le_trans hW1.size hb2.size), fun j x hj => ?_⟩⟩, hb2⟩
        rw [hb2.cell (p := ⟨g, 0 + j, none⟩) (Nat.lt_of_lt_of_le hg1 hW1.size), hW1.cell (p := ⟨g, 0 + j, none⟩) hg1]
        exact hrow j x hj
      · rintro e w2 ⟨rfl, hb2⟩
        refine ⟨?_, hb2⟩
        rw [limbsU_val]
        unfold sgnT
        by_cases h : n < 0 <;> simp [h]
    clear hs hb hrow
    go_wp2_with fail
    refine (H1.out).mono ?_
    rintro e w2 ⟨rfl, hb2⟩
    have HB2 : Hid (Below w.heap.size w w2) := HB.out.trans (hb2.mono HB.out.size)
    clear hb2
    go_wp2_with fail
    go_ret
    exact ⟨rfl, HB2.out⟩
end Go.Proofs.YtbeelgaganbblaaDoor.Limb
namespace Go.Proofs.YtbeelgaganbblaaDoor.Pw
open Go.RowKit Go.Proofs.YtbeelgaganbblaaDoor Go.Proofs.YtbeelgaganbblaaDoorW.PrintWords Go.Proofs.YtbeelgaganbblaaDoorW.PrintLast Go.Proofs.YtbeelgaganbblaaDoor.By Go.Proofs.YtbeelgaganbblaaDoor.PFnExactProofText Go.Proofs.YtbeelgaganbblaaDoor.Limb
set_option linter.unusedVariables false
set_option linter.unusedSimpArgs false
set_option maxRecDepth 100000
def sg (n : Int) : ByteArray := ⟨(sgnT n).toArray⟩
def Wr.lit (s : Wr) (x : Int) : Wr := Wr.int (sg x) (if x = 0 then s.spoil else s)
def Wr.num (s : Wr) (x : Int) : Wr := Wr.int (sg x) (if x < 0 then s.spoil else s)
def Wr.put (s : Wr) (t : ByteArray) : Wr := Wr.int t s
def leafB : ByteArray := ⟨#[108, 101, 97, 102]⟩
def branchB : ByteArray := ⟨#[98, 114, 97, 110, 99, 104]⟩
def equalB : ByteArray := ⟨#[101, 113, 117, 97, 108]⟩
def linearB : ByteArray := ⟨#[108, 105, 110, 101, 97, 114]⟩
def chainB : ByteArray := ⟨#[99, 104, 97, 105, 110]⟩
def Wr.node (n : S77) (s : Wr) : Wr :=
  if n.f0 = -1 ∧ n.f1.size = 0 then n.f2.foldl Wr.put ((s.list (1 + n.f2.length)).leaf 2 leafB)
  else Wr.int n.f1 (Wr.int (sg n.f0) (((if n.f0 < 0 ∨ 0 < n.f2.length then s.spoil else s).list 3).leaf 2 branchB))
def Wr.tree : List S77 → Wr → Wr
  | [], s => s
  | n :: r, s => if 20000 < s.size then s else Wr.tree r (s.node n)
def nameB (k : Int) : ByteArray := if k = 2 then linearB else if k = 3 then chainB else equalB
def Wr.lemma (l : S71) (s : Wr) : Wr :=
  Wr.tree l.f3 ((l.f2.foldl Wr.num ((l.f1.foldl Wr.lit (((((if l.f0 = 1 ∨ l.f0 = 2 ∨ l.f0 = 3 then s else s.spoil).list 4).leaf 2 (nameB l.f0)).list l.f1.length))).list l.f2.length)).list l.f3.length)
structure OkN (n : S77) : Prop where
  lo : -9223372036854775808 ≤ n.f0
  hi : n.f0 ≤ 9223372036854775807
  at_ : n.f1.size ≤ 1048576
  len : n.f2.length ≤ 1048576
  mu : ∀ m ∈ n.f2, m.size ≤ 1048576
structure OkL (l : S71) : Prop where
  i1 : ∀ x ∈ l.f1, -9223372036854775808 ≤ x ∧ x ≤ 9223372036854775807
  i2 : ∀ x ∈ l.f2, -9223372036854775808 ≤ x ∧ x ≤ 9223372036854775807
  i3 : ∀ n ∈ l.f3, OkN n
  n1 : l.f1.length ≤ 1048576
  n2 : l.f2.length ≤ 1048576
  n3 : l.f3.length ≤ 1048576
def nodeW (n : S77) : Nat := 4 + n.f2.length
def lemW (l : S71) : Nat := 10 + l.f1.length + l.f2.length + (l.f3.map nodeW).sum
theorem Sm.up {a b : Nat} {s : Wr} (h : Sm a s) (hab : a ≤ b) : Sm b s := ⟨by have := h.n; omega, by have := h.z; omega⟩
theorem Sm.list {a : Nat} {s : Wr} (h : Sm a s) (n : Int) : Sm (a + 1) (s.list n) := ⟨by have := h.n; show (s.N ++ _).length ≤ _; rw [List.length_append]; simp; omega, by have := h.z; show s.size + 2 ≤ _; omega⟩
theorem Sm.leaf {a : Nat} {s : Wr} (h : Sm a s) (k : Int) (t : ByteArray) (ht : t.size ≤ 3000) : Sm (a + 1) (s.leaf k t) := ⟨by have := h.n; show (s.N ++ _).length ≤ _; rw [List.length_append]; simp; omega, by have := h.z; show s.size + t.size ≤ _; omega⟩
theorem Sm.spoil {a : Nat} {s : Wr} (h : Sm a s) : Sm a s.spoil := ⟨h.n, h.z⟩
theorem Sm.int {a : Nat} {s : Wr} (h : Sm a s) (t : ByteArray) : Sm (a + 1) (s.int t) := by
  have h1 := h.n
  have h2 := h.z
  unfold Wr.int
  split
  · next hi =>
    obtain ⟨l0, l1, l2⟩ := intText_len hi
    split
    · refine ⟨?_, ?_⟩
      · show (((s.N ++ _) ++ _) ++ _).length ≤ _
        simp only [List.length_append, List.length_cons, List.length_nil]; omega
      · show s.size + 2 + (⟨#[45]⟩ : ByteArray).size + (t.extract 1 t.size).size ≤ _
        rw [size_extract_end, show (⟨#[45]⟩ : ByteArray).size = 1 from rfl]; omega
    · exact h.leaf 3 t (by omega)
  · exact (h.up (by omega)).spoil
theorem Sm.lit {a : Nat} {s : Wr} (h : Sm a s) (x : Int) : Sm (a + 1) (s.lit x) := by unfold Wr.lit; split; exact h.spoil.int _; exact h.int _
theorem Sm.num {a : Nat} {s : Wr} (h : Sm a s) (x : Int) : Sm (a + 1) (s.num x) := by unfold Wr.num; split; exact h.spoil.int _; exact h.int _
theorem Sm.fold {α : Type} {f : Wr → α → Wr} (hf : ∀ a s x, Sm a s → Sm (a + 1) (f s x)) : ∀ (xs : List α) {a : Nat} {s : Wr}, Sm a s → Sm (a + xs.length) (xs.foldl f s)
  | [], a, s, h => h
  | x :: xs, a, s, h => (Sm.fold hf xs (hf a s x h)).up (by simp; omega)
theorem fold_next {α β : Type} {f : β → α → β} {xs : List α} {i : Nat} {x : α} (h : xs[i]? = some x) (s : β) : (xs.take (i + 1)).foldl f s = f ((xs.take i).foldl f s) x := by
  rw [show xs.take (i + 1) = xs.take i ++ [x] from by rw [List.take_add_one, h]; rfl, List.foldl_append]; rfl
theorem rd_get {xs : List Int} {i : Nat} {x : Int} (h : xs[i]? = some x) : rd xs (i : Int) = x := by
  unfold rd; simp [h]
/-- the lemma's own block -/
def L4 (l : S71) (A1 A2 A3 : Option Addr) (c1 c2 c3 : Nat) : Array Value := #[.int .i64 l.f0, .slice A1 l.f1.length c1, .slice A2 l.f2.length c2, .slice A3 l.f3.length c3]
theorem L4_cells {l : S71} {A1 A2 A3 : Option Addr} {c1 c2 c3 p : Nat} {w : World} (h : w.heap[p]? = some (.cells (L4 l A1 A2 A3 c1 c2 c3) 71 (0, 0))) :
    w.cell? ⟨p, 0, none⟩ = some (.int .i64 l.f0) ∧ w.cell? ⟨p, 1, none⟩ = some (.slice A1 l.f1.length c1) ∧ w.cell? ⟨p, 2, none⟩ = some (.slice A2 l.f2.length c2) ∧ w.cell? ⟨p, 3, none⟩ = some (.slice A3 l.f3.length c3) :=
  ⟨by rw [Lib.cell_of_heap h]; rfl, by rw [Lib.cell_of_heap h]; rfl, by rw [Lib.cell_of_heap h]; rfl, by rw [Lib.cell_of_heap h]; rfl⟩
theorem list_w {W0 w : World} {b a : Nat} {X : Nat → Array Value → Nat → Prop} {s : Wr} (hs : WsP W0 b X s w) (n : Int) (hm : Sm a s) (ha : a ≤ 100000000) :
    Calls Tryd.prog 52 #[.pointer (some ⟨b, 0, none⟩), .int .i64 n] w fun e w' => e = .returned (.tuple #[]) ∧ WsP W0 b X (s.list n) w' :=
  (list_any hs n (by have := hm.n; omega) (by omega) (by have := hm.z; omega)).mono fun e w' h => ⟨h.1, by have := h.2; unfold WsP Wr.list; simpa using this⟩
theorem leaf_w {W0 w : World} {b a : Nat} {X : Nat → Array Value → Nat → Prop} {s : Wr} (hs : WsP W0 b X s w) (k : Int) (t : ByteArray) (ht : t.size ≤ 3000) (hm : Sm a s) (ha : a ≤ 100000000) :
    Calls Tryd.prog 53 #[.pointer (some ⟨b, 0, none⟩), .int .i64 k, .string t] w fun e w' => e = .returned (.tuple #[]) ∧ WsP W0 b X (s.leaf k t) w' :=
  (leaf_any hs k t (by omega) (by have := hm.n; omega) (by omega) (by have := hm.z; omega)).mono fun e w' h => ⟨h.1, by have := h.2; unfold WsP Wr.leaf; simpa using this⟩
theorem Sm.node {a : Nat} {s : Wr} (h : Sm a s) (n : S77) : Sm (a + nodeW n) (s.node n) := by
  unfold Wr.node nodeW
  split
  · exact (Sm.fold (fun a s x h => h.int x) n.f2 ((h.list _).leaf 2 leafB (by decide))).up (by omega)
  · have h1 : Sm a (if n.f0 < 0 ∨ 0 < n.f2.length then s.spoil else s) := by split; exact h.spoil; exact h
    exact ((((h1.list 3).leaf 2 branchB (by decide)).int _).int _).up (by omega)
theorem sum_take (xs : List S77) (i : Nat) : ((xs.take i).map nodeW).sum ≤ (xs.map nodeW).sum := by
  conv => rhs; rw [← List.take_append_drop i xs, List.map_append, List.sum_append]
  omega
theorem dec_len : ∀ (k n : Nat), n < 10 ^ k → (Lib.decDigits n).length ≤ k + 1
  | 0, n, h => by rw [Lib.decDigits_one (by omega)]; simp
  | k + 1, n, h => by
    by_cases h9 : n < 10
    · rw [Lib.decDigits_one h9]; simp
    · rw [Dig.dec_step (by omega), List.length_append]
      have := dec_len k (n / 10) (by rw [Nat.pow_succ] at h; omega)
      simp; omega
theorem sg_size (x : Int) (h0 : -9223372036854775808 ≤ x) (h1 : x ≤ 9223372036854775807) : (sg x).size ≤ 3000 := by
  have h := dec_len 19 x.natAbs (Nat.lt_of_lt_of_le (show x.natAbs < 10000000000000000000 by omega) (by decide))
  show (sgnT x).toArray.size ≤ 3000
  unfold sgnT
  rw [List.size_toArray, List.length_append]
  split <;> simp <;> omega
theorem name_size (k : Int) : (nameB k).size ≤ 3000 := by unfold nameB; split; decide; split <;> decide
theorem L4_cells' {l : S71} {A1 A2 A3 : Option Addr} {c1 c2 c3 p : Nat} {w : World} {Lc : Array Value} (hL : L4 l A1 A2 A3 c1 c2 c3 = Lc) (h : w.heap[p]? = some (.cells Lc 71 (0, 0))) :
    w.cell? ⟨p, 0, none⟩ = some (.int .i64 l.f0) ∧ w.cell? ⟨p, 1, none⟩ = some (.slice A1 l.f1.length c1) ∧ w.cell? ⟨p, 2, none⟩ = some (.slice A2 l.f2.length c2) ∧ w.cell? ⟨p, 3, none⟩ = some (.slice A3 l.f3.length c3) := by subst hL; exact L4_cells h
theorem N3_cells {n0 : Int} {t1 : ByteArray} {B2 : Option Addr} {k d q : Nat} {w : World} {Nc : Array Value} (hN : (#[.int .i64 n0, .string t1, .slice B2 k d] : Array Value) = Nc) (h : w.heap[q]? = some (.cells Nc 77 (0, 0))) :
    w.cell? ⟨q, 0, none⟩ = some (.int .i64 n0) ∧ w.cell? ⟨q, 1, none⟩ = some (.string t1) ∧ w.cell? ⟨q, 2, none⟩ = some (.slice B2 k d) := by
  subst hN; exact ⟨by rw [Lib.cell_of_heap h]; rfl, by rw [Lib.cell_of_heap h]; rfl, by rw [Lib.cell_of_heap h]; rfl⟩
def Xp (X : Nat → Array Value → Nat → Prop) (p : Nat) (cs : Array Value) (t : Nat) : Nat → Array Value → Nat → Prop := fun k c u => X k c u ∨ (k = p ∧ c = cs ∧ u = t)
set_option maxHeartbeats 4000000 in
theorem lemma_any {W0 w : World} {b a : Nat} {X : Nat → Array Value → Nat → Prop} {s : Wr} (hs : WsP W0 b X s w) (l : S71) (A1 A2 A3 : Option Addr) (c1 c2 c3 : Nat) (hm : Sm a s) (ha : a + lemW l ≤ 100000000) (ho : OkL l)
    (hC1 : Kd.C (Kd.int .i64) W0 A1 l.f1.length l.f1) (hC2 : Kd.C (Kd.int .i64) W0 A2 l.f2.length l.f2) (hC3 : Kd.C k77 W0 A3 l.f3.length l.f3) (hc1 : l.f1.length ≤ c1) (hc2 : l.f2.length ≤ c2) (hc3 : l.f3.length ≤ c3) :
    Calls Tryd.prog 34 #[.pointer (some ⟨b, 0, none⟩), .agg #[.int .i64 l.f0, .slice A1 l.f1.length c1, .slice A2 l.f2.length c2, .slice A3 l.f3.length c3]] w fun e w' => e = .returned (.tuple #[]) ∧ WsP W0 b X (s.lemma l) w' := by
  have HC1 := Lib.hid hC1
  have HC2 := Lib.hid hC2
  have HC3 := Lib.hid hC3
  have HO := Lib.hid ho
  have hs1 : WsP W0 b (Xp X w.heap.size (L4 l A1 A2 A3 c1 c2 c3) 71) s (w.alloc (.cells (L4 l A1 A2 A3 c1 c2 c3) 71)) := Ws.more hs _ _ (by decide)
  have hbl : (w.alloc (.cells (L4 l A1 A2 A3 c1 c2 c3) 71)).heap[w.heap.size]? = some (.cells (L4 l A1 A2 A3 c1 c2 c3) 71 (0, 0)) := (hs1.oth _ _ _ (.inr ⟨rfl, rfl, rfl⟩)).1
  obtain ⟨q0, q1, q2, q3⟩ := L4_cells hbl
  obtain ⟨m0, m1, -⟩ := Ws.cells hs1
  unfold L4 at q0 q1 q2 q3 m0 m1
  obtain ⟨p, hp⟩ : ∃ p, w.heap.size = p := ⟨_, rfl⟩
  obtain ⟨Lc, hLc⟩ : ∃ Lc, L4 l A1 A2 A3 c1 c2 c3 = Lc := ⟨_, rfl⟩
  have HLC := Lib.hid hLc
  have hs2 : WsP W0 b (Xp X p Lc 71) s (w.alloc (.cells (L4 l A1 A2 A3 c1 c2 c3) 71)) := by rw [← hp, ← hLc]; exact hs1
  clear hLc
  have HS := Lib.hid hs2
  clear hs1 hs2 hs hbl hC1 hC2 hC3 ho
  rw [hp] at q0 q1 q2 q3
  have hpS : w.heap.size = p := hp
  have HM := Lib.hid hm
  clear hm
  go_enter Tryd.func34, Tryd.ntmps34
  go_upto_block 0 with (fail)
  go_cut [4] from 12 (fun v4 wc => v4 = .string (nameB l.f0) ∧ WsP W0 b (Xp X p Lc 71) (if l.f0 = 1 ∨ l.f0 = 2 ∨ l.f0 = 3 then s else s.spoil) wc)
  case first =>
    have hbd : Hid (WsP W0 b (Xp X p Lc 71) s (w.alloc (.cells #[.int .i64 l.f0, .slice A1 l.f1.length c1, .slice A2 l.f2.length c2, .slice A3 l.f3.length c3] 71))) := HS.out
    clear HS HC1 HC2 HC3
    by_cases k2 : l.f0 = 2
    · have e2 : (l.f0 == 2) = true := beq_iff_eq.2 k2
      have eN : Hid (nameB l.f0 = linearB) := by show _ = _; unfold nameB; rw [if_pos k2]
      have eS : Hid ((if l.f0 = 1 ∨ l.f0 = 2 ∨ l.f0 = 3 then s else s.spoil) = s) := by show _ = _; rw [if_pos (.inr (.inl k2))]
      clear k2
      go_wp2
      go_meet
      case rel => exact ⟨by rw [eN.out]; rfl, by rw [eS.out]; exact hbd.out⟩
    · have e2 : (l.f0 == 2) = false := beq_eq_false_iff_ne.2 k2
      by_cases k3 : l.f0 = 3
      · have e3 : (l.f0 == 3) = true := beq_iff_eq.2 k3
        have eN : Hid (nameB l.f0 = chainB) := by show _ = _; unfold nameB; rw [if_neg k2, if_pos k3]
        have eS : Hid ((if l.f0 = 1 ∨ l.f0 = 2 ∨ l.f0 = 3 then s else s.spoil) = s) := by show _ = _; rw [if_pos (.inr (.inr k3))]
        clear k2 k3
        go_wp2
        go_meet
        case rel => exact ⟨by rw [eN.out]; rfl, by rw [eS.out]; exact hbd.out⟩
      · have e3 : (l.f0 == 3) = false := beq_eq_false_iff_ne.2 k3
        have eN : Hid (nameB l.f0 = equalB) := by show _ = _; unfold nameB; rw [if_neg k2, if_neg k3]
        by_cases k1 : l.f0 = 1
        · have e1 : (l.f0 == 1) = true := beq_iff_eq.2 k1
          have eS : Hid ((if l.f0 = 1 ∨ l.f0 = 2 ∨ l.f0 = 3 then s else s.spoil) = s) := by show _ = _; rw [if_pos (.inl k1)]
          clear k1 k2 k3
          go_wp2
          go_meet
          case rel => exact ⟨by rw [eN.out]; rfl, by rw [eS.out]; exact hbd.out⟩
        · have e1 : (l.f0 == 1) = false := beq_eq_false_iff_ne.2 k1
          have eS : Hid ((if l.f0 = 1 ∨ l.f0 = 2 ∨ l.f0 = 3 then s else s.spoil) = s.spoil) := by show _ = _; rw [if_neg (by omega)]
          clear k1 k2 k3
          go_wp2
          go_meet
          case rel => exact ⟨by rw [eN.out]; rfl, by rw [eS.out]; exact Ws.mark hbd.out⟩
  case rest =>
    obtain ⟨rfl, hs1⟩ := hcut
    clear HS q0 q1 q2 q3 m0 m1
    obtain ⟨s1, hs1e⟩ : ∃ s1, (if l.f0 = 1 ∨ l.f0 = 2 ∨ l.f0 = 3 then s else s.spoil) = s1 := ⟨_, rfl⟩
    have hm1 : Sm a s1 := by rw [← hs1e]; split; exact HM.out; exact HM.out.spoil
    have HE1 := Lib.hid hs1e
    rw [hs1e] at hs1
    clear hs1e HM
    have hw : 10 + l.f1.length + l.f2.length ≤ lemW l := by unfold lemW; omega
    have hm2 := hm1.list 4
    have hm3 := hm2.leaf 2 (nameB l.f0) (name_size _)
    have hm4 := hm3.list l.f1.length
    go_wp2_with fail
    refine (list_w hs1 4 hm1 (by omega)).mono ?_
    rintro e w2 ⟨rfl, hs2⟩
    clear hs1 hm1
    go_wp2_with fail
    refine (leaf_w hs2 2 (nameB l.f0) (name_size _) hm2 (by omega)).mono ?_
    rintro e w3 ⟨rfl, hs3⟩
    clear hs2 hm2
    obtain ⟨q0, q1, q2, q3⟩ := L4_cells' HLC.out (hs3.oth _ _ _ (.inr ⟨rfl, rfl, rfl⟩)).1
    go_wp2_with fail
    refine (list_w hs3 l.f1.length hm3 (by omega)).mono ?_
    rintro e w4 ⟨rfl, hs4⟩
    clear hs3 hm3 q0 q1 q2 q3
    obtain ⟨q0, q1, q2, q3⟩ := L4_cells' HLC.out (hs4.oth _ _ _ (.inr ⟨rfl, rfl, rfl⟩)).1
    obtain ⟨s4, hs4e⟩ : ∃ s4, (((s1.list 4).leaf 2 (nameB l.f0)).list l.f1.length) = s4 := ⟨_, rfl⟩
    rw [hs4e] at hs4 hm4
    have HE4 := Lib.hid hs4e
    have HM4 := Lib.hid hm4
    clear hs4e hm4
    --LOOPS
    go_wp2_with (fail)
    go_loopw [37] (fun v wr => ∃ i : Nat, i ≤ l.f1.length ∧ v = .int .i64 i ∧ Hid (WsP W0 b (Xp X p Lc 71) ((l.f1.take i).foldl Wr.lit s4) wr)) (fun v _ => l.f1.length - (intOf v).toNat)
    case atStart => exact ⟨0, by omega, by first | rfl | go_num, by show WsP _ _ _ _ _; exact hs4⟩
    case round =>
      obtain ⟨i, hi, rfl, HWr⟩ := hrel
      clear hs4
      try clear q0
      try clear q1
      try clear q2
      try clear q3
      by_cases hlt : i < l.f1.length
      · obtain ⟨x, hx⟩ : ∃ x, l.f1[i]? = some x := ⟨_, List.getElem?_eq_getElem hlt⟩
        have hz := HO.out.i1 x (List.mem_of_getElem? hx)
        have HX := Lib.hid hx
        have hmS : Sm ((a + 1 + 1 + 1) + i) ((l.f1.take i).foldl Wr.lit s4) := (Sm.fold (fun a s x h => h.lit x) (l.f1.take i) HM4.out).up (by rw [List.length_take]; omega)
        obtain ⟨ad, e1, hcell⟩ := Kd.at_int HC1.out (i : Int) (by omega) (by omega)
        cases e1
        rw [rd_get hx] at hcell
        rw [show ((i : Int)).toNat = i from rfl] at hcell
        have hcell1 : wr.cell? (ad.add i) = some (.int .i64 x) := by rw [HWr.out.bel.cell (World.block_lt_of_cell? W0 _ hcell)]; exact hcell
        obtain ⟨m0, m1, -⟩ := Ws.cells HWr.out
        obtain ⟨st, hst⟩ : ∃ st, (l.f1.take i).foldl Wr.lit s4 = st := ⟨_, rfl⟩
        have HST := Lib.hid hst
        have hws : WsP W0 b (Xp X p Lc 71) st wr := by rw [← hst]; exact HWr.out
        have hms : Sm ((a + 1 + 1 + 1) + i) st := by rw [← hst]; exact hmS
        have HWS := Lib.hid hws
        have HMS := Lib.hid hms
        rw [hst] at m0
        have hz1 := hz.1
        have hz2 := hz.2
        clear hws hms hmS hx hst hcell hz HWr
        by_cases hb0 : x = 0
        · have hb1 : (x == 0) = true := beq_iff_eq.2 hb0
          have HF : Hid (Wr.lit st x = Wr.int (sg x) st.spoil) := by show _ = _; unfold Wr.lit; rw [if_pos hb0]
          have hmk : WsP W0 b (Xp X p Lc 71) st.spoil (wr.setCell ⟨b, 1, none⟩ (.bool true)) := Ws.mark HWS.out
          have HMK := Lib.hid hmk
          clear hb0 hmk
          go_wp2_with (fail)
          refine (signed_any x hz1 hz2 _).mono ?_
          rintro e w5 ⟨rfl, hb5⟩
          have h5 := Ws.step HMK.out hb5
          clear hb5
          go_wp2_with (fail)
          refine (int_any h5 (sg x) (by have := sg_size x hz1 hz2; omega) HMS.out.spoil (by omega)).mono ?_
          rintro e w6 ⟨rfl, h6⟩
          have H6 := Lib.hid h6
          clear h5 h6
          go_wp2_with (fail)
          go_round
          case rel => exact ⟨i + 1, by omega, by go_num, by show WsP _ _ _ _ _; rw [fold_next HX.out, HST.out, HF.out]; exact H6.out⟩
          case measure => simp [intOf]; omega
        · have hb1 : (x == 0) = false := beq_eq_false_iff_ne.2 hb0
          have HF : Hid (Wr.lit st x = Wr.int (sg x) st) := by show _ = _; unfold Wr.lit; rw [if_neg hb0]
          clear hb0
          go_wp2_with (fail)
          refine (signed_any x hz1 hz2 _).mono ?_
          rintro e w5 ⟨rfl, hb5⟩
          have h5 := Ws.step HWS.out hb5
          clear hb5
          go_wp2_with (fail)
          refine (int_any h5 (sg x) (by have := sg_size x hz1 hz2; omega) HMS.out (by omega)).mono ?_
          rintro e w6 ⟨rfl, h6⟩
          have H6 := Lib.hid h6
          clear h5 h6
          go_wp2_with (fail)
          go_round
          case rel => exact ⟨i + 1, by omega, by go_num, by show WsP _ _ _ _ _; rw [fold_next HX.out, HST.out, HF.out]; exact H6.out⟩
          case measure => simp [intOf]; omega
      · have hin : i = l.f1.length := by omega
        subst hin
        have hws : WsP W0 b (Xp X p Lc 71) (l.f1.foldl Wr.lit s4) wr := by have := HWr.out; rw [List.take_length] at this; exact this
        clear HWr hi hlt
        have hm5 : Sm (a + 3 + l.f1.length) (l.f1.foldl Wr.lit s4) := Sm.fold (fun a s x h => h.lit x) _ HM4.out
        have hm6 := hm5.list l.f2.length
        obtain ⟨q0, q1, q2, q3⟩ := L4_cells' HLC.out (hws.oth _ _ _ (.inr ⟨rfl, rfl, rfl⟩)).1
        go_wp2_with fail
        refine (list_w hws l.f2.length hm5 (by omega)).mono ?_
        rintro e w7 ⟨rfl, hs7⟩
        clear hws hm5 q0 q1 q2 q3
        obtain ⟨q0, q1, q2, q3⟩ := L4_cells' HLC.out (hs7.oth _ _ _ (.inr ⟨rfl, rfl, rfl⟩)).1
        obtain ⟨s7, hs7e⟩ : ∃ s7, ((l.f1.foldl Wr.lit s4).list l.f2.length) = s7 := ⟨_, rfl⟩
        rw [hs7e] at hs7 hm6
        have HE7 := Lib.hid hs7e
        have HM7 := Lib.hid hm6
        clear hs7e hm6
        go_wp2_with (fail)
        go_loopw [59] (fun v wr => ∃ i : Nat, i ≤ l.f2.length ∧ v = .int .i64 i ∧ Hid (WsP W0 b (Xp X p Lc 71) ((l.f2.take i).foldl Wr.num s7) wr)) (fun v _ => l.f2.length - (intOf v).toNat)
        case atStart => exact ⟨0, by omega, by first | rfl | go_num, by show WsP _ _ _ _ _; exact hs7⟩
        case round =>
          obtain ⟨i, hi, rfl, HWr⟩ := hrel
          clear hs7
          try clear q0
          try clear q1
          try clear q2
          try clear q3
          by_cases hlt : i < l.f2.length
          · obtain ⟨x, hx⟩ : ∃ x, l.f2[i]? = some x := ⟨_, List.getElem?_eq_getElem hlt⟩
            have hz := HO.out.i2 x (List.mem_of_getElem? hx)
            have HX := Lib.hid hx
            have hmS : Sm ((a + 3 + l.f1.length + 1) + i) ((l.f2.take i).foldl Wr.num s7) := (Sm.fold (fun a s x h => h.num x) (l.f2.take i) HM7.out).up (by rw [List.length_take]; omega)
            obtain ⟨ad, e1, hcell⟩ := Kd.at_int HC2.out (i : Int) (by omega) (by omega)
            cases e1
            rw [rd_get hx] at hcell
            rw [show ((i : Int)).toNat = i from rfl] at hcell
            have hcell1 : wr.cell? (ad.add i) = some (.int .i64 x) := by rw [HWr.out.bel.cell (World.block_lt_of_cell? W0 _ hcell)]; exact hcell
            obtain ⟨m0, m1, -⟩ := Ws.cells HWr.out
            obtain ⟨st, hst⟩ : ∃ st, (l.f2.take i).foldl Wr.num s7 = st := ⟨_, rfl⟩
            have HST := Lib.hid hst
            have hws : WsP W0 b (Xp X p Lc 71) st wr := by rw [← hst]; exact HWr.out
            have hms : Sm ((a + 3 + l.f1.length + 1) + i) st := by rw [← hst]; exact hmS
            have HWS := Lib.hid hws
            have HMS := Lib.hid hms
            rw [hst] at m0
            have hz1 := hz.1
            have hz2 := hz.2
            clear hws hms hmS hx hst hcell hz HWr
            by_cases hb0 : x < 0
            · have hb1 : decide (x < 0) = true := decide_eq_true hb0
              have HF : Hid (Wr.num st x = Wr.int (sg x) st.spoil) := by show _ = _; unfold Wr.num; rw [if_pos hb0]
              have hmk : WsP W0 b (Xp X p Lc 71) st.spoil (wr.setCell ⟨b, 1, none⟩ (.bool true)) := Ws.mark HWS.out
              have HMK := Lib.hid hmk
              clear hb0 hmk
              go_wp2_with (fail)
              refine (signed_any x hz1 hz2 _).mono ?_
              rintro e w5 ⟨rfl, hb5⟩
              have h5 := Ws.step HMK.out hb5
              clear hb5
              go_wp2_with (fail)
              refine (int_any h5 (sg x) (by have := sg_size x hz1 hz2; omega) HMS.out.spoil (by omega)).mono ?_
              rintro e w6 ⟨rfl, h6⟩
              have H6 := Lib.hid h6
              clear h5 h6
              go_wp2_with (fail)
              go_round
              case rel => exact ⟨i + 1, by omega, by go_num, by show WsP _ _ _ _ _; rw [fold_next HX.out, HST.out, HF.out]; exact H6.out⟩
              case measure => simp [intOf]; omega
            · have hb1 : decide (x < 0) = false := decide_eq_false hb0
              have HF : Hid (Wr.num st x = Wr.int (sg x) st) := by show _ = _; unfold Wr.num; rw [if_neg hb0]
              clear hb0
              go_wp2_with (fail)
              refine (signed_any x hz1 hz2 _).mono ?_
              rintro e w5 ⟨rfl, hb5⟩
              have h5 := Ws.step HWS.out hb5
              clear hb5
              go_wp2_with (fail)
              refine (int_any h5 (sg x) (by have := sg_size x hz1 hz2; omega) HMS.out (by omega)).mono ?_
              rintro e w6 ⟨rfl, h6⟩
              have H6 := Lib.hid h6
              clear h5 h6
              go_wp2_with (fail)
              go_round
              case rel => exact ⟨i + 1, by omega, by go_num, by show WsP _ _ _ _ _; rw [fold_next HX.out, HST.out, HF.out]; exact H6.out⟩
              case measure => simp [intOf]; omega
          · have hin : i = l.f2.length := by omega
            subst hin
            have hws : WsP W0 b (Xp X p Lc 71) (l.f2.foldl Wr.num s7) wr := by have := HWr.out; rw [List.take_length] at this; exact this
            clear HWr hi hlt
            have hm8 : Sm (a + 4 + l.f1.length + l.f2.length) (l.f2.foldl Wr.num s7) := (Sm.fold (fun a s x h => h.num x) _ HM7.out).up (by omega)
            have hm9 := hm8.list l.f3.length
            obtain ⟨q0, q1, q2, q3⟩ := L4_cells' HLC.out (hws.oth _ _ _ (.inr ⟨rfl, rfl, rfl⟩)).1
            go_wp2_with fail
            refine (list_w hws l.f3.length hm8 (by omega)).mono ?_
            rintro e w8 ⟨rfl, hs8⟩
            clear hws hm8 q0 q1 q2 q3
            obtain ⟨q0, q1, q2, q3⟩ := L4_cells' HLC.out (hs8.oth _ _ _ (.inr ⟨rfl, rfl, rfl⟩)).1
            obtain ⟨s8, hs8e⟩ : ∃ s8, ((l.f2.foldl Wr.num s7).list l.f3.length) = s8 := ⟨_, rfl⟩
            rw [hs8e] at hs8 hm9
            have HE8 := Lib.hid hs8e
            have HM8 := Lib.hid hm9
            clear hs8e hm9
            go_wp2_with (fail)
            have HS8 := Lib.hid hs8
            clear hs8 q0 q1 q2 q3
            go_loopw [81] (fun v wr => ∃ (i : Nat) (cur : Wr), i ≤ l.f3.length ∧ v = .int .i64 i ∧ Hid (WsP W0 b (Xp X p Lc 71) cur wr) ∧ Hid (Wr.tree (l.f3.drop i) cur = Wr.tree l.f3 s8) ∧ Hid (Sm (a + 5 + l.f1.length + l.f2.length + ((l.f3.take i).map nodeW).sum) cur)) (fun v _ => l.f3.length - (intOf v).toNat)
            case atStart => exact ⟨0, s8, by omega, by first | rfl | go_num, HS8.out, by show _ = _; rfl, by show Sm _ _; exact HM8.out.up (by simp; omega)⟩
            case round =>
              obtain ⟨i, cur, hi, rfl, HWr, HT, HMc⟩ := hrel
              clear HS8 HM8
              by_cases hlt : i < l.f3.length
              · obtain ⟨n, hn⟩ : ∃ n, l.f3[i]? = some n := ⟨_, List.getElem?_eq_getElem hlt⟩
                have hon := HO.out.i3 n (List.mem_of_getElem? hn)
                have HX := Lib.hid hn
                obtain ⟨ad, B2, d2, e1, hx0, hx1, hx2, hl2, hC⟩ := at_T77 HC3.out (i : Int) (by omega) (by omega)
                cases e1
                have hrd : rd_T77 l.f3 (i : Int) = n := by unfold rd_T77; simp [hn]
                rw [hrd] at hx0 hx1 hx2 hl2 hC
                have HCn := Lib.hid hC
                rw [show ((i : Int)).toNat = i from rfl] at hx0 hx1 hx2
                have hy0 : wr.cell? (ad.add (i * 3)) = some (.int .i64 n.f0) := by rw [HWr.out.bel.cell (World.block_lt_of_cell? W0 _ hx0)]; exact hx0
                have hy1 : wr.cell? ⟨(ad.add (i * 3)).block, (ad.add (i * 3)).off + 1, none⟩ = some (.string n.f1) := by rw [HWr.out.bel.cell (World.block_lt_of_cell? W0 _ hx1)]; exact hx1
                have hy2 : wr.cell? ⟨(ad.add (i * 3)).block, (ad.add (i * 3)).off + 2, none⟩ = some (.slice B2 n.f2.length d2) := by rw [HWr.out.bel.cell (World.block_lt_of_cell? W0 _ hx2)]; exact hx2
                obtain ⟨-, -, m2⟩ := Ws.cells HWr.out
                clear hx0 hx1 hx2 hC hn hrd
                obtain ⟨q, hq⟩ : ∃ q, wr.heap.size = q := ⟨_, rfl⟩
                obtain ⟨Nc, hNc⟩ : ∃ Nc : Array Value, (#[.int .i64 n.f0, .string n.f1, .slice B2 n.f2.length d2] : Array Value) = Nc := ⟨_, rfl⟩
                have HNC := Lib.hid hNc
                have hw1 : WsP W0 b (Xp (Xp X p Lc 71) q Nc 77) cur (wr.alloc (.cells #[.int .i64 n.f0, .string n.f1, .slice B2 n.f2.length d2] 77)) := by rw [← hq, ← hNc]; exact Ws.more HWr.out _ _ (by decide)
                clear hNc
                go_upto_region 31 with (fail)
                obtain ⟨w1, hw1e⟩ : ∃ w1, (wr.alloc (.cells #[.int .i64 n.f0, .string n.f1, .slice B2 n.f2.length d2] 77)) = w1 := ⟨_, rfl⟩
                rw [hw1e] at hw1 ⊢
                clear hw1e hy0 hy1 hy2 m2 HWr
                obtain ⟨r0, r1, r2⟩ := N3_cells HNC.out (hw1.oth _ _ _ (.inr ⟨rfl, rfl, rfl⟩)).1
                obtain ⟨m0, m1, m2⟩ := Ws.cells hw1
                have HW1 := Lib.hid hw1
                clear hw1
                by_cases hbig : 20000 < cur.size
                · have hbi : (20000 : Int) < (cur.size : Int) := by omega
                  have hbd : decide ((20000 : Int) < (cur.size : Int)) = true := decide_eq_true hbi
                  have HF : Hid (Wr.tree l.f3 s8 = cur) := by
                    show _ = _
                    rw [← HT.out]
                    unfold Wr.tree
                    split
                    · rfl
                    · rw [if_pos hbig]
                  clear hbig hbi HT HMc
                  go_wp2_with (fail)
                  ((try simp only [Exit.inBlock, Exit.then]); refine bodyPost_ret (results_none rfl _ _ _) rfl ?_)
                  refine ⟨rfl, ?_⟩
                  unfold Wr.lemma
                  rw [HE1.out, HE4.out, HE7.out, HE8.out, HF.out]
                  exact Ws.less HW1.out fun k c u hk => .inl (.inl hk)
                · have hbi : ¬ ((20000 : Int) < (cur.size : Int)) := by omega
                  have hbd : decide ((20000 : Int) < (cur.size : Int)) = false := decide_eq_false hbi
                  have HF : Hid (Wr.tree (l.f3.drop (i + 1)) (cur.node n) = Wr.tree l.f3 s8) := by
                    show _ = _
                    rw [← HT.out, show l.f3.drop i = n :: l.f3.drop (i + 1) from by rw [List.drop_eq_getElem_cons hlt]; congr 1; exact Option.some.inj ((List.getElem?_eq_getElem hlt).symm.trans HX.out), Wr.tree, if_neg hbig]
                  have HM1 : Hid (Sm (a + 5 + l.f1.length + l.f2.length + ((l.f3.take (i + 1)).map nodeW).sum) (cur.node n)) := by
                    show Sm _ _
                    rw [show l.f3.take (i + 1) = l.f3.take i ++ [n] from by rw [List.take_add_one, HX.out]; rfl, List.map_append, List.sum_append]
                    exact (HMc.out.node n).up (by simp only [List.map_cons, List.map_nil, List.sum_cons, List.sum_nil]; omega)
                  have hbnd : a + 5 + l.f1.length + l.f2.length + ((l.f3.take i).map nodeW).sum + nodeW n ≤ 100000000 := by
                    have h1 : ((l.f3.take (i + 1)).map nodeW).sum ≤ (l.f3.map nodeW).sum := sum_take _ _
                    rw [show l.f3.take (i + 1) = l.f3.take i ++ [n] from by rw [List.take_add_one, HX.out]; rfl, List.map_append, List.sum_append] at h1
                    simp only [List.map_cons, List.map_nil, List.sum_cons, List.sum_nil] at h1
                    unfold lemW at ha; omega
                  rw [show nodeW n = 4 + n.f2.length from rfl] at hbnd
                  clear hbig hbi HT
                  by_cases hleaf : n.f0 = -1 ∧ n.f1.size = 0
                  · have b1 : (n.f0 == -1) = true := beq_iff_eq.2 hleaf.1
                    have b2 : (n.f1.toList == []) = true := by rw [beq_iff_eq]; exact (nil_iff n.f1).2 hleaf.2
                    have HN : Hid (cur.node n = n.f2.foldl Wr.put ((cur.list (1 + n.f2.length)).leaf 2 leafB)) := by show _ = _; unfold Wr.node; rw [if_pos hleaf]
                    clear hleaf
                    have hm1 := HMc.out.list (1 + n.f2.length)
                    have hm2 := hm1.leaf 2 leafB (by decide)
                    have hlen : (n.f2.length : Int) ≤ 1048576 := by have := hon.len; omega
                    have hn3 := HO.out.n3
                    go_wp2_with (fail)
                    refine (list_w HW1.out (1 + n.f2.length) HMc.out (by omega)).mono ?_
                    rintro e w2 ⟨rfl, hs2⟩
                    clear hm1 m0 m1 m2 r0 r1 r2
                    go_wp2_with (fail)
                    refine (leaf_w hs2 2 leafB (by decide) (HMc.out.list _) (by omega)).mono ?_
                    rintro e w3 ⟨rfl, hs3⟩
                    clear hs2
                    obtain ⟨r0, r1, r2⟩ := N3_cells HNC.out (hs3.oth _ _ _ (.inr ⟨rfl, rfl, rfl⟩)).1
                    obtain ⟨S, hSe⟩ : ∃ S, ((cur.list (1 + n.f2.length)).leaf 2 leafB) = S := ⟨_, rfl⟩
                    rw [hSe] at hs3 hm2
                    have HSe := Lib.hid hSe
                    have HM2 := Lib.hid hm2
                    have HS3 := Lib.hid hs3
                    clear hSe hm2 hs3 HW1 HMc
                    go_wp2_with (fail)
                    go_loopw [109] (fun v wq => ∃ jj : Nat, jj ≤ n.f2.length ∧ v = .int .i64 jj ∧ Hid (WsP W0 b (Xp (Xp X p Lc 71) q Nc 77) ((n.f2.take jj).foldl Wr.put S) wq)) (fun v _ => n.f2.length - (intOf v).toNat)
                    case atStart => exact ⟨0, by omega, by first | rfl | go_num, HS3.out⟩
                    case round =>
                      obtain ⟨jj, hjj, rfl, HWq⟩ := hrel
                      clear HS3 r0 r1 r2
                      by_cases hlj : jj < n.f2.length
                      · obtain ⟨x, hx⟩ : ∃ x, n.f2[jj]? = some x := ⟨_, List.getElem?_eq_getElem hlj⟩
                        have hxs := hon.mu x (List.mem_of_getElem? hx)
                        have HX2 := Lib.hid hx
                        have hmS : Sm (a + 5 + l.f1.length + l.f2.length + ((l.f3.take i).map nodeW).sum + 1 + 1 + jj) ((n.f2.take jj).foldl Wr.put S) := (Sm.fold (fun a s x h => h.int x) (n.f2.take jj) HM2.out).up (by rw [List.length_take]; omega)
                        obtain ⟨ad2, e2, hcell⟩ := Kd.at_string HCn.out (jj : Int) (by omega) (by omega)
                        cases e2
                        have hrd2 : rdOf ByteArray.empty n.f2 (jj : Int) = x := by unfold rdOf; simp [hx]
                        rw [hrd2] at hcell
                        rw [show ((jj : Int)).toNat = jj from rfl] at hcell
                        have hcell1 : wr.cell? (ad2.add jj) = some (.string x) := by rw [HWq.out.bel.cell (World.block_lt_of_cell? W0 _ hcell)]; exact hcell
                        obtain ⟨st, hst⟩ : ∃ st, (n.f2.take jj).foldl Wr.put S = st := ⟨_, rfl⟩
                        have HST := Lib.hid hst
                        have hws : WsP W0 b (Xp (Xp X p Lc 71) q Nc 77) st wr := by rw [← hst]; exact HWq.out
                        rw [hst] at hmS
                        clear hx hst hcell HWq hrd2
                        go_wp2_with (fail)
                        refine (int_any hws x hxs hmS (by omega)).mono ?_
                        rintro e w6 ⟨rfl, h6⟩
                        have H6 := Lib.hid h6
                        clear hws hmS h6
                        go_wp2_with (fail)
                        go_round
                        case rel => exact ⟨jj + 1, by omega, by go_num, by show WsP _ _ _ _ _; rw [fold_next HX2.out, HST.out]; exact H6.out⟩
                        case measure => simp [intOf]; omega
                      · have hin : jj = n.f2.length := by omega
                        subst hin
                        have hws : WsP W0 b (Xp X p Lc 71) (cur.node n) wr := by rw [HN.out, HSe.out]; have := HWq.out; rw [List.take_length] at this; exact Ws.less this fun k c u hk => .inl hk
                        have HWS := Lib.hid hws
                        clear hws HWq
                        go_wp2_with (fail)
                        go_round
                        case rel => exact ⟨i + 1, cur.node n, by omega, by go_num, HWS.out, HF.out, HM1.out⟩
                        case measure => simp [intOf]; omega
                  · have HN : Hid (cur.node n = Wr.int n.f1 (Wr.int (sg n.f0) (((if n.f0 < 0 ∨ 0 < n.f2.length then cur.spoil else cur).list 3).leaf 2 branchB))) := by show _ = _; unfold Wr.node; rw [if_neg hleaf]
                    have hz1 := hon.lo
                    have hz2 := hon.hi
                    have hat := hon.at_
                    have hms : Sm (a + 5 + l.f1.length + l.f2.length + ((l.f3.take i).map nodeW).sum) (if n.f0 < 0 ∨ 0 < n.f2.length then cur.spoil else cur) := by split; exact HMc.out.spoil; exact HMc.out
                    have hm1 := hms.list 3
                    have hm2 := hm1.leaf 2 branchB (by decide)
                    have hm3 := hm2.int (sg n.f0)
                    have hlen : (n.f2.length : Int) ≤ 1048576 := by have := hon.len; omega
                    have hn3 := HO.out.n3
                    have hmk : WsP W0 b (Xp (Xp X p Lc 71) q Nc 77) cur.spoil (w1.setCell ⟨b, 1, none⟩ (.bool true)) := Ws.mark HW1.out
                    have HMK := Lib.hid hmk
                    clear hmk HMc
                    go_upto_region 32 with (fail)
                    go_cut [97] from 90 (fun v97 wc => v97 = .bool false ∧ wc = w1)
                    case first =>
                      by_cases b1 : n.f0 = -1
                      · have b1' : (n.f0 == -1) = true := beq_iff_eq.2 b1
                        have b2 : (n.f1.toList == []) = false := by rw [beq_eq_false_iff_ne]; exact fun h => hleaf ⟨b1, (nil_iff n.f1).1 h⟩
                        clear b1 hleaf
                        go_wp2_with (fail)
                        go_meet
                        case rel => exact ⟨rfl, rfl⟩
                      · have b1' : (n.f0 == -1) = false := beq_eq_false_iff_ne.2 b1
                        clear b1 hleaf
                        go_wp2_with (fail)
                        go_meet
                        case rel => exact ⟨rfl, rfl⟩
                    case rest =>
                    obtain ⟨rfl, hwc⟩ := hcut
                    rw [hwc]; clear hwc
                    go_upto_region 40 with (fail)
                    go_cut [125] from 98 (fun v125 wc => v125 = .bool (decide (n.f0 < 0 ∨ 0 < n.f2.length)) ∧ wc = w1)
                    case first =>
                      clear HW1 HMK
                      by_cases g1 : n.f0 < 0
                      · have g1' : decide (n.f0 < 0) = true := decide_eq_true g1
                        have eB : Hid (decide (n.f0 < 0 ∨ 0 < n.f2.length) = true) := decide_eq_true (.inl g1)
                        clear g1
                        go_wp2_with (fail)
                        go_meet
                        case rel => exact ⟨by rw [eB.out], rfl⟩
                      · have g1' : decide (n.f0 < 0) = false := decide_eq_false g1
                        by_cases g2 : 0 < n.f2.length
                        · have g2' : decide (0 < (n.f2.length : Int)) = true := decide_eq_true (by omega)
                          have gB : Hid (decide (0 < n.f2.length) = true) := decide_eq_true g2
                          have eB : Hid (decide (n.f0 < 0 ∨ 0 < n.f2.length) = true) := decide_eq_true (.inr g2)
                          clear g1 g2
                          go_wp2_with (fail)
                          go_meet
                          case rel => exact ⟨by rw [eB.out, gB.out], rfl⟩
                        · have g2' : decide (0 < (n.f2.length : Int)) = false := decide_eq_false (by omega)
                          have gB : Hid (decide (0 < n.f2.length) = false) := decide_eq_false g2
                          have eB : Hid (decide (n.f0 < 0 ∨ 0 < n.f2.length) = false) := decide_eq_false (by omega)
                          clear g1 g2
                          go_wp2_with (fail)
                          go_meet
                          case rel => exact ⟨by rw [eB.out, gB.out], rfl⟩
                    case rest =>
                    obtain ⟨rfl, hwc⟩ := hcut
                    rw [hwc]; clear hwc
                    by_cases hB : n.f0 < 0 ∨ 0 < n.f2.length
                    · rw [if_pos hB] at HN hms hm1 hm2 hm3; rw [show decide (n.f0 < 0 ∨ 0 < n.f2.length) = true from decide_eq_true hB]
                      clear HW1 hB
                      go_wp2_with (fail)
                      refine (list_w HMK.out 3 hms (by omega)).mono ?_
                      rintro e w2 ⟨rfl, hs2⟩
                      go_wp2_with (fail)
                      refine (leaf_w hs2 2 branchB (by decide) hm1 (by omega)).mono ?_
                      rintro e w3 ⟨rfl, hs3⟩
                      clear hs2
                      obtain ⟨r0, r1, r2⟩ := N3_cells HNC.out (hs3.oth _ _ _ (.inr ⟨rfl, rfl, rfl⟩)).1
                      go_wp2_with (fail)
                      refine (signed_any n.f0 hz1 hz2 _).mono ?_
                      rintro e w4 ⟨rfl, hb4⟩
                      have hs4 := Ws.step hs3 hb4
                      clear hb4 hs3 r0 r1 r2
                      go_wp2_with (fail)
                      refine (int_any hs4 (sg n.f0) (by have := sg_size n.f0 hz1 hz2; omega) hm2 (by omega)).mono ?_
                      rintro e w5 ⟨rfl, hs5⟩
                      clear hs4
                      obtain ⟨r0, r1, r2⟩ := N3_cells HNC.out (hs5.oth _ _ _ (.inr ⟨rfl, rfl, rfl⟩)).1
                      go_wp2_with (fail)
                      refine (int_any hs5 n.f1 hat hm3 (by omega)).mono ?_
                      rintro e w6 ⟨rfl, hs6⟩
                      have hws : WsP W0 b (Xp X p Lc 71) (cur.node n) w6 := by rw [HN.out]; exact Ws.less hs6 fun k c u hk => .inl hk
                      have HWS := Lib.hid hws
                      clear hws hs5 hs6 r0 r1 r2
                      go_wp2_with (fail)
                      go_round
                      case rel => exact ⟨i + 1, cur.node n, by omega, by go_num, HWS.out, HF.out, HM1.out⟩
                      case measure => simp [intOf]; omega
                    · rw [if_neg hB] at HN hms hm1 hm2 hm3; rw [show decide (n.f0 < 0 ∨ 0 < n.f2.length) = false from decide_eq_false hB]
                      clear HMK hB
                      go_wp2_with (fail)
                      refine (list_w HW1.out 3 hms (by omega)).mono ?_
                      rintro e w2 ⟨rfl, hs2⟩
                      go_wp2_with (fail)
                      refine (leaf_w hs2 2 branchB (by decide) hm1 (by omega)).mono ?_
                      rintro e w3 ⟨rfl, hs3⟩
                      clear hs2
                      obtain ⟨r0, r1, r2⟩ := N3_cells HNC.out (hs3.oth _ _ _ (.inr ⟨rfl, rfl, rfl⟩)).1
                      go_wp2_with (fail)
                      refine (signed_any n.f0 hz1 hz2 _).mono ?_
                      rintro e w4 ⟨rfl, hb4⟩
                      have hs4 := Ws.step hs3 hb4
                      clear hb4 hs3 r0 r1 r2
                      go_wp2_with (fail)
                      refine (int_any hs4 (sg n.f0) (by have := sg_size n.f0 hz1 hz2; omega) hm2 (by omega)).mono ?_
                      rintro e w5 ⟨rfl, hs5⟩
                      clear hs4
                      obtain ⟨r0, r1, r2⟩ := N3_cells HNC.out (hs5.oth _ _ _ (.inr ⟨rfl, rfl, rfl⟩)).1
                      go_wp2_with (fail)
                      refine (int_any hs5 n.f1 hat hm3 (by omega)).mono ?_
                      rintro e w6 ⟨rfl, hs6⟩
                      have hws : WsP W0 b (Xp X p Lc 71) (cur.node n) w6 := by rw [HN.out]; exact Ws.less hs6 fun k c u hk => .inl hk
                      have HWS := Lib.hid hws
                      clear hws hs5 hs6 r0 r1 r2
                      go_wp2_with (fail)
                      go_round
                      case rel => exact ⟨i + 1, cur.node n, by omega, by go_num, HWS.out, HF.out, HM1.out⟩
                      case measure => simp [intOf]; omega
              · have hin : i = l.f3.length := by omega
                subst hin
                have HF : Hid (Wr.tree l.f3 s8 = cur) := by have := HT.out; rw [List.drop_length] at this; exact this.symm
                clear HT HMc hi hlt
                go_wp2_with (fail)
                go_end0
                refine ⟨rfl, ?_⟩
                unfold Wr.lemma
                rw [HE1.out, HE4.out, HE7.out, HE8.out, HF.out]
                exact Ws.less HWr.out fun k c u hk => .inl hk
end Go.Proofs.YtbeelgaganbblaaDoor.Pw
namespace Go.Proofs.YtbeelgaganbblaaDoor.PFnExactGoodTree
open Go.RowKit Go.Proofs.YtbeelgaganbblaaDoorW.PrintWords Go.Proofs.YtbeelgaganbblaaDoorW.PrintLast Go.Proofs.YtbeelgaganbblaaDoorW.PrintMore
attribute [local go_sem] max2_int min2_int max_two min_two max_three min_three max_four min_four   -- for this text's walks alone
set_option linter.unusedVariables false
set_option linter.unusedSimpArgs false
def spec_l3Digit.f (a0 : Int) : Option (Bool) := if a0 ≥ 48 then (some (decide (a0 ≤ 57))) else (some false)
set_option maxHeartbeats 8000000 in
set_option maxRecDepth 100000 in
theorem spec_l3Digit.calls (a0 : Int) (r : Bool) (w : World) (h : spec_l3Digit.f a0 = some r) :
    Calls Tryd.prog 76 #[.int .u8 a0] w fun e w' => e = .returned (.bool r) ∧ Drawn0 w w' := by
  have H : (if a0 ≥ 48 then (some (decide (a0 ≤ 57))) else (some false)) = some r := h
  clear h
  by_cases c2 : a0 ≥ 48
  · rw [if_pos c2] at H
    have c2b0 : decide (48 ≤ a0) = true := decide_eq_true c2
    clear c2
    obtain rfl := Option.some.inj H
    go_enter Tryd.func76, Tryd.ntmps76
    go_wp2
    go_ret
    exact ⟨by first | rfl | (simp; done) | (simp [*]; done), by repeat (first | exact Drawn0.refl _ | apply Drawn0.step)⟩
  · rw [if_neg c2] at H
    have c2b0 : decide (48 ≤ a0) = false := decide_eq_false c2
    clear c2
    obtain rfl := Option.some.inj H
    go_enter Tryd.func76, Tryd.ntmps76
    go_wp2
    go_ret
    exact ⟨by first | rfl | (simp; done) | (simp [*]; done), by repeat (first | exact Drawn0.refl _ | apply Drawn0.step)⟩
end Go.Proofs.YtbeelgaganbblaaDoor.PFnExactGoodTree

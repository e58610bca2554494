/- Plain facts on a string's bytes (no Go text in it): what `bt s i` is of the list of bytes, what a digit test over a range is. Without conditions beyond those that stand in each lemma. -/
import Derived.Test.YtbeelgaganbblaaDoorWWords
import Derived.Lib.Strings
namespace Go.Proofs.YtbeelgaganbblaaDoor.By
open Go.RowKit Go.Proofs.YtbeelgaganbblaaDoorW.PrintWords
set_option linter.unusedVariables false
set_option linter.unusedSimpArgs false

/-- the list of a string's bytes -/
def L (s : ByteArray) : List UInt8 := s.data.toList
theorem L_length (s : ByteArray) : (L s).length = s.size := by unfold L; rw [Array.length_toList]; rfl
theorem toList_L (s : ByteArray) : s.toList = L s := ByteArray.toList_eq s
theorem L_ext {s t : ByteArray} (h : L s = L t) : s = t := by
  cases s with | mk a => cases t with | mk b => unfold L at h; congr 1; exact Array.toList_inj.1 h
theorem L_extract (s : ByteArray) (a b : Nat) : L (s.extract a b) = ((L s).drop a).take (b - a) := Go.Lib.extract_data s a b
theorem L_extract_end (s : ByteArray) (a : Nat) : L (s.extract a s.size) = (L s).drop a := by
  rw [L_extract, List.take_of_length_le]
  rw [List.length_drop, L_length]; omega
theorem size_extract_end (s : ByteArray) (a : Nat) : (s.extract a s.size).size = s.size - a := by
  rw [← L_length, L_extract_end, List.length_drop, L_length]
theorem size_extract (s : ByteArray) (a b : Nat) (h : b ≤ s.size) : (s.extract a b).size = b - a := by
  rw [← L_length, L_extract, List.length_take, List.length_drop, L_length]; omega
theorem L_mk (l : List UInt8) : L ⟨l.toArray⟩ = l := rfl
theorem bt_get (s : ByteArray) (i : Nat) (h : i < s.size) : bt s (i : Int) = (((L s)[i]'(by rw [L_length]; exact h)).toNat : Int) := by
  unfold bt
  rw [dif_pos (by simpa using h)]
  rfl
theorem bt_getI (s : ByteArray) (i : Int) (h0 : 0 ≤ i) (h : i < s.size) : bt s i = (((L s)[i.toNat]'(by rw [L_length]; omega)).toNat : Int) := by
  have := bt_get s i.toNat (by omega)
  rwa [Int.toNat_of_nonneg h0] at this
theorem drop_cons (s : ByteArray) (i : Nat) (h : i < s.size) : (L s).drop i = (L s)[i]'(by rw [L_length]; exact h) :: (L s).drop (i + 1) :=
  List.drop_eq_getElem_cons _
theorem drop_all (s : ByteArray) (i : Nat) (h : s.size ≤ i) : (L s).drop i = [] := List.drop_eq_nil_of_le (by rw [L_length]; exact h)
theorem nil_iff (s : ByteArray) : s.toList = ([] : List UInt8) ↔ s.size = 0 := by
  rw [toList_L, ← L_length, List.length_eq_zero_iff]
theorem wrap64_succ {i : Int} (h0 : 0 ≤ i) (h : i ≤ 140737488355328) : wrap64 (i + 1) = i + 1 := by unfold wrap64; omega
theorem u8_lt (c : UInt8) : c.toNat < 256 := c.toNat_lt

/-- a digit's byte -/
def dig (c : UInt8) : Bool := decide (48 ≤ c.toNat) && decide (c.toNat ≤ 57)
def digs (l : List UInt8) : Bool := l.all dig
theorem digs_cons (c : UInt8) (l : List UInt8) : digs (c :: l) = (dig c && digs l) := rfl
theorem dig_lt {c : UInt8} (h : ((c.toNat : Nat) : Int) < 48) : dig c = false := by unfold dig; simp; omega
theorem dig_gt {c : UInt8} (h : 57 < ((c.toNat : Nat) : Int)) : dig c = false := by unfold dig; simp; omega
theorem dig_mid {c : UInt8} (h : ¬ ((c.toNat : Nat) : Int) < 48) (h' : ¬ 57 < ((c.toNat : Nat) : Int)) : dig c = true := by unfold dig; simp; omega

/-- a natural number's text, at most d digits -/
def natText (d : Nat) (l : List UInt8) : Bool :=
  decide (l.length ≠ 0) && decide (l.length ≤ d) && !(decide (1 < l.length) && decide (l[0]? = some 48)) && digs l
/-- an int text, at most d digits -/
def intText (d : Nat) (l : List UInt8) : Bool :=
  if l[0]? = some 45 then (if l.drop 1 = [48] then false else natText d (l.drop 1)) else natText d l
theorem bt_eq_iff (s : ByteArray) (i : Nat) (h : i < s.size) (n : Nat) (hn : n < 256) : (bt s (i : Int) = (n : Int)) ↔ (L s)[i]? = some (UInt8.ofNat n) := by
  rw [bt_get s i h, List.getElem?_eq_getElem (by rw [L_length]; exact h)]
  constructor
  · intro e
    have e' : ((L s)[i]'(by rw [L_length]; exact h)).toNat = n := by omega
    rw [← e', UInt8.ofNat_toNat]
  · intro e
    have e' := Option.some.inj e
    rw [e']
    simp
    omega

end Go.Proofs.YtbeelgaganbblaaDoor.By

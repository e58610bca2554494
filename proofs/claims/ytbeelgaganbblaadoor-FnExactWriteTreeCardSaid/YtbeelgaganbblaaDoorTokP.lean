/- The token at a place of a text, as a plain function on the text's bytes (no Go text in it). -/
import Derived.Test.YtbeelgaganbblaaDoorBytes
import Derived.Test.YtbeelgaganbblaaDoorTokA
namespace Go.Proofs.YtbeelgaganbblaaDoor.Tok
open Go.RowKit Go.Proofs.YtbeelgaganbblaaDoorW.PrintWords Go.Proofs.YtbeelgaganbblaaDoor Go.Proofs.YtbeelgaganbblaaDoor.By
set_option linter.unusedVariables false
set_option linter.unusedSimpArgs false

def nm (c : UInt8) : Bool := nmB (c.toNat : Int)
/-- a byte inside bars -/
def inb (c : UInt8) : Bool := decide (32 ≤ c.toNat) && decide (c.toNat ≤ 126) && !(c == 124) && !(c == 92)
/-- a byte inside quotes, other than the quote -/
def inq (c : UInt8) : Bool := c == 10 || (decide (32 ≤ c.toNat) && decide (c.toNat ≤ 126))
def bin (c : UInt8) : Bool := c == 48 || c == 49
def hexd (c : UInt8) : Bool := dig c || (decide (97 ≤ c.toNat) && decide (c.toNat ≤ 102)) || (decide (65 ≤ c.toNat) && decide (c.toNat ≤ 70))
/-- a hex digit's value -/
def hexv (c : UInt8) : Nat := if c.toNat ≤ 57 then c.toNat - 48 else if c.toNat ≤ 70 then c.toNat - 55 else c.toNat - 87
def bit (v j : Nat) : UInt8 := UInt8.ofNat (48 + v / 2 ^ j % 2)
def four (c : UInt8) : List UInt8 := [bit (hexv c) 3, bit (hexv c) 2, bit (hexv c) 1, bit (hexv c) 0]
/-- how many bytes at the head are of the kind -/
def scan (p : UInt8 → Bool) (l : List UInt8) : Nat := (l.takeWhile p).length
/-- a quoted text behind its quote: what stands in it, and the place behind -/
def txt : List UInt8 → List UInt8 → Nat → Option (List UInt8 × Nat)
  | [], _, _ => none
  | [c], acc, k => if c = 34 then some (acc, k + 1) else none
  | c :: d :: t, acc, k => if c = 34 then (if d = 34 then txt t (acc ++ [34]) (k + 2) else some (acc, k + 1)) else if inq c then txt (d :: t) (acc ++ [c]) (k + 1) else none
def noTok : Int × ByteArray × Int := (0, ⟨#[]⟩, 0)
def quoted (s : ByteArray) (i : Nat) : Int × ByteArray × Int :=
  match txt ((L s).drop (i + 1)) [] (i + 1) with
  | some (o, k) => (6, ⟨o.toArray⟩, (k : Int))
  | none => noTok
def barred (s : ByteArray) (i : Nat) : Int × ByteArray × Int :=
  let k := i + 1 + scan inb ((L s).drop (i + 1))
  if (L s)[k]? = some 124 then (2, s.extract (i + 1) k, ((k + 1 : Nat) : Int)) else noTok
def keyed (s : ByteArray) (i : Nat) : Int × ByteArray × Int :=
  let k := i + 1 + scan nm ((L s).drop (i + 1))
  if k = i + 1 then noTok else (7, s.extract (i + 1) k, (k : Int))
def bits (s : ByteArray) (i : Nat) : Int × ByteArray × Int :=
  if (L s)[i + 1]? = some 98 then
    let t := ((L s).drop (i + 2)).takeWhile bin
    if t = [] then noTok else (5, ⟨t.toArray⟩, ((i + 2 + t.length : Nat) : Int))
  else if (L s)[i + 1]? = some 120 then
    let t := ((L s).drop (i + 2)).takeWhile hexd
    if t = [] then noTok else (5, ⟨(t.flatMap four).toArray⟩, ((i + 2 + t.length : Nat) : Int))
  else noTok
def numeral (s : ByteArray) (i : Nat) : Int × ByteArray × Int :=
  let k := i + 1 + scan dig ((L s).drop (i + 1))
  if i + 1 < k ∧ (L s)[i]? = some 48 then noTok
  else if (L s)[k]? = some 46 ∧ ((L s)[k + 1]?).any dig = true then
    let m := k + 1 + scan dig ((L s).drop (k + 1))
    (4, s.extract i m, (m : Int))
  else (3, s.extract i k, (k : Int))
def named (s : ByteArray) (i : Nat) : Int × ByteArray × Int :=
  let k := i + 1 + scan nm ((L s).drop (i + 1))
  (2, s.extract i k, (k : Int))
/-- the token that begins at i: kind (0: none), text, place behind -/
def tok (s : ByteArray) (i : Nat) : Int × ByteArray × Int :=
  match (L s)[i]? with
  | none => noTok
  | some c => if c = 34 then quoted s i else if c = 124 then barred s i else if c = 58 then keyed s i else if c = 35 then bits s i
      else if dig c then numeral s i else if nm c then named s i else noTok

theorem scan_nil (p : UInt8 → Bool) : scan p [] = 0 := rfl
theorem scan_yes {p : UInt8 → Bool} {c : UInt8} {l : List UInt8} (h : p c = true) : scan p (c :: l) = scan p l + 1 := by unfold scan; rw [List.takeWhile_cons, if_pos h, List.length_cons]
theorem scan_no {p : UInt8 → Bool} {c : UInt8} {l : List UInt8} (h : p c = false) : scan p (c :: l) = 0 := by unfold scan; rw [List.takeWhile_cons, h]; rfl
theorem scan_le (p : UInt8 → Bool) (l : List UInt8) : scan p l ≤ l.length := (List.takeWhile_sublist p).length_le
/-- the byte at a place, as the walk reads it -/
def at_ (s : ByteArray) (k : Nat) : UInt8 := (L s).getD k 0
theorem get_at (s : ByteArray) (k : Nat) (h : k < s.size) : (L s)[k]? = some (at_ s k) := by
  unfold at_; rw [List.getD_eq_getElem?_getD, List.getElem?_eq_getElem (by rw [L_length]; exact h)]; rfl
theorem get_end (s : ByteArray) (k : Nat) (h : s.size ≤ k) : (L s)[k]? = none := List.getElem?_eq_none (by rw [L_length]; exact h)
theorem drop_at (s : ByteArray) (k : Nat) (h : k < s.size) : (L s).drop k = at_ s k :: (L s).drop (k + 1) := by
  rw [drop_cons s k h]; congr 1
  have := get_at s k h
  rw [List.getElem?_eq_getElem (by rw [L_length]; exact h)] at this
  exact Option.some.inj this
theorem scan_step {s : ByteArray} {p : UInt8 → Bool} {k : Nat} (h : k < s.size) (hp : p (at_ s k) = true) : scan p ((L s).drop k) = scan p ((L s).drop (k + 1)) + 1 := by rw [drop_at s k h, scan_yes hp]
theorem scan_stop {s : ByteArray} {p : UInt8 → Bool} {k : Nat} (h : k < s.size) (hp : p (at_ s k) = false) : scan p ((L s).drop k) = 0 := by rw [drop_at s k h, scan_no hp]
theorem scan_end {s : ByteArray} {p : UInt8 → Bool} {k : Nat} (h : s.size ≤ k) : scan p ((L s).drop k) = 0 := by rw [drop_all s k h]; rfl
theorem scan_bound (s : ByteArray) (p : UInt8 → Bool) (k : Nat) (h : k ≤ s.size) : k + scan p ((L s).drop k) ≤ s.size := by
  have := scan_le p ((L s).drop k); rw [List.length_drop, L_length] at this; omega
theorem at_int (s : ByteArray) (k : Nat) (h : k < s.size) : bt s (k : Int) = ((at_ s k).toNat : Int) := by
  rw [bt_get s k h]
  have := get_at s k h
  rw [List.getElem?_eq_getElem (by rw [L_length]; exact h)] at this
  rw [Option.some.inj this]
theorem u8_eq {c : UInt8} (n : Nat) (hn : n < 256) : ((c.toNat : Int) = (n : Int)) ↔ c = UInt8.ofNat n := by
  constructor
  · intro h; have : c.toNat = n := by omega
    rw [← this, UInt8.ofNat_toNat]
  · intro h; subst h; simp; omega
theorem inb_yes {c : UInt8} {d : Int} (h : inb c = true) (e : (c.toNat : Int) = d) : 32 ≤ d ∧ d ≤ 126 ∧ d ≠ 124 ∧ d ≠ 92 := by
  unfold inb at h
  simp only [Bool.and_eq_true, decide_eq_true_eq, Bool.not_eq_true', beq_eq_false_iff_ne, ne_eq] at h
  obtain ⟨⟨⟨h1, h2⟩, h3⟩, h4⟩ := h
  refine ⟨by omega, by omega, ?_, ?_⟩
  · intro hd; exact h3 ((u8_eq 124 (by omega)).1 (by omega))
  · intro hd; exact h4 ((u8_eq 92 (by omega)).1 (by omega))
theorem inb_no {c : UInt8} {d : Int} (h : inb c = false) (e : (c.toNat : Int) = d) : d < 32 ∨ 126 < d ∨ d = 124 ∨ d = 92 := by
  by_cases h1 : d < 32
  · exact .inl h1
  by_cases h2 : 126 < d
  · exact .inr (.inl h2)
  by_cases h3 : d = 124
  · exact .inr (.inr (.inl h3))
  by_cases h4 : d = 92
  · exact .inr (.inr (.inr h4))
  exfalso
  have : inb c = true := by
    unfold inb
    simp only [Bool.and_eq_true, decide_eq_true_eq, Bool.not_eq_true', beq_eq_false_iff_ne, ne_eq]
    refine ⟨⟨⟨by omega, by omega⟩, ?_⟩, ?_⟩
    · intro hc; rw [hc] at e; simp at e; omega
    · intro hc; rw [hc] at e; simp at e; omega
  rw [this] at h; cases h
end Go.Proofs.YtbeelgaganbblaaDoor.Tok

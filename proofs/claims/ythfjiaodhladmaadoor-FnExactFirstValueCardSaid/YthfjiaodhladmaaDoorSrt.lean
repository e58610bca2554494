/- Plain law on sort texts: what the program's reader reads is what the reference's reads. -/
import Derived.Test.YthfjiaodhladmaaDoorNum
import Derived.Lib.AtoiAll
import Derived.Lib.IndexMore
import Derived.Lib.Strings
namespace Go.Proofs.YthfjiaodhladmaaDoor.Srt
open Go.Proofs.YthfjiaodhladmaaDoor.By
set_option linter.unusedVariables false
set_option linter.unusedSimpArgs false
def pfxB : List UInt8 := [40, 95, 32, 66, 105, 116, 86, 101, 99, 32]
def pfxA : List UInt8 := [40, 65, 114, 114, 97, 121, 32]
def tBool : List UInt8 := [66, 111, 111, 108]
def tInt : List UInt8 := [73, 110, 116]
def tReal : List UInt8 := [82, 101, 97, 108]
abbrev Rd := (Int × Int) × List UInt8
def noRd : Rd := ((0, 0), [63])
/-- the width's text is all right -/
def okBits (n : List UInt8) : Option Int := match Lib.atoiAll n with
  | .ok v => if 1 ≤ v ∧ v ≤ 64 ∧ Lib.decDigits v.toNat = n then some v else none
  | _ => none
/-- behind '(_ BitVec ' -/
def rdBits (t : List UInt8) : Rd :=
  let c := Lib.cut (t.drop 10) [41]
  if c.2.2 = true then (match okBits c.1 with | some v => ((4, v), c.2.1) | none => noRd) else noRd
def sgn : List Nat := [43, 45, 42, 47, 61, 37, 63, 33, 46, 36, 95, 126, 38, 94, 60, 62, 64]
/-- a byte of a name -/
def nmU (c : UInt8) : Bool := decide (48 ≤ c.toNat ∧ c.toNat ≤ 57) || decide (97 ≤ c.toNat ∧ c.toNat ≤ 122) || decide (65 ≤ c.toNat ∧ c.toNat ≤ 90) || sgn.contains c.toNat
/-- a byte between bars -/
def inU (c : UInt8) : Bool := decide (32 ≤ c.toNat) && decide (c.toNat ≤ 126) && !(c == 124) && !(c == 92)
def isSym (l : List UInt8) : Bool := decide (1 ≤ l.length) && decide (l.length ≤ 60) && l.all inU
def plain : List UInt8 → Bool
  | [] => false
  | c :: l => !dig c && (c :: l).all nmU
def fin (has : List UInt8 → Bool) (sym rest : List UInt8) : Rd := if (isSym sym && has sym) = true then ((5, 0), rest) else noRd
/-- behind a bar -/
def rdBar (has : List UInt8 → Bool) (u : List UInt8) : Rd :=
  if Lib.indexByte u 124 < 0 then noRd else if plain (u.take (Lib.indexByte u 124).toNat) = true then noRd else fin has (u.take (Lib.indexByte u 124).toNat) (u.drop ((Lib.indexByte u 124).toNat + 1))
def rdPlain (has : List UInt8 → Bool) (t : List UInt8) : Rd :=
  if t.takeWhile nmU = tBool then ((1, 0), t.dropWhile nmU) else if t.takeWhile nmU = tInt then ((2, 0), t.dropWhile nmU) else if t.takeWhile nmU = tReal then ((3, 0), t.dropWhile nmU) else
  if plain (t.takeWhile nmU) = true then fin has (t.takeWhile nmU) (t.dropWhile nmU) else noRd
def rdName (has : List UInt8 → Bool) (t : List UInt8) : Rd := if Lib.hasPrefix t [124] = true then rdBar has (t.drop 1) else rdPlain has t
/-- a sort text that is no array's, at the head of a text, and what stands behind it -/
def rdS (has : List UInt8 → Bool) (t : List UInt8) : Rd := if Lib.hasPrefix t pfxB = true then rdBits t else rdName has t
/-- from some count of rounds on -/
def Evt {α : Type} (f : Nat → Option α) (r : α) : Prop := ∃ k0, ∀ k, k0 ≤ k → f k = some r
theorem Evt.pure {α : Type} {f : Nat → Option α} {r : α} (h : ∀ k, f k = some r) : Evt f r := ⟨0, fun k _ => h k⟩
theorem Evt.succ {α : Type} {f g : Nat → Option α} {r : α} (h : ∀ k, f (k + 1) = g k) (hg : Evt g r) : Evt f r := by
  obtain ⟨k0, hk⟩ := hg
  refine ⟨k0 + 1, fun k hle => ?_⟩
  obtain ⟨j, rfl⟩ : ∃ j, k = j + 1 := ⟨k - 1, by omega⟩
  rw [h]; exact hk j (by omega)
theorem Evt.same {α : Type} {f g : Nat → Option α} {r : α} (h : ∀ k, f k = g k) (hg : Evt g r) : Evt f r := by
  obtain ⟨k0, hk⟩ := hg
  exact ⟨k0, fun k hle => by rw [h]; exact hk k hle⟩
theorem Evt.bind {α β : Type} {f : Nat → Option α} {g : Nat → α → Option β} {a : α} {r : β} (hf : Evt f a) (hg : Evt (fun k => g k a) r) : Evt (fun k => (f k).bind (g k)) r := by
  obtain ⟨k0, h0⟩ := hf
  obtain ⟨k1, h1⟩ := hg
  refine ⟨max k0 k1, fun k hle => ?_⟩
  show (f k).bind (g k) = some r
  rw [h0 k (by omega)]; exact h1 k (by omega)
theorem Evt.get {α : Type} {f : Nat → Option α} {r : α} (h : Evt f r) : ∃ k, f k = some r := by
  obtain ⟨k0, hk⟩ := h
  exact ⟨k0, hk k0 (Nat.le_refl _)⟩
end Go.Proofs.YthfjiaodhladmaaDoor.Srt

/- Plain law on sort texts, arrays: what the program's reader computes. -/
import Derived.Test.YthfjiaodhladmaaDoorSrt
namespace Go.Proofs.YthfjiaodhladmaaDoor.Srt
open Go.Proofs.YthfjiaodhladmaaDoor.By
set_option linter.unusedVariables false
set_option linter.unusedSimpArgs false
abbrev RdT := (Int × Int × List UInt8 × List UInt8) × List UInt8
def noRdT : RdT := ((0, 0, [], []), [63])
def lift (r : Rd) : RdT := ((r.1.1, r.1.2, [], []), r.2)
def badK (k : Int) : Bool := decide (k = 0) || decide (k = 1)
/-- behind '(Array ' -/
def rdArr (has : List UInt8 → Bool) (i : List UInt8) : RdT :=
  if (badK (rdS has i).1.1 || !Lib.hasPrefix (rdS has i).2 [32]) = true then noRdT else
  if (badK (rdS has ((rdS has i).2.drop 1)).1.1 || !Lib.hasPrefix (rdS has ((rdS has i).2.drop 1)).2 [41]) = true then noRdT else
  ((6, 0, i.take (i.length - (rdS has i).2.length), ((rdS has i).2.drop 1).take (((rdS has i).2.drop 1).length - (rdS has ((rdS has i).2.drop 1)).2.length)), (rdS has ((rdS has i).2.drop 1)).2.drop 1)
def rdT (has : List UInt8 → Bool) (t : List UInt8) : RdT :=
  if Lib.hasPrefix t pfxB = true then lift (rdBits t) else if Lib.hasPrefix t pfxA = true then rdArr has (t.drop 7) else lift (rdName has t)
/-- impl.ReadSort -/
def rdSort (has : List UInt8 → Bool) (t : List UInt8) : Int × Int × List UInt8 × List UInt8 := if (rdT has t).2 = [] then (rdT has t).1 else (0, 0, [], [])
theorem index_le : ∀ l : List UInt8, Lib.index l [41] ≤ l.length
  | [] => by simp [Lib.index]
  | b :: l => by
    have ih := index_le l
    unfold Lib.index
    split
    · simp; try omega
    · split
      · simp; omega
      · simp; omega
/-- what is left is no longer than the text, where something was read -/
theorem rdS_len (has : List UInt8 → Bool) (t : List UInt8) (h : badK (rdS has t).1.1 = false) : (rdS has t).2.length ≤ t.length := by
  have noB : badK noRd.1.1 = true := rfl
  unfold rdS at h ⊢
  split
  · rename_i hp
    rw [if_pos hp] at h
    unfold rdBits at h ⊢
    simp only at h ⊢
    split
    · rename_i hc
      rw [if_pos hc] at h
      split
      · rename_i v hv
        show (Lib.cut (t.drop 10) [41]).2.1.length ≤ _
        unfold Lib.cut
        split
        · simp; try omega
        · simp
      · rename_i hv; rw [hv] at h; rw [noB] at h; cases h
    · rename_i hc; rw [if_neg hc, noB] at h; cases h
  · rename_i hp
    rw [if_neg hp] at h
    have hfin : ∀ s r : List UInt8, badK (fin has s r).1.1 = false → (fin has s r).2 = r := fun s r hb => by
      unfold fin at hb ⊢
      split
      · rfl
      · rename_i hn; rw [if_neg hn, noB] at hb; cases hb
    have hdw : (t.dropWhile nmU).length ≤ t.length := (List.dropWhile_sublist _).length_le
    unfold rdName at h ⊢
    split
    · rename_i hb
      rw [if_pos hb] at h
      unfold rdBar at h ⊢
      split
      · rename_i hi; rw [if_pos hi, noB] at h; cases h
      · rename_i hi
        rw [if_neg hi] at h
        split
        · rename_i hq; rw [if_pos hq, noB] at h; cases h
        · rename_i hq
          rw [if_neg hq] at h
          rw [hfin _ _ h]; simp; try omega
    · rename_i hb
      rw [if_neg hb] at h
      unfold rdPlain at h ⊢
      split
      · exact hdw
      · split
        · exact hdw
        · split
          · exact hdw
          · split
            · rename_i h1 h2 h3 h4
              rw [if_neg h1, if_neg h2, if_neg h3, if_pos h4] at h
              rw [hfin _ _ h]; exact hdw
            · rename_i h1 h2 h3 h4
              rw [if_neg h1, if_neg h2, if_neg h3, if_neg h4, noB] at h
              cases h
end Go.Proofs.YthfjiaodhladmaaDoor.Srt

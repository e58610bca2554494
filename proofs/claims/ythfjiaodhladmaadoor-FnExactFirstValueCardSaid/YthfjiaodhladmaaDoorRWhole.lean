/- impl.readSort and impl.ReadSort: what they compute. -/
import Derived.Test.YthfjiaodhladmaaDoorRBar
import Derived.Test.YthfjiaodhladmaaDoorRPlain
import Derived.Test.YthfjiaodhladmaaDoorRArr
namespace Go.Proofs.YthfjiaodhladmaaDoor.RS
open Go.RowKit Go.Proofs.YthfjiaodhladmaaDoor Go.Proofs.YthfjiaodhladmaaDoorW.PrintWords Go.Proofs.YthfjiaodhladmaaDoorW.PrintLast Go.Proofs.YthfjiaodhladmaaDoorW.PrintMore Go.Proofs.YthfjiaodhladmaaDoor.By Go.Proofs.YthfjiaodhladmaaDoor.PFnExactReadSort Go.Proofs.YthfjiaodhladmaaDoor.Srt
set_option linter.unusedVariables false
set_option linter.unusedSimpArgs false
set_option maxRecDepth 100000
theorem pfx_len {p t : List UInt8} (h : Lib.hasPrefix t p = true) : p.length ≤ t.length := (List.isPrefixOf_iff_prefix.1 h).length_le
theorem rs_name (A : Option Addr) (c : Nat) (l : List ByteArray) (s : ByteArray) (arr : Bool) (w : World) (hs : s.size ≤ 1048576) (hT : Tabs w) (hp : Lib.hasPrefix (L s) pfxB = false) (hba : Lib.hasPrefix (L s) pfxA = false ∨ (Lib.hasPrefix (L s) pfxA = true ∧ arr = false))
    (hl : Kd.C Kd.string w A l.length l) (hlc : l.length ≤ c) (hll : l.length ≤ 1048576) :
    Calls Tryd.prog 15 #[.slice A l.length c, .string s, .bool arr] w fun e w' => e = Ret (rdName (has l) (L s)) ∧ Below w.heap.size w w' := by
  by_cases hb : Lib.hasPrefix (L s) [124] = true
  · have := pfx_len hb
    rw [L_length] at this
    exact bar_walk A c l s arr _ w hs hT hp rfl hba hb this hl hlc hll
  · exact plain_walk A c l s arr _ w hs hT hp rfl hba (Bool.eq_false_iff.2 hb) (Nat.zero_le _) hl hlc hll
theorem rs0 (A : Option Addr) (c : Nat) (l : List ByteArray) (s : ByteArray) (w : World) (hs : s.size ≤ 1048576) (hT : Tabs w) (hl : Kd.C Kd.string w A l.length l) (hlc : l.length ≤ c) (hll : l.length ≤ 1048576) :
    Calls Tryd.prog 15 #[.slice A l.length c, .string s, .bool false] w fun e w' => e = Ret (rdS (has l) (L s)) ∧ Below w.heap.size w w' := by
  unfold rdS
  by_cases hp : Lib.hasPrefix (L s) pfxB = true
  · rw [if_pos hp]
    have := pfx_len hp
    rw [L_length] at this
    exact bits_walk _ s false w hs hT hp this
  · rw [if_neg hp]
    exact rs_name A c l s false w hs hT (Bool.eq_false_iff.2 hp) (by cases Lib.hasPrefix (L s) pfxA <;> simp) hl hlc hll
theorem rsT (A : Option Addr) (c : Nat) (l : List ByteArray) (s : ByteArray) (w : World) (hs : s.size ≤ 1048576) (hT : Tabs w) (hl : Kd.C Kd.string w A l.length l) (hlc : l.length ≤ c) (hll : l.length ≤ 1048576) :
    Calls Tryd.prog 15 #[.slice A l.length c, .string s, .bool true] w fun e w' => e = RetT (rdT (has l) (L s)) ∧ Below w.heap.size w w' := by
  unfold rdT
  by_cases hp : Lib.hasPrefix (L s) pfxB = true
  · rw [if_pos hp, ← ret_lift]
    have := pfx_len hp
    rw [L_length] at this
    exact bits_walk _ s true w hs hT hp this
  · rw [if_neg hp]
    by_cases ha : Lib.hasPrefix (L s) pfxA = true
    · rw [if_pos ha]
      have := pfx_len ha
      rw [L_length] at this
      exact arr_walk A c l s w hs hT (Bool.eq_false_iff.2 hp) ha this hl hlc ⟨fun s' W hs' hT' hl' => rs0 A c l s' W hs' hT' hl' hlc hll⟩
    · rw [if_neg ha, ← ret_lift]
      exact rs_name A c l s true w hs hT (Bool.eq_false_iff.2 hp) (.inl (Bool.eq_false_iff.2 ha)) hl hlc hll
/-- what impl.ReadSort returns -/
def RetS (r : Int × Int × List UInt8 × List UInt8) : Ending := .returned (.agg #[.int .i64 r.1, .int .i64 r.2.1, .string ⟨r.2.2.1.toArray⟩, .string ⟨r.2.2.2.toArray⟩])
set_option maxHeartbeats 2000000 in
theorem readSort_call (A : Option Addr) (c : Nat) (l : List ByteArray) (s : ByteArray) (w : World) (hs : s.size ≤ 1048576) (hT : Tabs w) (hl : Kd.C Kd.string w A l.length l) (hlc : l.length ≤ c) (hll : l.length ≤ 1048576) :
    Calls Tryd.prog 8 #[.slice A l.length c, .string s] w fun e w' => e = RetS (rdSort (has l) (L s)) ∧ Below w.heap.size w w' := by
  have hb0 : Below w.heap.size w (w.alloc Z) := below_alloc (Below.refl _ _) Z
  have HC := Aside0.mk (rsT A c l s (w.alloc Z) hs (hT.below hb0) (Kd.C_below hl hb0) hlc hll)
  have HA := Aside0.mk (blk_new w Z)
  have HB0 := Aside0.mk hb0
  obtain ⟨k, e1, i1, j1, r1, hr⟩ : ∃ k e1 i1 j1 r1, rdT (has l) (L s) = ((k, e1, i1, j1), r1) := ⟨_, _, _, _, _, rfl⟩
  have HR := Aside0.mk hr
  clear hr hb0 hT hl
  obtain ⟨R, hR⟩ : ∃ R : ByteArray, (⟨r1.toArray⟩ : ByteArray) = R := ⟨_, rfl⟩
  obtain ⟨I, hI⟩ : ∃ R : ByteArray, (⟨i1.toArray⟩ : ByteArray) = R := ⟨_, rfl⟩
  obtain ⟨J, hJ⟩ : ∃ R : ByteArray, (⟨j1.toArray⟩ : ByteArray) = R := ⟨_, rfl⟩
  have HRR := Aside0.mk hR
  have HI := Aside0.mk hI
  have HJ := Aside0.mk hJ
  clear hR hI hJ
  go_enter Tryd.func8, Tryd.ntmps8
  go_wp2_with (fail)
  refine Calls.mono HC.out ?_
  rintro e w2 ⟨rfl, hb2⟩
  have HX := Aside0.mk (blk_below HA.out hb2)
  have HB2 := Aside0.mk (HB0.out.trans (hb2.mono HB0.out.size))
  rw [HR.out]
  unfold RetT
  simp only
  rw [HRR.out, HI.out, HJ.out]
  clear hb2
  have c0 := ((blk_cell HX.out 0).trans rfl : w2.cell? ⟨w.heap.size, 0, none⟩ = some (.int .i64 0))
  have c1 := ((blk_cell HX.out 1).trans rfl : w2.cell? ⟨w.heap.size, 1, none⟩ = some (.int .i64 0))
  have c2 := ((blk_cell HX.out 2).trans rfl : w2.cell? ⟨w.heap.size, 2, none⟩ = some (.string ⟨#[]⟩))
  have c3 := ((blk_cell HX.out 3).trans rfl : w2.cell? ⟨w.heap.size, 3, none⟩ = some (.string ⟨#[]⟩))
  have f0 := blk_frozen HX.out 0
  have f1 := blk_frozen HX.out 1
  have f2 := blk_frozen HX.out 2
  have f3 := blk_frozen HX.out 3
  have hlt : w.heap.size < w2.heap.size := blk_lt HX.out
  by_cases he : r1 = []
  · have ht : (R.toList == ([] : List UInt8)) = true := by rw [toList_L, ← HRR.out, L_mk, he]; rfl
    have HE := Aside0.mk he
    have HS : Aside0 (rdSort (has l) (L s) = (k, e1, i1, j1)) := ⟨by unfold rdSort; rw [HR.out]; simp only; rw [if_pos he]⟩
    clear he
    go_wp2_with (fail)
    exact bodyPost_ret (v := .agg #[.int .i64 k, .int .i64 e1, .string I, .string J]) (by simp [results, Tryd.results8, go_sem, c0, c1, c2, c3, f0, f1, f2, f3, hlt]) rfl ⟨by rw [HS.out]; unfold RetS; simp only; rw [HI.out, HJ.out], below_alloc ((((HB2.out.setCell (Nat.le_refl _) _).setCell (Nat.le_refl _) _).setCell (Nat.le_refl _) _).setCell (Nat.le_refl _) _) _⟩
  · have ht : (R.toList == ([] : List UInt8)) = false := by rw [toList_L, ← HRR.out, L_mk]; exact beq_eq_false_iff_ne.2 he
    have HS : Aside0 (rdSort (has l) (L s) = (0, 0, [], [])) := ⟨by unfold rdSort; rw [HR.out]; simp only; rw [if_neg he]⟩
    clear he
    go_wp2_with (fail)
    exact bodyPost_ret (v := .agg #[.int .i64 0, .int .i64 0, .string ⟨#[]⟩, .string ⟨#[]⟩]) (by simp [results, Tryd.results8, go_sem, c0, c1, c2, c3, f0, f1, f2, f3, hlt]) rfl ⟨by rw [HS.out]; unfold RetS; rfl, below_alloc ((((HB2.out.setCell (Nat.le_refl _) _).setCell (Nat.le_refl _) _).setCell (Nat.le_refl _) _).setCell (Nat.le_refl _) _) _⟩
end Go.Proofs.YthfjiaodhladmaaDoor.RS

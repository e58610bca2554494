/- spec.l1Text of a number as spec.l1Make keeps it: its decimal text. -/
import Derived.Test.YtljjenkaofcppaaLimbT
namespace Go.Proofs.Ytljjenkaofcppaa.Limb
open Go.RowKit Go.Proofs.YtljjenkaofcppaaW.PrintWords Go.Proofs.YtljjenkaofcppaaW.PrintLast Go.Proofs.Ytljjenkaofcppaa Go.Proofs.Ytljjenkaofcppaa.By Go.Proofs.Ytljjenkaofcppaa.Dig
set_option linter.unusedVariables false
set_option linter.unusedSimpArgs false
set_option maxRecDepth 100000
theorem valB_top : ∀ xs : List Nat, valB (top xs) = valB xs
  | [] => rfl
  | d :: l => by
    have ih := valB_top l
    rw [top]
    split
    · next h => rw [h.1] at ih; simp [valB] at ih ⊢; omega
    · rw [valB, valB, ih]
theorem top_pre : ∀ xs : List Nat, ∃ m, top xs = xs.take m
  | [] => ⟨0, rfl⟩
  | d :: l => by
    obtain ⟨m, hm⟩ := top_pre l
    rw [top]
    split
    · exact ⟨0, rfl⟩
    · exact ⟨m + 1, by rw [hm, List.take_succ_cons]⟩
theorem top_get {xs : List Nat} {j x : Nat} (h : (top xs)[j]? = some x) : xs[j]? = some x := by
  obtain ⟨m, hm⟩ := top_pre xs
  rw [hm, List.getElem?_take] at h
  split at h
  · exact h
  · cases h
theorem top_mem {xs : List Nat} {x : Nat} (h : x ∈ top xs) : x ∈ xs := by
  obtain ⟨m, hm⟩ := top_pre xs
  rw [hm] at h; exact List.mem_of_mem_take h
theorem top_len (xs : List Nat) : (top xs).length ≤ xs.length := by
  obtain ⟨m, hm⟩ := top_pre xs
  rw [hm, List.length_take]; omega
theorem top_top (xs : List Nat) : top (top xs) = top xs := by
  induction xs with
  | nil => rfl
  | cons d l ih =>
    rw [top]
    split
    · rfl
    · next h => rw [top, ih, if_neg h]
theorem valB_pos {xs : List Nat} (h : xs ≠ []) (ht : top xs = xs) : 0 < valB xs := by
  induction xs with
  | nil => exact absurd rfl h
  | cons d l ih =>
    rw [top] at ht
    split at ht
    · cases ht
    · next hn =>
      rw [valB]
      have htl : top l = l := (List.cons.inj ht).2
      rw [htl] at hn
      by_cases hl : l = []
      · have : d ≠ 0 := fun e => hn ⟨hl, e⟩
        omega
      · have := ih hl htl; omega
theorem small_val (u : Nat) (hu : u < 1000000000000000000) : valB (small u) = u := by
  unfold small
  split
  · next h => rw [h]; rfl
  · split
    · simp [valB]
    · simp [valB]; omega
theorem small_lt (u : Nat) (hu : u < 1000000000000000000) : ∀ x ∈ small u, x < 1000000000 := by
  unfold small
  split
  · intro x hx; simp at hx
  · split
    · intro x hx; simp at hx; omega
    · intro x hx; simp at hx; omega
theorem small_len (u : Nat) : (small u).length ≤ 2 := by unfold small; split; simp; split <;> simp
/-- the text of a number -/
def decText (ng : Bool) (u : Nat) : ByteArray := ⟨((if (ng && u != 0) then [45] else []) ++ Lib.decDigits u).toArray⟩
/-- what is asked of a number's limbs in a world -/
def At (w : World) (g : Nat) (t : List Nat) : Prop := g < w.heap.size ∧ ∀ (j x : Nat), t[j]? = some x → w.cell? ⟨g, 0 + j, none⟩ = some (.int .u32 (x : Int))
theorem text_zero (w : World) :
    Calls Try.prog 53 #[.agg #[.int .i64 0, .bool false, .slice none 0 0]] w fun e w' => e = .returned (.string ⟨#[48]⟩) ∧ Below w.heap.size w w' := by
  go_enter Try.func53, Try.ntmps53
  go_wp2_with (fail)
  refine (spec_limbs_small 0 (by decide) 0 (.inl rfl) false _).mono ?_
  rintro e w1 ⟨rv, rfl, hrow, hb⟩
  obtain ⟨A, cp, rfl, hcp, hcells⟩ := hrow
  have hb2 : Hid (Below w.heap.size w w1) := ((Below.refl _ _).alloc (Nat.le_refl _) _).trans (hb.mono (by simp))
  clear hb hcells
  rw [show (small 0).length = 0 from rfl] at hcp ⊢
  go_wp2_with (go_in)
  go_ret
  exact ⟨rfl, hb2.out⟩
theorem text_kept (ng : Bool) (g c : Nat) (t : List Nat) (w : World) (hA : At w g t) (ht : top t = t) (hlen : t.length < 100) (hlt : ∀ x ∈ t, x < 1000000000) (hc : t.length ≤ c) :
    Calls Try.prog 53 #[kept ng g 0 c t] w fun e w' => e = .returned (.string (decText ng (valB t))) ∧ Below w.heap.size w w' := by
  unfold kept
  by_cases h2 : 2 < t.length
  · rw [if_pos h2]
    have hpos : 0 < valB t := valB_pos (by intro e; rw [e] at h2; simp at h2) ht
    refine (spec_text 0 ng ng (some ⟨g, 0, none⟩) t.length c t hpos hlen hlt w ?_ ?_).mono ?_
    · intro W hW
      refine (spec_limbs_big 0 ng (some ⟨g, 0, none⟩) t.length c (by omega) W).mono ?_
      rintro e w' ⟨rfl, hb⟩
      refine ⟨_, rfl, ⟨_, c, rfl, hc, .inr ⟨g, 0, rfl, ?_, fun j x hj => ?_⟩⟩, hb⟩
      · exact Nat.lt_of_lt_of_le hA.1 (Nat.le_trans hW.size hb.size)
      · rw [hb.cell (p := ⟨g, 0 + j, none⟩) (Nat.lt_of_lt_of_le hA.1 hW.size), hW.cell (p := ⟨g, 0 + j, none⟩) hA.1]; exact hA.2 j x hj
    · intro W; exact spec_neg_big 0 ng _ _ _ (by omega) W
    · rintro e w' ⟨rfl, hb⟩
      refine ⟨?_, hb⟩
      unfold decText
      have : (valB t != 0) = true := bne_iff_ne.2 (by omega)
      rw [this, Bool.and_true]
  · rw [if_neg h2]
    have hv : valB t < 1000000000000000000 := valB_two (by omega) hlt
    by_cases h0 : valB t = 0
    · rw [h0]
      have : (if ng = true then -((0 : Nat) : Int) else ((0 : Nat) : Int)) = 0 := by split <;> rfl
      rw [this]
      refine (text_zero w).mono ?_
      rintro e w' ⟨rfl, hb⟩
      refine ⟨?_, hb⟩
      unfold decText
      rw [Lib.decDigits_one (by omega)]
      cases ng <;> rfl
    · refine (spec_text _ false ng none 0 0 (small (valB t)) (by rw [small_val _ hv]; omega) (Nat.lt_of_le_of_lt (small_len _) (by omega)) (small_lt _ hv) w ?_ ?_).mono ?_
      · intro W hW
        exact spec_limbs_small (valB t) hv _ (by cases ng; exact .inl rfl; exact .inr rfl) false W
      · intro W
        refine (spec_neg_small _ false W).mono ?_
        rintro e w' ⟨rfl, hb⟩
        refine ⟨?_, hb⟩
        congr 2
        cases ng
        · rw [if_neg (by simp)]; exact decide_eq_false (by omega)
        · rw [if_pos rfl]; exact decide_eq_true (by omega)
      · rintro e w' ⟨rfl, hb⟩
        refine ⟨?_, hb⟩
        unfold decText
        have : (valB t != 0) = true := bne_iff_ne.2 h0
        rw [this, Bool.and_true, small_val _ hv]
end Go.Proofs.Ytljjenkaofcppaa.Limb

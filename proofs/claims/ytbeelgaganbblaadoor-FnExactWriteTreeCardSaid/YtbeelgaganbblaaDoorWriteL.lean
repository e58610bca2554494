/- Plain law: laws.FnExactWriteTree's printed function answers true at every row of nodes whose numbers fit an int. -/
import Derived.Test.YtbeelgaganbblaaDoorPFnExactWriteTreex1
import Derived.Test.YtbeelgaganbblaaDoorGoodP
namespace Go.Proofs.YtbeelgaganbblaaDoor.Wl
open Go.RowKit Go.Proofs.YtbeelgaganbblaaDoor Go.Proofs.YtbeelgaganbblaaDoorW.PrintWords Go.Proofs.YtbeelgaganbblaaDoor.By Go.Proofs.YtbeelgaganbblaaDoor.Tok Go.Proofs.YtbeelgaganbblaaDoor.Tree Go.Proofs.YtbeelgaganbblaaDoor.Gn Go.Proofs.YtbeelgaganbblaaDoor.Gp Go.Proofs.YtbeelgaganbblaaDoor.PFnExactGoodTree
set_option linter.unusedVariables false
set_option linter.unusedSimpArgs false
set_option maxRecDepth 100000
/-- a node of the law, as the program's -/
def cv (x : S46) : S43 := ⟨x.f0, x.f1, x.f2, x.f3⟩
theorem elemL {l : List S46} {i : Nat} (h : i < l.length) : rd_T46 l (i : Int) = l[i] := by
  unfold rd_T46
  rw [Int.toNat_natCast, List.getD_eq_getElem?_getD, List.getElem?_eq_getElem h]; rfl
theorem elemN {l : List S43} {i : Nat} (h : i < l.length) : rd_T43 l (i : Int) = l[i] := by
  unfold rd_T43
  rw [Int.toNat_natCast, List.getD_eq_getElem?_getD, List.getElem?_eq_getElem h]; rfl
section
variable {l : List S46}
theorem sz_l0 (hl : l.length ≤ 1048576) (hs : ∀ x ∈ l, x.f1.size ≤ 9223372036854775807) : ∀ (d i : Nat) (a : Int), i ≤ l.length → l.length - i = d → 0 ≤ a → a ≤ 1048576 →
    ∃ t, Evt (fun k => laws_szNodeS.l0 k l a (i : Int)) t ∧ (0 ≤ t → ∀ x ∈ l.drop i, x.f1.size ≤ 1048576) := by
  intro d
  induction d with
  | zero =>
    intro i a hi hd h0 h1
    exact ⟨a, Evt.done (fun k => by simp only [laws_szNodeS.l0]; rw [if_neg (by omega)]), fun _ x hx => by rw [List.drop_eq_nil_of_le (by omega)] at hx; cases hx⟩
  | succ d ih =>
    intro i a hi hd h0 h1
    have hlt : i < l.length := by omega
    have hw1 : wrap64 ((i : Int) + 1) = ((i + 1 : Nat) : Int) := wrap_ok (by omega) (by omega)
    have hx := elemL hlt
    have hsx := hs l[i] (List.getElem_mem hlt)
    have hwa : wrap64 (a - (l[i].f1.size : Int)) = a - (l[i].f1.size : Int) := wrap_ok (by omega) (by omega)
    rw [List.drop_eq_getElem_cons hlt]
    by_cases hn : a - (l[i].f1.size : Int) < 0
    · refine ⟨-1, Evt.done (fun k => ?_), fun h => absurd h (by decide)⟩
      simp only [laws_szNodeS.l0]
      rw [if_pos (by omega), if_pos (by omega), hx]
      unfold laws_szNode.f
      rw [hwa, if_pos hn]; rfl
    · obtain ⟨t, ht, hq⟩ := ih (i + 1) (a - (l[i].f1.size : Int)) (by omega) (by omega) (by omega) (by omega)
      refine ⟨t, Evt.succ (fun k => ?_) ht, fun h x hx2 => ?_⟩
      · simp only [laws_szNodeS.l0]
        rw [if_pos (by omega), if_pos (by omega), hx]
        unfold laws_szNode.f
        rw [hwa, if_neg hn, Option.bind_some, if_neg hn, hw1]
      · rcases List.mem_cons.1 hx2 with rfl | hx2
        · omega
        · exact hq h x hx2
theorem sz_is (hl : l.length ≤ 9223372036854775807) (hs : ∀ x ∈ l, x.f1.size ≤ 9223372036854775807) : ∃ t, Evt (fun k => laws_szNodeS.f k l 1048576) t ∧ (0 ≤ t → l.length ≤ 1048576 ∧ ∀ x ∈ l, x.f1.size ≤ 1048576) := by
  have hw : wrap64 (1048576 - (l.length : Int)) = 1048576 - (l.length : Int) := wrap_ok (by omega) (by omega)
  by_cases hn : (1048576 : Int) - (l.length : Int) < 0
  · exact ⟨-1, Evt.pure (fun k => by unfold laws_szNodeS.f; rw [hw, if_pos hn]), fun h => absurd h (by decide)⟩
  · obtain ⟨t, ht, hq⟩ := sz_l0 (by omega) hs _ 0 (1048576 - (l.length : Int)) (by omega) rfl (by omega) (by omega)
    exact ⟨t, Evt.same (fun k => by unfold laws_szNodeS.f; rw [hw, if_neg hn]; rfl) ht, fun h => ⟨by omega, hq h⟩⟩
theorem to_l0 (hl : l.length ≤ 1048576) : ∀ (d i : Nat), i ≤ l.length → l.length - i = d → Evt (fun k => laws_toNodeS.l0 k l ((l.take i).map cv ++ List.replicate (l.length - i) z43) (i : Int)) (l.map cv) := by
  intro d
  induction d with
  | zero =>
    intro i hi hd
    refine Evt.done (fun k => ?_)
    simp only [laws_toNodeS.l0]
    rw [if_neg (by omega), List.take_of_length_le (by omega), hd]; simp
  | succ d ih =>
    intro i hi hd
    have hlt : i < l.length := by omega
    have hw1 : wrap64 ((i : Int) + 1) = ((i + 1 : Nat) : Int) := wrap_ok (by omega) (by omega)
    have hx := elemL hlt
    refine Evt.succ (fun k => ?_) (ih (i + 1) (by omega) (by omega))
    simp only [laws_toNodeS.l0]
    rw [if_pos (by omega), if_pos (by omega), hx]
    unfold laws_toNode.f
    rw [Option.bind_some, if_pos (by simp; omega), hw1, Int.toNat_natCast]
    congr 1
    rw [List.set_append_right _ _ (by simp; omega), show i - ((l.take i).map cv).length = 0 by simp; omega, show l.length - i = (l.length - (i + 1)) + 1 by omega, List.replicate_succ, List.set_cons_zero, List.take_succ_eq_append_getElem hlt, List.map_append, List.append_assoc]
    rfl
theorem to_is (hl : l.length ≤ 1048576) : Evt (fun k => laws_toNodeS.f k l) (l.map cv) := by
  refine Evt.same (fun k => ?_) (to_l0 hl _ 0 (by omega) rfl)
  unfold laws_toNodeS.f
  rw [if_pos (by omega), Int.toNat_natCast, if_pos (by omega)]; rfl
end
theorem eq_is {l : List S43} (hl : l.length ≤ 1048576) : Evt (fun k => laws_eqNodeS.f k l l) true := by
  have go : ∀ (d i : Nat), i ≤ l.length → l.length - i = d → Evt (fun k => laws_eqNodeS.l0 k l l (i : Int)) true := by
    intro d
    induction d with
    | zero => intro i hi hd; exact Evt.done (fun k => by simp only [laws_eqNodeS.l0]; rw [if_neg (by omega)])
    | succ d ih =>
      intro i hi hd
      have hlt : i < l.length := by omega
      have hw1 : wrap64 ((i : Int) + 1) = ((i + 1 : Nat) : Int) := wrap_ok (by omega) (by omega)
      refine Evt.succ (fun k => ?_) (ih (i + 1) (by omega) (by omega))
      simp only [laws_eqNodeS.l0]
      rw [if_pos (by omega), if_pos (by omega), if_pos (by omega)]
      unfold laws_eqNode.f
      rw [if_pos rfl, if_pos rfl, if_pos rfl, if_pos rfl, Option.bind_some, if_pos rfl, hw1]
  exact Evt.same (fun k => by unfold laws_eqNodeS.f; rw [if_pos rfl]; rfl) (go _ 0 (by omega) rfl)
theorem nds_len (l : List S43) : (nds l).length = l.length := by unfold nds; rw [List.length_map]
theorem cv_bounds {l : List S46} (h1 : ∀ x ∈ l, x.f1.size ≤ 1048576) (h2 : ∀ x ∈ l, x.f2 ≤ 9223372036854775807) : ∀ x ∈ l.map cv, x.f1.size ≤ 1048576 ∧ x.f2 ≤ 9223372036854775807 := by
  intro x hx
  obtain ⟨y, hy, rfl⟩ := List.mem_map.1 hx
  exact ⟨h1 y hy, h2 y hy⟩

section
variable {l : List S43}
theorem spec_write (hB : ∀ x ∈ l, x.f1.size ≤ 1048576 ∧ x.f2 ≤ 9223372036854775807) : Evt (fun k => spec_WriteTree.f k l) (⟨(treeText (nds l)).toArray⟩ : ByteArray) := by
  have hf := form_is hB
  rw [form_right] at hf
  unfold treeText
  rw [nds_len]
  cases hv : (decide (l.length ≤ 8000) && implR (nds l) [] 0) with
  | false =>
    rw [hv] at hf
    exact Evt.bind hf (Evt.pure fun k => by rw [if_neg (by decide)]; rfl)
  | true =>
    rw [hv] at hf
    rw [Bool.and_eq_true, decide_eq_true_eq, ← form_right] at hv
    have ht := form_total _ _ _ (by omega) hv.2
    rw [nds_len] at ht
    have hw := write_is hv.1 hB hv.2 (by omega)
    rw [if_pos rfl]
    exact Evt.bind hf (Evt.same (fun k => by rw [if_pos rfl]) (Evt.bind hw (Evt.pure fun k => rfl)))
end
/-- the law -/
theorem law_true (l : List S46) (hl : l.length ≤ 9223372036854775807) (hs : ∀ x ∈ l, x.f1.size ≤ 9223372036854775807) (h2 : ∀ x ∈ l, x.f2 ≤ 9223372036854775807) : ∃ k, laws_FnExactWriteTree.f k l = some true := by
  obtain ⟨t, ht, hq⟩ := sz_is hl hs
  have main : Evt (fun k => laws_FnExactWriteTree.f k l) true := by
    refine Evt.bind ht ?_
    by_cases hn : t < 0
    · exact Evt.pure fun k => by rw [if_pos hn]
    · obtain ⟨hl2, hs2⟩ := hq (by omega)
      have hb := cv_bounds hs2 h2
      have hlc : (l.map cv).length ≤ 1048576 := by rw [List.length_map]; exact hl2
      have hw : impl_WriteTree.f (l.map cv) = some (⟨(treeText (nds (l.map cv))).toArray⟩ : ByteArray) := by unfold impl_WriteTree.f; rw [if_pos ⟨hlc, hb⟩]
      refine Evt.same (fun k => by rw [if_neg hn]) ?_
      refine Evt.bind (to_is hl2) (Evt.bind (spec_write hb) (Evt.bind (to_is hl2) ?_))
      refine Evt.same (fun k => by rw [hw, Option.bind_some, if_pos rfl]) ?_
      refine Evt.bind (to_is hl2) (Evt.bind (eq_is hlc) (Evt.pure fun k => by rw [if_pos rfl]))
  exact main.get
end Go.Proofs.YtbeelgaganbblaaDoor.Wl

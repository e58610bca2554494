/- Plain law: the law on ReadSort, what its parts compute. -/
import Derived.Test.YthfjiaodhladmaaDoorLawWalk
import Derived.Test.YthfjiaodhladmaaDoorSrtC
namespace Go.Proofs.YthfjiaodhladmaaDoor.RS
open Go.RowKit Go.Proofs.YthfjiaodhladmaaDoor Go.Proofs.YthfjiaodhladmaaDoorW.PrintWords Go.Proofs.YthfjiaodhladmaaDoorW.PrintLast Go.Proofs.YthfjiaodhladmaaDoorW.PrintMore Go.Proofs.YthfjiaodhladmaaDoor.By Go.Proofs.YthfjiaodhladmaaDoor.PFnExactReadSort Go.Proofs.YthfjiaodhladmaaDoor.Srt
set_option linter.unusedVariables false
set_option linter.unusedSimpArgs false
theorem rd_at {l : List ByteArray} {i : Nat} (h : i < l.length) : rdOf ByteArray.empty l (i : Int) = l[i] := by
  unfold rdOf; rw [Int.toNat_natCast, List.getD_eq_getElem?_getD, List.getElem?_eq_getElem h]; rfl
theorem mem_drop {α : Type} {l : List α} {i : Nat} (h : i < l.length) {x : α} : x ∈ l.drop i ↔ x = l[i] ∨ x ∈ l.drop (i + 1) := by
  rw [List.drop_eq_getElem_cons h, List.mem_cons]

theorem szS_l0 (l : List ByteArray) (hl : l.length ≤ 9223372036854775807) (hs : ∀ s ∈ l, s.size ≤ 9223372036854775807) : ∀ (d i : Nat) (a : Int), i ≤ l.length → l.length - i = d → 0 ≤ a → a ≤ 1048576 →
    ∃ t, Evt (fun k => laws_szStringS.l0 k l a (i : Int)) t ∧ (t < 0 ∨ (0 ≤ t ∧ t ≤ a ∧ ∀ s ∈ l.drop i, (s.size : Int) ≤ a)) := by
  intro d
  induction d with
  | zero =>
    intro i a hi hd h0 h1
    refine ⟨a, Evt.succ (g := fun _ => some a) (fun k => ?_) (Evt.pure fun _ => rfl), .inr ⟨h0, Int.le_refl _, ?_⟩⟩
    · simp only [laws_szStringS.l0]; rw [if_neg (by omega)]
    · rw [List.drop_eq_nil_of_le (by omega)]; simp
  | succ d ih =>
    intro i a hi hd h0 h1
    have hlt : i < l.length := by omega
    have hz := hs _ (List.getElem_mem hlt)
    have hw : wrap64 (a - ((l[i].size : Nat) : Int)) = a - (l[i].size : Nat) := wrap_ok (by omega) (by omega)
    have hw1 : wrap64 ((i : Int) + 1) = ((i + 1 : Nat) : Int) := wrap_ok (by omega) (by omega)
    by_cases hneg : a - (l[i].size : Int) < 0
    · refine ⟨-1, Evt.succ (g := fun _ => some (-1)) (fun k => ?_) (Evt.pure fun _ => rfl), .inl (by omega)⟩
      simp only [laws_szStringS.l0]; rw [if_pos (by omega), if_pos (by omega), rd_at hlt, hw, if_pos hneg]
    · obtain ⟨t, ht, hc⟩ := ih (i + 1) (a - (l[i].size : Nat)) (by omega) (by omega) (by omega) (by omega)
      refine ⟨t, Evt.succ (fun k => ?_) ht, ?_⟩
      · simp only [laws_szStringS.l0]; rw [if_pos (by omega), if_pos (by omega), rd_at hlt, hw, if_neg hneg, hw1]
      · rcases hc with hc | ⟨c0, c1, c2⟩
        · exact .inl hc
        · refine .inr ⟨c0, by omega, fun s hm => ?_⟩
          rcases (mem_drop hlt).1 hm with rfl | hm
          · omega
          · have := c2 s hm; omega
theorem szS (l : List ByteArray) (hl : l.length ≤ 9223372036854775807) (hs : ∀ s ∈ l, s.size ≤ 9223372036854775807) (a : Int) (h0 : 0 ≤ a) (h1 : a ≤ 1048576) :
    ∃ t, Evt (fun k => laws_szStringS.f k l a) t ∧ (t < 0 ∨ (0 ≤ t ∧ t ≤ a ∧ (l.length : Int) ≤ a ∧ ∀ s ∈ l, (s.size : Int) ≤ a)) := by
  have hw : wrap64 (a - (l.length : Int)) = a - l.length := wrap_ok (by omega) (by omega)
  by_cases hneg : a - (l.length : Int) < 0
  · exact ⟨-1, Evt.pure fun k => by unfold laws_szStringS.f; rw [hw, if_pos hneg], .inl (by omega)⟩
  · obtain ⟨t, ht, hc⟩ := szS_l0 l hl hs _ 0 (a - l.length) (by omega) rfl (by omega) (by omega)
    refine ⟨t, Evt.same (fun k => ?_) ht, ?_⟩
    · unfold laws_szStringS.f; rw [hw, if_neg hneg]; rfl
    · rcases hc with hc | ⟨c0, c1, c2⟩
      · exact .inl hc
      · refine .inr ⟨c0, by omega, by omega, fun s hm => ?_⟩
        have := c2 s (by simpa using hm); omega
theorem toS_l0 (l : List ByteArray) (hl : l.length ≤ 1048576) : ∀ (d i : Nat) (y : List ByteArray), i ≤ l.length → l.length - i = d → y.length = l.length → (∀ j, j < i → y[j]? = l[j]?) →
    Evt (fun k => laws_toStringS.l0 k l y (i : Int)) l := by
  intro d
  induction d with
  | zero =>
    intro i y hi hd hy hj
    have : y = l := List.ext_getElem? fun j => by
      by_cases h : j < i
      · exact hj j h
      · rw [List.getElem?_eq_none (by omega), List.getElem?_eq_none (by omega)]
    subst this
    exact Evt.succ (g := fun _ => some y) (fun k => by simp only [laws_toStringS.l0]; rw [if_neg (by omega)]) (Evt.pure fun _ => rfl)
  | succ d ih =>
    intro i y hi hd hy hj
    have hlt : i < l.length := by omega
    have hw1 : wrap64 ((i : Int) + 1) = ((i + 1 : Nat) : Int) := wrap_ok (by omega) (by omega)
    refine Evt.succ (fun k => ?_) (ih (i + 1) (y.set i l[i]) (by omega) (by omega) (by simp; exact hy) ?_)
    · simp only [laws_toStringS.l0]; rw [if_pos (by omega), if_pos (by omega), if_pos (by omega), rd_at hlt, hw1, Int.toNat_natCast]
    · intro j hji
      by_cases h : j = i
      · subst h
        rw [List.getElem?_set_self (by omega), List.getElem?_eq_getElem hlt]
      · rw [List.getElem?_set_ne (by omega)]; exact hj j (by omega)
theorem toS (l : List ByteArray) (hl : l.length ≤ 1048576) : Evt (fun k => laws_toStringS.f k l) l := by
  refine Evt.same (fun k => ?_) (toS_l0 l hl _ 0 (List.replicate l.length ⟨#[]⟩) (by omega) rfl (by simp) (fun j h => by omega))
  unfold laws_toStringS.f; rw [if_pos (by omega), if_pos (by omega)]; rfl
theorem eqS_l0 (l : List ByteArray) (hl : l.length ≤ 1048576) : ∀ (d i : Nat), i ≤ l.length → l.length - i = d → Evt (fun k => laws_eqStringS.l0 k l l (i : Int)) true := by
  intro d
  induction d with
  | zero => intro i hi hd; exact Evt.succ (g := fun _ => some true) (fun k => by simp only [laws_eqStringS.l0]; rw [if_neg (by omega)]) (Evt.pure fun _ => rfl)
  | succ d ih =>
    intro i hi hd
    have hw1 : wrap64 ((i : Int) + 1) = ((i + 1 : Nat) : Int) := wrap_ok (by omega) (by omega)
    exact Evt.succ (fun k => by simp only [laws_eqStringS.l0]; rw [if_pos (by omega), if_pos (by omega), if_pos (by omega), if_pos trivial, hw1]) (ih (i + 1) (by omega) (by omega))
theorem eqS (l : List ByteArray) (hl : l.length ≤ 1048576) : Evt (fun k => laws_eqStringS.f k l l) true :=
  Evt.same (fun k => by unfold laws_eqStringS.f; rw [if_pos rfl]; rfl) (eqS_l0 l hl _ 0 (by omega) rfl)
theorem law_true (l : List ByteArray) (s : ByteArray) (hl : l.length ≤ 9223372036854775807) (hs : ∀ x ∈ l, x.size ≤ 9223372036854775807) : ∃ k, laws_FnExactReadSort.f k l s = some true := by
  by_cases hz : (s.size : Int) > 1048576
  · exact ⟨0, by unfold laws_FnExactReadSort.f; rw [if_pos hz]⟩
  refine Evt.get (Evt.same (fun k => by unfold laws_FnExactReadSort.f; rw [if_neg hz]) ?_)
  obtain ⟨t, ht, hc⟩ := szS l hl hs 1048576 (by omega) (by omega)
  refine Evt.bind ht ?_
  by_cases hn : t < 0
  · exact Evt.pure fun k => if_pos hn
  have hll : l.length ≤ 1048576 := by rcases hc with hc | ⟨_, _, h, _⟩ <;> omega
  refine Evt.same (fun k => if_neg hn) ?_
  have h1 := toS l hll
  obtain ⟨r, hr, hr2⟩ := s_readSort l hll s (by omega)
  refine Evt.bind h1 (Evt.bind hr (Evt.bind h1 ?_))
  have hi : impl_ReadSort.f l s = some ((rdSort (has l) (L s)).1, (rdSort (has l) (L s)).2.1, (⟨(rdSort (has l) (L s)).2.2.1.toArray⟩ : ByteArray), (⟨(rdSort (has l) (L s)).2.2.2.toArray⟩ : ByteArray)) := by
    unfold impl_ReadSort.f
    exact if_pos ⟨hll, by omega⟩
  refine Evt.bind (f := fun _ => impl_ReadSort.f l s) (Evt.pure fun _ => hi) ?_
  have he : laws_eqSortInfo.f (rdSort (has l) (L s)).1 (rdSort (has l) (L s)).2.1 (⟨(rdSort (has l) (L s)).2.2.1.toArray⟩ : ByteArray) (⟨(rdSort (has l) (L s)).2.2.2.toArray⟩ : ByteArray) r.1 r.2.1 r.2.2.1 r.2.2.2 = some true := by
    rw [← hr2]
    unfold laws_eqSortInfo.f LS
    simp only
    rw [if_pos trivial, if_pos trivial, if_pos (by rw [toList_L, toList_L, L_mk]), if_pos (by rw [toList_L, toList_L, L_mk])]
  refine Evt.bind (f := fun _ => laws_eqSortInfo.f (rdSort (has l) (L s)).1 (rdSort (has l) (L s)).2.1 (⟨(rdSort (has l) (L s)).2.2.1.toArray⟩ : ByteArray) (⟨(rdSort (has l) (L s)).2.2.2.toArray⟩ : ByteArray) r.1 r.2.1 r.2.2.1 r.2.2.2) (Evt.pure fun _ => he) ?_
  have hfin : Evt (fun k => (laws_toStringS.f k l).bind fun t200 => (laws_eqStringS.f k l t200).bind fun t203 => if t203 = true then some true else some false) true := Evt.bind h1 (Evt.bind (eqS l hll) (Evt.pure fun k => if_pos rfl))
  exact Evt.same (fun k => if_pos rfl) hfin
end Go.Proofs.YthfjiaodhladmaaDoor.RS

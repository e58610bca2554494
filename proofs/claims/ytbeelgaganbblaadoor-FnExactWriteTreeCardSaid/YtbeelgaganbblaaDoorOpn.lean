/- What a reading of an argument (DataW.trod) tells, in the words of the printed walks (Kd): rows of strings, of structs, rows of rows. -/
import Derived.Test.YtbeelgaganbblaaDoorWWords
import Derived.ChangeArms
import Derived.DataElems
import Derived.DataReads
namespace Go.Proofs.YtbeelgaganbblaaDoor.Opn
open Go.RowKit Go.Proofs.YtbeelgaganbblaaDoorW.PrintWords
set_option linter.unusedVariables false
set_option linter.unusedSimpArgs false
/-- whatever reads at type t is of kind d, and G of it -/
def Opens {H α : Type} (enc : TypeId × Value → H) (P : Program) (w : World) (base : Nat) (spare : Nat → Bool) (held : Bool) (d : Kd α) (G : α → Prop) (t : TypeId) : Prop :=
  ∀ fuel cs x, DataW.trod enc P w base spare held fuel t cs = some x → ∃ a, d.K w a cs ∧ G a
section
variable {H α : Type} {enc : TypeId × Value → H} {P : Program} {w : World} {base : Nat} {spare : Nat → Bool} {held : Bool}
theorem opens_string {t : TypeId} (ht : P.underlying t = some .string) : Opens enc P w base spare held Kd.string (fun s => s.size ≤ maxLen) t := by
  intro fuel cs x h
  cases fuel with
  | zero => simp [DataW.trod] at h
  | succ n =>
    unfold DataW.trod at h
    rw [ht] at h
    split at h <;> simp_all
    exact ⟨_, rfl, h.1⟩
theorem opens_bool {t : TypeId} (ht : P.underlying t = some .bool) : Opens enc P w base spare held Kd.bool (fun _ => True) t := by
  intro fuel cs x h
  cases fuel with
  | zero => simp [DataW.trod] at h
  | succ n =>
    unfold DataW.trod at h
    rw [ht] at h
    split at h <;> simp_all
    show ([_] : List Value) = [_] ∨ ([_] : List Value) = [_]
    simp
theorem opens_int {t : TypeId} {k : IntKind} (ht : P.underlying t = some (.int k)) : Opens enc P w base spare held (Kd.int k) (fun n => (Lit.int k n).wf = true) t := by
  intro fuel cs x h
  cases fuel with
  | zero => simp [DataW.trod] at h
  | succ n =>
    unfold DataW.trod at h
    rw [ht] at h
    split at h <;> simp_all
    obtain ⟨⟨rfl, h1⟩, h2⟩ := h
    exact ⟨_, rfl, h1⟩
theorem opens_slice {d : Kd α} {G : α → Prop} {t e : TypeId} (e' : Nat) (ht : P.underlying t = some (.slice e)) (hc : P.cellsOf e = d.sz) (h : Opens enc P w base spare held d G e) :
    Opens enc P w base spare held (Kd.slice e' d) (fun l => l.length ≤ maxLen ∧ ∀ a ∈ l, G a) t := by
  intro fuel cs x hx
  rcases DataW.trod_slice ht hx with ⟨rfl, _⟩ | ⟨a, len, cap, elems, rest, n, _, rfl, _, hb, hl, hm, hlen, hel, _, _⟩
  · exact ⟨[], ⟨none, 0, rfl, Nat.le_refl _, ⟨rfl, by simp, fun h => absurd h (by simp)⟩⟩, by simp [maxLen], by simp⟩
  · have each : ∀ i, i < len → ∃ y c, w.cells? base (a.add (i * d.sz)) d.sz = some c ∧ d.K w y c ∧ G y := by
      intro i hi
      have h1 := hel i hi
      rw [List.getElem?_eq_getElem (by omega), hc] at h1
      obtain ⟨c, hc1, hc2⟩ := Option.bind_eq_some_iff.1 h1
      obtain ⟨y, hy, hg⟩ := h _ _ _ hc2
      exact ⟨y, c, hc1, hy, hg⟩
    obtain ⟨l, hl1, hl2⟩ : ∃ l : List α, l.length = len ∧ ∀ i y, l[i]? = some y → ∃ c, w.cells? base (a.add (i * d.sz)) d.sz = some c ∧ d.K w y c ∧ G y := by
      have all : ∀ m, m ≤ len → ∃ l : List α, l.length = m ∧ ∀ i y, l[i]? = some y → ∃ c, w.cells? base (a.add (i * d.sz)) d.sz = some c ∧ d.K w y c ∧ G y := by
        intro m
        induction m with
        | zero => intro _; exact ⟨[], rfl, by simp⟩
        | succ m ih =>
          intro hm1
          obtain ⟨l, h1, h2⟩ := ih (by omega)
          obtain ⟨y, c, hy⟩ := each m (by omega)
          refine ⟨l ++ [y], by simp [h1], fun i z hz => ?_⟩
          by_cases hi : i < m
          · rw [List.getElem?_append_left (by omega)] at hz; exact h2 i z hz
          · have hi2 : i = m := by
              have := (List.getElem?_eq_some_iff.1 hz).1
              simp at this; omega
            subst hi2
            rw [List.getElem?_append_right (by omega), h1, Nat.sub_self] at hz
            simp at hz
            subst hz
            exact ⟨c, hy⟩
      exact all len (Nat.le_refl _)
    subst hl1
    refine ⟨l, ⟨some a, cap, rfl, hl, rfl, by unfold maxLen at hm; omega, fun _ => ⟨a, rfl, fun j p hp => ?_⟩⟩, by omega, fun y hy => ?_⟩
    · obtain ⟨c, hc1, hc2, _⟩ := hl2 j p hp
      obtain ⟨_, hs, hcell⟩ := World.cells?_some hc1
      refine ⟨c, hs, hc2, fun i u hu => ?_⟩
      have hi := (List.getElem?_eq_some_iff.1 hu).1
      rw [← Addr.add_add, hcell i (by omega)]; exact hu
    · obtain ⟨i, hi⟩ := List.mem_iff_getElem?.1 hy
      obtain ⟨_, _, _, hg⟩ := hl2 i y hi
      exact hg
theorem opens_struct3 {A B C : Type} {d0 : Kd A} {d1 : Kd B} {d2 : Kd C} {G0 : A → Prop} {G1 : B → Prop} {G2 : C → Prop} {t : TypeId} {f0 f1 f2 : Field} {f : α → A × B × C} (mk : A → B → C → α) (hf : ∀ a b c, f (mk a b c) = (a, b, c))
    (ht : P.underlying t = some (.struct #[f0, f1, f2])) (ho0 : f0.offset = 0) (ho1 : f1.offset = d0.sz) (ho2 : f2.offset = d0.sz + d1.sz) (hs : P.cellsOf t = d0.sz + (d1.sz + d2.sz)) (hs0 : P.cellsOf f0.type = d0.sz) (hs1 : P.cellsOf f1.type = d1.sz) (hs2 : P.cellsOf f2.type = d2.sz)
    (h0 : Opens enc P w base spare held d0 G0 f0.type) (h1 : Opens enc P w base spare held d1 G1 f1.type) (h2 : Opens enc P w base spare held d2 G2 f2.type) :
    Opens enc P w base spare held (Kd.iso (Kd.pair d0 (Kd.pair d1 d2)) f) (fun x => ∃ a b c, x = mk a b c ∧ G0 a ∧ G1 b ∧ G2 c) t := by
  intro fuel cs x hx
  obtain ⟨xs, n, _, _, hl, hlen, hfd⟩ := DataW.trod_struct ht hx
  have hlen3 : xs.length = 3 := hlen
  have e0 := hfd 0 f0 rfl
  have e1 := hfd 1 f1 rfl
  have e2 := hfd 2 f2 rfl
  rw [List.getElem?_eq_getElem (by omega), ho0, hs0] at e0
  rw [List.getElem?_eq_getElem (by omega), ho1, hs1] at e1
  rw [List.getElem?_eq_getElem (by omega), ho2, hs2] at e2
  obtain ⟨a, ka, ga⟩ := h0 _ _ _ e0
  obtain ⟨b, kb, gb⟩ := h1 _ _ _ e1
  obtain ⟨c, kc, gc⟩ := h2 _ _ _ e2
  refine ⟨mk a b c, ?_, a, b, c, rfl, ga, gb, gc⟩
  show ∃ c0 c1, cs = c0 ++ c1 ∧ d0.K w (f (mk a b c)).1 c0 ∧ ∃ c2 c3, c1 = c2 ++ c3 ∧ d1.K w (f (mk a b c)).2.1 c2 ∧ d2.K w (f (mk a b c)).2.2 c3
  rw [hf]
  refine ⟨_, _, ?_, ka, _, _, rfl, kb, kc⟩
  rw [hs] at hl
  rw [List.drop_zero, ← List.drop_drop, List.take_of_length_le (l := ((cs.drop d0.sz).drop d1.sz)) (by simp; omega), List.take_append_drop, List.take_append_drop]
end
end Go.Proofs.YtbeelgaganbblaaDoor.Opn

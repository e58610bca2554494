/- What a reading of an argument tells of rows of structs of four fields, in the words of the printed walks. -/
import Derived.Test.YtbeelgaganbblaaDoorOpn
namespace Go.Proofs.YtbeelgaganbblaaDoor.Opn
open Go.RowKit Go.Proofs.YtbeelgaganbblaaDoorW.PrintWords
set_option linter.unusedVariables false
set_option linter.unusedSimpArgs false
section
variable {H α : Type} {enc : TypeId × Value → H} {P : Program} {w : World} {base : Nat} {spare : Nat → Bool} {held : Bool}
theorem opens_struct4 {A B C D : Type} {d0 : Kd A} {d1 : Kd B} {d2 : Kd C} {d3 : Kd D} {G0 : A → Prop} {G1 : B → Prop} {G2 : C → Prop} {G3 : D → Prop} {t : TypeId} {f0 f1 f2 f3 : Field} {f : α → A × B × C × D} (mk : A → B → C → D → α) (hf : ∀ a b c d, f (mk a b c d) = (a, b, c, d))
    (ht : P.underlying t = some (.struct #[f0, f1, f2, f3])) (ho0 : f0.offset = 0) (ho1 : f1.offset = d0.sz) (ho2 : f2.offset = d0.sz + d1.sz) (ho3 : f3.offset = d0.sz + d1.sz + d2.sz) (hs : P.cellsOf t = d0.sz + (d1.sz + (d2.sz + d3.sz)))
    (hs0 : P.cellsOf f0.type = d0.sz) (hs1 : P.cellsOf f1.type = d1.sz) (hs2 : P.cellsOf f2.type = d2.sz) (hs3 : P.cellsOf f3.type = d3.sz)
    (h0 : Opens enc P w base spare held d0 G0 f0.type) (h1 : Opens enc P w base spare held d1 G1 f1.type) (h2 : Opens enc P w base spare held d2 G2 f2.type) (h3 : Opens enc P w base spare held d3 G3 f3.type) :
    Opens enc P w base spare held (Kd.iso (Kd.pair d0 (Kd.pair d1 (Kd.pair d2 d3))) f) (fun x => ∃ a b c d, x = mk a b c d ∧ G0 a ∧ G1 b ∧ G2 c ∧ G3 d) t := by
  intro fuel cs x hx
  obtain ⟨xs, n, _, _, hl, hlen, hfd⟩ := DataW.trod_struct ht hx
  have hlen3 : xs.length = 4 := hlen
  have e0 := hfd 0 f0 rfl
  have e1 := hfd 1 f1 rfl
  have e2 := hfd 2 f2 rfl
  have e3 := hfd 3 f3 rfl
  rw [List.getElem?_eq_getElem (by omega), ho0, hs0] at e0
  rw [List.getElem?_eq_getElem (by omega), ho1, hs1] at e1
  rw [List.getElem?_eq_getElem (by omega), ho2, hs2] at e2
  rw [List.getElem?_eq_getElem (by omega), ho3, hs3] at e3
  obtain ⟨a, ka, ga⟩ := h0 _ _ _ e0
  obtain ⟨b, kb, gb⟩ := h1 _ _ _ e1
  obtain ⟨c, kc, gc⟩ := h2 _ _ _ e2
  obtain ⟨d, kd, gd⟩ := h3 _ _ _ e3
  refine ⟨mk a b c d, ?_, a, b, c, d, rfl, ga, gb, gc, gd⟩
  show ∃ c0 c1, cs = c0 ++ c1 ∧ d0.K w (f (mk a b c d)).1 c0 ∧ ∃ c2 c3, c1 = c2 ++ c3 ∧ d1.K w (f (mk a b c d)).2.1 c2 ∧ ∃ c4 c5, c3 = c4 ++ c5 ∧ d2.K w (f (mk a b c d)).2.2.1 c4 ∧ d3.K w (f (mk a b c d)).2.2.2 c5
  rw [hf]
  refine ⟨_, _, ?_, ka, _, _, rfl, kb, _, _, rfl, kc, kd⟩
  rw [hs] at hl
  have q2 : cs.drop (d0.sz + d1.sz) = (cs.drop d0.sz).drop d1.sz := by rw [List.drop_drop]
  have q3 : cs.drop (d0.sz + d1.sz + d2.sz) = ((cs.drop d0.sz).drop d1.sz).drop d2.sz := by rw [List.drop_drop, List.drop_drop, Nat.add_assoc]
  rw [List.drop_zero, q3, q2, List.take_of_length_le (l := (((cs.drop d0.sz).drop d1.sz).drop d2.sz)) (by simp; omega), List.take_append_drop, List.take_append_drop, List.take_append_drop]
end
end Go.Proofs.YtbeelgaganbblaaDoor.Opn

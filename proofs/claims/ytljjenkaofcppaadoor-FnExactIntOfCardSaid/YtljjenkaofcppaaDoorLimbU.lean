/- spec.l1OfU, by a walk: a word's limbs. -/
import Derived.Test.YtljjenkaofcppaaDoorLimbM
namespace Go.Proofs.YtljjenkaofcppaaDoor.Limb
open Go.RowKit Go.Proofs.YtljjenkaofcppaaDoorW.PrintWords Go.Proofs.YtljjenkaofcppaaDoorW.PrintLast Go.Proofs.YtljjenkaofcppaaDoor Go.Proofs.YtljjenkaofcppaaDoor.By Go.Proofs.YtljjenkaofcppaaDoor.Dig
set_option linter.unusedVariables false
set_option linter.unusedSimpArgs false
set_option maxRecDepth 100000
def limbsU (n : Nat) : List Nat := [n % 1000000000, n / 1000000000 % 1000000000, n / 1000000000 / 1000000000]
theorem kept_cases (ng : Bool) (g o c : Nat) (t : List Nat) : ∃ (v : Int) (b : Bool) (s : Option Addr) (l k : Nat), kept ng g o c t = .agg #[.int .i64 v, .bool b, .slice s l k] := by
  unfold kept; split
  · exact ⟨_, _, some ⟨g, o, none⟩, t.length, c, rfl⟩
  · exact ⟨_, _, none, 0, 0, rfl⟩
theorem qbelow {w wr : World} {o : Obj} {a b c : Value} (h : Below (w.heap.size + 1) (w.alloc o) wr) :
    Below w.heap.size w (((wr.setCell ⟨w.heap.size, 0, none⟩ a).setCell ⟨w.heap.size, 1, none⟩ b).setCell ⟨w.heap.size, 2, none⟩ c) :=
  ((((((Below.refl _ _).alloc (Nat.le_refl _) o).trans (h.mono (by omega))).setCell (Nat.le_refl _) _).setCell (Nat.le_refl _) _).setCell (Nat.le_refl _) _)
theorem limbsU_lt (n : Nat) (hn : n < 18446744073709551616) : ∀ x ∈ limbsU n, x < 1000000000 := by
  intro x hx
  unfold limbsU at hx
  simp only [List.mem_cons, List.not_mem_nil, or_false] at hx
  omega
theorem limbsU_row (W : World) (t : TypeId) (n : Nat) {B : Nat} (hB : W.heap.size = B) : ∀ (j x : Nat), (limbsU n)[j]? = some x → (W.alloc (.cells #[.int .u32 ((n : Int) % 1000000000), .int .u32 ((n : Int) / 1000000000 % 1000000000), .int .u32 ((n : Int) / 1000000000 / 1000000000)] t)).cell? ⟨B, 0 + j, none⟩ = some (.int .u32 (x : Int)) := by
  subst hB
  intro j x hj
  rcases j with _ | _ | _ | j
  · cases hj; exact World.cell?_alloc_at _ _ _ _ rfl
  · cases hj; exact World.cell?_alloc_at _ _ _ _ rfl
  · cases hj; exact World.cell?_alloc_at _ _ _ _ rfl
  · simp [limbsU] at hj
set_option maxHeartbeats 1000000 in
theorem spec_ofU (n : Nat) (hn : n < 18446744073709551616) (w : World) :
    Calls Tryd.prog 7 #[.int .u64 n] w fun e w' => ∃ g, e = .returned (kept false g 0 3 (top (limbsU n))) ∧ w.heap.size ≤ g ∧ g < w'.heap.size ∧ (∀ (j x : Nat), (limbsU n)[j]? = some x → w'.cell? ⟨g, 0 + j, none⟩ = some (.int .u32 (x : Int))) ∧ Below w.heap.size w w' := by
  have h0 : (n : Int) < 18446744073709551616 := by omega
  go_enter Tryd.func7, Tryd.ntmps7
  go_wp2_with (fail)
  refine (spec_make false (w.heap.size + 1) 0 3 (limbsU n) _ (by simp) (by simp [limbsU]) (by simp [limbsU]) (limbsU_lt n hn) (limbsU_row _ _ n (by simp))).mono ?_
  rintro e w1 ⟨rfl, hb⟩
  obtain ⟨v, b, sl, l, k, hk⟩ := kept_cases false (w.heap.size + 1) 0 3 (top (limbsU n))
  have HK : Hid (kept false (w.heap.size + 1) 0 3 (top (limbsU n)) = .agg #[.int .i64 v, .bool b, .slice sl l k]) := hk
  rw [hk]
  clear hk
  have HR : Hid (∀ (j x : Nat), (limbsU n)[j]? = some x → w1.cell? ⟨w.heap.size + 1, 0 + j, none⟩ = some (.int .u32 (x : Int))) := by
    intro j x hj
    rw [hb.cell (p := ⟨w.heap.size + 1, 0 + j, none⟩) (by simp)]
    exact limbsU_row _ _ n (by simp) j x hj
  have hz : w.heap.size + 1 < w1.heap.size := by have := hb.size; simp at this; omega
  have hb1 : Below (w.heap.size + 1) (w.alloc (Obj.cells #[Value.int IntKind.i64 0, Value.bool false, Value.slice none 0 0] 28)) w1 := ((Below.refl _ _).alloc (by simp) _).trans (hb.mono (by simp))
  have q0 : w1.cell? ⟨w.heap.size, 0, none⟩ = some (.int .i64 0) := by rw [hb1.cell (p := ⟨w.heap.size, 0, none⟩) (by simp)]; exact World.cell?_alloc_at _ _ _ _ rfl
  have q3 : w1.frozen? ⟨w.heap.size, 0, none⟩ = false := by rw [hb1.frozen (p := ⟨w.heap.size, 0, none⟩) (by simp)]; exact World.frozen?_alloc_at _ _ _ _ rfl
  have q1 : w1.cell? ⟨w.heap.size, 1, none⟩ = some (.bool false) := by rw [hb1.cell (p := ⟨w.heap.size, 1, none⟩) (by simp)]; exact World.cell?_alloc_at _ _ _ _ rfl
  have q4 : w1.frozen? ⟨w.heap.size, 1, none⟩ = false := by rw [hb1.frozen (p := ⟨w.heap.size, 1, none⟩) (by simp)]; exact World.frozen?_alloc_at _ _ _ _ rfl
  have q2 : w1.cell? ⟨w.heap.size, 2, none⟩ = some (.slice none 0 0) := by rw [hb1.cell (p := ⟨w.heap.size, 2, none⟩) (by simp)]; exact World.cell?_alloc_at _ _ _ _ rfl
  have q5 : w1.frozen? ⟨w.heap.size, 2, none⟩ = false := by rw [hb1.frozen (p := ⟨w.heap.size, 2, none⟩) (by simp)]; exact World.frozen?_alloc_at _ _ _ _ rfl
  have HB : Hid (Below (w.heap.size + 1) (w.alloc (Obj.cells #[Value.int IntKind.i64 0, Value.bool false, Value.slice none 0 0] 28)) w1) := hb1
  clear hb hb1
  go_wp2_with (fail)
  exact bodyPost_ret (v := .agg #[.int .i64 v, .bool b, .slice sl l k]) (by simp [results, Tryd.results7, go_sem, q0, q1, q2, q3, q4, q5]) rfl ⟨w.heap.size + 1, by rw [HK.out], by omega, by simp; omega, fun j x hj => by
    rw [← HR.out j x hj]; simp [go_sem], qbelow HB.out⟩
end Go.Proofs.YtljjenkaofcppaaDoor.Limb

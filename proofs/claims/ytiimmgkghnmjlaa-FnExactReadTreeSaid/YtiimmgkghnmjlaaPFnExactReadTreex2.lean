-- Printed by wip/print2/make.py (the kit's print, told of contracts that are proved by hand). Lean checks it.
import Derived.Test.YtiimmgkghnmjlaaPFnExactReadTreex0
import Derived.Test.YtiimmgkghnmjlaaPFnExactReadTreex1
namespace Go.Proofs.Ytiimmgkghnmjlaa.PFnExactReadTree
open Go.RowKit Go.Proofs.YtiimmgkghnmjlaaW.PrintWords Go.Proofs.YtiimmgkghnmjlaaW.PrintLast Go.Proofs.YtiimmgkghnmjlaaW.PrintMore
attribute [local go_sem] max2_int min2_int max_two min_two max_three min_three max_four min_four   -- for this text's walks alone
set_option linter.unusedVariables false
set_option linter.unusedSimpArgs false

/-! ### spec_ReadTree: function 4 -/
mutual
def spec_ReadTree.l0 : Nat → ByteArray → List (S35) → List Int → Int → Option (Int × Int × (List (S35)))
  | 0, _, _, _, _ => none
  | k + 1, x0, x3, x4, x5 => if x5 < (x0.size : Int) then (if 0 ≤ x5 then ((spec_l3Blank.f (bt x0 x5)).bind fun t116 => (if t116 = true then (spec_ReadTree.l0 k x0 x3 x4 (wrap64 (x5 + 1))) else (if (bt x0 x5) = 59 then (spec_ReadTree.l1 k x0 x3 x4 x5) else (if (bt x0 x5) = 41 then (if (x4.length : Int) = 0 then (some (4, x5, ([] : List (S35)))) else (if 0 ≤ (wrap64 ((x4.length : Int) - 1)) then (if (wrap64 ((x4.length : Int) - 1)) ≤ (x4.length : Int) then (spec_ReadTree.l0 k x0 x3 (x4.take ((wrap64 ((x4.length : Int) - 1)) : Int).toNat) (wrap64 (x5 + 1))) else (none)) else (none))) else (if (bt x0 x5) = 40 then (spec_ReadTree.j2 k x0 x3 x4 x5 (bt x0 x5) 1 (⟨#[]⟩ : ByteArray) (wrap64 (x5 + 1))) else ((spec_l3Token.f x0 x5).bind fun bt121 => (if bt121.1 = 0 then (some (2, x5, ([] : List (S35)))) else (spec_ReadTree.j2 k x0 x3 x4 x5 (bt x0 x5) bt121.1 bt121.2.1 bt121.2.2)))))))) else (none)) else (if (x4.length : Int) > 0 then (if 0 ≤ (wrap64 ((x4.length : Int) - 1)) then (if (wrap64 ((x4.length : Int) - 1)) < (x4.length : Int) then (if 0 ≤ (rd x4 (wrap64 ((x4.length : Int) - 1))) then (if (rd x4 (wrap64 ((x4.length : Int) - 1))) < (x3.length : Int) then (some (3, (rd_T35 x3 (rd x4 (wrap64 ((x4.length : Int) - 1)))).f3, ([] : List (S35)))) else (none)) else (none)) else (none)) else (none)) else (some (0, 0, x3)))
def spec_ReadTree.l1 : Nat → ByteArray → List (S35) → List Int → Int → Option (Int × Int × (List (S35)))
  | 0, _, _, _, _ => none
  | k + 1, x0, x3, x4, x5 => if x5 < (x0.size : Int) then (if 0 ≤ x5 then (if (bt x0 x5) = 10 then (spec_ReadTree.l0 k x0 x3 x4 x5) else (spec_ReadTree.l1 k x0 x3 x4 (wrap64 (x5 + 1)))) else (none)) else (spec_ReadTree.l0 k x0 x3 x4 x5)
def spec_ReadTree.j2 : Nat → ByteArray → List (S35) → List Int → Int → Int → Int → ByteArray → Int → Option (Int × Int × (List (S35)))
  | 0, _, _, _, _, _, _, _, _ => none
  | k + 1, x0, x3, x4, x5, x6, x121000, x121001, x121002 => if (x3.length : Int) = 8000 then (some (5, x5, ([] : List (S35)))) else (if x6 = 40 then (spec_ReadTree.j3 k x0 x3 x4 x5 x6 ((x4.length : Int) == 200) x121000 x121001 x121002) else (spec_ReadTree.j3 k x0 x3 x4 x5 x6 false x121000 x121001 x121002))
def spec_ReadTree.j3 : Nat → ByteArray → List (S35) → List Int → Int → Int → Bool → Int → ByteArray → Int → Option (Int × Int × (List (S35)))
  | 0, _, _, _, _, _, _, _, _, _ => none
  | k + 1, x0, x3, x4, x5, x6, x75, x121000, x121001, x121002 => if x75 = true then (some (6, x5, ([] : List (S35)))) else (if (x4.length : Int) > 0 then (if 0 ≤ (wrap64 ((x4.length : Int) - 1)) then (if (wrap64 ((x4.length : Int) - 1)) < (x4.length : Int) then (if 0 ≤ (rd x4 (wrap64 ((x4.length : Int) - 1))) then (if (rd x4 (wrap64 ((x4.length : Int) - 1))) < (x3.length : Int) then ((some (x3.set ((rd x4 (wrap64 ((x4.length : Int) - 1))) : Int).toNat (⟨(rd_T35 x3 (rd x4 (wrap64 ((x4.length : Int) - 1)))).f0, (rd_T35 x3 (rd x4 (wrap64 ((x4.length : Int) - 1)))).f1, wrap64 (((rd_T35 x3 (rd x4 (wrap64 ((x4.length : Int) - 1)))).f2) + 1), (rd_T35 x3 (rd x4 (wrap64 ((x4.length : Int) - 1)))).f3⟩ : S35) : List (S35))).bind fun y126 => (if y126.length < 3518437208883 then ((some (y126 ++ [(⟨x121000, x121001, 0, x5⟩ : S35)] : List (S35))).bind fun y127 => (if x6 = 40 then (if x4.length < 17592186044416 then (spec_ReadTree.l0 k x0 y127 (x4 ++ [wrap64 ((y127.length : Int) - 1)]) x121002) else (none)) else (spec_ReadTree.l0 k x0 y127 x4 x121002))) else (none))) else (none)) else (none)) else (none)) else (none)) else (if x3.length < 3518437208883 then ((some (x3 ++ [(⟨x121000, x121001, 0, x5⟩ : S35)] : List (S35))).bind fun y133 => (if x6 = 40 then (if x4.length < 17592186044416 then (spec_ReadTree.l0 k x0 y133 (x4 ++ [wrap64 ((y133.length : Int) - 1)]) x121002) else (none)) else (spec_ReadTree.l0 k x0 y133 x4 x121002))) else (none)))
end
def spec_ReadTree.f (k : Nat) (a0 : ByteArray) : Option (Int × Int × (List (S35))) := if (a0.size : Int) > 20000 then (some (1, 0, ([] : List (S35)))) else (spec_ReadTree.l0 k a0 ([] : List (S35)) ([] : List Int) 0)
theorem spec_ReadTree.mono_l : ∀ k, (∀ y0 y1 y2 y3, LeO (spec_ReadTree.l0 k y0 y1 y2 y3) (spec_ReadTree.l0 (k + 1) y0 y1 y2 y3)) ∧ (∀ y0 y1 y2 y3, LeO (spec_ReadTree.l1 k y0 y1 y2 y3) (spec_ReadTree.l1 (k + 1) y0 y1 y2 y3)) ∧ (∀ y0 y1 y2 y3 y4 y5 y6 y7, LeO (spec_ReadTree.j2 k y0 y1 y2 y3 y4 y5 y6 y7) (spec_ReadTree.j2 (k + 1) y0 y1 y2 y3 y4 y5 y6 y7)) ∧ (∀ y0 y1 y2 y3 y4 y5 y6 y7 y8, LeO (spec_ReadTree.j3 k y0 y1 y2 y3 y4 y5 y6 y7 y8) (spec_ReadTree.j3 (k + 1) y0 y1 y2 y3 y4 y5 y6 y7 y8))
  | 0 => ⟨fun _ _ _ _ r h => by simp [spec_ReadTree.l0] at h, fun _ _ _ _ r h => by simp [spec_ReadTree.l1] at h, fun _ _ _ _ _ _ _ _ r h => by simp [spec_ReadTree.j2] at h, fun _ _ _ _ _ _ _ _ _ r h => by simp [spec_ReadTree.j3] at h⟩
  | k + 1 => by
    obtain ⟨ih0, ih1, ih2, ih3⟩ := spec_ReadTree.mono_l k
    refine ⟨?_, ?_, ?_, ?_⟩
    · intro y0 y1 y2 y3
      unfold spec_ReadTree.l0
      repeat' first
      | (with_reducible exact ih0 _ _ _ _)
      | (with_reducible exact ih1 _ _ _ _)
      | (with_reducible exact ih2 _ _ _ _ _ _ _ _)
      | (with_reducible exact ih3 _ _ _ _ _ _ _ _ _)
      | (with_reducible exact LeO.refl _)
      | (with_reducible exact LeO.none _)
      | (with_reducible refine LeO.ite ?_ ?_)
      | (with_reducible refine LeO.bind ?_ (fun _ => ?_))
      | exact ih0 _ _ _ _
      | exact ih1 _ _ _ _
      | exact ih2 _ _ _ _ _ _ _ _
      | exact ih3 _ _ _ _ _ _ _ _ _
      | exact LeO.none _
      | refine LeO.ite ?_ ?_
      | refine LeO.bind ?_ (fun _ => ?_)
    · intro y0 y1 y2 y3
      unfold spec_ReadTree.l1
      repeat' first
      | (with_reducible exact ih0 _ _ _ _)
      | (with_reducible exact ih1 _ _ _ _)
      | (with_reducible exact ih2 _ _ _ _ _ _ _ _)
      | (with_reducible exact ih3 _ _ _ _ _ _ _ _ _)
      | (with_reducible exact LeO.refl _)
      | (with_reducible exact LeO.none _)
      | (with_reducible refine LeO.ite ?_ ?_)
      | (with_reducible refine LeO.bind ?_ (fun _ => ?_))
      | exact ih0 _ _ _ _
      | exact ih1 _ _ _ _
      | exact ih2 _ _ _ _ _ _ _ _
      | exact ih3 _ _ _ _ _ _ _ _ _
      | exact LeO.none _
      | refine LeO.ite ?_ ?_
      | refine LeO.bind ?_ (fun _ => ?_)
    · intro y0 y1 y2 y3 y4 y5 y6 y7
      unfold spec_ReadTree.j2
      repeat' first
      | (with_reducible exact ih0 _ _ _ _)
      | (with_reducible exact ih1 _ _ _ _)
      | (with_reducible exact ih2 _ _ _ _ _ _ _ _)
      | (with_reducible exact ih3 _ _ _ _ _ _ _ _ _)
      | (with_reducible exact LeO.refl _)
      | (with_reducible exact LeO.none _)
      | (with_reducible refine LeO.ite ?_ ?_)
      | (with_reducible refine LeO.bind ?_ (fun _ => ?_))
      | exact ih0 _ _ _ _
      | exact ih1 _ _ _ _
      | exact ih2 _ _ _ _ _ _ _ _
      | exact ih3 _ _ _ _ _ _ _ _ _
      | exact LeO.none _
      | refine LeO.ite ?_ ?_
      | refine LeO.bind ?_ (fun _ => ?_)
    · intro y0 y1 y2 y3 y4 y5 y6 y7 y8
      unfold spec_ReadTree.j3
      repeat' first
      | (with_reducible exact ih0 _ _ _ _)
      | (with_reducible exact ih1 _ _ _ _)
      | (with_reducible exact ih2 _ _ _ _ _ _ _ _)
      | (with_reducible exact ih3 _ _ _ _ _ _ _ _ _)
      | (with_reducible exact LeO.refl _)
      | (with_reducible exact LeO.none _)
      | (with_reducible refine LeO.ite ?_ ?_)
      | (with_reducible refine LeO.bind ?_ (fun _ => ?_))
      | exact ih0 _ _ _ _
      | exact ih1 _ _ _ _
      | exact ih2 _ _ _ _ _ _ _ _
      | exact ih3 _ _ _ _ _ _ _ _ _
      | exact LeO.none _
      | refine LeO.ite ?_ ?_
      | refine LeO.bind ?_ (fun _ => ?_)
theorem spec_ReadTree.mono : ∀ a0 k, LeO (spec_ReadTree.f k a0) (spec_ReadTree.f (k + 1) a0) := by
  intro a0 k
  obtain ⟨ih0, ih1, ih2, ih3⟩ := spec_ReadTree.mono_l k
  unfold spec_ReadTree.f
  repeat' first
      | (with_reducible exact ih0 _ _ _ _)
      | (with_reducible exact ih1 _ _ _ _)
      | (with_reducible exact ih2 _ _ _ _ _ _ _ _)
      | (with_reducible exact ih3 _ _ _ _ _ _ _ _ _)
      | (with_reducible exact LeO.refl _)
      | (with_reducible exact LeO.none _)
      | (with_reducible refine LeO.ite ?_ ?_)
      | (with_reducible refine LeO.bind ?_ (fun _ => ?_))
      | exact ih0 _ _ _ _
      | exact ih1 _ _ _ _
      | exact ih2 _ _ _ _ _ _ _ _
      | exact ih3 _ _ _ _ _ _ _ _ _
      | exact LeO.none _
      | refine LeO.ite ?_ ?_
      | refine LeO.bind ?_ (fun _ => ?_)
set_option maxHeartbeats 8000000 in
set_option maxRecDepth 100000 in
theorem spec_ReadTree.calls (k : Nat) (a0 : ByteArray) (r1 : Int) (r2 : Int) (r3 : List (S35)) (w : World) (h : spec_ReadTree.f k a0 = some (r1, r2, r3)) :
    Calls Try.prog 4 #[.string a0] w fun e w' => ∃ v2_ : Value, e = .returned (.agg #[.int .i64 r1, .int .i64 r2, v2_]) ∧ Kd.R k35 35 w' w.heap.size (fun _ => True) v2_ r3 ∧ Below w.heap.size w w' := by
  have hu24 := Try.underlying24
  have hu32 := Try.underlying32
  have hu35 := Try.underlying35
  have HB := Aside0.mk (Below.refl w.heap.size w)
  have H : (if (a0.size : Int) > 20000 then (some (1, 0, ([] : List (S35)))) else (spec_ReadTree.l0 k a0 ([] : List (S35)) ([] : List Int) 0)) = some (r1, r2, r3) := h
  clear h
  by_cases c2 : (a0.size : Int) > 20000
  · rw [if_pos c2] at H
    have c2b0 : decide (20000 < (a0.size : Int)) = true := decide_eq_true c2
    have c2b1 : decide (20000 < a0.size) = true := decide_eq_true (by omega)
    clear c2
    simp only [Option.some.injEq, Prod.mk.injEq] at H
    obtain ⟨rfl, rfl, rfl⟩ := H
    go_enter Try.func4, Try.ntmps4
    go_wp2_with (first | ((with_reducible refine gate_dst (N := 2) rfl ?_); (try (refine gate_guard (by rfl) ?_; dsimp only)); refine box_event ?hg (N := 2) ?hd (cs := #[.int .i64 0, .int .i64 0, .slice none 0 0]) (t := 24) ?hr ?_; (case hd => rfl); (case hg => rfl); (case hr => first | (go_simp; done) | (go_simp; rfl)); intro gb113 hg w3 hbox hb; have n0_ := Aside0.mk (below_step (by repeat (first | (with_reducible first | exact HB.out | apply below_alloc | apply pw_below_drewN | apply below_drew1) | exact HB.out)) hb); have n1_ := Aside0.mk (hbox); have n2_ := Aside0.mk ((by rw [hg]; exact (below_size (by repeat (first | (with_reducible first | exact HB.out | apply below_alloc | apply pw_below_drewN | apply below_drew1) | exact HB.out))) : w.heap.size ≤ gb113)); have n3_ := Aside0.mk ((by rw [hg]; exact (below_size (by repeat (first | (with_reducible first | exact HB.out | apply below_alloc | apply pw_below_drewN | apply below_drew1) | exact HB.out))) : w.heap.size ≤ gb113)); clear HB; have HB := n0_; have BK113 := n1_; have GW113 := n2_; have GE113 := n3_; clear n0_ n1_ n2_ n3_; clear hb hbox hg; have hcz4_0 : w3.cell? ⟨gb113, 0, none⟩ = some (.int .i64 0) := (blk_cell BK113.out 0).trans rfl; have hcz4_1 : w3.cell? ⟨gb113, 1, none⟩ = some (.int .i64 0) := (blk_cell BK113.out 1).trans rfl; have hcz4_2 : w3.cell? ⟨gb113, 2, none⟩ = some (.slice none 0 0) := (blk_cell BK113.out 2).trans rfl; have hfz4_0 := blk_frozen BK113.out 0; have hfz4_1 := blk_frozen BK113.out 1; have hfz4_2 := blk_frozen BK113.out 2))
    refine bodyPost_ret (results_cell_row rfl _ _ gb113 24 #[.int .i64 1, .int .i64 0, .slice none 0 0] (0, 0) _ rfl (by (with_reducible repeat (first | refine blk_drewN ?_ _ | refine blk_drew ?_ | refine blk_alloc ?_ _)); refine blk_put (cs := #[.int .i64 1, .int .i64 0, .slice none 0 0]) ?_ 2 _ rfl; (with_reducible repeat (first | refine blk_drewN ?_ _ | refine blk_drew ?_ | refine blk_alloc ?_ _)); refine blk_put (cs := #[.int .i64 1, .int .i64 0, .slice none 0 0]) ?_ 1 _ rfl; (with_reducible repeat (first | refine blk_drewN ?_ _ | refine blk_drew ?_ | refine blk_alloc ?_ _)); refine blk_put (cs := #[.int .i64 0, .int .i64 0, .slice none 0 0]) ?_ 0 _ rfl; (with_reducible repeat (first | refine blk_drewN ?_ _ | refine blk_drew ?_ | refine blk_alloc ?_ _)); exact BK113.out) Try.underlying24 rfl (by kernel_rfl)) rfl ?_
    exact ⟨_, by first | rfl | (simp [errW_none, errW_some] <;> rfl) | (simp [*, errW_none, errW_some] <;> rfl), by first | exact Kd.R_nil _ _ _ _ _ | exact Kd.N_nil _ _ _ _ _ | exact Kd.V_nil _ _ _ _ _ | exact Kd.Q_nil _ _ _ _ _ | exact Kd.S_nil _ _ _ _ _, by repeat (first | (with_reducible first | exact HB.out | apply below_alloc | apply pw_below_drewN | apply below_drew1 | refine below_set ?_ GE113.out) | exact HB.out)⟩
  · rw [if_neg c2] at H
    have c2b0 : decide (20000 < (a0.size : Int)) = false := decide_eq_false c2
    have c2b1 : decide (20000 < a0.size) = false := decide_eq_false (by omega)
    clear c2
    have H' := Aside0.mk H
    clear H
    go_enter Try.func4, Try.ntmps4
    go_wp2_with (first | ((with_reducible refine gate_dst (N := 2) rfl ?_); (try (refine gate_guard (by rfl) ?_; dsimp only)); refine box_event ?hg (N := 2) ?hd (cs := #[.int .i64 0, .int .i64 0, .slice none 0 0]) (t := 24) ?hr ?_; (case hd => rfl); (case hg => rfl); (case hr => first | (go_simp; done) | (go_simp; rfl)); intro gb113 hg w5 hbox hb; have n0_ := Aside0.mk (below_step (by repeat (first | (with_reducible first | exact HB.out | apply below_alloc | apply pw_below_drewN | apply below_drew1) | exact HB.out)) hb); have n1_ := Aside0.mk (hbox); have n2_ := Aside0.mk ((by rw [hg]; exact (below_size (by repeat (first | (with_reducible first | exact HB.out | apply below_alloc | apply pw_below_drewN | apply below_drew1) | exact HB.out))) : w.heap.size ≤ gb113)); have n3_ := Aside0.mk ((by rw [hg]; exact (below_size (by repeat (first | (with_reducible first | exact HB.out | apply below_alloc | apply pw_below_drewN | apply below_drew1) | exact HB.out))) : w.heap.size ≤ gb113)); clear HB; have HB := n0_; have BK113 := n1_; have GW113 := n2_; have GE113 := n3_; clear n0_ n1_ n2_ n3_; clear hb hbox hg))
    go_loopg [3, 4, 5] k (fun kq v3 v4 v5 w' => ∃ (x3_1 : List (S35)) (x4_1 : List Int) (x5_1 : Int) (x114000_1 : Int) (x114001_1 : Int), v5 = .int .i64 x5_1 ∧ Aside0 (spec_ReadTree.l0 kq a0 x3_1 x4_1 x5_1 = some (r1, r2, r3)) ∧ Aside0 (kq ≤ k) ∧ Aside0 (Kd.R k35 35 w' w.heap.size (fun _ => True) v3 x3_1) ∧ Aside0 (Kd.R (Kd.int .i64) 3 w' w.heap.size (fun _ => True) v4 x4_1) ∧ Aside0 (w'.heap[gb113]? = some (.cells #[.int .i64 x114000_1, .int .i64 x114001_1, (.slice none 0 0)] 24 (0, 0))) ∧ Aside0 (Below w.heap.size w w'))
    case atStart => exact ⟨(([] : List (S35))), (([] : List Int)), (0), (0), (0), (by first | rfl | (simp; done) | (simp [*]; done)), H', ⟨Nat.le_refl _⟩, ⟨by first | exact Kd.R_nil _ _ _ _ _ | exact Kd.N_nil _ _ _ _ _ | exact Kd.V_nil _ _ _ _ _ | exact Kd.Q_nil _ _ _ _ _ | exact Kd.S_nil _ _ _ _ _⟩, ⟨by first | exact Kd.R_nil _ _ _ _ _ | exact Kd.N_nil _ _ _ _ _ | exact Kd.V_nil _ _ _ _ _ | exact Kd.Q_nil _ _ _ _ _ | exact Kd.S_nil _ _ _ _ _⟩, ⟨by (with_reducible repeat (first | refine blk_drewN ?_ _ | refine blk_drew ?_ | refine blk_alloc ?_ _)); exact BK113.out⟩, ⟨by repeat (first | (with_reducible first | exact HB.out | apply below_alloc | apply pw_below_drewN | apply below_drew1 | refine below_set ?_ GE113.out) | exact HB.out)⟩⟩
    case round =>
      clear H'
      try clear c2
      try clear c2b0
      try clear c2b1
      try clear p2
      try clear c4
      try clear hcz4_0
      try clear hcz4_1
      try clear hcz4_2
      try clear hfz4_0
      try clear hfz4_1
      try clear hfz4_2
      obtain ⟨x3_1, x4_1, x5_1, x114000_1, x114001_1, rfl, HA, HK1, HO_3, HO_4, BK113, HB⟩ := hrel
      cases gk with
      | zero => exact absurd HA.out (by simp [spec_ReadTree.l0])
      | succ k1 =>
        have H := HA.out
        clear HA
        simp only [spec_ReadTree.l0] at H
        by_cases c6 : x5_1 < (a0.size : Int)
        · rw [if_pos c6] at H
          have c6b0 : decide (x5_1 < (a0.size : Int)) = true := decide_eq_true c6
          clear c6
          by_cases c7 : 0 ≤ x5_1
          · rw [if_pos c7] at H
            have c7b0 : decide (0 ≤ x5_1) = true := decide_eq_true c7
            clear c7
            replace H := Option.bind_eq_some_iff.mp H
            obtain ⟨t116, A90, H⟩ := H
            replace H : (if t116 = true then (spec_ReadTree.l0 k1 a0 x3_1 x4_1 (wrap64 (x5_1 + 1))) else (if (bt a0 x5_1) = 59 then (spec_ReadTree.l1 k1 a0 x3_1 x4_1 x5_1) else (if (bt a0 x5_1) = 41 then (if (x4_1.length : Int) = 0 then (some (4, x5_1, ([] : List (S35)))) else (if 0 ≤ (wrap64 ((x4_1.length : Int) - 1)) then (if (wrap64 ((x4_1.length : Int) - 1)) ≤ (x4_1.length : Int) then (spec_ReadTree.l0 k1 a0 x3_1 (x4_1.take ((wrap64 ((x4_1.length : Int) - 1)) : Int).toNat) (wrap64 (x5_1 + 1))) else (none)) else (none))) else (if (bt a0 x5_1) = 40 then (spec_ReadTree.j2 k1 a0 x3_1 x4_1 x5_1 (bt a0 x5_1) 1 (⟨#[]⟩ : ByteArray) (wrap64 (x5_1 + 1))) else ((spec_l3Token.f a0 x5_1).bind fun bt121 => (if bt121.1 = 0 then (some (2, x5_1, ([] : List (S35)))) else (spec_ReadTree.j2 k1 a0 x3_1 x4_1 x5_1 (bt a0 x5_1) bt121.1 bt121.2.1 bt121.2.2))))))) = some (r1, r2, r3) := H
            have A9 := Aside0.mk A90
            clear A90
            by_cases c10 : t116 = true
            · subst c10
              have H1 : (spec_ReadTree.l0 k1 a0 x3_1 x4_1 (wrap64 (x5_1 + 1))) = some (r1, r2, r3) := by rw [if_pos rfl] at H; exact H
              clear H
              have H := H1
              clear H1
              have H' := Aside0.mk H
              clear H
              have p8 : 0 ≤ (x5_1 : Int) := of_decide_eq_true (by first | (with_reducible assumption) | assumption)
              have q8 : x5_1 < (a0.size : Int) := of_decide_eq_true (by first | (with_reducible assumption) | assumption)
              have hx8 := bt_at a0 x5_1
              replace p8 := eq_true p8
              replace q8 := eq_true q8
              go_wp2_with (first | ((with_reducible refine gate_callee (f := 9) rfl ?_); refine goesL_ (some 20) rfl rfl Try.func9 (by kernel_rfl) rfl #[.int .u8 (bt a0 x5_1)] rfl (by (try simp only [List.map_toArray, List.map_cons, List.map_nil]); first | done | rfl | (simp only [List.length_drop, List.length_take]; rfl)) ?_; (with_reducible refine (spec_l3Blank.calls (bt a0 x5_1) true _ A9.out).mono ?_); rintro e w' ⟨rfl, ⟨nd, rfl⟩⟩; refine ⟨_, rfl, ?_⟩))
              go_roundg k1
              case measure => have := HK1.out; omega
              case rel => exact ⟨(x3_1), (x4_1), (wrap64 (x5_1 + 1)), (x114000_1), (x114001_1), (by first | rfl | (simp; done) | (simp [*]; done)), H', ⟨by have := HK1.out; omega⟩, ⟨by (with_reducible repeat (first | apply Kd.R_alloc | apply Kd.R_drewN | apply Kd.R_drew)); exact HO_3.out⟩, ⟨by (with_reducible repeat (first | apply Kd.R_alloc | apply Kd.R_drewN | apply Kd.R_drew)); exact HO_4.out⟩, ⟨by (with_reducible repeat (first | refine blk_drewN ?_ _ | refine blk_drew ?_ | refine blk_alloc ?_ _)); exact BK113.out⟩, ⟨by repeat (first | (with_reducible first | exact HB.out | apply below_alloc | apply pw_below_drewN | apply below_drew1 | refine below_set ?_ GE113.out) | exact HB.out)⟩⟩
            · replace c10 := Bool.eq_false_iff.mpr c10
              subst c10
              have H1 : (if (bt a0 x5_1) = 59 then (spec_ReadTree.l1 k1 a0 x3_1 x4_1 x5_1) else (if (bt a0 x5_1) = 41 then (if (x4_1.length : Int) = 0 then (some (4, x5_1, ([] : List (S35)))) else (if 0 ≤ (wrap64 ((x4_1.length : Int) - 1)) then (if (wrap64 ((x4_1.length : Int) - 1)) ≤ (x4_1.length : Int) then (spec_ReadTree.l0 k1 a0 x3_1 (x4_1.take ((wrap64 ((x4_1.length : Int) - 1)) : Int).toNat) (wrap64 (x5_1 + 1))) else (none)) else (none))) else (if (bt a0 x5_1) = 40 then (spec_ReadTree.j2 k1 a0 x3_1 x4_1 x5_1 (bt a0 x5_1) 1 (⟨#[]⟩ : ByteArray) (wrap64 (x5_1 + 1))) else ((spec_l3Token.f a0 x5_1).bind fun bt121 => (if bt121.1 = 0 then (some (2, x5_1, ([] : List (S35)))) else (spec_ReadTree.j2 k1 a0 x3_1 x4_1 x5_1 (bt a0 x5_1) bt121.1 bt121.2.1 bt121.2.2)))))) = some (r1, r2, r3) := by rw [if_neg (show ¬ (false = true) by decide)] at H; exact H
              clear H
              have H := H1
              clear H1
              by_cases c11 : (bt a0 x5_1) = 59
              · rw [if_pos c11] at H
                have c11b0 : ((bt a0 x5_1) == 59) = true := beq_iff_eq.mpr c11
                have c11b1 : ((bt a0 x5_1) != 59) = false := bne_eq_false_iff_eq.mpr c11
                clear c11
                have H' := Aside0.mk H
                clear H
                have p8 : 0 ≤ (x5_1 : Int) := of_decide_eq_true (by first | (with_reducible assumption) | assumption)
                have q8 : x5_1 < (a0.size : Int) := of_decide_eq_true (by first | (with_reducible assumption) | assumption)
                have hx8 := bt_at a0 x5_1
                replace p8 := eq_true p8
                replace q8 := eq_true q8
                go_wp2_with (first | ((with_reducible refine gate_callee (f := 9) rfl ?_); refine goesL_ (some 20) rfl rfl Try.func9 (by kernel_rfl) rfl #[.int .u8 (bt a0 x5_1)] rfl (by (try simp only [List.map_toArray, List.map_cons, List.map_nil]); first | done | rfl | (simp only [List.length_drop, List.length_take]; rfl)) ?_; (with_reducible refine (spec_l3Blank.calls (bt a0 x5_1) false _ A9.out).mono ?_); rintro e w' ⟨rfl, ⟨nd, rfl⟩⟩; refine ⟨_, rfl, ?_⟩))
                go_loopg [5] k1 (fun kq v5 w' => ∃ (x5_2 : Int), v5 = .int .i64 x5_2 ∧ Aside0 (spec_ReadTree.l1 kq a0 x3_1 x4_1 x5_2 = some (r1, r2, r3)) ∧ Aside0 (kq ≤ k1) ∧ Aside0 (Kd.R k35 35 w' w.heap.size (fun _ => True) u3 x3_1) ∧ Aside0 (Kd.R (Kd.int .i64) 3 w' w.heap.size (fun _ => True) u4 x4_1) ∧ Aside0 (w'.heap[gb113]? = some (.cells #[.int .i64 x114000_1, .int .i64 x114001_1, (.slice none 0 0)] 24 (0, 0))) ∧ Aside0 (Below w.heap.size w w'))
                case atStart => exact ⟨(x5_1), (by first | rfl | (simp; done) | (simp [*]; done)), H', ⟨Nat.le_refl _⟩, ⟨by (with_reducible repeat (first | apply Kd.R_alloc | apply Kd.R_drewN | apply Kd.R_drew)); exact HO_3.out⟩, ⟨by (with_reducible repeat (first | apply Kd.R_alloc | apply Kd.R_drewN | apply Kd.R_drew)); exact HO_4.out⟩, ⟨by (with_reducible repeat (first | refine blk_drewN ?_ _ | refine blk_drew ?_ | refine blk_alloc ?_ _)); exact BK113.out⟩, ⟨by repeat (first | (with_reducible first | exact HB.out | apply below_alloc | apply pw_below_drewN | apply below_drew1 | refine below_set ?_ GE113.out) | exact HB.out)⟩⟩
                case round =>
                  clear H'
                  try clear c1
                  try clear c2
                  try clear c2b0
                  try clear c2b1
                  try clear p2
                  try clear c4
                  try clear c6
                  try clear c6b0
                  try clear p6
                  try clear c7
                  try clear c7b0
                  try clear p8
                  try clear q8
                  try clear hx8
                  try clear c9
                  try clear c10
                  try clear c11
                  try clear c11b0
                  try clear c11b1
                  try clear hcz4_0
                  try clear hcz4_1
                  try clear hcz4_2
                  try clear hfz4_0
                  try clear hfz4_1
                  try clear hfz4_2
                  try clear p2
                  try clear p8
                  try clear q8
                  obtain ⟨x5_2, rfl, HA, HK2, HO_3, HO_4, BK113, HB⟩ := hrel
                  cases gk with
                  | zero => exact absurd HA.out (by simp [spec_ReadTree.l1])
                  | succ k2 =>
                    have H := HA.out
                    clear HA
                    simp only [spec_ReadTree.l1] at H
                    by_cases c12 : x5_2 < (a0.size : Int)
                    · rw [if_pos c12] at H
                      have c12b0 : decide (x5_2 < (a0.size : Int)) = true := decide_eq_true c12
                      clear c12
                      by_cases c13 : 0 ≤ x5_2
                      · rw [if_pos c13] at H
                        have c13b0 : decide (0 ≤ x5_2) = true := decide_eq_true c13
                        clear c13
                        by_cases c15 : (bt a0 x5_2) = 10
                        · rw [if_pos c15] at H
                          have c15b0 : ((bt a0 x5_2) == 10) = true := beq_iff_eq.mpr c15
                          have c15b1 : ((bt a0 x5_2) != 10) = false := bne_eq_false_iff_eq.mpr c15
                          clear c15
                          have H' := Aside0.mk H
                          clear H
                          have p14 : 0 ≤ (x5_2 : Int) := of_decide_eq_true (by first | (with_reducible assumption) | assumption)
                          have q14 : x5_2 < (a0.size : Int) := of_decide_eq_true (by first | (with_reducible assumption) | assumption)
                          have hx14 := bt_at a0 x5_2
                          replace p14 := eq_true p14
                          replace q14 := eq_true q14
                          go_wp2
                          go_roundg k2
                          case measure => have := HK1.out; have := HK2.out; omega
                          case rel => exact ⟨(x3_1), (x4_1), (x5_2), (x114000_1), (x114001_1), (by first | rfl | (simp; done) | (simp [*]; done)), H', ⟨by have := HK1.out; have := HK2.out; omega⟩, ⟨by (with_reducible repeat (first | apply Kd.R_alloc | apply Kd.R_drewN | apply Kd.R_drew)); exact HO_3.out⟩, ⟨by (with_reducible repeat (first | apply Kd.R_alloc | apply Kd.R_drewN | apply Kd.R_drew)); exact HO_4.out⟩, ⟨by (with_reducible repeat (first | refine blk_drewN ?_ _ | refine blk_drew ?_ | refine blk_alloc ?_ _)); exact BK113.out⟩, ⟨by repeat (first | (with_reducible first | exact HB.out | apply below_alloc | apply pw_below_drewN | apply below_drew1 | refine below_set ?_ GE113.out) | exact HB.out)⟩⟩
                        · rw [if_neg c15] at H
                          have c15b0 : ((bt a0 x5_2) == 10) = false := beq_eq_false_iff_ne.mpr c15
                          have c15b1 : ((bt a0 x5_2) != 10) = true := bne_iff_ne.mpr c15
                          have H' := Aside0.mk H
                          clear H
                          have p14 : 0 ≤ (x5_2 : Int) := of_decide_eq_true (by first | (with_reducible assumption) | assumption)
                          have q14 : x5_2 < (a0.size : Int) := of_decide_eq_true (by first | (with_reducible assumption) | assumption)
                          have hx14 := bt_at a0 x5_2
                          replace p14 := eq_true p14
                          replace q14 := eq_true q14
                          go_wp2
                          go_roundg k2
                          case measure => have := HK1.out; have := HK2.out; omega
                          case rel => exact ⟨(wrap64 (x5_2 + 1)), (by first | rfl | (simp; done) | (simp [*]; done)), H', ⟨by have := HK1.out; have := HK2.out; omega⟩, ⟨by (with_reducible repeat (first | apply Kd.R_alloc | apply Kd.R_drewN | apply Kd.R_drew)); exact HO_3.out⟩, ⟨by (with_reducible repeat (first | apply Kd.R_alloc | apply Kd.R_drewN | apply Kd.R_drew)); exact HO_4.out⟩, ⟨by (with_reducible repeat (first | refine blk_drewN ?_ _ | refine blk_drew ?_ | refine blk_alloc ?_ _)); exact BK113.out⟩, ⟨by repeat (first | (with_reducible first | exact HB.out | apply below_alloc | apply pw_below_drewN | apply below_drew1 | refine below_set ?_ GE113.out) | exact HB.out)⟩⟩
                      · rw [if_neg c13] at H
                        exact absurd H (by simp)
                    · rw [if_neg c12] at H
                      have c12b0 : decide (x5_2 < (a0.size : Int)) = false := decide_eq_false c12
                      clear c12
                      have H' := Aside0.mk H
                      clear H
                      go_wp2
                      go_roundg k2
                      case measure => have := HK1.out; have := HK2.out; omega
                      case rel => exact ⟨(x3_1), (x4_1), (x5_2), (x114000_1), (x114001_1), (by first | rfl | (simp; done) | (simp [*]; done)), H', ⟨by have := HK1.out; have := HK2.out; omega⟩, ⟨by (with_reducible repeat (first | apply Kd.R_alloc | apply Kd.R_drewN | apply Kd.R_drew)); exact HO_3.out⟩, ⟨by (with_reducible repeat (first | apply Kd.R_alloc | apply Kd.R_drewN | apply Kd.R_drew)); exact HO_4.out⟩, ⟨by (with_reducible repeat (first | refine blk_drewN ?_ _ | refine blk_drew ?_ | refine blk_alloc ?_ _)); exact BK113.out⟩, ⟨by repeat (first | (with_reducible first | exact HB.out | apply below_alloc | apply pw_below_drewN | apply below_drew1 | refine below_set ?_ GE113.out) | exact HB.out)⟩⟩
              · rw [if_neg c11] at H
                have c11b0 : ((bt a0 x5_1) == 59) = false := beq_eq_false_iff_ne.mpr c11
                have c11b1 : ((bt a0 x5_1) != 59) = true := bne_iff_ne.mpr c11
                by_cases c16 : (bt a0 x5_1) = 41
                · rw [if_pos c16] at H
                  have c16b0 : ((bt a0 x5_1) == 41) = true := beq_iff_eq.mpr c16
                  have c16b1 : ((bt a0 x5_1) != 41) = false := bne_eq_false_iff_eq.mpr c16
                  clear c16
                  by_cases c17 : (x4_1.length : Int) = 0
                  · rw [if_pos c17] at H
                    have c17b0 : ((x4_1.length : Int) == 0) = true := beq_iff_eq.mpr c17
                    have c17b1 : ((x4_1.length : Int) != 0) = false := bne_eq_false_iff_eq.mpr c17
                    clear c17
                    simp only [Option.some.injEq, Prod.mk.injEq] at H
                    obtain ⟨rfl, rfl, rfl⟩ := H
                    have p8 : 0 ≤ (x5_1 : Int) := of_decide_eq_true (by first | (with_reducible assumption) | assumption)
                    have q8 : x5_1 < (a0.size : Int) := of_decide_eq_true (by first | (with_reducible assumption) | assumption)
                    have hx8 := bt_at a0 x5_1
                    replace p8 := eq_true p8
                    replace q8 := eq_true q8
                    go_wp2_with (first | ((with_reducible refine gate_callee (f := 9) rfl ?_); refine goesL_ (some 20) rfl rfl Try.func9 (by kernel_rfl) rfl #[.int .u8 (bt a0 x5_1)] rfl (by (try simp only [List.map_toArray, List.map_cons, List.map_nil]); first | done | rfl | (simp only [List.length_drop, List.length_take]; rfl)) ?_; (with_reducible refine (spec_l3Blank.calls (bt a0 x5_1) false _ A9.out).mono ?_); rintro e w' ⟨rfl, ⟨nd, rfl⟩⟩; refine ⟨_, rfl, ?_⟩; (try (rw [drewN_self wr]; generalize hq_ : World.drewN wr _ = wr; have n0_ : Aside0 (Kd.R k35 35 wr w.heap.size (fun _ => True) u3 x3_1) := ⟨by rw [← hq_]; exact (by (with_reducible repeat (first | apply Kd.R_alloc | apply Kd.R_drewN | apply Kd.R_drew)); exact HO_3.out)⟩; have n1_ : Aside0 (Kd.R (Kd.int .i64) 3 wr w.heap.size (fun _ => True) u4 x4_1) := ⟨by rw [← hq_]; exact (by (with_reducible repeat (first | apply Kd.R_alloc | apply Kd.R_drewN | apply Kd.R_drew)); exact HO_4.out)⟩; have n2_ : Aside0 (wr.heap[gb113]? = some (.cells #[.int .i64 x114000_1, .int .i64 x114001_1, .slice none 0 0] 24 (0, 0))) := ⟨by rw [← hq_]; exact (by (with_reducible repeat (first | refine blk_drewN ?_ _ | refine blk_drew ?_ | refine blk_alloc ?_ _)); exact BK113.out)⟩; have n3_ : Aside0 (Below w.heap.size w wr) := ⟨by rw [← hq_]; exact (by repeat (first | (with_reducible first | exact HB.out | apply below_alloc | apply pw_below_drewN | apply below_drew1 | refine below_set ?_ GE113.out) | exact HB.out))⟩; clear HO_3 HO_4 BK113 HB hq_; have HO_3 := n0_; have HO_4 := n1_; have BK113 := n2_; have HB := n3_; clear n0_ n1_ n2_ n3_)); obtain ⟨Ao18, co18, eo18⟩ := Kd.R_slice HO_4.out; subst eo18; have hcz19_0 : wr.cell? ⟨gb113, 0, none⟩ = some (.int .i64 x114000_1) := (blk_cell BK113.out 0).trans rfl; have hcz19_1 : wr.cell? ⟨gb113, 1, none⟩ = some (.int .i64 x114001_1) := (blk_cell BK113.out 1).trans rfl; have hcz19_2 : wr.cell? ⟨gb113, 2, none⟩ = some (.slice none 0 0) := (blk_cell BK113.out 2).trans rfl; have hfz19_0 := blk_frozen BK113.out 0; have hfz19_1 := blk_frozen BK113.out 1; have hfz19_2 := blk_frozen BK113.out 2))
                    refine bodyPost_ret (results_cell_row rfl _ _ gb113 24 #[.int .i64 4, .int .i64 x5_1, .slice none 0 0] (0, 0) _ rfl (by (with_reducible repeat (first | refine blk_drewN ?_ _ | refine blk_drew ?_ | refine blk_alloc ?_ _)); refine blk_put (cs := #[.int .i64 4, .int .i64 x5_1, .slice none 0 0]) ?_ 2 _ rfl; (with_reducible repeat (first | refine blk_drewN ?_ _ | refine blk_drew ?_ | refine blk_alloc ?_ _)); refine blk_put (cs := #[.int .i64 4, .int .i64 x114001_1, .slice none 0 0]) ?_ 1 _ rfl; (with_reducible repeat (first | refine blk_drewN ?_ _ | refine blk_drew ?_ | refine blk_alloc ?_ _)); refine blk_put (cs := #[.int .i64 x114000_1, .int .i64 x114001_1, .slice none 0 0]) ?_ 0 _ rfl; (with_reducible repeat (first | refine blk_drewN ?_ _ | refine blk_drew ?_ | refine blk_alloc ?_ _)); exact BK113.out) Try.underlying24 rfl (by kernel_rfl)) rfl ?_
                    exact ⟨_, by first | rfl | (simp [errW_none, errW_some] <;> rfl) | (simp [*, errW_none, errW_some] <;> rfl), by first | exact Kd.R_nil _ _ _ _ _ | exact Kd.N_nil _ _ _ _ _ | exact Kd.V_nil _ _ _ _ _ | exact Kd.Q_nil _ _ _ _ _ | exact Kd.S_nil _ _ _ _ _, by repeat (first | (with_reducible first | exact HB.out | apply below_alloc | apply pw_below_drewN | apply below_drew1 | refine below_set ?_ GE113.out) | exact HB.out)⟩
                  · rw [if_neg c17] at H
                    have c17b0 : ((x4_1.length : Int) == 0) = false := beq_eq_false_iff_ne.mpr c17
                    have c17b1 : ((x4_1.length : Int) != 0) = true := bne_iff_ne.mpr c17
                    have c17b2 : ¬ (x4_1 = []) := fun h_ => c17 (by rw [h_]; rfl)
                    obtain ⟨ji20, hji20⟩ : ∃ j_ : Int, (wrap64 ((x4_1.length : Int) - 1)) = j_ := ⟨_, rfl⟩
                    replace H : (if 0 ≤ (ji20) then (if (ji20) ≤ (x4_1.length : Int) then (spec_ReadTree.l0 k1 a0 x3_1 (x4_1.take ((ji20) : Int).toNat) (wrap64 (x5_1 + 1))) else (none)) else (none)) = some (r1, r2, r3) := by first | (rw [hji20] at H; exact H) | (simp only [hji20] at H ⊢; exact H)
                    (try rw [hji20] at A9)
                    have hji20w : (IntKind.i64.wrap ((x4_1.length : Int) - 1)) = ji20 := (i64_w _).trans hji20
                    by_cases c21 : 0 ≤ (ji20)
                    · rw [if_pos c21] at H
                      have c21b0 := eq_true c21
                      have c21b1 : decide (0 ≤ (ji20)) = true := decide_eq_true c21
                      clear c21
                      by_cases c22 : (ji20) ≤ (x4_1.length : Int)
                      · rw [if_pos c22] at H
                        have c22b0 := eq_true c22
                        have c22b1 : decide ((ji20) ≤ (x4_1.length : Int)) = true := decide_eq_true c22
                        clear c22
                        obtain ⟨y117, hy117⟩ : ∃ y_ : List Int, y_ = (x4_1.take ((ji20) : Int).toNat) := ⟨_, rfl⟩
                        replace H : (spec_ReadTree.l0 k1 a0 x3_1 y117 (wrap64 (x5_1 + 1))) = some (r1, r2, r3) := by first | (rw [hy117]; with_reducible exact H) | (have H2_ := (Option.bind_some _ _).symm.trans H; rw [hy117]; with_reducible exact H2_) | (have H2_ := (Option.bind_some _ _).symm.trans H; with_reducible exact H2_) | with_reducible exact H | (rw [hy117]; exact H) | exact H
                        have Ny117 := Aside0.mk hy117
                        clear hy117
                        have H' := Aside0.mk H
                        clear H
                        have p8 : 0 ≤ (x5_1 : Int) := of_decide_eq_true (by first | (with_reducible assumption) | assumption)
                        have q8 : x5_1 < (a0.size : Int) := of_decide_eq_true (by first | (with_reducible assumption) | assumption)
                        have hx8 := bt_at a0 x5_1
                        replace p8 := eq_true p8
                        replace q8 := eq_true q8
                        go_wp2_with (first | ((with_reducible refine gate_callee (f := 9) rfl ?_); refine goesL_ (some 20) rfl rfl Try.func9 (by kernel_rfl) rfl #[.int .u8 (bt a0 x5_1)] rfl (by (try simp only [List.map_toArray, List.map_cons, List.map_nil]); first | done | rfl | (simp only [List.length_drop, List.length_take]; rfl)) ?_; (with_reducible refine (spec_l3Blank.calls (bt a0 x5_1) false _ A9.out).mono ?_); rintro e w' ⟨rfl, ⟨nd, rfl⟩⟩; refine ⟨_, rfl, ?_⟩; obtain ⟨Ao23, co23, eo23⟩ := Kd.R_slice HO_4.out; subst eo23; have q24 : ((ji20) : Int) ≤ ((x4_1.length : Int) : Int) := of_decide_eq_true (by first | (with_reducible assumption) | assumption); obtain ⟨i024, hi024, _, hsz24, _⟩ := info_parts info3; have hcut24 := cut_to (P := Try.prog) 29 3 .i64 Try.underlying29 hi024 Ao23 x4_1.length co23 (ji20) (of_decide_eq_true (by first | (with_reducible assumption) | assumption)) q24 (Kd.R_reads' HO_4.out).2.1; have hr24 := Kd.R_take (m := ((ji20) : Int).toNat) HO_4.out (by omega); have hy24 : y117.length = ((ji20) : Int).toNat := (by rw [Ny117.out, List.length_take]; omega); rw [← Ny117.out] at hr24; rw [← hy24] at hr24 hcut24; clear hy24 hi024 hsz24 HO_4; have HO119 := Aside0.mk hr24; clear hr24; replace q24 := eq_true q24))
                        go_roundg k1
                        case measure => have := HK1.out; omega
                        case rel => exact ⟨(x3_1), (y117), (wrap64 (x5_1 + 1)), (x114000_1), (x114001_1), (by first | rfl | (simp; done) | (simp [*]; done)), H', ⟨by have := HK1.out; omega⟩, ⟨by (with_reducible repeat (first | apply Kd.R_alloc | apply Kd.R_drewN | apply Kd.R_drew)); exact HO_3.out⟩, ⟨by (with_reducible repeat (first | apply Kd.R_alloc | apply Kd.R_drewN | apply Kd.R_drew)); exact HO119.out⟩, ⟨by (with_reducible repeat (first | refine blk_drewN ?_ _ | refine blk_drew ?_ | refine blk_alloc ?_ _)); exact BK113.out⟩, ⟨by repeat (first | (with_reducible first | exact HB.out | apply below_alloc | apply pw_below_drewN | apply below_drew1 | refine below_set ?_ GE113.out) | exact HB.out)⟩⟩
                      · rw [if_neg c22] at H
                        exact absurd H (by simp)
                    · rw [if_neg c21] at H
                      exact absurd H (by simp)
                · rw [if_neg c16] at H
                  have c16b0 : ((bt a0 x5_1) == 41) = false := beq_eq_false_iff_ne.mpr c16
                  have c16b1 : ((bt a0 x5_1) != 41) = true := bne_iff_ne.mpr c16
                  have HC25 := Aside0.mk H
                  clear H
                  have p8 : 0 ≤ (x5_1 : Int) := of_decide_eq_true (by first | (with_reducible assumption) | assumption)
                  have q8 : x5_1 < (a0.size : Int) := of_decide_eq_true (by first | (with_reducible assumption) | assumption)
                  have hx8 := bt_at a0 x5_1
                  replace p8 := eq_true p8
                  replace q8 := eq_true q8
                  go_upto_if 55 with (first | ((with_reducible refine gate_callee (f := 9) rfl ?_); refine goesL_ (some 20) rfl rfl Try.func9 (by kernel_rfl) rfl #[.int .u8 (bt a0 x5_1)] rfl (by (try simp only [List.map_toArray, List.map_cons, List.map_nil]); first | done | rfl | (simp only [List.length_drop, List.length_take]; rfl)) ?_; (with_reducible refine (spec_l3Blank.calls (bt a0 x5_1) false _ A9.out).mono ?_); rintro e w' ⟨rfl, ⟨nd, rfl⟩⟩; refine ⟨_, rfl, ?_⟩; (try (rw [drewN_self wr]; generalize hq_ : World.drewN wr _ = wr; have n0_ : Aside0 (Kd.R k35 35 wr w.heap.size (fun _ => True) u3 x3_1) := ⟨by rw [← hq_]; exact (by (with_reducible repeat (first | apply Kd.R_alloc | apply Kd.R_drewN | apply Kd.R_drew)); exact HO_3.out)⟩; have n1_ : Aside0 (Kd.R (Kd.int .i64) 3 wr w.heap.size (fun _ => True) u4 x4_1) := ⟨by rw [← hq_]; exact (by (with_reducible repeat (first | apply Kd.R_alloc | apply Kd.R_drewN | apply Kd.R_drew)); exact HO_4.out)⟩; have n2_ : Aside0 (wr.heap[gb113]? = some (.cells #[.int .i64 x114000_1, .int .i64 x114001_1, .slice none 0 0] 24 (0, 0))) := ⟨by rw [← hq_]; exact (by (with_reducible repeat (first | refine blk_drewN ?_ _ | refine blk_drew ?_ | refine blk_alloc ?_ _)); exact BK113.out)⟩; have n3_ : Aside0 (Below w.heap.size w wr) := ⟨by rw [← hq_]; exact (by repeat (first | (with_reducible first | exact HB.out | apply below_alloc | apply pw_below_drewN | apply below_drew1 | refine below_set ?_ GE113.out) | exact HB.out))⟩; clear HO_3 HO_4 BK113 HB hq_; have HO_3 := n0_; have HO_4 := n1_; have BK113 := n2_; have HB := n3_; clear n0_ n1_ n2_ n3_))) | ((with_reducible refine gate_dst (N := 7) rfl ?_); (try (refine gate_guard (by rfl) ?_; dsimp only)); refine box_event ?hg (N := 7) ?hd (cs := #[.int .i64 0, .string (⟨#[]⟩ : ByteArray), .int .i64 0]) (t := 32) ?hr ?_; (case hd => rfl); (case hg => rfl); (case hr => first | (go_simp; done) | (go_simp; rfl)); intro gb120 hg w26 hbox hb; have n0_ := Aside0.mk (Kd.R_below (by (with_reducible repeat (first | apply Kd.R_alloc | apply Kd.R_drewN | apply Kd.R_drew)); exact HO_3.out) hb); have n1_ := Aside0.mk (Kd.R_below (by (with_reducible repeat (first | apply Kd.R_alloc | apply Kd.R_drewN | apply Kd.R_drew)); exact HO_4.out) hb); have n2_ := Aside0.mk (blk_below (g := gb113) (o := .cells #[.int .i64 x114000_1, .int .i64 x114001_1, .slice none 0 0] 24 (0, 0)) (by (with_reducible repeat (first | refine blk_drewN ?_ _ | refine blk_drew ?_ | refine blk_alloc ?_ _)); exact BK113.out) hb); have n3_ := Aside0.mk (below_step (by repeat (first | (with_reducible first | exact HB.out | apply below_alloc | apply pw_below_drewN | apply below_drew1 | refine below_set ?_ GE113.out) | exact HB.out)) hb); have n4_ := Aside0.mk (hbox); have n5_ := Aside0.mk ((by rw [hg]; exact (below_size (by repeat (first | (with_reducible first | exact HB.out | apply below_alloc | apply pw_below_drewN | apply below_drew1 | refine below_set ?_ GE113.out) | exact HB.out))) : w.heap.size ≤ gb120)); have n6_ := Aside0.mk ((by rw [hg]; exact (below_size (by repeat (first | (with_reducible first | exact HB.out | apply below_alloc | apply pw_below_drewN | apply below_drew1 | refine below_set ?_ GE113.out) | exact HB.out))) : w.heap.size ≤ gb120)); have n7_ := Aside0.mk ((by rw [hg]; exact Nat.ne_of_lt (blk_lt (g := gb113) (o := .cells #[.int .i64 x114000_1, .int .i64 x114001_1, .slice none 0 0] 24 (0, 0)) (by (with_reducible repeat (first | refine blk_drewN ?_ _ | refine blk_drew ?_ | refine blk_alloc ?_ _)); exact BK113.out)) : gb113 ≠ gb120)); have n8_ := Aside0.mk ((by rw [hg]; exact Nat.ne_of_gt (blk_lt (g := gb113) (o := .cells #[.int .i64 x114000_1, .int .i64 x114001_1, .slice none 0 0] 24 (0, 0)) (by (with_reducible repeat (first | refine blk_drewN ?_ _ | refine blk_drew ?_ | refine blk_alloc ?_ _)); exact BK113.out)) : gb120 ≠ gb113)); clear HO_3; clear HO_4; clear BK113; clear HB; have HO_3 := n0_; have HO_4 := n1_; have BK113 := n2_; have HB := n3_; have BK120 := n4_; have GW120 := n5_; have GE120 := n6_; have NB113_120 := n7_; have NB120_113 := n8_; clear n0_ n1_ n2_ n3_ n4_ n5_ n6_ n7_ n8_; clear hb hbox hg; have hnb27 := NB120_113.out; have hnc27 := NB113_120.out; have hcz28_0 : w26.cell? ⟨gb120, 0, none⟩ = some (.int .i64 0) := (blk_cell BK120.out 0).trans rfl; have hcz28_1 : w26.cell? ⟨gb120, 1, none⟩ = some (.string (⟨#[]⟩ : ByteArray)) := (blk_cell BK120.out 1).trans rfl; have hcz28_2 : w26.cell? ⟨gb120, 2, none⟩ = some (.int .i64 0) := (blk_cell BK120.out 2).trans rfl; have hfz28_0 := blk_frozen BK120.out 0; have hfz28_1 := blk_frozen BK120.out 1; have hfz28_2 := blk_frozen BK120.out 2))
                  (try simp only [Act.put, List.setIfInBounds_toArray, List.set_cons_zero, List.set_cons_succ])
                  go_cut [] (fun wc => ∃ (kq : Nat) (x114000_24 : Int) (x114001_24 : Int) (x121000_24 : Int) (x121001_24 : ByteArray) (x121002_24 : Int), Aside0 (spec_ReadTree.j2 kq a0 x3_1 x4_1 x5_1 (bt a0 x5_1) x121000_24 x121001_24 x121002_24 = some (r1, r2, r3)) ∧ Aside0 (kq ≤ k1) ∧ Aside0 (Kd.R k35 35 wc w.heap.size (fun _ => True) u3 x3_1) ∧ Aside0 (Kd.R (Kd.int .i64) 3 wc w.heap.size (fun _ => True) u4 x4_1) ∧ Aside0 (wc.heap[gb113]? = some (.cells #[.int .i64 x114000_24, .int .i64 x114001_24, (.slice none 0 0)] 24 (0, 0))) ∧ Aside0 (wc.heap[gb120]? = some (.cells #[.int .i64 x121000_24, .string x121001_24, .int .i64 x121002_24] 32 (0, 0))) ∧ Aside0 (Below w.heap.size w wc))
                  case first =>
                    have H := HC25.out
                    clear HC25
                    by_cases c29 : (bt a0 x5_1) = 40
                    · rw [if_pos c29] at H
                      have c29b0 : ((bt a0 x5_1) == 40) = true := beq_iff_eq.mpr c29
                      have c29b1 : ((bt a0 x5_1) != 40) = false := bne_eq_false_iff_eq.mpr c29
                      clear c29
                      (first | rw [c29b0] | (simp only [i64_w, i32_w]; rw [c29b0]) | skip)
                      have H' := Aside0.mk H
                      clear H
                      go_wp2
                      go_meet
                      case rel => exact ⟨_, (x114000_1), (x114001_1), (1), ((⟨#[]⟩ : ByteArray)), (wrap64 (x5_1 + 1)), H', ⟨by have := HK1.out; first | omega | exact Nat.le_refl _⟩, ⟨by (with_reducible repeat (first | apply Kd.R_alloc | apply Kd.R_drewN | apply Kd.R_drew)); exact Kd.R_mono (Kd.R_far (p := ⟨gb120, 2, none⟩) (Kd.R_far (p := ⟨gb120, 1, none⟩) (Kd.R_far (p := ⟨gb120, 0, none⟩) (Kd.R_types HO_3.out BK120.out (by decide)) (fun _ hk => hk.2) (.int .i64 1)) (fun _ hk => hk.2) (.string (⟨#[]⟩ : ByteArray))) (fun _ hk => hk.2) (.int .i64 (wrap64 (x5_1 + 1)))) (fun _ hk => trivial)⟩, ⟨by (with_reducible repeat (first | apply Kd.R_alloc | apply Kd.R_drewN | apply Kd.R_drew)); exact Kd.R_mono (Kd.R_far (p := ⟨gb120, 2, none⟩) (Kd.R_far (p := ⟨gb120, 1, none⟩) (Kd.R_far (p := ⟨gb120, 0, none⟩) (Kd.R_types HO_4.out BK120.out (by decide)) (fun _ hk => hk.2) (.int .i64 1)) (fun _ hk => hk.2) (.string (⟨#[]⟩ : ByteArray))) (fun _ hk => hk.2) (.int .i64 (wrap64 (x5_1 + 1)))) (fun _ hk => trivial)⟩, ⟨by (with_reducible repeat (first | refine blk_drewN ?_ _ | refine blk_drew ?_ | refine blk_alloc ?_ _)); refine blk_far ?_ NB113_120.out _; (with_reducible repeat (first | refine blk_drewN ?_ _ | refine blk_drew ?_ | refine blk_alloc ?_ _)); refine blk_far ?_ NB113_120.out _; (with_reducible repeat (first | refine blk_drewN ?_ _ | refine blk_drew ?_ | refine blk_alloc ?_ _)); refine blk_far ?_ NB113_120.out _; (with_reducible repeat (first | refine blk_drewN ?_ _ | refine blk_drew ?_ | refine blk_alloc ?_ _)); exact BK113.out⟩, ⟨by (with_reducible repeat (first | refine blk_drewN ?_ _ | refine blk_drew ?_ | refine blk_alloc ?_ _)); refine blk_put (cs := #[.int .i64 1, .string (⟨#[]⟩ : ByteArray), .int .i64 0]) ?_ 2 _ rfl; (with_reducible repeat (first | refine blk_drewN ?_ _ | refine blk_drew ?_ | refine blk_alloc ?_ _)); refine blk_put (cs := #[.int .i64 1, .string (⟨#[]⟩ : ByteArray), .int .i64 0]) ?_ 1 _ rfl; (with_reducible repeat (first | refine blk_drewN ?_ _ | refine blk_drew ?_ | refine blk_alloc ?_ _)); refine blk_put (cs := #[.int .i64 0, .string (⟨#[]⟩ : ByteArray), .int .i64 0]) ?_ 0 _ rfl; (with_reducible repeat (first | refine blk_drewN ?_ _ | refine blk_drew ?_ | refine blk_alloc ?_ _)); exact BK120.out⟩, ⟨by repeat (first | (with_reducible first | exact HB.out | apply below_alloc | apply pw_below_drewN | apply below_drew1 | refine below_set ?_ GE113.out | refine below_set ?_ GE120.out) | exact HB.out)⟩⟩
                    · rw [if_neg c29] at H
                      have c29b0 : ((bt a0 x5_1) == 40) = false := beq_eq_false_iff_ne.mpr c29
                      have c29b1 : ((bt a0 x5_1) != 40) = true := bne_iff_ne.mpr c29
                      (first | rw [c29b0] | (simp only [i64_w, i32_w]; rw [c29b0]) | skip)
                      replace H := Option.bind_eq_some_iff.mp H
                      obtain ⟨⟨t121, t122, t123⟩, A300, H⟩ := H
                      replace H : (if t121 = 0 then (some (2, x5_1, ([] : List (S35)))) else (spec_ReadTree.j2 k1 a0 x3_1 x4_1 x5_1 (bt a0 x5_1) t121 t122 t123)) = some (r1, r2, r3) := H
                      have A30 := Aside0.mk A300
                      clear A300
                      by_cases c31 : t121 = 0
                      · rw [if_pos c31] at H
                        have c31b0 : (t121 == 0) = true := beq_iff_eq.mpr c31
                        have c31b1 : (t121 != 0) = false := bne_eq_false_iff_eq.mpr c31
                        clear c31
                        simp only [Option.some.injEq, Prod.mk.injEq] at H
                        obtain ⟨rfl, rfl, rfl⟩ := H
                        go_wp2_with (first | ((with_reducible refine gate_callee (f := 10) rfl ?_); refine goesL_ (some 58) rfl rfl Try.func10 (by kernel_rfl) rfl #[.string a0, .int .i64 x5_1] rfl (by (try simp only [List.map_toArray, List.map_cons, List.map_nil]); first | done | rfl | (simp only [List.length_drop, List.length_take]; rfl)) ?_; (with_reducible refine (spec_l3Token.calls a0 x5_1 t121 t122 t123 _ A30.out).mono ?_); rintro e w32 ⟨rfl, hb⟩; refine ⟨_, rfl, ?_⟩; have n0_ := Aside0.mk (Kd.R_below (by (with_reducible repeat (first | apply Kd.R_alloc | apply Kd.R_drewN | apply Kd.R_drew)); exact (Kd.R_mono (Kd.R_far (p := ⟨gb120, 2, none⟩) (Kd.R_far (p := ⟨gb120, 1, none⟩) (Kd.R_far (p := ⟨gb120, 0, none⟩) (Kd.R_types HO_3.out BK120.out (by decide)) (fun _ hk => hk.2) (.int .i64 1)) (fun _ hk => hk.2) (.string (⟨#[]⟩ : ByteArray))) (fun _ hk => hk.2) (.int .i64 (wrap64 (x5_1 + 1)))) (fun _ h_ => h_.1))) hb); have n1_ := Aside0.mk (Kd.R_below (by (with_reducible repeat (first | apply Kd.R_alloc | apply Kd.R_drewN | apply Kd.R_drew)); exact (Kd.R_mono (Kd.R_far (p := ⟨gb120, 2, none⟩) (Kd.R_far (p := ⟨gb120, 1, none⟩) (Kd.R_far (p := ⟨gb120, 0, none⟩) (Kd.R_types HO_4.out BK120.out (by decide)) (fun _ hk => hk.2) (.int .i64 1)) (fun _ hk => hk.2) (.string (⟨#[]⟩ : ByteArray))) (fun _ hk => hk.2) (.int .i64 (wrap64 (x5_1 + 1)))) (fun _ h_ => h_.1))) hb); have n2_ := Aside0.mk (blk_below (g := gb113) (o := .cells #[.int .i64 x114000_1, .int .i64 x114001_1, .slice none 0 0] 24 (0, 0)) (by (with_reducible repeat (first | refine blk_drewN ?_ _ | refine blk_drew ?_ | refine blk_alloc ?_ _)); refine blk_far ?_ NB113_120.out _; (with_reducible repeat (first | refine blk_drewN ?_ _ | refine blk_drew ?_ | refine blk_alloc ?_ _)); refine blk_far ?_ NB113_120.out _; (with_reducible repeat (first | refine blk_drewN ?_ _ | refine blk_drew ?_ | refine blk_alloc ?_ _)); refine blk_far ?_ NB113_120.out _; (with_reducible repeat (first | refine blk_drewN ?_ _ | refine blk_drew ?_ | refine blk_alloc ?_ _)); exact BK113.out) hb); have n3_ := Aside0.mk (blk_below (g := gb120) (o := .cells #[.int .i64 1, .string (⟨#[]⟩ : ByteArray), .int .i64 (wrap64 (x5_1 + 1))] 32 (0, 0)) (by (with_reducible repeat (first | refine blk_drewN ?_ _ | refine blk_drew ?_ | refine blk_alloc ?_ _)); refine blk_put (cs := #[.int .i64 1, .string (⟨#[]⟩ : ByteArray), .int .i64 0]) ?_ 2 _ rfl; (with_reducible repeat (first | refine blk_drewN ?_ _ | refine blk_drew ?_ | refine blk_alloc ?_ _)); refine blk_put (cs := #[.int .i64 1, .string (⟨#[]⟩ : ByteArray), .int .i64 0]) ?_ 1 _ rfl; (with_reducible repeat (first | refine blk_drewN ?_ _ | refine blk_drew ?_ | refine blk_alloc ?_ _)); refine blk_put (cs := #[.int .i64 0, .string (⟨#[]⟩ : ByteArray), .int .i64 0]) ?_ 0 _ rfl; (with_reducible repeat (first | refine blk_drewN ?_ _ | refine blk_drew ?_ | refine blk_alloc ?_ _)); exact BK120.out) hb); have n4_ := Aside0.mk (below_step (by repeat (first | (with_reducible first | exact HB.out | apply below_alloc | apply pw_below_drewN | apply below_drew1 | refine below_set ?_ GE113.out | refine below_set ?_ GE120.out) | exact HB.out)) hb); clear HO_3; clear HO_4; clear BK113; clear BK120; clear HB; have HO_3 := n0_; have HO_4 := n1_; have BK113 := n2_; have BK120 := n3_; have HB := n4_; clear n0_ n1_ n2_ n3_ n4_; (try clear hb); (try clear hb2); (try clear hk); (try clear hi); have hnb33 := NB120_113.out; have hnc33 := NB113_120.out; have hcz34_0 : w32.cell? ⟨gb120, 0, none⟩ = some (.int .i64 1) := (blk_cell BK120.out 0).trans rfl; have hcz34_1 : w32.cell? ⟨gb120, 1, none⟩ = some (.string (⟨#[]⟩ : ByteArray)) := (blk_cell BK120.out 1).trans rfl; have hcz34_2 : w32.cell? ⟨gb120, 2, none⟩ = some (.int .i64 (wrap64 (x5_1 + 1))) := (blk_cell BK120.out 2).trans rfl; have hfz34_0 := blk_frozen BK120.out 0; have hfz34_1 := blk_frozen BK120.out 1; have hfz34_2 := blk_frozen BK120.out 2; have hcz35_0 : w32.cell? ⟨gb113, 0, none⟩ = some (.int .i64 x114000_1) := (blk_cell BK113.out 0).trans rfl; have hcz35_1 : w32.cell? ⟨gb113, 1, none⟩ = some (.int .i64 x114001_1) := (blk_cell BK113.out 1).trans rfl; have hcz35_2 : w32.cell? ⟨gb113, 2, none⟩ = some (.slice none 0 0) := (blk_cell BK113.out 2).trans rfl; have hfz35_0 := blk_frozen BK113.out 0; have hfz35_1 := blk_frozen BK113.out 1; have hfz35_2 := blk_frozen BK113.out 2))
                        refine bodyPost_ret (results_cell_row rfl _ _ gb113 24 #[.int .i64 2, .int .i64 x5_1, .slice none 0 0] (0, 0) _ rfl (by (with_reducible repeat (first | refine blk_drewN ?_ _ | refine blk_drew ?_ | refine blk_alloc ?_ _)); refine blk_put (cs := #[.int .i64 2, .int .i64 x5_1, .slice none 0 0]) ?_ 2 _ rfl; (with_reducible repeat (first | refine blk_drewN ?_ _ | refine blk_drew ?_ | refine blk_alloc ?_ _)); refine blk_put (cs := #[.int .i64 2, .int .i64 x114001_1, .slice none 0 0]) ?_ 1 _ rfl; (with_reducible repeat (first | refine blk_drewN ?_ _ | refine blk_drew ?_ | refine blk_alloc ?_ _)); refine blk_put (cs := #[.int .i64 x114000_1, .int .i64 x114001_1, .slice none 0 0]) ?_ 0 _ rfl; (with_reducible repeat (first | refine blk_drewN ?_ _ | refine blk_drew ?_ | refine blk_alloc ?_ _)); refine blk_far ?_ NB113_120.out _; (with_reducible repeat (first | refine blk_drewN ?_ _ | refine blk_drew ?_ | refine blk_alloc ?_ _)); refine blk_far ?_ NB113_120.out _; (with_reducible repeat (first | refine blk_drewN ?_ _ | refine blk_drew ?_ | refine blk_alloc ?_ _)); refine blk_far ?_ NB113_120.out _; (with_reducible repeat (first | refine blk_drewN ?_ _ | refine blk_drew ?_ | refine blk_alloc ?_ _)); exact BK113.out) Try.underlying24 rfl (by kernel_rfl)) rfl ?_
                        exact ⟨_, by first | rfl | (simp [errW_none, errW_some] <;> rfl) | (simp [*, errW_none, errW_some] <;> rfl), by first | exact Kd.R_nil _ _ _ _ _ | exact Kd.N_nil _ _ _ _ _ | exact Kd.V_nil _ _ _ _ _ | exact Kd.Q_nil _ _ _ _ _ | exact Kd.S_nil _ _ _ _ _, by repeat (first | (with_reducible first | exact HB.out | apply below_alloc | apply pw_below_drewN | apply below_drew1 | refine below_set ?_ GE113.out | refine below_set ?_ GE120.out) | exact HB.out)⟩
                      · rw [if_neg c31] at H
                        have c31b0 : (t121 == 0) = false := beq_eq_false_iff_ne.mpr c31
                        have c31b1 : (t121 != 0) = true := bne_iff_ne.mpr c31
                        have H' := Aside0.mk H
                        clear H
                        go_wp2_with (first | ((with_reducible refine gate_callee (f := 10) rfl ?_); refine goesL_ (some 58) rfl rfl Try.func10 (by kernel_rfl) rfl #[.string a0, .int .i64 x5_1] rfl (by (try simp only [List.map_toArray, List.map_cons, List.map_nil]); first | done | rfl | (simp only [List.length_drop, List.length_take]; rfl)) ?_; (with_reducible refine (spec_l3Token.calls a0 x5_1 t121 t122 t123 _ A30.out).mono ?_); rintro e w36 ⟨rfl, hb⟩; refine ⟨_, rfl, ?_⟩; have n0_ := Aside0.mk (Kd.R_below (by (with_reducible repeat (first | apply Kd.R_alloc | apply Kd.R_drewN | apply Kd.R_drew)); exact (Kd.R_mono (Kd.R_far (p := ⟨gb120, 2, none⟩) (Kd.R_far (p := ⟨gb120, 1, none⟩) (Kd.R_far (p := ⟨gb120, 0, none⟩) (Kd.R_types HO_3.out BK120.out (by decide)) (fun _ hk => hk.2) (.int .i64 1)) (fun _ hk => hk.2) (.string (⟨#[]⟩ : ByteArray))) (fun _ hk => hk.2) (.int .i64 (wrap64 (x5_1 + 1)))) (fun _ h_ => h_.1))) hb); have n1_ := Aside0.mk (Kd.R_below (by (with_reducible repeat (first | apply Kd.R_alloc | apply Kd.R_drewN | apply Kd.R_drew)); exact (Kd.R_mono (Kd.R_far (p := ⟨gb120, 2, none⟩) (Kd.R_far (p := ⟨gb120, 1, none⟩) (Kd.R_far (p := ⟨gb120, 0, none⟩) (Kd.R_types HO_4.out BK120.out (by decide)) (fun _ hk => hk.2) (.int .i64 1)) (fun _ hk => hk.2) (.string (⟨#[]⟩ : ByteArray))) (fun _ hk => hk.2) (.int .i64 (wrap64 (x5_1 + 1)))) (fun _ h_ => h_.1))) hb); have n2_ := Aside0.mk (blk_below (g := gb113) (o := .cells #[.int .i64 x114000_1, .int .i64 x114001_1, .slice none 0 0] 24 (0, 0)) (by (with_reducible repeat (first | refine blk_drewN ?_ _ | refine blk_drew ?_ | refine blk_alloc ?_ _)); refine blk_far ?_ NB113_120.out _; (with_reducible repeat (first | refine blk_drewN ?_ _ | refine blk_drew ?_ | refine blk_alloc ?_ _)); refine blk_far ?_ NB113_120.out _; (with_reducible repeat (first | refine blk_drewN ?_ _ | refine blk_drew ?_ | refine blk_alloc ?_ _)); refine blk_far ?_ NB113_120.out _; (with_reducible repeat (first | refine blk_drewN ?_ _ | refine blk_drew ?_ | refine blk_alloc ?_ _)); exact BK113.out) hb); have n3_ := Aside0.mk (blk_below (g := gb120) (o := .cells #[.int .i64 1, .string (⟨#[]⟩ : ByteArray), .int .i64 (wrap64 (x5_1 + 1))] 32 (0, 0)) (by (with_reducible repeat (first | refine blk_drewN ?_ _ | refine blk_drew ?_ | refine blk_alloc ?_ _)); refine blk_put (cs := #[.int .i64 1, .string (⟨#[]⟩ : ByteArray), .int .i64 0]) ?_ 2 _ rfl; (with_reducible repeat (first | refine blk_drewN ?_ _ | refine blk_drew ?_ | refine blk_alloc ?_ _)); refine blk_put (cs := #[.int .i64 1, .string (⟨#[]⟩ : ByteArray), .int .i64 0]) ?_ 1 _ rfl; (with_reducible repeat (first | refine blk_drewN ?_ _ | refine blk_drew ?_ | refine blk_alloc ?_ _)); refine blk_put (cs := #[.int .i64 0, .string (⟨#[]⟩ : ByteArray), .int .i64 0]) ?_ 0 _ rfl; (with_reducible repeat (first | refine blk_drewN ?_ _ | refine blk_drew ?_ | refine blk_alloc ?_ _)); exact BK120.out) hb); have n4_ := Aside0.mk (below_step (by repeat (first | (with_reducible first | exact HB.out | apply below_alloc | apply pw_below_drewN | apply below_drew1 | refine below_set ?_ GE113.out | refine below_set ?_ GE120.out) | exact HB.out)) hb); clear HO_3; clear HO_4; clear BK113; clear BK120; clear HB; have HO_3 := n0_; have HO_4 := n1_; have BK113 := n2_; have BK120 := n3_; have HB := n4_; clear n0_ n1_ n2_ n3_ n4_; (try clear hb); (try clear hb2); (try clear hk); (try clear hi); have hnb37 := NB120_113.out; have hnc37 := NB113_120.out; have hcz38_0 : w36.cell? ⟨gb120, 0, none⟩ = some (.int .i64 1) := (blk_cell BK120.out 0).trans rfl; have hcz38_1 : w36.cell? ⟨gb120, 1, none⟩ = some (.string (⟨#[]⟩ : ByteArray)) := (blk_cell BK120.out 1).trans rfl; have hcz38_2 : w36.cell? ⟨gb120, 2, none⟩ = some (.int .i64 (wrap64 (x5_1 + 1))) := (blk_cell BK120.out 2).trans rfl; have hfz38_0 := blk_frozen BK120.out 0; have hfz38_1 := blk_frozen BK120.out 1; have hfz38_2 := blk_frozen BK120.out 2))
                        go_meet
                        case rel => exact ⟨_, (x114000_1), (x114001_1), (t121), (t122), (t123), H', ⟨by have := HK1.out; first | omega | exact Nat.le_refl _⟩, ⟨by (with_reducible repeat (first | apply Kd.R_alloc | apply Kd.R_drewN | apply Kd.R_drew)); exact Kd.R_mono (Kd.R_far (p := ⟨gb120, 2, none⟩) (Kd.R_far (p := ⟨gb120, 1, none⟩) (Kd.R_far (p := ⟨gb120, 0, none⟩) (Kd.R_types HO_3.out BK120.out (by decide)) (fun _ hk => hk.2) (.int .i64 t121)) (fun _ hk => hk.2) (.string t122)) (fun _ hk => hk.2) (.int .i64 t123)) (fun _ hk => trivial)⟩, ⟨by (with_reducible repeat (first | apply Kd.R_alloc | apply Kd.R_drewN | apply Kd.R_drew)); exact Kd.R_mono (Kd.R_far (p := ⟨gb120, 2, none⟩) (Kd.R_far (p := ⟨gb120, 1, none⟩) (Kd.R_far (p := ⟨gb120, 0, none⟩) (Kd.R_types HO_4.out BK120.out (by decide)) (fun _ hk => hk.2) (.int .i64 t121)) (fun _ hk => hk.2) (.string t122)) (fun _ hk => hk.2) (.int .i64 t123)) (fun _ hk => trivial)⟩, ⟨by (with_reducible repeat (first | refine blk_drewN ?_ _ | refine blk_drew ?_ | refine blk_alloc ?_ _)); refine blk_far ?_ NB113_120.out _; (with_reducible repeat (first | refine blk_drewN ?_ _ | refine blk_drew ?_ | refine blk_alloc ?_ _)); refine blk_far ?_ NB113_120.out _; (with_reducible repeat (first | refine blk_drewN ?_ _ | refine blk_drew ?_ | refine blk_alloc ?_ _)); refine blk_far ?_ NB113_120.out _; (with_reducible repeat (first | refine blk_drewN ?_ _ | refine blk_drew ?_ | refine blk_alloc ?_ _)); exact BK113.out⟩, ⟨by (with_reducible repeat (first | refine blk_drewN ?_ _ | refine blk_drew ?_ | refine blk_alloc ?_ _)); refine blk_put (cs := #[.int .i64 t121, .string t122, .int .i64 (wrap64 (x5_1 + 1))]) ?_ 2 _ rfl; (with_reducible repeat (first | refine blk_drewN ?_ _ | refine blk_drew ?_ | refine blk_alloc ?_ _)); refine blk_put (cs := #[.int .i64 t121, .string (⟨#[]⟩ : ByteArray), .int .i64 (wrap64 (x5_1 + 1))]) ?_ 1 _ rfl; (with_reducible repeat (first | refine blk_drewN ?_ _ | refine blk_drew ?_ | refine blk_alloc ?_ _)); refine blk_put (cs := #[.int .i64 1, .string (⟨#[]⟩ : ByteArray), .int .i64 (wrap64 (x5_1 + 1))]) ?_ 0 _ rfl; (with_reducible repeat (first | refine blk_drewN ?_ _ | refine blk_drew ?_ | refine blk_alloc ?_ _)); exact BK120.out⟩, ⟨by repeat (first | (with_reducible first | exact HB.out | apply below_alloc | apply pw_below_drewN | apply below_drew1 | refine below_set ?_ GE113.out | refine below_set ?_ GE120.out) | exact HB.out)⟩⟩
                  case rest =>
                    clear HC25
                    try clear c1
                    try clear p1
                    try clear q1
                    try clear hx1
                    try clear c2
                    try clear c2b0
                    try clear c2b1
                    try clear p2
                    try clear q2
                    try clear c3
                    try clear c4
                    try clear c6
                    try clear c6b0
                    try clear p6
                    try clear c7
                    try clear c7b0
                    try clear p8
                    try clear q8
                    try clear hx8
                    try clear c9
                    try clear c10
                    try clear c11
                    try clear c11b0
                    try clear c11b1
                    try clear c12
                    try clear c12b0
                    try clear c13
                    try clear c13b0
                    try clear p14
                    try clear q14
                    try clear hx14
                    try clear c15
                    try clear c15b0
                    try clear c15b1
                    try clear c16
                    try clear c16b0
                    try clear c16b1
                    try clear c17
                    try clear c17b0
                    try clear c17b1
                    try clear c17b2
                    try clear c21
                    try clear c21b0
                    try clear c21b1
                    try clear c22
                    try clear c22b0
                    try clear c22b1
                    try clear q24
                    try clear c27
                    try clear c29
                    try clear c29b0
                    try clear c29b1
                    try clear c31
                    try clear c31b0
                    try clear c31b1
                    try clear c33
                    try clear c37
                    try clear hcz19_0
                    try clear hcz19_1
                    try clear hcz19_2
                    try clear hcz28_0
                    try clear hcz28_1
                    try clear hcz28_2
                    try clear hcz34_0
                    try clear hcz34_1
                    try clear hcz34_2
                    try clear hcz35_0
                    try clear hcz35_1
                    try clear hcz35_2
                    try clear hcz38_0
                    try clear hcz38_1
                    try clear hcz38_2
                    try clear hcz4_0
                    try clear hcz4_1
                    try clear hcz4_2
                    try clear hfz19_0
                    try clear hfz19_1
                    try clear hfz19_2
                    try clear hfz28_0
                    try clear hfz28_1
                    try clear hfz28_2
                    try clear hfz34_0
                    try clear hfz34_1
                    try clear hfz34_2
                    try clear hfz35_0
                    try clear hfz35_1
                    try clear hfz35_2
                    try clear hfz38_0
                    try clear hfz38_1
                    try clear hfz38_2
                    try clear hfz4_0
                    try clear hfz4_1
                    try clear hfz4_2
                    try clear p14
                    try clear p2
                    try clear p6
                    try clear p8
                    try clear q14
                    try clear q24
                    try clear q8
                    obtain ⟨kq, x114000_24, x114001_24, x121000_24, x121001_24, x121002_24, HA, HJ24, HO_3, HO_4, BK113, BK120, HB⟩ := hcut
                    cases kq with
                    | zero => exact absurd HA.out (by simp [spec_ReadTree.j2])
                    | succ kj24 =>
                      have H := HA.out
                      clear HA
                      simp only [spec_ReadTree.j2] at H
                      by_cases c39 : (x3_1.length : Int) = 8000
                      · rw [if_pos c39] at H
                        have c39b0 : ((x3_1.length : Int) == 8000) = true := beq_iff_eq.mpr c39
                        have c39b1 : ((x3_1.length : Int) != 8000) = false := bne_eq_false_iff_eq.mpr c39
                        clear c39
                        simp only [Option.some.injEq, Prod.mk.injEq] at H
                        obtain ⟨rfl, rfl, rfl⟩ := H
                        obtain ⟨Ao40, co40, eo40⟩ := Kd.R_slice HO_3.out
                        subst eo40
                        have hnb41 := NB113_120.out
                        have hnc41 := NB120_113.out
                        have hcz42_0 : wc.cell? ⟨gb113, 0, none⟩ = some (.int .i64 x114000_24) := (blk_cell BK113.out 0).trans rfl
                        have hcz42_1 : wc.cell? ⟨gb113, 1, none⟩ = some (.int .i64 x114001_24) := (blk_cell BK113.out 1).trans rfl
                        have hcz42_2 : wc.cell? ⟨gb113, 2, none⟩ = some (.slice none 0 0) := (blk_cell BK113.out 2).trans rfl
                        have hfz42_0 := blk_frozen BK113.out 0
                        have hfz42_1 := blk_frozen BK113.out 1
                        have hfz42_2 := blk_frozen BK113.out 2
                        go_wp2
                        refine bodyPost_ret (results_cell_row rfl _ _ gb113 24 #[.int .i64 5, .int .i64 x5_1, .slice none 0 0] (0, 0) _ rfl (by (with_reducible repeat (first | refine blk_drewN ?_ _ | refine blk_drew ?_ | refine blk_alloc ?_ _)); refine blk_put (cs := #[.int .i64 5, .int .i64 x5_1, .slice none 0 0]) ?_ 2 _ rfl; (with_reducible repeat (first | refine blk_drewN ?_ _ | refine blk_drew ?_ | refine blk_alloc ?_ _)); refine blk_put (cs := #[.int .i64 5, .int .i64 x114001_24, .slice none 0 0]) ?_ 1 _ rfl; (with_reducible repeat (first | refine blk_drewN ?_ _ | refine blk_drew ?_ | refine blk_alloc ?_ _)); refine blk_put (cs := #[.int .i64 x114000_24, .int .i64 x114001_24, .slice none 0 0]) ?_ 0 _ rfl; (with_reducible repeat (first | refine blk_drewN ?_ _ | refine blk_drew ?_ | refine blk_alloc ?_ _)); exact BK113.out) Try.underlying24 rfl (by kernel_rfl)) rfl ?_
                        exact ⟨_, by first | rfl | (simp [errW_none, errW_some] <;> rfl) | (simp [*, errW_none, errW_some] <;> rfl), by first | exact Kd.R_nil _ _ _ _ _ | exact Kd.N_nil _ _ _ _ _ | exact Kd.V_nil _ _ _ _ _ | exact Kd.Q_nil _ _ _ _ _ | exact Kd.S_nil _ _ _ _ _, by repeat (first | (with_reducible first | exact HB.out | apply below_alloc | apply pw_below_drewN | apply below_drew1 | refine below_set ?_ GE113.out | refine below_set ?_ GE120.out) | exact HB.out)⟩
                      · rw [if_neg c39] at H
                        have c39b0 : ((x3_1.length : Int) == 8000) = false := beq_eq_false_iff_ne.mpr c39
                        have c39b1 : ((x3_1.length : Int) != 8000) = true := bne_iff_ne.mpr c39
                        have HC43 := Aside0.mk H
                        clear H
                        obtain ⟨Ao44, co44, eo44⟩ := Kd.R_slice HO_3.out
                        subst eo44
                        go_upto_region 25 with (fail)
                        go_cut [75] (fun v75 wc => ∃ (kq : Nat) (x75_42 : Bool), v75 = .bool x75_42 ∧ Aside0 (spec_ReadTree.j3 kq a0 x3_1 x4_1 x5_1 (bt a0 x5_1) x75_42 x121000_24 x121001_24 x121002_24 = some (r1, r2, r3)) ∧ Aside0 (kq ≤ kj24) ∧ Aside0 (Kd.R k35 35 wc w.heap.size (fun _ => True) (.slice Ao44 x3_1.length co44) x3_1) ∧ Aside0 (Kd.R (Kd.int .i64) 3 wc w.heap.size (fun _ => True) u4 x4_1) ∧ Aside0 (wc.heap[gb113]? = some (.cells #[.int .i64 x114000_24, .int .i64 x114001_24, (.slice none 0 0)] 24 (0, 0))) ∧ Aside0 (wc.heap[gb120]? = some (.cells #[.int .i64 x121000_24, .string x121001_24, .int .i64 x121002_24] 32 (0, 0))) ∧ Aside0 (Below w.heap.size w wc))
                        case first =>
                          have H := HC43.out
                          clear HC43
                          by_cases c45 : (bt a0 x5_1) = 40
                          · rw [if_pos c45] at H
                            have c45b0 : ((bt a0 x5_1) == 40) = true := beq_iff_eq.mpr c45
                            have c45b1 : ((bt a0 x5_1) != 40) = false := bne_eq_false_iff_eq.mpr c45
                            clear c45
                            (first | rw [c45b0] | (simp only [i64_w, i32_w]; rw [c45b0]) | skip)
                            have H' := Aside0.mk H
                            clear H
                            obtain ⟨Ao46, co46, eo46⟩ := Kd.R_slice HO_4.out
                            subst eo46
                            go_wp2
                            go_meet
                            case rel => exact ⟨_, (((x4_1.length : Int) == 200)), (by first | rfl | (simp; done) | (simp [*]; done)), H', ⟨by have := HK1.out; have := HJ24.out; first | omega | exact Nat.le_refl _⟩, ⟨by (with_reducible repeat (first | apply Kd.R_alloc | apply Kd.R_drewN | apply Kd.R_drew)); exact HO_3.out⟩, ⟨by (with_reducible repeat (first | apply Kd.R_alloc | apply Kd.R_drewN | apply Kd.R_drew)); exact HO_4.out⟩, ⟨by (with_reducible repeat (first | refine blk_drewN ?_ _ | refine blk_drew ?_ | refine blk_alloc ?_ _)); exact BK113.out⟩, ⟨by (with_reducible repeat (first | refine blk_drewN ?_ _ | refine blk_drew ?_ | refine blk_alloc ?_ _)); exact BK120.out⟩, ⟨by repeat (first | (with_reducible first | exact HB.out | apply below_alloc | apply pw_below_drewN | apply below_drew1 | refine below_set ?_ GE113.out | refine below_set ?_ GE120.out) | exact HB.out)⟩⟩
                          · rw [if_neg c45] at H
                            have c45b0 : ((bt a0 x5_1) == 40) = false := beq_eq_false_iff_ne.mpr c45
                            have c45b1 : ((bt a0 x5_1) != 40) = true := bne_iff_ne.mpr c45
                            (first | rw [c45b0] | (simp only [i64_w, i32_w]; rw [c45b0]) | skip)
                            have H' := Aside0.mk H
                            clear H
                            go_wp2
                            go_meet
                            case rel => exact ⟨_, (false), (by first | rfl | (simp; done) | (simp [*]; done)), H', ⟨by have := HK1.out; have := HJ24.out; first | omega | exact Nat.le_refl _⟩, ⟨by (with_reducible repeat (first | apply Kd.R_alloc | apply Kd.R_drewN | apply Kd.R_drew)); exact HO_3.out⟩, ⟨by (with_reducible repeat (first | apply Kd.R_alloc | apply Kd.R_drewN | apply Kd.R_drew)); exact HO_4.out⟩, ⟨by (with_reducible repeat (first | refine blk_drewN ?_ _ | refine blk_drew ?_ | refine blk_alloc ?_ _)); exact BK113.out⟩, ⟨by (with_reducible repeat (first | refine blk_drewN ?_ _ | refine blk_drew ?_ | refine blk_alloc ?_ _)); exact BK120.out⟩, ⟨by repeat (first | (with_reducible first | exact HB.out | apply below_alloc | apply pw_below_drewN | apply below_drew1 | refine below_set ?_ GE113.out | refine below_set ?_ GE120.out) | exact HB.out)⟩⟩
                        case rest =>
                          clear HC43
                          try clear c1
                          try clear p1
                          try clear q1
                          try clear hx1
                          try clear c2
                          try clear c2b0
                          try clear c2b1
                          try clear p2
                          try clear q2
                          try clear c3
                          try clear c4
                          try clear c6
                          try clear c6b0
                          try clear p6
                          try clear c7
                          try clear c7b0
                          try clear p8
                          try clear q8
                          try clear hx8
                          try clear c9
                          try clear c10
                          try clear c11
                          try clear c11b0
                          try clear c11b1
                          try clear c12
                          try clear c12b0
                          try clear c13
                          try clear c13b0
                          try clear p14
                          try clear q14
                          try clear hx14
                          try clear c15
                          try clear c15b0
                          try clear c15b1
                          try clear c16
                          try clear c16b0
                          try clear c16b1
                          try clear c17
                          try clear c17b0
                          try clear c17b1
                          try clear c17b2
                          try clear c21
                          try clear c21b0
                          try clear c21b1
                          try clear c22
                          try clear c22b0
                          try clear c22b1
                          try clear q24
                          try clear c27
                          try clear c29
                          try clear c29b0
                          try clear c29b1
                          try clear c31
                          try clear c31b0
                          try clear c31b1
                          try clear c33
                          try clear c37
                          try clear c39
                          try clear c39b0
                          try clear c39b1
                          try clear c41
                          try clear c45
                          try clear c45b0
                          try clear c45b1
                          try clear hcz19_0
                          try clear hcz19_1
                          try clear hcz19_2
                          try clear hcz28_0
                          try clear hcz28_1
                          try clear hcz28_2
                          try clear hcz34_0
                          try clear hcz34_1
                          try clear hcz34_2
                          try clear hcz35_0
                          try clear hcz35_1
                          try clear hcz35_2
                          try clear hcz38_0
                          try clear hcz38_1
                          try clear hcz38_2
                          try clear hcz42_0
                          try clear hcz42_1
                          try clear hcz42_2
                          try clear hcz4_0
                          try clear hcz4_1
                          try clear hcz4_2
                          try clear hfz19_0
                          try clear hfz19_1
                          try clear hfz19_2
                          try clear hfz28_0
                          try clear hfz28_1
                          try clear hfz28_2
                          try clear hfz34_0
                          try clear hfz34_1
                          try clear hfz34_2
                          try clear hfz35_0
                          try clear hfz35_1
                          try clear hfz35_2
                          try clear hfz38_0
                          try clear hfz38_1
                          try clear hfz38_2
                          try clear hfz42_0
                          try clear hfz42_1
                          try clear hfz42_2
                          try clear hfz4_0
                          try clear hfz4_1
                          try clear hfz4_2
                          try clear p1
                          try clear p14
                          try clear p2
                          try clear p6
                          try clear p8
                          try clear q1
                          try clear q14
                          try clear q2
                          try clear q24
                          try clear q8
                          obtain ⟨kq, x75_42, rfl, HA, HJ42, HO_3, HO_4, BK113, BK120, HB⟩ := hcut
                          cases kq with
                          | zero => exact absurd HA.out (by simp [spec_ReadTree.j3])
                          | succ kj42 =>
                            have H := HA.out
                            clear HA
                            simp only [spec_ReadTree.j3] at H
                            by_cases c47 : x75_42 = true
                            · subst c47
                              have H1 : (some (6, x5_1, ([] : List (S35)))) = some (r1, r2, r3) := by rw [if_pos rfl] at H; exact H
                              clear H
                              have H := H1
                              clear H1
                              simp only [Option.some.injEq, Prod.mk.injEq] at H
                              obtain ⟨rfl, rfl, rfl⟩ := H
                              have hnb48 := NB113_120.out
                              have hnc48 := NB120_113.out
                              have hcz49_0 : wc.cell? ⟨gb113, 0, none⟩ = some (.int .i64 x114000_24) := (blk_cell BK113.out 0).trans rfl
                              have hcz49_1 : wc.cell? ⟨gb113, 1, none⟩ = some (.int .i64 x114001_24) := (blk_cell BK113.out 1).trans rfl
                              have hcz49_2 : wc.cell? ⟨gb113, 2, none⟩ = some (.slice none 0 0) := (blk_cell BK113.out 2).trans rfl
                              have hfz49_0 := blk_frozen BK113.out 0
                              have hfz49_1 := blk_frozen BK113.out 1
                              have hfz49_2 := blk_frozen BK113.out 2
                              go_wp2
                              refine bodyPost_ret (results_cell_row rfl _ _ gb113 24 #[.int .i64 6, .int .i64 x5_1, .slice none 0 0] (0, 0) _ rfl (by (with_reducible repeat (first | refine blk_drewN ?_ _ | refine blk_drew ?_ | refine blk_alloc ?_ _)); refine blk_put (cs := #[.int .i64 6, .int .i64 x5_1, .slice none 0 0]) ?_ 2 _ rfl; (with_reducible repeat (first | refine blk_drewN ?_ _ | refine blk_drew ?_ | refine blk_alloc ?_ _)); refine blk_put (cs := #[.int .i64 6, .int .i64 x114001_24, .slice none 0 0]) ?_ 1 _ rfl; (with_reducible repeat (first | refine blk_drewN ?_ _ | refine blk_drew ?_ | refine blk_alloc ?_ _)); refine blk_put (cs := #[.int .i64 x114000_24, .int .i64 x114001_24, .slice none 0 0]) ?_ 0 _ rfl; (with_reducible repeat (first | refine blk_drewN ?_ _ | refine blk_drew ?_ | refine blk_alloc ?_ _)); exact BK113.out) Try.underlying24 rfl (by kernel_rfl)) rfl ?_
                              exact ⟨_, by first | rfl | (simp [errW_none, errW_some] <;> rfl) | (simp [*, errW_none, errW_some] <;> rfl), by first | exact Kd.R_nil _ _ _ _ _ | exact Kd.N_nil _ _ _ _ _ | exact Kd.V_nil _ _ _ _ _ | exact Kd.Q_nil _ _ _ _ _ | exact Kd.S_nil _ _ _ _ _, by repeat (first | (with_reducible first | exact HB.out | apply below_alloc | apply pw_below_drewN | apply below_drew1 | refine below_set ?_ GE113.out | refine below_set ?_ GE120.out) | exact HB.out)⟩
                            · replace c47 := Bool.eq_false_iff.mpr c47
                              subst c47
                              have H1 : (if (x4_1.length : Int) > 0 then (if 0 ≤ (wrap64 ((x4_1.length : Int) - 1)) then (if (wrap64 ((x4_1.length : Int) - 1)) < (x4_1.length : Int) then (if 0 ≤ (rd x4_1 (wrap64 ((x4_1.length : Int) - 1))) then (if (rd x4_1 (wrap64 ((x4_1.length : Int) - 1))) < (x3_1.length : Int) then ((some (x3_1.set ((rd x4_1 (wrap64 ((x4_1.length : Int) - 1))) : Int).toNat (⟨(rd_T35 x3_1 (rd x4_1 (wrap64 ((x4_1.length : Int) - 1)))).f0, (rd_T35 x3_1 (rd x4_1 (wrap64 ((x4_1.length : Int) - 1)))).f1, wrap64 (((rd_T35 x3_1 (rd x4_1 (wrap64 ((x4_1.length : Int) - 1)))).f2) + 1), (rd_T35 x3_1 (rd x4_1 (wrap64 ((x4_1.length : Int) - 1)))).f3⟩ : S35) : List (S35))).bind fun y126 => (if y126.length < 3518437208883 then ((some (y126 ++ [(⟨x121000_24, x121001_24, 0, x5_1⟩ : S35)] : List (S35))).bind fun y127 => (if (bt a0 x5_1) = 40 then (if x4_1.length < 17592186044416 then (spec_ReadTree.l0 kj42 a0 y127 (x4_1 ++ [wrap64 ((y127.length : Int) - 1)]) x121002_24) else (none)) else (spec_ReadTree.l0 kj42 a0 y127 x4_1 x121002_24))) else (none))) else (none)) else (none)) else (none)) else (none)) else (if x3_1.length < 3518437208883 then ((some (x3_1 ++ [(⟨x121000_24, x121001_24, 0, x5_1⟩ : S35)] : List (S35))).bind fun y133 => (if (bt a0 x5_1) = 40 then (if x4_1.length < 17592186044416 then (spec_ReadTree.l0 kj42 a0 y133 (x4_1 ++ [wrap64 ((y133.length : Int) - 1)]) x121002_24) else (none)) else (spec_ReadTree.l0 kj42 a0 y133 x4_1 x121002_24))) else (none))) = some (r1, r2, r3) := by rw [if_neg (show ¬ (false = true) by decide)] at H; exact H
                              clear H
                              have H := H1
                              clear H1
                              by_cases c50 : (x4_1.length : Int) > 0
                              · rw [if_pos c50] at H
                                have c50b0 : decide (0 < (x4_1.length : Int)) = true := decide_eq_true c50
                                have c50b1 : decide (0 < x4_1.length) = true := decide_eq_true (by omega)
                                clear c50
                                obtain ⟨ji51, hji51⟩ : ∃ j_ : Int, (wrap64 ((x4_1.length : Int) - 1)) = j_ := ⟨_, rfl⟩
                                replace H : (if 0 ≤ (ji51) then (if (ji51) < (x4_1.length : Int) then (if 0 ≤ (rd x4_1 (ji51)) then (if (rd x4_1 (ji51)) < (x3_1.length : Int) then ((some (x3_1.set ((rd x4_1 (ji51)) : Int).toNat (⟨(rd_T35 x3_1 (rd x4_1 (ji51))).f0, (rd_T35 x3_1 (rd x4_1 (ji51))).f1, wrap64 (((rd_T35 x3_1 (rd x4_1 (ji51))).f2) + 1), (rd_T35 x3_1 (rd x4_1 (ji51))).f3⟩ : S35) : List (S35))).bind fun y126 => (if y126.length < 3518437208883 then ((some (y126 ++ [(⟨x121000_24, x121001_24, 0, x5_1⟩ : S35)] : List (S35))).bind fun y127 => (if (bt a0 x5_1) = 40 then (if x4_1.length < 17592186044416 then (spec_ReadTree.l0 kj42 a0 y127 (x4_1 ++ [wrap64 ((y127.length : Int) - 1)]) x121002_24) else (none)) else (spec_ReadTree.l0 kj42 a0 y127 x4_1 x121002_24))) else (none))) else (none)) else (none)) else (none)) else (none)) = some (r1, r2, r3) := by first | (rw [hji51] at H; exact H) | (simp only [hji51] at H ⊢; exact H)
                                have hji51w : (IntKind.i64.wrap ((x4_1.length : Int) - 1)) = ji51 := (i64_w _).trans hji51
                                by_cases c52 : 0 ≤ (ji51)
                                · rw [if_pos c52] at H
                                  have c52b0 : decide (0 ≤ (ji51)) = true := decide_eq_true c52
                                  clear c52
                                  by_cases c53 : (ji51) < (x4_1.length : Int)
                                  · rw [if_pos c53] at H
                                    have c53b0 : decide ((ji51) < (x4_1.length : Int)) = true := decide_eq_true c53
                                    clear c53
                                    by_cases c54 : 0 ≤ (rd x4_1 (ji51))
                                    · rw [if_pos c54] at H
                                      have c54b0 : decide (0 ≤ (rd x4_1 (ji51))) = true := decide_eq_true c54
                                      clear c54
                                      by_cases c55 : (rd x4_1 (ji51)) < (x3_1.length : Int)
                                      · rw [if_pos c55] at H
                                        have c55b0 : decide ((rd x4_1 (ji51)) < (x3_1.length : Int)) = true := decide_eq_true c55
                                        clear c55
                                        obtain ⟨y126, hy126⟩ : ∃ y_ : List (S35), y_ = (x3_1.set ((rd x4_1 (ji51)) : Int).toNat (⟨(rd_T35 x3_1 (rd x4_1 (ji51))).f0, (rd_T35 x3_1 (rd x4_1 (ji51))).f1, wrap64 (((rd_T35 x3_1 (rd x4_1 (ji51))).f2) + 1), (rd_T35 x3_1 (rd x4_1 (ji51))).f3⟩ : S35)) := ⟨_, rfl⟩
                                        replace H : (if y126.length < 3518437208883 then ((some (y126 ++ [(⟨x121000_24, x121001_24, 0, x5_1⟩ : S35)] : List (S35))).bind fun y127 => (if (bt a0 x5_1) = 40 then (if x4_1.length < 17592186044416 then (spec_ReadTree.l0 kj42 a0 y127 (x4_1 ++ [wrap64 ((y127.length : Int) - 1)]) x121002_24) else (none)) else (spec_ReadTree.l0 kj42 a0 y127 x4_1 x121002_24))) else (none)) = some (r1, r2, r3) := by first | (rw [hy126]; with_reducible exact H) | (have H2_ := (Option.bind_some _ _).symm.trans H; rw [hy126]; with_reducible exact H2_) | (have H2_ := (Option.bind_some _ _).symm.trans H; with_reducible exact H2_) | with_reducible exact H | (rw [hy126]; exact H) | exact H
                                        have Ny126 := Aside0.mk hy126
                                        clear hy126
                                        by_cases c57 : y126.length < 3518437208883
                                        · rw [if_pos c57] at H
                                          have LMc57 := Aside0.mk c57
                                          clear c57
                                          obtain ⟨y127, hy127⟩ : ∃ y_ : List (S35), y_ = (y126 ++ [(⟨x121000_24, x121001_24, 0, x5_1⟩ : S35)]) := ⟨_, rfl⟩
                                          replace H : (if (bt a0 x5_1) = 40 then (if x4_1.length < 17592186044416 then (spec_ReadTree.l0 kj42 a0 y127 (x4_1 ++ [wrap64 ((y127.length : Int) - 1)]) x121002_24) else (none)) else (spec_ReadTree.l0 kj42 a0 y127 x4_1 x121002_24)) = some (r1, r2, r3) := by first | (rw [hy127]; with_reducible exact H) | (have H2_ := (Option.bind_some _ _).symm.trans H; rw [hy127]; with_reducible exact H2_) | (have H2_ := (Option.bind_some _ _).symm.trans H; with_reducible exact H2_) | with_reducible exact H | (rw [hy127]; exact H) | exact H
                                          have Ny127 := Aside0.mk hy127
                                          clear hy127
                                          by_cases c58 : (bt a0 x5_1) = 40
                                          · rw [if_pos c58] at H
                                            have c58b0 : ((bt a0 x5_1) == 40) = true := beq_iff_eq.mpr c58
                                            have c58b1 : ((bt a0 x5_1) != 40) = false := bne_eq_false_iff_eq.mpr c58
                                            clear c58
                                            by_cases c59 : x4_1.length < 17592186044416
                                            · rw [if_pos c59] at H
                                              have LMc59 := Aside0.mk c59
                                              clear c59
                                              obtain ⟨y130, hy130⟩ : ∃ y_ : List Int, y_ = (x4_1 ++ [wrap64 ((y127.length : Int) - 1)]) := ⟨_, rfl⟩
                                              replace H : (spec_ReadTree.l0 kj42 a0 y127 y130 x121002_24) = some (r1, r2, r3) := by first | (rw [hy130]; with_reducible exact H) | (have H2_ := (Option.bind_some _ _).symm.trans H; rw [hy130]; with_reducible exact H2_) | (have H2_ := (Option.bind_some _ _).symm.trans H; with_reducible exact H2_) | with_reducible exact H | (rw [hy130]; exact H) | exact H
                                              have Ny130 := Aside0.mk hy130
                                              clear hy130
                                              have H' := Aside0.mk H
                                              clear H
                                              obtain ⟨Ao60, co60, eo60⟩ := Kd.R_slice HO_4.out
                                              subst eo60
                                              have p124 : 0 ≤ ((ji51) : Int) := of_decide_eq_true (by first | (with_reducible assumption) | assumption)
                                              have q124 : (ji51) < (x4_1.length : Int) := of_decide_eq_true (by first | (with_reducible assumption) | assumption)
                                              obtain ⟨ad124, e124, hx124_0⟩ := Kd.at_int (Kd.R_reads' HO_4.out).2.2 (ji51) p124 q124
                                              cases e124
                                              replace p124 := eq_true p124
                                              replace q124 := eq_true q124
                                              have p125 : 0 ≤ ((rd x4_1 (ji51)) : Int) := of_decide_eq_true (by first | (with_reducible assumption) | assumption)
                                              have q125 : (rd x4_1 (ji51)) < (x3_1.length : Int) := of_decide_eq_true (by first | (with_reducible assumption) | assumption)
                                              obtain ⟨ad125, e125, hx125_0, hx125_1, hx125_2, hx125_3⟩ := at_T35 (Kd.R_reads' HO_3.out).2.2 (rd x4_1 (ji51)) p125 q125
                                              cases e125
                                              replace p125 := eq_true p125
                                              replace q125 := eq_true q125
                                              have p56 : 0 ≤ ((rd x4_1 (ji51)) : Int) := of_decide_eq_true (by first | (with_reducible assumption) | assumption)
                                              have q56 : ((rd x4_1 (ji51)) : Int) < ((x3_1.length : Int) : Int) := of_decide_eq_true (by first | (with_reducible assumption) | assumption)
                                              obtain ⟨go56, co56, eo56, gb56, gl56, cl56, HG56⟩ := Kd.R_form HO_3.out (by omega)
                                              (first | cases eo56 | (injection eo56 with ea_ en_ ec_; (first | subst ea_ | (injection ea_ with ea_; subst ea_)); subst ec_; clear en_))
                                              have GB56 := Aside0.mk gb56
                                              have GG56 := Aside0.mk HG56
                                              clear gb56 gl56 HG56
                                              (first | simp only [add_plain] at hx125_0 | skip)
                                              (first | simp only [add_plain] at hx125_1 | skip)
                                              (first | simp only [add_plain] at hx125_2 | skip)
                                              (first | simp only [add_plain] at hx125_3 | skip)
                                              obtain ⟨ce56, hcl56, hM56, hcc56, hfr56⟩ := Kd.R_elem HO_3.out z35 ((rd x4_1 (ji51)) : Int) p56 q56
                                              obtain rfl := k35_openM hM56
                                              have hx56_0 : wc.cell? ⟨go56, ((rd x4_1 (ji51)) : Int).toNat * 4, none⟩ = some (.int .i64 ((rd_T35 x3_1 (rd x4_1 (ji51))).f0)) := hcc56 0 _ rfl
                                              have hx56_1 : wc.cell? ⟨go56, ((rd x4_1 (ji51)) : Int).toNat * 4 + 1, none⟩ = some (.string ((rd_T35 x3_1 (rd x4_1 (ji51))).f1)) := hcc56 1 _ rfl
                                              have hx56_2 : wc.cell? ⟨go56, ((rd x4_1 (ji51)) : Int).toNat * 4 + 2, none⟩ = some (.int .i64 ((rd_T35 x3_1 (rd x4_1 (ji51))).f2)) := hcc56 2 _ rfl
                                              have hx56_3 : wc.cell? ⟨go56, ((rd x4_1 (ji51)) : Int).toNat * 4 + 3, none⟩ = some (.int .i64 ((rd_T35 x3_1 (rd x4_1 (ji51))).f3)) := hcc56 3 _ rfl
                                              have hf56_0 : wc.frozen? ⟨go56, ((rd x4_1 (ji51)) : Int).toNat * 4, none⟩ = false := hfr56 0
                                              have hf56_1 : wc.frozen? ⟨go56, ((rd x4_1 (ji51)) : Int).toNat * 4 + 1, none⟩ = false := hfr56 1
                                              have hf56_2 : wc.frozen? ⟨go56, ((rd x4_1 (ji51)) : Int).toNat * 4 + 2, none⟩ = false := hfr56 2
                                              have hf56_3 : wc.frozen? ⟨go56, ((rd x4_1 (ji51)) : Int).toNat * 4 + 3, none⟩ = false := hfr56 3
                                              clear hcl56 hcc56 hfr56 hM56
                                              replace p56 := eq_true p56
                                              replace q56 := eq_true q56
                                              have HX61 := Aside0.mk (show Kd.R k35 35 wc w.heap.size (fun _ => True) (.slice (some ⟨go56, 0, none⟩) x3_1.length co44) x3_1 from (by (with_reducible repeat (first | apply Kd.R_alloc | apply Kd.R_drewN | apply Kd.R_drew)); exact HO_3.out))
                                              obtain ⟨ce61, hcl61, hM61, hcc61, hfr61⟩ := Kd.R_elem HX61.out z35 ((rd x4_1 (ji51)) : Int) (of_decide_eq_true (by first | (with_reducible assumption) | assumption)) (by have h_ : ((rd x4_1 (ji51)) : Int) < ((x3_1.length : Int) : Int) := of_decide_eq_true (by first | (with_reducible assumption) | assumption); first | exact h_ | (have e_ := (Kd.R_reads' HO_3.out).1; omega) | simpa using h_)
                                              obtain rfl := k35_openM hM61
                                              have HP61 := Kd.R_seg HX61.out ((rd x4_1 (ji51)) : Int) (of_decide_eq_true (by first | (with_reducible assumption) | assumption)) (by have h_ : ((rd x4_1 (ji51)) : Int) < ((x3_1.length : Int) : Int) := of_decide_eq_true (by first | (with_reducible assumption) | assumption); first | exact h_ | (have e_ := (Kd.R_reads' HO_3.out).1; omega) | simpa using h_) (seg := [.int .i64 (wrap64 (((rd_T35 x3_1 (rd x4_1 (ji51))).f2) + 1))]) (j := 2) hcl61 hcc61 (show 3 ≤ 4 from by decide) (x' := (⟨(rd_T35 x3_1 (rd x4_1 (ji51))).f0, (rd_T35 x3_1 (rd x4_1 (ji51))).f1, wrap64 (((rd_T35 x3_1 (rd x4_1 (ji51))).f2) + 1), (rd_T35 x3_1 (rd x4_1 (ji51))).f3⟩ : S35)) (k35_mkM _ _ _ (⟨(rd_T35 x3_1 (rd x4_1 (ji51))).f0, (rd_T35 x3_1 (rd x4_1 (ji51))).f1, wrap64 (((rd_T35 x3_1 (rd x4_1 (ji51))).f2) + 1), (rd_T35 x3_1 (rd x4_1 (ji51))).f3⟩ : S35) ) (fun _ hk => hk)
                                              have hx61_2 := hcc61 2 _ rfl
                                              (try simp only [show (k35).sz = 4 from rfl, Nat.mul_one, Nat.add_zero] at hx61_2)
                                              have hf61_2 := hfr61 2
                                              (try simp only [show (k35).sz = 4 from rfl, Nat.mul_one, Nat.add_zero] at hf61_2)
                                              clear hcl61 hcc61 hfr61 hM61
                                              go_wp2_with (first | ((with_reducible refine gate_store (t := 3) (p := 93) rfl ?_); refine store_event (t := 3) (p := 93) (v := ?vo_w62) (w1 := (wc.setCell ⟨go56, ((rd x4_1 (ji51)) : Int).toNat * 4 + 2, none⟩ (.int .i64 (wrap64 (((rd_T35 x3_1 (rd x4_1 (ji51))).f2) + 1))))) ?hg ?ho ?hn ?hr ?_; (case ho => rfl); (case hg => rfl); (case hn => rfl); (case hr => first | (go_simp; done) | (go_simp; rfl)); intro w62 hw; have hg : wc.grownBy w62 (some go56) := (by rw [hw]; exact HP61.2); have hp_ : Kd.R k35 35 w62 w.heap.size (fun _ => True) (.slice (some ⟨go56, 0, none⟩) x3_1.length co44) y126 := (by rw [hw, Ny126.out]; exact HP61.1); clear HP61; have n0_ := Aside0.mk (hp_); have n1_ := Aside0.mk (Kd.R_over' (v := (.slice (some ⟨go56, 0, none⟩) x3_1.length co44)) (by (with_reducible repeat (first | apply Kd.R_alloc | apply Kd.R_drewN | apply Kd.R_drew)); exact HO_4.out) (Kd.R_typed HO_3.out) (by decide) hg); have n2_ := Aside0.mk (blk_grown (g := gb113) (o := .cells #[.int .i64 x114000_24, .int .i64 x114001_24, .slice none 0 0] 24 (0, 0)) (by (with_reducible repeat (first | refine blk_drewN ?_ _ | refine blk_drew ?_ | refine blk_alloc ?_ _)); exact BK113.out) hg (Kd.R_ne HO_3.out BK113.out (by decide))); have n3_ := Aside0.mk (blk_grown (g := gb120) (o := .cells #[.int .i64 x121000_24, .string x121001_24, .int .i64 x121002_24] 32 (0, 0)) (by (with_reducible repeat (first | refine blk_drewN ?_ _ | refine blk_drew ?_ | refine blk_alloc ?_ _)); exact BK120.out) hg (Kd.R_ne HO_3.out BK120.out (by decide))); have n4_ := Aside0.mk ((by rw [hw]; exact below_set (HB.out) GB56.out : Below w.heap.size w w62)); clear HO_3; clear HO_4; clear BK113; clear BK120; clear HB; have HO_3 := n0_; have HO_4 := n1_; have BK113 := n2_; have BK120 := n3_; have HB := n4_; clear n0_ n1_ n2_ n3_ n4_; clear hg hw hp_; have hnb63 := NB120_113.out; have hnc63 := NB113_120.out; have hcz64_0 : w62.cell? ⟨gb120, 0, none⟩ = some (.int .i64 x121000_24) := (blk_cell BK120.out 0).trans rfl; have hcz64_1 : w62.cell? ⟨gb120, 1, none⟩ = some (.string x121001_24) := (blk_cell BK120.out 1).trans rfl; have hcz64_2 : w62.cell? ⟨gb120, 2, none⟩ = some (.int .i64 x121002_24) := (blk_cell BK120.out 2).trans rfl; have hfz64_0 := blk_frozen BK120.out 0; have hfz64_1 := blk_frozen BK120.out 1; have hfz64_2 := blk_frozen BK120.out 2) | ((with_reducible refine gate_builtin (b := .append) (xs := #[.tmp 94, .tmp 101]) rfl ?_); (try (refine gate_guard (by rfl) ?_; dsimp only)); at_builtin; refine Kd.R_append k35 (w0 := w) w.heap.size rfl (.tmp 94) (.tmp 101) 22 35 (.agg #[(.int .i64 0), (.string ⟨#[]⟩), (.int .i64 0), (.int .i64 0)]) 40 rfl Try.underlying22 info35 rfl (by decide) (by omega) (.slice (some ⟨go56, 0, none⟩) x3_1.length co44) y126 (⟨x121000_24, x121001_24, 0, x5_1⟩ : S35) [.int .i64 x121000_24, .string x121001_24, .int .i64 0, .int .i64 x5_1] (fun _ => True) (fun _ => False) rfl rfl ?aP (fun _ hk => hk.elim) ?aF ?aO ?aB ?aS ?aL ?_; (case aP => exact k35_mkM _ _ _ (⟨x121000_24, x121001_24, 0, x5_1⟩ : S35)); (case aB => exact (by repeat (first | (with_reducible first | exact HB.out | apply below_alloc | apply pw_below_drewN | apply below_drew1 | refine below_set ?_ GE113.out | refine below_set ?_ GE120.out) | exact HB.out))); (case aF => exact (fun _ _ => trivial)); (case aO => exact (by (with_reducible repeat (first | apply Kd.R_alloc | apply Kd.R_drewN | apply Kd.R_drew)); exact HO_3.out)); (case aS => exact (below_size (by repeat (first | (with_reducible first | exact HB.out | apply below_alloc | apply pw_below_drewN | apply below_drew1 | refine below_set ?_ GE113.out | refine below_set ?_ GE120.out) | exact HB.out)))); (case aL => have := LMc57.out; omega); intro v128 w65 ho hb hg hat; rw [← Ny127.out] at ho; have n0_ := Aside0.mk (Kd.R_over' (by (with_reducible repeat (first | apply Kd.R_alloc | apply Kd.R_drewN | apply Kd.R_drew)); exact HO_4.out) (Kd.R_typed (by (with_reducible repeat (first | apply Kd.R_alloc | apply Kd.R_drewN | apply Kd.R_drew)); exact HO_3.out)) (by decide) hg); have n1_ := Aside0.mk (blk_grown (g := gb113) (o := .cells #[.int .i64 x114000_24, .int .i64 x114001_24, .slice none 0 0] 24 (0, 0)) (by (with_reducible repeat (first | refine blk_drewN ?_ _ | refine blk_drew ?_ | refine blk_alloc ?_ _)); exact BK113.out) hg (Kd.R_ne HO_3.out BK113.out (by decide))); have n2_ := Aside0.mk (blk_grown (g := gb120) (o := .cells #[.int .i64 x121000_24, .string x121001_24, .int .i64 x121002_24] 32 (0, 0)) (by (with_reducible repeat (first | refine blk_drewN ?_ _ | refine blk_drew ?_ | refine blk_alloc ?_ _)); exact BK120.out) hg (Kd.R_ne HO_3.out BK120.out (by decide))); have n3_ := Aside0.mk (hb); have n4_ := Aside0.mk (ho); clear HO_4; clear BK113; clear BK120; clear HB; clear HO_3; have HO_4 := n0_; have BK113 := n1_; have BK120 := n2_; have HB := n3_; have HO129 := n4_; clear n0_ n1_ n2_ n3_ n4_; clear ho hb hg hat; obtain ⟨Ao66, co66, eo66⟩ := Kd.R_slice HO129.out; subst eo66) | ((with_reducible refine gate_builtin (b := .append) (xs := #[.tmp 105, .tmp 109]) rfl ?_); (try (refine gate_guard (by rfl) ?_; dsimp only)); at_builtin; refine Kd.R_append (Kd.int .i64) (w0 := w) w.heap.size rfl (.tmp 105) (.tmp 109) 29 3 (.int .i64 0) 8 rfl Try.underlying29 info3 rfl (by decide) (by omega) (.slice (some ad124) x4_1.length co60) x4_1 (wrap64 ((y127.length : Int) - 1)) [.int .i64 (wrap64 ((y127.length : Int) - 1))] (fun _ => True) (fun _ => False) rfl rfl ?aP (fun _ hk => hk.elim) ?aF ?aO ?aB ?aS ?aL ?_; (case aP => exact rfl); (case aB => exact (by repeat (first | (with_reducible first | exact HB.out | apply below_alloc | apply pw_below_drewN | apply below_drew1 | refine below_set ?_ GE113.out | refine below_set ?_ GE120.out) | exact HB.out))); (case aF => exact (fun _ _ => trivial)); (case aO => exact (by (with_reducible repeat (first | apply Kd.R_alloc | apply Kd.R_drewN | apply Kd.R_drew)); exact HO_4.out)); (case aS => exact (below_size (by repeat (first | (with_reducible first | exact HB.out | apply below_alloc | apply pw_below_drewN | apply below_drew1 | refine below_set ?_ GE113.out | refine below_set ?_ GE120.out) | exact HB.out)))); (case aL => have := LMc59.out; omega); intro v131 w67 ho hb hg hat; rw [← Ny130.out] at ho; have n0_ := Aside0.mk (blk_grown (g := gb113) (o := .cells #[.int .i64 x114000_24, .int .i64 x114001_24, .slice none 0 0] 24 (0, 0)) (by (with_reducible repeat (first | refine blk_drewN ?_ _ | refine blk_drew ?_ | refine blk_alloc ?_ _)); exact BK113.out) hg (Kd.R_ne HO_4.out BK113.out (by decide))); have n1_ := Aside0.mk (blk_grown (g := gb120) (o := .cells #[.int .i64 x121000_24, .string x121001_24, .int .i64 x121002_24] 32 (0, 0)) (by (with_reducible repeat (first | refine blk_drewN ?_ _ | refine blk_drew ?_ | refine blk_alloc ?_ _)); exact BK120.out) hg (Kd.R_ne HO_4.out BK120.out (by decide))); have n2_ := Aside0.mk (Kd.R_over' (by (with_reducible repeat (first | apply Kd.R_alloc | apply Kd.R_drewN | apply Kd.R_drew)); exact HO129.out) (Kd.R_typed (by (with_reducible repeat (first | apply Kd.R_alloc | apply Kd.R_drewN | apply Kd.R_drew)); exact HO_4.out)) (by decide) hg); have n3_ := Aside0.mk (hb); have n4_ := Aside0.mk (ho); clear BK113; clear BK120; clear HO129; clear HB; clear HO_4; have BK113 := n0_; have BK120 := n1_; have HO129 := n2_; have HB := n3_; have HO132 := n4_; clear n0_ n1_ n2_ n3_ n4_; clear ho hb hg hat; have hcz68_0 : w67.cell? ⟨gb120, 0, none⟩ = some (.int .i64 x121000_24) := (blk_cell BK120.out 0).trans rfl; have hcz68_1 : w67.cell? ⟨gb120, 1, none⟩ = some (.string x121001_24) := (blk_cell BK120.out 1).trans rfl; have hcz68_2 : w67.cell? ⟨gb120, 2, none⟩ = some (.int .i64 x121002_24) := (blk_cell BK120.out 2).trans rfl; have hfz68_0 := blk_frozen BK120.out 0; have hfz68_1 := blk_frozen BK120.out 1; have hfz68_2 := blk_frozen BK120.out 2))
                                              go_roundg kj42
                                              case measure => have := HK1.out; have := HJ24.out; have := HJ42.out; omega
                                              case rel => exact ⟨(y127), (y130), (x121002_24), (x114000_24), (x114001_24), (by first | rfl | (simp; done) | (simp [*]; done)), H', ⟨by have := HK1.out; have := HJ24.out; have := HJ42.out; omega⟩, ⟨by (with_reducible repeat (first | apply Kd.R_alloc | apply Kd.R_drewN | apply Kd.R_drew)); exact HO129.out⟩, ⟨by (with_reducible repeat (first | apply Kd.R_alloc | apply Kd.R_drewN | apply Kd.R_drew)); exact HO132.out⟩, ⟨by (with_reducible repeat (first | refine blk_drewN ?_ _ | refine blk_drew ?_ | refine blk_alloc ?_ _)); exact BK113.out⟩, ⟨by repeat (first | (with_reducible first | exact HB.out | apply below_alloc | apply pw_below_drewN | apply below_drew1 | refine below_set ?_ GE113.out | refine below_set ?_ GE120.out) | exact HB.out)⟩⟩
                                            · rw [if_neg c59] at H
                                              exact absurd H (by simp)
                                          · rw [if_neg c58] at H
                                            have c58b0 : ((bt a0 x5_1) == 40) = false := beq_eq_false_iff_ne.mpr c58
                                            have c58b1 : ((bt a0 x5_1) != 40) = true := bne_iff_ne.mpr c58
                                            have H' := Aside0.mk H
                                            clear H
                                            obtain ⟨Ao69, co69, eo69⟩ := Kd.R_slice HO_4.out
                                            subst eo69
                                            have p124 : 0 ≤ ((ji51) : Int) := of_decide_eq_true (by first | (with_reducible assumption) | assumption)
                                            have q124 : (ji51) < (x4_1.length : Int) := of_decide_eq_true (by first | (with_reducible assumption) | assumption)
                                            obtain ⟨ad124, e124, hx124_0⟩ := Kd.at_int (Kd.R_reads' HO_4.out).2.2 (ji51) p124 q124
                                            cases e124
                                            replace p124 := eq_true p124
                                            replace q124 := eq_true q124
                                            have p125 : 0 ≤ ((rd x4_1 (ji51)) : Int) := of_decide_eq_true (by first | (with_reducible assumption) | assumption)
                                            have q125 : (rd x4_1 (ji51)) < (x3_1.length : Int) := of_decide_eq_true (by first | (with_reducible assumption) | assumption)
                                            obtain ⟨ad125, e125, hx125_0, hx125_1, hx125_2, hx125_3⟩ := at_T35 (Kd.R_reads' HO_3.out).2.2 (rd x4_1 (ji51)) p125 q125
                                            cases e125
                                            replace p125 := eq_true p125
                                            replace q125 := eq_true q125
                                            have p56 : 0 ≤ ((rd x4_1 (ji51)) : Int) := of_decide_eq_true (by first | (with_reducible assumption) | assumption)
                                            have q56 : ((rd x4_1 (ji51)) : Int) < ((x3_1.length : Int) : Int) := of_decide_eq_true (by first | (with_reducible assumption) | assumption)
                                            obtain ⟨go56, co56, eo56, gb56, gl56, cl56, HG56⟩ := Kd.R_form HO_3.out (by omega)
                                            (first | cases eo56 | (injection eo56 with ea_ en_ ec_; (first | subst ea_ | (injection ea_ with ea_; subst ea_)); subst ec_; clear en_))
                                            have GB56 := Aside0.mk gb56
                                            have GG56 := Aside0.mk HG56
                                            clear gb56 gl56 HG56
                                            (first | simp only [add_plain] at hx125_0 | skip)
                                            (first | simp only [add_plain] at hx125_1 | skip)
                                            (first | simp only [add_plain] at hx125_2 | skip)
                                            (first | simp only [add_plain] at hx125_3 | skip)
                                            obtain ⟨ce56, hcl56, hM56, hcc56, hfr56⟩ := Kd.R_elem HO_3.out z35 ((rd x4_1 (ji51)) : Int) p56 q56
                                            obtain rfl := k35_openM hM56
                                            have hx56_0 : wc.cell? ⟨go56, ((rd x4_1 (ji51)) : Int).toNat * 4, none⟩ = some (.int .i64 ((rd_T35 x3_1 (rd x4_1 (ji51))).f0)) := hcc56 0 _ rfl
                                            have hx56_1 : wc.cell? ⟨go56, ((rd x4_1 (ji51)) : Int).toNat * 4 + 1, none⟩ = some (.string ((rd_T35 x3_1 (rd x4_1 (ji51))).f1)) := hcc56 1 _ rfl
                                            have hx56_2 : wc.cell? ⟨go56, ((rd x4_1 (ji51)) : Int).toNat * 4 + 2, none⟩ = some (.int .i64 ((rd_T35 x3_1 (rd x4_1 (ji51))).f2)) := hcc56 2 _ rfl
                                            have hx56_3 : wc.cell? ⟨go56, ((rd x4_1 (ji51)) : Int).toNat * 4 + 3, none⟩ = some (.int .i64 ((rd_T35 x3_1 (rd x4_1 (ji51))).f3)) := hcc56 3 _ rfl
                                            have hf56_0 : wc.frozen? ⟨go56, ((rd x4_1 (ji51)) : Int).toNat * 4, none⟩ = false := hfr56 0
                                            have hf56_1 : wc.frozen? ⟨go56, ((rd x4_1 (ji51)) : Int).toNat * 4 + 1, none⟩ = false := hfr56 1
                                            have hf56_2 : wc.frozen? ⟨go56, ((rd x4_1 (ji51)) : Int).toNat * 4 + 2, none⟩ = false := hfr56 2
                                            have hf56_3 : wc.frozen? ⟨go56, ((rd x4_1 (ji51)) : Int).toNat * 4 + 3, none⟩ = false := hfr56 3
                                            clear hcl56 hcc56 hfr56 hM56
                                            replace p56 := eq_true p56
                                            replace q56 := eq_true q56
                                            have HX70 := Aside0.mk (show Kd.R k35 35 wc w.heap.size (fun _ => True) (.slice (some ⟨go56, 0, none⟩) x3_1.length co44) x3_1 from (by (with_reducible repeat (first | apply Kd.R_alloc | apply Kd.R_drewN | apply Kd.R_drew)); exact HO_3.out))
                                            obtain ⟨ce70, hcl70, hM70, hcc70, hfr70⟩ := Kd.R_elem HX70.out z35 ((rd x4_1 (ji51)) : Int) (of_decide_eq_true (by first | (with_reducible assumption) | assumption)) (by have h_ : ((rd x4_1 (ji51)) : Int) < ((x3_1.length : Int) : Int) := of_decide_eq_true (by first | (with_reducible assumption) | assumption); first | exact h_ | (have e_ := (Kd.R_reads' HO_3.out).1; omega) | simpa using h_)
                                            obtain rfl := k35_openM hM70
                                            have HP70 := Kd.R_seg HX70.out ((rd x4_1 (ji51)) : Int) (of_decide_eq_true (by first | (with_reducible assumption) | assumption)) (by have h_ : ((rd x4_1 (ji51)) : Int) < ((x3_1.length : Int) : Int) := of_decide_eq_true (by first | (with_reducible assumption) | assumption); first | exact h_ | (have e_ := (Kd.R_reads' HO_3.out).1; omega) | simpa using h_) (seg := [.int .i64 (wrap64 (((rd_T35 x3_1 (rd x4_1 (ji51))).f2) + 1))]) (j := 2) hcl70 hcc70 (show 3 ≤ 4 from by decide) (x' := (⟨(rd_T35 x3_1 (rd x4_1 (ji51))).f0, (rd_T35 x3_1 (rd x4_1 (ji51))).f1, wrap64 (((rd_T35 x3_1 (rd x4_1 (ji51))).f2) + 1), (rd_T35 x3_1 (rd x4_1 (ji51))).f3⟩ : S35)) (k35_mkM _ _ _ (⟨(rd_T35 x3_1 (rd x4_1 (ji51))).f0, (rd_T35 x3_1 (rd x4_1 (ji51))).f1, wrap64 (((rd_T35 x3_1 (rd x4_1 (ji51))).f2) + 1), (rd_T35 x3_1 (rd x4_1 (ji51))).f3⟩ : S35) ) (fun _ hk => hk)
                                            have hx70_2 := hcc70 2 _ rfl
                                            (try simp only [show (k35).sz = 4 from rfl, Nat.mul_one, Nat.add_zero] at hx70_2)
                                            have hf70_2 := hfr70 2
                                            (try simp only [show (k35).sz = 4 from rfl, Nat.mul_one, Nat.add_zero] at hf70_2)
                                            clear hcl70 hcc70 hfr70 hM70
                                            go_wp2_with (first | ((with_reducible refine gate_store (t := 3) (p := 93) rfl ?_); refine store_event (t := 3) (p := 93) (v := ?vo_w71) (w1 := (wc.setCell ⟨go56, ((rd x4_1 (ji51)) : Int).toNat * 4 + 2, none⟩ (.int .i64 (wrap64 (((rd_T35 x3_1 (rd x4_1 (ji51))).f2) + 1))))) ?hg ?ho ?hn ?hr ?_; (case ho => rfl); (case hg => rfl); (case hn => rfl); (case hr => first | (go_simp; done) | (go_simp; rfl)); intro w71 hw; have hg : wc.grownBy w71 (some go56) := (by rw [hw]; exact HP70.2); have hp_ : Kd.R k35 35 w71 w.heap.size (fun _ => True) (.slice (some ⟨go56, 0, none⟩) x3_1.length co44) y126 := (by rw [hw, Ny126.out]; exact HP70.1); clear HP70; have n0_ := Aside0.mk (hp_); have n1_ := Aside0.mk (Kd.R_over' (v := (.slice (some ⟨go56, 0, none⟩) x3_1.length co44)) (by (with_reducible repeat (first | apply Kd.R_alloc | apply Kd.R_drewN | apply Kd.R_drew)); exact HO_4.out) (Kd.R_typed HO_3.out) (by decide) hg); have n2_ := Aside0.mk (blk_grown (g := gb113) (o := .cells #[.int .i64 x114000_24, .int .i64 x114001_24, .slice none 0 0] 24 (0, 0)) (by (with_reducible repeat (first | refine blk_drewN ?_ _ | refine blk_drew ?_ | refine blk_alloc ?_ _)); exact BK113.out) hg (Kd.R_ne HO_3.out BK113.out (by decide))); have n3_ := Aside0.mk (blk_grown (g := gb120) (o := .cells #[.int .i64 x121000_24, .string x121001_24, .int .i64 x121002_24] 32 (0, 0)) (by (with_reducible repeat (first | refine blk_drewN ?_ _ | refine blk_drew ?_ | refine blk_alloc ?_ _)); exact BK120.out) hg (Kd.R_ne HO_3.out BK120.out (by decide))); have n4_ := Aside0.mk ((by rw [hw]; exact below_set (HB.out) GB56.out : Below w.heap.size w w71)); clear HO_3; clear HO_4; clear BK113; clear BK120; clear HB; have HO_3 := n0_; have HO_4 := n1_; have BK113 := n2_; have BK120 := n3_; have HB := n4_; clear n0_ n1_ n2_ n3_ n4_; clear hg hw hp_; have hnb72 := NB120_113.out; have hnc72 := NB113_120.out; have hcz73_0 : w71.cell? ⟨gb120, 0, none⟩ = some (.int .i64 x121000_24) := (blk_cell BK120.out 0).trans rfl; have hcz73_1 : w71.cell? ⟨gb120, 1, none⟩ = some (.string x121001_24) := (blk_cell BK120.out 1).trans rfl; have hcz73_2 : w71.cell? ⟨gb120, 2, none⟩ = some (.int .i64 x121002_24) := (blk_cell BK120.out 2).trans rfl; have hfz73_0 := blk_frozen BK120.out 0; have hfz73_1 := blk_frozen BK120.out 1; have hfz73_2 := blk_frozen BK120.out 2) | ((with_reducible refine gate_builtin (b := .append) (xs := #[.tmp 94, .tmp 101]) rfl ?_); (try (refine gate_guard (by rfl) ?_; dsimp only)); at_builtin; refine Kd.R_append k35 (w0 := w) w.heap.size rfl (.tmp 94) (.tmp 101) 22 35 (.agg #[(.int .i64 0), (.string ⟨#[]⟩), (.int .i64 0), (.int .i64 0)]) 40 rfl Try.underlying22 info35 rfl (by decide) (by omega) (.slice (some ⟨go56, 0, none⟩) x3_1.length co44) y126 (⟨x121000_24, x121001_24, 0, x5_1⟩ : S35) [.int .i64 x121000_24, .string x121001_24, .int .i64 0, .int .i64 x5_1] (fun _ => True) (fun _ => False) rfl rfl ?aP (fun _ hk => hk.elim) ?aF ?aO ?aB ?aS ?aL ?_; (case aP => exact k35_mkM _ _ _ (⟨x121000_24, x121001_24, 0, x5_1⟩ : S35)); (case aB => exact (by repeat (first | (with_reducible first | exact HB.out | apply below_alloc | apply pw_below_drewN | apply below_drew1 | refine below_set ?_ GE113.out | refine below_set ?_ GE120.out) | exact HB.out))); (case aF => exact (fun _ _ => trivial)); (case aO => exact (by (with_reducible repeat (first | apply Kd.R_alloc | apply Kd.R_drewN | apply Kd.R_drew)); exact HO_3.out)); (case aS => exact (below_size (by repeat (first | (with_reducible first | exact HB.out | apply below_alloc | apply pw_below_drewN | apply below_drew1 | refine below_set ?_ GE113.out | refine below_set ?_ GE120.out) | exact HB.out)))); (case aL => have := LMc57.out; omega); intro v128 w74 ho hb hg hat; rw [← Ny127.out] at ho; have n0_ := Aside0.mk (Kd.R_over' (by (with_reducible repeat (first | apply Kd.R_alloc | apply Kd.R_drewN | apply Kd.R_drew)); exact HO_4.out) (Kd.R_typed (by (with_reducible repeat (first | apply Kd.R_alloc | apply Kd.R_drewN | apply Kd.R_drew)); exact HO_3.out)) (by decide) hg); have n1_ := Aside0.mk (blk_grown (g := gb113) (o := .cells #[.int .i64 x114000_24, .int .i64 x114001_24, .slice none 0 0] 24 (0, 0)) (by (with_reducible repeat (first | refine blk_drewN ?_ _ | refine blk_drew ?_ | refine blk_alloc ?_ _)); exact BK113.out) hg (Kd.R_ne HO_3.out BK113.out (by decide))); have n2_ := Aside0.mk (blk_grown (g := gb120) (o := .cells #[.int .i64 x121000_24, .string x121001_24, .int .i64 x121002_24] 32 (0, 0)) (by (with_reducible repeat (first | refine blk_drewN ?_ _ | refine blk_drew ?_ | refine blk_alloc ?_ _)); exact BK120.out) hg (Kd.R_ne HO_3.out BK120.out (by decide))); have n3_ := Aside0.mk (hb); have n4_ := Aside0.mk (ho); clear HO_4; clear BK113; clear BK120; clear HB; clear HO_3; have HO_4 := n0_; have BK113 := n1_; have BK120 := n2_; have HB := n3_; have HO129 := n4_; clear n0_ n1_ n2_ n3_ n4_; clear ho hb hg hat; have hcz75_0 : w74.cell? ⟨gb120, 0, none⟩ = some (.int .i64 x121000_24) := (blk_cell BK120.out 0).trans rfl; have hcz75_1 : w74.cell? ⟨gb120, 1, none⟩ = some (.string x121001_24) := (blk_cell BK120.out 1).trans rfl; have hcz75_2 : w74.cell? ⟨gb120, 2, none⟩ = some (.int .i64 x121002_24) := (blk_cell BK120.out 2).trans rfl; have hfz75_0 := blk_frozen BK120.out 0; have hfz75_1 := blk_frozen BK120.out 1; have hfz75_2 := blk_frozen BK120.out 2))
                                            go_roundg kj42
                                            case measure => have := HK1.out; have := HJ24.out; have := HJ42.out; omega
                                            case rel => exact ⟨(y127), (x4_1), (x121002_24), (x114000_24), (x114001_24), (by first | rfl | (simp; done) | (simp [*]; done)), H', ⟨by have := HK1.out; have := HJ24.out; have := HJ42.out; omega⟩, ⟨by (with_reducible repeat (first | apply Kd.R_alloc | apply Kd.R_drewN | apply Kd.R_drew)); exact HO129.out⟩, ⟨by (with_reducible repeat (first | apply Kd.R_alloc | apply Kd.R_drewN | apply Kd.R_drew)); exact HO_4.out⟩, ⟨by (with_reducible repeat (first | refine blk_drewN ?_ _ | refine blk_drew ?_ | refine blk_alloc ?_ _)); exact BK113.out⟩, ⟨by repeat (first | (with_reducible first | exact HB.out | apply below_alloc | apply pw_below_drewN | apply below_drew1 | refine below_set ?_ GE113.out | refine below_set ?_ GE120.out) | exact HB.out)⟩⟩
                                        · rw [if_neg c57] at H
                                          exact absurd H (by simp)
                                      · rw [if_neg c55] at H
                                        exact absurd H (by simp)
                                    · rw [if_neg c54] at H
                                      exact absurd H (by simp)
                                  · rw [if_neg c53] at H
                                    exact absurd H (by simp)
                                · rw [if_neg c52] at H
                                  exact absurd H (by simp)
                              · rw [if_neg c50] at H
                                have c50b0 : decide (0 < (x4_1.length : Int)) = false := decide_eq_false c50
                                have c50b1 : decide (0 < x4_1.length) = false := decide_eq_false (by omega)
                                clear c50
                                by_cases c76 : x3_1.length < 3518437208883
                                · rw [if_pos c76] at H
                                  have LMc76 := Aside0.mk c76
                                  clear c76
                                  obtain ⟨y133, hy133⟩ : ∃ y_ : List (S35), y_ = (x3_1 ++ [(⟨x121000_24, x121001_24, 0, x5_1⟩ : S35)]) := ⟨_, rfl⟩
                                  replace H : (if (bt a0 x5_1) = 40 then (if x4_1.length < 17592186044416 then (spec_ReadTree.l0 kj42 a0 y133 (x4_1 ++ [wrap64 ((y133.length : Int) - 1)]) x121002_24) else (none)) else (spec_ReadTree.l0 kj42 a0 y133 x4_1 x121002_24)) = some (r1, r2, r3) := by first | (rw [hy133]; with_reducible exact H) | (have H2_ := (Option.bind_some _ _).symm.trans H; rw [hy133]; with_reducible exact H2_) | (have H2_ := (Option.bind_some _ _).symm.trans H; with_reducible exact H2_) | with_reducible exact H | (rw [hy133]; exact H) | exact H
                                  have Ny133 := Aside0.mk hy133
                                  clear hy133
                                  by_cases c77 : (bt a0 x5_1) = 40
                                  · rw [if_pos c77] at H
                                    have c77b0 : ((bt a0 x5_1) == 40) = true := beq_iff_eq.mpr c77
                                    have c77b1 : ((bt a0 x5_1) != 40) = false := bne_eq_false_iff_eq.mpr c77
                                    clear c77
                                    by_cases c78 : x4_1.length < 17592186044416
                                    · rw [if_pos c78] at H
                                      have LMc78 := Aside0.mk c78
                                      clear c78
                                      obtain ⟨y136, hy136⟩ : ∃ y_ : List Int, y_ = (x4_1 ++ [wrap64 ((y133.length : Int) - 1)]) := ⟨_, rfl⟩
                                      replace H : (spec_ReadTree.l0 kj42 a0 y133 y136 x121002_24) = some (r1, r2, r3) := by first | (rw [hy136]; with_reducible exact H) | (have H2_ := (Option.bind_some _ _).symm.trans H; rw [hy136]; with_reducible exact H2_) | (have H2_ := (Option.bind_some _ _).symm.trans H; with_reducible exact H2_) | with_reducible exact H | (rw [hy136]; exact H) | exact H
                                      have Ny136 := Aside0.mk hy136
                                      clear hy136
                                      have H' := Aside0.mk H
                                      clear H
                                      obtain ⟨Ao79, co79, eo79⟩ := Kd.R_slice HO_4.out
                                      subst eo79
                                      have hnb80 := NB120_113.out
                                      have hnc80 := NB113_120.out
                                      have hcz81_0 : wc.cell? ⟨gb120, 0, none⟩ = some (.int .i64 x121000_24) := (blk_cell BK120.out 0).trans rfl
                                      have hcz81_1 : wc.cell? ⟨gb120, 1, none⟩ = some (.string x121001_24) := (blk_cell BK120.out 1).trans rfl
                                      have hcz81_2 : wc.cell? ⟨gb120, 2, none⟩ = some (.int .i64 x121002_24) := (blk_cell BK120.out 2).trans rfl
                                      have hfz81_0 := blk_frozen BK120.out 0
                                      have hfz81_1 := blk_frozen BK120.out 1
                                      have hfz81_2 := blk_frozen BK120.out 2
                                      go_wp2_with (first | ((with_reducible refine gate_builtin (b := .append) (xs := #[.tmp 94, .tmp 101]) rfl ?_); (try (refine gate_guard (by rfl) ?_; dsimp only)); at_builtin; refine Kd.R_append k35 (w0 := w) w.heap.size rfl (.tmp 94) (.tmp 101) 22 35 (.agg #[(.int .i64 0), (.string ⟨#[]⟩), (.int .i64 0), (.int .i64 0)]) 40 rfl Try.underlying22 info35 rfl (by decide) (by omega) (.slice Ao44 x3_1.length co44) x3_1 (⟨x121000_24, x121001_24, 0, x5_1⟩ : S35) [.int .i64 x121000_24, .string x121001_24, .int .i64 0, .int .i64 x5_1] (fun _ => True) (fun _ => False) rfl rfl ?aP (fun _ hk => hk.elim) ?aF ?aO ?aB ?aS ?aL ?_; (case aP => exact k35_mkM _ _ _ (⟨x121000_24, x121001_24, 0, x5_1⟩ : S35)); (case aB => exact (by repeat (first | (with_reducible first | exact HB.out | apply below_alloc | apply pw_below_drewN | apply below_drew1 | refine below_set ?_ GE113.out | refine below_set ?_ GE120.out) | exact HB.out))); (case aF => exact (fun _ _ => trivial)); (case aO => exact (by (with_reducible repeat (first | apply Kd.R_alloc | apply Kd.R_drewN | apply Kd.R_drew)); exact HO_3.out)); (case aS => exact (below_size (by repeat (first | (with_reducible first | exact HB.out | apply below_alloc | apply pw_below_drewN | apply below_drew1 | refine below_set ?_ GE113.out | refine below_set ?_ GE120.out) | exact HB.out)))); (case aL => have := LMc76.out; omega); intro v134 w82 ho hb hg hat; rw [← Ny133.out] at ho; have n0_ := Aside0.mk (Kd.R_over' (by (with_reducible repeat (first | apply Kd.R_alloc | apply Kd.R_drewN | apply Kd.R_drew)); exact HO_4.out) (Kd.R_typed (by (with_reducible repeat (first | apply Kd.R_alloc | apply Kd.R_drewN | apply Kd.R_drew)); exact HO_3.out)) (by decide) hg); have n1_ := Aside0.mk (blk_grown (g := gb113) (o := .cells #[.int .i64 x114000_24, .int .i64 x114001_24, .slice none 0 0] 24 (0, 0)) (by (with_reducible repeat (first | refine blk_drewN ?_ _ | refine blk_drew ?_ | refine blk_alloc ?_ _)); exact BK113.out) hg (Kd.R_ne HO_3.out BK113.out (by decide))); have n2_ := Aside0.mk (blk_grown (g := gb120) (o := .cells #[.int .i64 x121000_24, .string x121001_24, .int .i64 x121002_24] 32 (0, 0)) (by (with_reducible repeat (first | refine blk_drewN ?_ _ | refine blk_drew ?_ | refine blk_alloc ?_ _)); exact BK120.out) hg (Kd.R_ne HO_3.out BK120.out (by decide))); have n3_ := Aside0.mk (hb); have n4_ := Aside0.mk (ho); clear HO_4; clear BK113; clear BK120; clear HB; clear HO_3; have HO_4 := n0_; have BK113 := n1_; have BK120 := n2_; have HB := n3_; have HO135 := n4_; clear n0_ n1_ n2_ n3_ n4_; clear ho hb hg hat; obtain ⟨Ao83, co83, eo83⟩ := Kd.R_slice HO135.out; subst eo83) | ((with_reducible refine gate_builtin (b := .append) (xs := #[.tmp 105, .tmp 109]) rfl ?_); (try (refine gate_guard (by rfl) ?_; dsimp only)); at_builtin; refine Kd.R_append (Kd.int .i64) (w0 := w) w.heap.size rfl (.tmp 105) (.tmp 109) 29 3 (.int .i64 0) 8 rfl Try.underlying29 info3 rfl (by decide) (by omega) (.slice Ao79 x4_1.length co79) x4_1 (wrap64 ((y133.length : Int) - 1)) [.int .i64 (wrap64 ((y133.length : Int) - 1))] (fun _ => True) (fun _ => False) rfl rfl ?aP (fun _ hk => hk.elim) ?aF ?aO ?aB ?aS ?aL ?_; (case aP => exact rfl); (case aB => exact (by repeat (first | (with_reducible first | exact HB.out | apply below_alloc | apply pw_below_drewN | apply below_drew1 | refine below_set ?_ GE113.out | refine below_set ?_ GE120.out) | exact HB.out))); (case aF => exact (fun _ _ => trivial)); (case aO => exact (by (with_reducible repeat (first | apply Kd.R_alloc | apply Kd.R_drewN | apply Kd.R_drew)); exact HO_4.out)); (case aS => exact (below_size (by repeat (first | (with_reducible first | exact HB.out | apply below_alloc | apply pw_below_drewN | apply below_drew1 | refine below_set ?_ GE113.out | refine below_set ?_ GE120.out) | exact HB.out)))); (case aL => have := LMc78.out; omega); intro v137 w84 ho hb hg hat; rw [← Ny136.out] at ho; have n0_ := Aside0.mk (blk_grown (g := gb113) (o := .cells #[.int .i64 x114000_24, .int .i64 x114001_24, .slice none 0 0] 24 (0, 0)) (by (with_reducible repeat (first | refine blk_drewN ?_ _ | refine blk_drew ?_ | refine blk_alloc ?_ _)); exact BK113.out) hg (Kd.R_ne HO_4.out BK113.out (by decide))); have n1_ := Aside0.mk (blk_grown (g := gb120) (o := .cells #[.int .i64 x121000_24, .string x121001_24, .int .i64 x121002_24] 32 (0, 0)) (by (with_reducible repeat (first | refine blk_drewN ?_ _ | refine blk_drew ?_ | refine blk_alloc ?_ _)); exact BK120.out) hg (Kd.R_ne HO_4.out BK120.out (by decide))); have n2_ := Aside0.mk (Kd.R_over' (by (with_reducible repeat (first | apply Kd.R_alloc | apply Kd.R_drewN | apply Kd.R_drew)); exact HO135.out) (Kd.R_typed (by (with_reducible repeat (first | apply Kd.R_alloc | apply Kd.R_drewN | apply Kd.R_drew)); exact HO_4.out)) (by decide) hg); have n3_ := Aside0.mk (hb); have n4_ := Aside0.mk (ho); clear BK113; clear BK120; clear HO135; clear HB; clear HO_4; have BK113 := n0_; have BK120 := n1_; have HO135 := n2_; have HB := n3_; have HO138 := n4_; clear n0_ n1_ n2_ n3_ n4_; clear ho hb hg hat; have hcz85_0 : w84.cell? ⟨gb120, 0, none⟩ = some (.int .i64 x121000_24) := (blk_cell BK120.out 0).trans rfl; have hcz85_1 : w84.cell? ⟨gb120, 1, none⟩ = some (.string x121001_24) := (blk_cell BK120.out 1).trans rfl; have hcz85_2 : w84.cell? ⟨gb120, 2, none⟩ = some (.int .i64 x121002_24) := (blk_cell BK120.out 2).trans rfl; have hfz85_0 := blk_frozen BK120.out 0; have hfz85_1 := blk_frozen BK120.out 1; have hfz85_2 := blk_frozen BK120.out 2))
                                      go_roundg kj42
                                      case measure => have := HK1.out; have := HJ24.out; have := HJ42.out; omega
                                      case rel => exact ⟨(y133), (y136), (x121002_24), (x114000_24), (x114001_24), (by first | rfl | (simp; done) | (simp [*]; done)), H', ⟨by have := HK1.out; have := HJ24.out; have := HJ42.out; omega⟩, ⟨by (with_reducible repeat (first | apply Kd.R_alloc | apply Kd.R_drewN | apply Kd.R_drew)); exact HO135.out⟩, ⟨by (with_reducible repeat (first | apply Kd.R_alloc | apply Kd.R_drewN | apply Kd.R_drew)); exact HO138.out⟩, ⟨by (with_reducible repeat (first | refine blk_drewN ?_ _ | refine blk_drew ?_ | refine blk_alloc ?_ _)); exact BK113.out⟩, ⟨by repeat (first | (with_reducible first | exact HB.out | apply below_alloc | apply pw_below_drewN | apply below_drew1 | refine below_set ?_ GE113.out | refine below_set ?_ GE120.out) | exact HB.out)⟩⟩
                                    · rw [if_neg c78] at H
                                      exact absurd H (by simp)
                                  · rw [if_neg c77] at H
                                    have c77b0 : ((bt a0 x5_1) == 40) = false := beq_eq_false_iff_ne.mpr c77
                                    have c77b1 : ((bt a0 x5_1) != 40) = true := bne_iff_ne.mpr c77
                                    have H' := Aside0.mk H
                                    clear H
                                    obtain ⟨Ao86, co86, eo86⟩ := Kd.R_slice HO_4.out
                                    subst eo86
                                    have hnb87 := NB120_113.out
                                    have hnc87 := NB113_120.out
                                    have hcz88_0 : wc.cell? ⟨gb120, 0, none⟩ = some (.int .i64 x121000_24) := (blk_cell BK120.out 0).trans rfl
                                    have hcz88_1 : wc.cell? ⟨gb120, 1, none⟩ = some (.string x121001_24) := (blk_cell BK120.out 1).trans rfl
                                    have hcz88_2 : wc.cell? ⟨gb120, 2, none⟩ = some (.int .i64 x121002_24) := (blk_cell BK120.out 2).trans rfl
                                    have hfz88_0 := blk_frozen BK120.out 0
                                    have hfz88_1 := blk_frozen BK120.out 1
                                    have hfz88_2 := blk_frozen BK120.out 2
                                    go_wp2_with (first | ((with_reducible refine gate_builtin (b := .append) (xs := #[.tmp 94, .tmp 101]) rfl ?_); (try (refine gate_guard (by rfl) ?_; dsimp only)); at_builtin; refine Kd.R_append k35 (w0 := w) w.heap.size rfl (.tmp 94) (.tmp 101) 22 35 (.agg #[(.int .i64 0), (.string ⟨#[]⟩), (.int .i64 0), (.int .i64 0)]) 40 rfl Try.underlying22 info35 rfl (by decide) (by omega) (.slice Ao44 x3_1.length co44) x3_1 (⟨x121000_24, x121001_24, 0, x5_1⟩ : S35) [.int .i64 x121000_24, .string x121001_24, .int .i64 0, .int .i64 x5_1] (fun _ => True) (fun _ => False) rfl rfl ?aP (fun _ hk => hk.elim) ?aF ?aO ?aB ?aS ?aL ?_; (case aP => exact k35_mkM _ _ _ (⟨x121000_24, x121001_24, 0, x5_1⟩ : S35)); (case aB => exact (by repeat (first | (with_reducible first | exact HB.out | apply below_alloc | apply pw_below_drewN | apply below_drew1 | refine below_set ?_ GE113.out | refine below_set ?_ GE120.out) | exact HB.out))); (case aF => exact (fun _ _ => trivial)); (case aO => exact (by (with_reducible repeat (first | apply Kd.R_alloc | apply Kd.R_drewN | apply Kd.R_drew)); exact HO_3.out)); (case aS => exact (below_size (by repeat (first | (with_reducible first | exact HB.out | apply below_alloc | apply pw_below_drewN | apply below_drew1 | refine below_set ?_ GE113.out | refine below_set ?_ GE120.out) | exact HB.out)))); (case aL => have := LMc76.out; omega); intro v134 w89 ho hb hg hat; rw [← Ny133.out] at ho; have n0_ := Aside0.mk (Kd.R_over' (by (with_reducible repeat (first | apply Kd.R_alloc | apply Kd.R_drewN | apply Kd.R_drew)); exact HO_4.out) (Kd.R_typed (by (with_reducible repeat (first | apply Kd.R_alloc | apply Kd.R_drewN | apply Kd.R_drew)); exact HO_3.out)) (by decide) hg); have n1_ := Aside0.mk (blk_grown (g := gb113) (o := .cells #[.int .i64 x114000_24, .int .i64 x114001_24, .slice none 0 0] 24 (0, 0)) (by (with_reducible repeat (first | refine blk_drewN ?_ _ | refine blk_drew ?_ | refine blk_alloc ?_ _)); exact BK113.out) hg (Kd.R_ne HO_3.out BK113.out (by decide))); have n2_ := Aside0.mk (blk_grown (g := gb120) (o := .cells #[.int .i64 x121000_24, .string x121001_24, .int .i64 x121002_24] 32 (0, 0)) (by (with_reducible repeat (first | refine blk_drewN ?_ _ | refine blk_drew ?_ | refine blk_alloc ?_ _)); exact BK120.out) hg (Kd.R_ne HO_3.out BK120.out (by decide))); have n3_ := Aside0.mk (hb); have n4_ := Aside0.mk (ho); clear HO_4; clear BK113; clear BK120; clear HB; clear HO_3; have HO_4 := n0_; have BK113 := n1_; have BK120 := n2_; have HB := n3_; have HO135 := n4_; clear n0_ n1_ n2_ n3_ n4_; clear ho hb hg hat; have hcz90_0 : w89.cell? ⟨gb120, 0, none⟩ = some (.int .i64 x121000_24) := (blk_cell BK120.out 0).trans rfl; have hcz90_1 : w89.cell? ⟨gb120, 1, none⟩ = some (.string x121001_24) := (blk_cell BK120.out 1).trans rfl; have hcz90_2 : w89.cell? ⟨gb120, 2, none⟩ = some (.int .i64 x121002_24) := (blk_cell BK120.out 2).trans rfl; have hfz90_0 := blk_frozen BK120.out 0; have hfz90_1 := blk_frozen BK120.out 1; have hfz90_2 := blk_frozen BK120.out 2))
                                    go_roundg kj42
                                    case measure => have := HK1.out; have := HJ24.out; have := HJ42.out; omega
                                    case rel => exact ⟨(y133), (x4_1), (x121002_24), (x114000_24), (x114001_24), (by first | rfl | (simp; done) | (simp [*]; done)), H', ⟨by have := HK1.out; have := HJ24.out; have := HJ42.out; omega⟩, ⟨by (with_reducible repeat (first | apply Kd.R_alloc | apply Kd.R_drewN | apply Kd.R_drew)); exact HO135.out⟩, ⟨by (with_reducible repeat (first | apply Kd.R_alloc | apply Kd.R_drewN | apply Kd.R_drew)); exact HO_4.out⟩, ⟨by (with_reducible repeat (first | refine blk_drewN ?_ _ | refine blk_drew ?_ | refine blk_alloc ?_ _)); exact BK113.out⟩, ⟨by repeat (first | (with_reducible first | exact HB.out | apply below_alloc | apply pw_below_drewN | apply below_drew1 | refine below_set ?_ GE113.out | refine below_set ?_ GE120.out) | exact HB.out)⟩⟩
                                · rw [if_neg c76] at H
                                  exact absurd H (by simp)
          · rw [if_neg c7] at H
            exact absurd H (by simp)
        · rw [if_neg c6] at H
          have c6b0 : decide (x5_1 < (a0.size : Int)) = false := decide_eq_false c6
          clear c6
          by_cases c91 : (x4_1.length : Int) > 0
          · rw [if_pos c91] at H
            have c91b0 : decide (0 < (x4_1.length : Int)) = true := decide_eq_true c91
            have c91b1 : decide (0 < x4_1.length) = true := decide_eq_true (by omega)
            clear c91
            obtain ⟨ji92, hji92⟩ : ∃ j_ : Int, (wrap64 ((x4_1.length : Int) - 1)) = j_ := ⟨_, rfl⟩
            replace H : (if 0 ≤ (ji92) then (if (ji92) < (x4_1.length : Int) then (if 0 ≤ (rd x4_1 (ji92)) then (if (rd x4_1 (ji92)) < (x3_1.length : Int) then (some (3, (rd_T35 x3_1 (rd x4_1 (ji92))).f3, ([] : List (S35)))) else (none)) else (none)) else (none)) else (none)) = some (r1, r2, r3) := by first | (rw [hji92] at H; exact H) | (simp only [hji92] at H ⊢; exact H)
            have hji92w : (IntKind.i64.wrap ((x4_1.length : Int) - 1)) = ji92 := (i64_w _).trans hji92
            by_cases c93 : 0 ≤ (ji92)
            · rw [if_pos c93] at H
              have c93b0 : decide (0 ≤ (ji92)) = true := decide_eq_true c93
              clear c93
              by_cases c94 : (ji92) < (x4_1.length : Int)
              · rw [if_pos c94] at H
                have c94b0 : decide ((ji92) < (x4_1.length : Int)) = true := decide_eq_true c94
                clear c94
                by_cases c95 : 0 ≤ (rd x4_1 (ji92))
                · rw [if_pos c95] at H
                  have c95b0 : decide (0 ≤ (rd x4_1 (ji92))) = true := decide_eq_true c95
                  clear c95
                  by_cases c96 : (rd x4_1 (ji92)) < (x3_1.length : Int)
                  · rw [if_pos c96] at H
                    have c96b0 : decide ((rd x4_1 (ji92)) < (x3_1.length : Int)) = true := decide_eq_true c96
                    clear c96
                    simp only [Option.some.injEq, Prod.mk.injEq] at H
                    obtain ⟨rfl, rfl, rfl⟩ := H
                    obtain ⟨Ao97, co97, eo97⟩ := Kd.R_slice HO_4.out
                    subst eo97
                    have p114 : 0 ≤ ((ji92) : Int) := of_decide_eq_true (by first | (with_reducible assumption) | assumption)
                    have q114 : (ji92) < (x4_1.length : Int) := of_decide_eq_true (by first | (with_reducible assumption) | assumption)
                    obtain ⟨ad114, e114, hx114_0⟩ := Kd.at_int (Kd.R_reads' HO_4.out).2.2 (ji92) p114 q114
                    cases e114
                    replace p114 := eq_true p114
                    replace q114 := eq_true q114
                    obtain ⟨Ao98, co98, eo98⟩ := Kd.R_slice HO_3.out
                    subst eo98
                    have p115 : 0 ≤ ((rd x4_1 (ji92)) : Int) := of_decide_eq_true (by first | (with_reducible assumption) | assumption)
                    have q115 : (rd x4_1 (ji92)) < (x3_1.length : Int) := of_decide_eq_true (by first | (with_reducible assumption) | assumption)
                    obtain ⟨ad115, e115, hx115_0, hx115_1, hx115_2, hx115_3⟩ := at_T35 (Kd.R_reads' HO_3.out).2.2 (rd x4_1 (ji92)) p115 q115
                    cases e115
                    replace p115 := eq_true p115
                    replace q115 := eq_true q115
                    have hcz99_0 : wr.cell? ⟨gb113, 0, none⟩ = some (.int .i64 x114000_1) := (blk_cell BK113.out 0).trans rfl
                    have hcz99_1 : wr.cell? ⟨gb113, 1, none⟩ = some (.int .i64 x114001_1) := (blk_cell BK113.out 1).trans rfl
                    have hcz99_2 : wr.cell? ⟨gb113, 2, none⟩ = some (.slice none 0 0) := (blk_cell BK113.out 2).trans rfl
                    have hfz99_0 := blk_frozen BK113.out 0
                    have hfz99_1 := blk_frozen BK113.out 1
                    have hfz99_2 := blk_frozen BK113.out 2
                    go_wp2
                    refine bodyPost_ret (results_cell_row rfl _ _ gb113 24 #[.int .i64 3, .int .i64 ((rd_T35 x3_1 (rd x4_1 (ji92))).f3), .slice none 0 0] (0, 0) _ rfl (by (with_reducible repeat (first | refine blk_drewN ?_ _ | refine blk_drew ?_ | refine blk_alloc ?_ _)); refine blk_put (cs := #[.int .i64 3, .int .i64 ((rd_T35 x3_1 (rd x4_1 (ji92))).f3), .slice none 0 0]) ?_ 2 _ rfl; (with_reducible repeat (first | refine blk_drewN ?_ _ | refine blk_drew ?_ | refine blk_alloc ?_ _)); refine blk_put (cs := #[.int .i64 3, .int .i64 x114001_1, .slice none 0 0]) ?_ 1 _ rfl; (with_reducible repeat (first | refine blk_drewN ?_ _ | refine blk_drew ?_ | refine blk_alloc ?_ _)); refine blk_put (cs := #[.int .i64 x114000_1, .int .i64 x114001_1, .slice none 0 0]) ?_ 0 _ rfl; (with_reducible repeat (first | refine blk_drewN ?_ _ | refine blk_drew ?_ | refine blk_alloc ?_ _)); exact BK113.out) Try.underlying24 rfl (by kernel_rfl)) rfl ?_
                    exact ⟨_, by first | rfl | (simp [errW_none, errW_some] <;> rfl) | (simp only [← hji92]; first | rfl | (simp [errW_none, errW_some] <;> rfl)) | (simp [*, errW_none, errW_some] <;> rfl), by first | exact Kd.R_nil _ _ _ _ _ | exact Kd.N_nil _ _ _ _ _ | exact Kd.V_nil _ _ _ _ _ | exact Kd.Q_nil _ _ _ _ _ | exact Kd.S_nil _ _ _ _ _, by repeat (first | (with_reducible first | exact HB.out | apply below_alloc | apply pw_below_drewN | apply below_drew1 | refine below_set ?_ GE113.out) | exact HB.out)⟩
                  · rw [if_neg c96] at H
                    exact absurd H (by simp)
                · rw [if_neg c95] at H
                  exact absurd H (by simp)
              · rw [if_neg c94] at H
                exact absurd H (by simp)
            · rw [if_neg c93] at H
              exact absurd H (by simp)
          · rw [if_neg c91] at H
            have c91b0 : decide (0 < (x4_1.length : Int)) = false := decide_eq_false c91
            have c91b1 : decide (0 < x4_1.length) = false := decide_eq_false (by omega)
            clear c91
            simp only [Option.some.injEq, Prod.mk.injEq] at H
            obtain ⟨rfl, rfl, rfl⟩ := H
            obtain ⟨Ao100, co100, eo100⟩ := Kd.R_slice HO_4.out
            subst eo100
            obtain ⟨Ao101, co101, eo101⟩ := Kd.R_slice HO_3.out
            subst eo101
            have hcz102_0 : wr.cell? ⟨gb113, 0, none⟩ = some (.int .i64 x114000_1) := (blk_cell BK113.out 0).trans rfl
            have hcz102_1 : wr.cell? ⟨gb113, 1, none⟩ = some (.int .i64 x114001_1) := (blk_cell BK113.out 1).trans rfl
            have hcz102_2 : wr.cell? ⟨gb113, 2, none⟩ = some (.slice none 0 0) := (blk_cell BK113.out 2).trans rfl
            have hfz102_0 := blk_frozen BK113.out 0
            have hfz102_1 := blk_frozen BK113.out 1
            have hfz102_2 := blk_frozen BK113.out 2
            go_wp2
            refine bodyPost_ret (results_cell_row rfl _ _ gb113 24 #[.int .i64 0, .int .i64 0, .slice Ao101 x3_1.length co101] (0, 0) _ rfl (by (with_reducible repeat (first | refine blk_drewN ?_ _ | refine blk_drew ?_ | refine blk_alloc ?_ _)); refine blk_put (cs := #[.int .i64 0, .int .i64 0, .slice none 0 0]) ?_ 2 _ rfl; (with_reducible repeat (first | refine blk_drewN ?_ _ | refine blk_drew ?_ | refine blk_alloc ?_ _)); refine blk_put (cs := #[.int .i64 0, .int .i64 x114001_1, .slice none 0 0]) ?_ 1 _ rfl; (with_reducible repeat (first | refine blk_drewN ?_ _ | refine blk_drew ?_ | refine blk_alloc ?_ _)); refine blk_put (cs := #[.int .i64 x114000_1, .int .i64 x114001_1, .slice none 0 0]) ?_ 0 _ rfl; (with_reducible repeat (first | refine blk_drewN ?_ _ | refine blk_drew ?_ | refine blk_alloc ?_ _)); exact BK113.out) Try.underlying24 rfl (by kernel_rfl)) rfl ?_
            exact ⟨_, by first | rfl | (simp [errW_none, errW_some] <;> rfl) | (simp [*, errW_none, errW_some] <;> rfl), by (with_reducible repeat (first | apply Kd.R_alloc | apply Kd.R_drewN | apply Kd.R_drew)); exact Kd.R_mono (Kd.R_far (p := ⟨gb113, 2, none⟩) (Kd.R_far (p := ⟨gb113, 1, none⟩) (Kd.R_far (p := ⟨gb113, 0, none⟩) (Kd.R_types HO_3.out BK113.out (by decide)) (fun _ hk => hk.2) (.int .i64 0)) (fun _ hk => hk.2) (.int .i64 0)) (fun _ hk => hk.2) (.slice Ao101 x3_1.length co101)) (fun _ hk => trivial), by repeat (first | (with_reducible first | exact HB.out | apply below_alloc | apply pw_below_drewN | apply below_drew1 | refine below_set ?_ GE113.out) | exact HB.out)⟩

end Go.Proofs.Ytiimmgkghnmjlaa.PFnExactReadTree

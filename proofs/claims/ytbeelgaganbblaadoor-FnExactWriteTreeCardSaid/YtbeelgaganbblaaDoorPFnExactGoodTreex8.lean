-- Printed by wip/print2/make.py (the kit's print, told of contracts that are proved by hand). Lean checks it.
import Derived.Test.YtbeelgaganbblaaDoorPFnExactGoodTreex0
namespace Go.Proofs.YtbeelgaganbblaaDoor.PFnExactGoodTree
open Go.RowKit Go.Proofs.YtbeelgaganbblaaDoorW.PrintWords Go.Proofs.YtbeelgaganbblaaDoorW.PrintLast Go.Proofs.YtbeelgaganbblaaDoorW.PrintMore
attribute [local go_sem] max2_int min2_int max_two min_two max_three min_three max_four min_four   -- for this text's walks alone
set_option linter.unusedVariables false
set_option linter.unusedSimpArgs false

/-! ### impl_rightTree: function 25 -/
mutual
def impl_rightTree.l0 : Nat → Int → List Int → List (S43) → Int → Int → Option (Bool)
  | 0, _, _, _, _, _ => none
  | k + 1, x3, x4, x12, x13, x14 => if x14 < x13 then (if 0 ≤ x14 then (if x14 < (x12.length : Int) then (impl_rightTree.l1 k x3 x4 x12 x13 x14 ((rd_T43 x12 x14).f0) ((rd_T43 x12 x14).f1) ((rd_T43 x12 x14).f2) ((rd_T43 x12 x14).f3)) else (none)) else (none)) else (impl_rightTree.l2 k x3 x4 (x4.length : Int) 0)
def impl_rightTree.j2 : Nat → Int → List Int → List (S43) → Int → Int → Int → ByteArray → Int → Int → Option (Bool)
  | 0, _, _, _, _, _, _, _, _, _ => none
  | k + 1, x3, x4, x12, x13, x14, x207000, x207001, x207002, x207003 => (impl_goodNode.f x207000 x207001 x207002 x207003).bind fun t211 => (if t211 = true then (if (x4.length : Int) > 0 then (if 0 ≤ (wrap64 ((x4.length : Int) - 1)) then (if (wrap64 ((x4.length : Int) - 1)) < (x4.length : Int) then (impl_rightTree.j3 k (wrap64 (x3 + (x207001.size : Int))) (x4.set ((wrap64 ((x4.length : Int) - 1)) : Int).toNat (wrap64 ((rd x4 (wrap64 ((x4.length : Int) - 1))) - 1))) x12 x13 x14 x207000 x207001 x207002 x207003) else (none)) else (none)) else (impl_rightTree.j3 k (wrap64 (x3 + (x207001.size : Int))) x4 x12 x13 x14 x207000 x207001 x207002 x207003)) else (some false))
def impl_rightTree.j3 : Nat → Int → List Int → List (S43) → Int → Int → Int → ByteArray → Int → Int → Option (Bool)
  | 0, _, _, _, _, _, _, _, _, _ => none
  | k + 1, x3, x4, x12, x13, x14, x207000, x207001, x207002, x207003 => if x207000 = 1 then (if x4.length < 17592186044416 then ((some (x4 ++ [x207002] : List Int)).bind fun y214 => (if (y214.length : Int) > 200 then (some false) else (impl_rightTree.l0 k x3 y214 x12 x13 (wrap64 (x14 + 1))))) else (none)) else (impl_rightTree.l0 k x3 x4 x12 x13 (wrap64 (x14 + 1)))
def impl_rightTree.l1 : Nat → Int → List Int → List (S43) → Int → Int → Int → ByteArray → Int → Int → Option (Bool)
  | 0, _, _, _, _, _, _, _, _, _ => none
  | k + 1, x3, x4, x12, x13, x14, x207000, x207001, x207002, x207003 => if (x4.length : Int) > 0 then (if 0 ≤ (wrap64 ((x4.length : Int) - 1)) then (if (wrap64 ((x4.length : Int) - 1)) < (x4.length : Int) then (if (rd x4 (wrap64 ((x4.length : Int) - 1))) = 0 then (if (wrap64 ((x4.length : Int) - 1)) ≤ (x4.length : Int) then (impl_rightTree.l1 k x3 (x4.take ((wrap64 ((x4.length : Int) - 1)) : Int).toNat) x12 x13 x14 x207000 x207001 x207002 x207003) else (none)) else (impl_rightTree.j2 k x3 x4 x12 x13 x14 x207000 x207001 x207002 x207003)) else (none)) else (none)) else (impl_rightTree.j2 k x3 x4 x12 x13 x14 x207000 x207001 x207002 x207003)
def impl_rightTree.l2 : Nat → Int → List Int → Int → Int → Option (Bool)
  | 0, _, _, _, _ => none
  | k + 1, x3, x66, x67, x68 => if x68 < x67 then (if 0 ≤ x68 then (if x68 < (x66.length : Int) then (if (rd x66 x68) > 0 then (some false) else (impl_rightTree.l2 k x3 x66 x67 (wrap64 (x68 + 1)))) else (none)) else (none)) else (some (decide (x3 ≤ 20000)))
end
def impl_rightTree.f (k : Nat) (l0 : List (S43)) : Option (Bool) := if (l0.length : Int) > 8000 then (some false) else (impl_rightTree.l0 k 0 ([] : List Int) l0 (l0.length : Int) 0)
theorem impl_rightTree.mono_l : ∀ k, (∀ y0 y1 y2 y3 y4, LeO (impl_rightTree.l0 k y0 y1 y2 y3 y4) (impl_rightTree.l0 (k + 1) y0 y1 y2 y3 y4)) ∧ (∀ y0 y1 y2 y3 y4 y5 y6 y7 y8, LeO (impl_rightTree.j2 k y0 y1 y2 y3 y4 y5 y6 y7 y8) (impl_rightTree.j2 (k + 1) y0 y1 y2 y3 y4 y5 y6 y7 y8)) ∧ (∀ y0 y1 y2 y3 y4 y5 y6 y7 y8, LeO (impl_rightTree.j3 k y0 y1 y2 y3 y4 y5 y6 y7 y8) (impl_rightTree.j3 (k + 1) y0 y1 y2 y3 y4 y5 y6 y7 y8)) ∧ (∀ y0 y1 y2 y3 y4 y5 y6 y7 y8, LeO (impl_rightTree.l1 k y0 y1 y2 y3 y4 y5 y6 y7 y8) (impl_rightTree.l1 (k + 1) y0 y1 y2 y3 y4 y5 y6 y7 y8)) ∧ (∀ y0 y1 y2 y3, LeO (impl_rightTree.l2 k y0 y1 y2 y3) (impl_rightTree.l2 (k + 1) y0 y1 y2 y3))
  | 0 => ⟨fun _ _ _ _ _ r h => by simp [impl_rightTree.l0] at h, fun _ _ _ _ _ _ _ _ _ r h => by simp [impl_rightTree.j2] at h, fun _ _ _ _ _ _ _ _ _ r h => by simp [impl_rightTree.j3] at h, fun _ _ _ _ _ _ _ _ _ r h => by simp [impl_rightTree.l1] at h, fun _ _ _ _ r h => by simp [impl_rightTree.l2] at h⟩
  | k + 1 => by
    obtain ⟨ih0, ih1, ih2, ih3, ih4⟩ := impl_rightTree.mono_l k
    refine ⟨?_, ?_, ?_, ?_, ?_⟩
    · intro y0 y1 y2 y3 y4
      unfold impl_rightTree.l0
      repeat' first
      | (with_reducible exact ih0 _ _ _ _ _)
      | (with_reducible exact ih1 _ _ _ _ _ _ _ _ _)
      | (with_reducible exact ih2 _ _ _ _ _ _ _ _ _)
      | (with_reducible exact ih3 _ _ _ _ _ _ _ _ _)
      | (with_reducible exact ih4 _ _ _ _)
      | (with_reducible exact LeO.refl _)
      | (with_reducible exact LeO.none _)
      | (with_reducible refine LeO.ite ?_ ?_)
      | (with_reducible refine LeO.bind ?_ (fun _ => ?_))
      | exact ih0 _ _ _ _ _
      | exact ih1 _ _ _ _ _ _ _ _ _
      | exact ih2 _ _ _ _ _ _ _ _ _
      | exact ih3 _ _ _ _ _ _ _ _ _
      | exact ih4 _ _ _ _
      | exact LeO.none _
      | refine LeO.ite ?_ ?_
      | refine LeO.bind ?_ (fun _ => ?_)
    · intro y0 y1 y2 y3 y4 y5 y6 y7 y8
      unfold impl_rightTree.j2
      repeat' first
      | (with_reducible exact ih0 _ _ _ _ _)
      | (with_reducible exact ih1 _ _ _ _ _ _ _ _ _)
      | (with_reducible exact ih2 _ _ _ _ _ _ _ _ _)
      | (with_reducible exact ih3 _ _ _ _ _ _ _ _ _)
      | (with_reducible exact ih4 _ _ _ _)
      | (with_reducible exact LeO.refl _)
      | (with_reducible exact LeO.none _)
      | (with_reducible refine LeO.ite ?_ ?_)
      | (with_reducible refine LeO.bind ?_ (fun _ => ?_))
      | exact ih0 _ _ _ _ _
      | exact ih1 _ _ _ _ _ _ _ _ _
      | exact ih2 _ _ _ _ _ _ _ _ _
      | exact ih3 _ _ _ _ _ _ _ _ _
      | exact ih4 _ _ _ _
      | exact LeO.none _
      | refine LeO.ite ?_ ?_
      | refine LeO.bind ?_ (fun _ => ?_)
    · intro y0 y1 y2 y3 y4 y5 y6 y7 y8
      unfold impl_rightTree.j3
      repeat' first
      | (with_reducible exact ih0 _ _ _ _ _)
      | (with_reducible exact ih1 _ _ _ _ _ _ _ _ _)
      | (with_reducible exact ih2 _ _ _ _ _ _ _ _ _)
      | (with_reducible exact ih3 _ _ _ _ _ _ _ _ _)
      | (with_reducible exact ih4 _ _ _ _)
      | (with_reducible exact LeO.refl _)
      | (with_reducible exact LeO.none _)
      | (with_reducible refine LeO.ite ?_ ?_)
      | (with_reducible refine LeO.bind ?_ (fun _ => ?_))
      | exact ih0 _ _ _ _ _
      | exact ih1 _ _ _ _ _ _ _ _ _
      | exact ih2 _ _ _ _ _ _ _ _ _
      | exact ih3 _ _ _ _ _ _ _ _ _
      | exact ih4 _ _ _ _
      | exact LeO.none _
      | refine LeO.ite ?_ ?_
      | refine LeO.bind ?_ (fun _ => ?_)
    · intro y0 y1 y2 y3 y4 y5 y6 y7 y8
      unfold impl_rightTree.l1
      repeat' first
      | (with_reducible exact ih0 _ _ _ _ _)
      | (with_reducible exact ih1 _ _ _ _ _ _ _ _ _)
      | (with_reducible exact ih2 _ _ _ _ _ _ _ _ _)
      | (with_reducible exact ih3 _ _ _ _ _ _ _ _ _)
      | (with_reducible exact ih4 _ _ _ _)
      | (with_reducible exact LeO.refl _)
      | (with_reducible exact LeO.none _)
      | (with_reducible refine LeO.ite ?_ ?_)
      | (with_reducible refine LeO.bind ?_ (fun _ => ?_))
      | exact ih0 _ _ _ _ _
      | exact ih1 _ _ _ _ _ _ _ _ _
      | exact ih2 _ _ _ _ _ _ _ _ _
      | exact ih3 _ _ _ _ _ _ _ _ _
      | exact ih4 _ _ _ _
      | exact LeO.none _
      | refine LeO.ite ?_ ?_
      | refine LeO.bind ?_ (fun _ => ?_)
    · intro y0 y1 y2 y3
      unfold impl_rightTree.l2
      repeat' first
      | (with_reducible exact ih0 _ _ _ _ _)
      | (with_reducible exact ih1 _ _ _ _ _ _ _ _ _)
      | (with_reducible exact ih2 _ _ _ _ _ _ _ _ _)
      | (with_reducible exact ih3 _ _ _ _ _ _ _ _ _)
      | (with_reducible exact ih4 _ _ _ _)
      | (with_reducible exact LeO.refl _)
      | (with_reducible exact LeO.none _)
      | (with_reducible refine LeO.ite ?_ ?_)
      | (with_reducible refine LeO.bind ?_ (fun _ => ?_))
      | exact ih0 _ _ _ _ _
      | exact ih1 _ _ _ _ _ _ _ _ _
      | exact ih2 _ _ _ _ _ _ _ _ _
      | exact ih3 _ _ _ _ _ _ _ _ _
      | exact ih4 _ _ _ _
      | exact LeO.none _
      | refine LeO.ite ?_ ?_
      | refine LeO.bind ?_ (fun _ => ?_)
theorem impl_rightTree.mono : ∀ a0 k, LeO (impl_rightTree.f k a0) (impl_rightTree.f (k + 1) a0) := by
  intro a0 k
  obtain ⟨ih0, ih1, ih2, ih3, ih4⟩ := impl_rightTree.mono_l k
  unfold impl_rightTree.f
  repeat' first
      | (with_reducible exact ih0 _ _ _ _ _)
      | (with_reducible exact ih1 _ _ _ _ _ _ _ _ _)
      | (with_reducible exact ih2 _ _ _ _ _ _ _ _ _)
      | (with_reducible exact ih3 _ _ _ _ _ _ _ _ _)
      | (with_reducible exact ih4 _ _ _ _)
      | (with_reducible exact LeO.refl _)
      | (with_reducible exact LeO.none _)
      | (with_reducible refine LeO.ite ?_ ?_)
      | (with_reducible refine LeO.bind ?_ (fun _ => ?_))
      | exact ih0 _ _ _ _ _
      | exact ih1 _ _ _ _ _ _ _ _ _
      | exact ih2 _ _ _ _ _ _ _ _ _
      | exact ih3 _ _ _ _ _ _ _ _ _
      | exact ih4 _ _ _ _
      | exact LeO.none _
      | refine LeO.ite ?_ ?_
      | refine LeO.bind ?_ (fun _ => ?_)
set_option maxHeartbeats 8000000 in
set_option maxRecDepth 100000 in
theorem impl_rightTree.calls (k : Nat) (A0 : Option Addr) (c0 : Nat) (l0 : List (S43)) (r : Bool) (w : World) (hT : Gn.Tab w) (hr0 : Kd.C k43 w A0 l0.length l0) (hc0 : l0.length ≤ c0) (h : impl_rightTree.f k l0 = some r) :
    Calls Tryd.prog 25 #[.slice A0 l0.length c0] w fun e w' => e = .returned (.bool r) ∧ Below w.heap.size w w' := by
  have hu43 := Tryd.underlying43
  have HR0 := Aside0.mk hr0
  have HC0 := Aside0.mk hc0
  clear hr0 hc0
  have HT := Aside0.mk hT
  clear hT
  have HB := Aside0.mk (Below.refl w.heap.size w)
  have H : (if (l0.length : Int) > 8000 then (some false) else (impl_rightTree.l0 k 0 ([] : List Int) l0 (l0.length : Int) 0)) = some r := h
  clear h
  by_cases c2 : (l0.length : Int) > 8000
  · rw [if_pos c2] at H
    have c2b0 : decide (8000 < (l0.length : Int)) = true := decide_eq_true c2
    have c2b1 : decide (8000 < l0.length) = true := decide_eq_true (by omega)
    clear c2
    obtain rfl := Option.some.inj H
    go_enter Tryd.func25, Tryd.ntmps25
    go_wp2
    go_ret
    exact ⟨by first | rfl | (simp [errW_none, errW_some] <;> rfl) | (simp [*, errW_none, errW_some] <;> rfl), by repeat (first | (with_reducible first | exact HB.out | apply below_alloc | apply pw_below_drewN | apply below_drew1) | exact HB.out)⟩
  · rw [if_neg c2] at H
    have c2b0 : decide (8000 < (l0.length : Int)) = false := decide_eq_false c2
    have c2b1 : decide (8000 < l0.length) = false := decide_eq_false (by omega)
    clear c2
    have H' := Aside0.mk H
    clear H
    go_enter Tryd.func25, Tryd.ntmps25
    go_wp2
    go_loopg [3, 4, 14] k (fun kq v3 v4 v14 w' => ∃ (x3_1 : Int) (x4_1 : List Int) (x14_1 : Int), v3 = .int .i64 x3_1 ∧ v14 = .int .i64 x14_1 ∧ Aside0 (impl_rightTree.l0 kq x3_1 x4_1 l0 (l0.length : Int) x14_1 = some r) ∧ Aside0 (kq ≤ k) ∧ Aside0 (Kd.R (Kd.int .i64) 3 w' w.heap.size (fun _ => True) v4 x4_1) ∧ Aside0 (Below w.heap.size w w'))
    case atStart => exact ⟨(0), (([] : List Int)), (0), (by first | rfl | (simp; done) | (simp [*]; done)), (by first | rfl | (simp; done) | (simp [*]; done)), H', ⟨Nat.le_refl _⟩, ⟨by first | exact Kd.R_nil _ _ _ _ _ | exact Kd.N_nil _ _ _ _ _ | exact Kd.V_nil _ _ _ _ _ | exact Kd.Q_nil _ _ _ _ _ | exact Kd.S_nil _ _ _ _ _⟩, ⟨by repeat (first | (with_reducible first | exact HB.out | apply below_alloc | apply pw_below_drewN | apply below_drew1) | exact HB.out)⟩⟩
    case round =>
      clear H'
      try clear c2
      try clear c2b0
      try clear c2b1
      try clear p2
      obtain ⟨x3_1, x4_1, x14_1, rfl, rfl, HA, HK1, HO_4, HB⟩ := hrel
      cases gk with
      | zero => exact absurd HA.out (by simp [impl_rightTree.l0])
      | succ k1 =>
        have H := HA.out
        clear HA
        simp only [impl_rightTree.l0] at H
        by_cases c3 : x14_1 < (l0.length : Int)
        · rw [if_pos c3] at H
          have c3b0 : decide (x14_1 < (l0.length : Int)) = true := decide_eq_true c3
          clear c3
          by_cases c4 : 0 ≤ x14_1
          · rw [if_pos c4] at H
            have c4b0 : decide (0 ≤ x14_1) = true := decide_eq_true c4
            clear c4
            by_cases c5 : x14_1 < (l0.length : Int)
            · rw [if_pos c5] at H
              have c5b0 : decide (x14_1 < (l0.length : Int)) = true := decide_eq_true c5
              clear c5
              have HC6 := Aside0.mk H
              clear H
              have p205 : 0 ≤ (x14_1 : Int) := of_decide_eq_true (by first | (with_reducible assumption) | assumption)
              have q205 : x14_1 < (l0.length : Int) := of_decide_eq_true (by first | (with_reducible assumption) | assumption)
              obtain ⟨ad205, e205, hx205_0, hx205_1, hx205_2, hx205_3⟩ := at_T43 HR0.out x14_1 p205 q205
              cases e205
              replace hx205_0 := (HB.out.cell (World.block_lt_of_cell? w _ hx205_0)).trans hx205_0
              replace hx205_1 := (HB.out.cell (World.block_lt_of_cell? w _ hx205_1)).trans hx205_1
              replace hx205_2 := (HB.out.cell (World.block_lt_of_cell? w _ hx205_2)).trans hx205_2
              replace hx205_3 := (HB.out.cell (World.block_lt_of_cell? w _ hx205_3)).trans hx205_3
              replace p205 := eq_true p205
              replace q205 := eq_true q205
              go_upto_block 2 with (first | ((with_reducible refine gate_dst (N := 6) rfl ?_); (try (refine gate_guard (by rfl) ?_; dsimp only)); refine box_event ?hg (N := 6) ?hd (cs := #[.int .i64 0, .string (⟨#[]⟩ : ByteArray), .int .i64 0, .int .i64 0]) (t := 43) ?hr ?_; (case hd => rfl); (case hg => rfl); (case hr => first | (go_simp; done) | (go_simp; rfl)); intro gb206 hg w7 hbox hb; have n0_ := Aside0.mk (Kd.R_below (by (with_reducible repeat (first | apply Kd.R_alloc | apply Kd.R_drewN | apply Kd.R_drew)); exact HO_4.out) hb); have n1_ := Aside0.mk (below_step (by repeat (first | (with_reducible first | exact HB.out | apply below_alloc | apply pw_below_drewN | apply below_drew1) | exact HB.out)) hb); have n2_ := Aside0.mk (hbox); have n3_ := Aside0.mk ((by rw [hg]; exact (below_size (by repeat (first | (with_reducible first | exact HB.out | apply below_alloc | apply pw_below_drewN | apply below_drew1) | exact HB.out))) : w.heap.size ≤ gb206)); have n4_ := Aside0.mk ((by rw [hg]; exact (below_size (by repeat (first | (with_reducible first | exact HB.out | apply below_alloc | apply pw_below_drewN | apply below_drew1) | exact HB.out))) : w.heap.size ≤ gb206)); clear HO_4; clear HB; have HO_4 := n0_; have HB := n1_; have BK206 := n2_; have GW206 := n3_; have GE206 := n4_; clear n0_ n1_ n2_ n3_ n4_; clear hb hbox hg; have hcz8_0 : w7.cell? ⟨gb206, 0, none⟩ = some (.int .i64 0) := (blk_cell BK206.out 0).trans rfl; have hcz8_1 : w7.cell? ⟨gb206, 1, none⟩ = some (.string (⟨#[]⟩ : ByteArray)) := (blk_cell BK206.out 1).trans rfl; have hcz8_2 : w7.cell? ⟨gb206, 2, none⟩ = some (.int .i64 0) := (blk_cell BK206.out 2).trans rfl; have hcz8_3 : w7.cell? ⟨gb206, 3, none⟩ = some (.int .i64 0) := (blk_cell BK206.out 3).trans rfl; have hfz8_0 := blk_frozen BK206.out 0; have hfz8_1 := blk_frozen BK206.out 1; have hfz8_2 := blk_frozen BK206.out 2; have hfz8_3 := blk_frozen BK206.out 3))
              (try simp only [Act.put, List.setIfInBounds_toArray, List.set_cons_zero, List.set_cons_succ])
              go_cut [4] (fun v4 wc => ∃ (kq : Nat) (x4_5 : List Int), Aside0 (impl_rightTree.j2 kq x3_1 x4_5 l0 (l0.length : Int) x14_1 ((rd_T43 l0 x14_1).f0) ((rd_T43 l0 x14_1).f1) ((rd_T43 l0 x14_1).f2) ((rd_T43 l0 x14_1).f3) = some r) ∧ Aside0 (kq ≤ k1) ∧ Aside0 (Kd.R (Kd.int .i64) 3 wc w.heap.size (fun _ => True) v4 x4_5) ∧ Aside0 (wc.heap[gb206]? = some (.cells #[.int .i64 ((rd_T43 l0 x14_1).f0), .string ((rd_T43 l0 x14_1).f1), .int .i64 ((rd_T43 l0 x14_1).f2), .int .i64 ((rd_T43 l0 x14_1).f3)] 43 (0, 0))) ∧ Aside0 (Below w.heap.size w wc))
              case first =>
                have H := HC6.out
                clear HC6
                have H' := Aside0.mk H
                clear H
                go_wp2
                go_loopg [4] k1 (fun kq v4 w' => ∃ (x4_2 : List Int), Aside0 (impl_rightTree.l1 kq x3_1 x4_2 l0 (l0.length : Int) x14_1 ((rd_T43 l0 x14_1).f0) ((rd_T43 l0 x14_1).f1) ((rd_T43 l0 x14_1).f2) ((rd_T43 l0 x14_1).f3) = some r) ∧ Aside0 (kq ≤ k1) ∧ Aside0 (Kd.R (Kd.int .i64) 3 w' w.heap.size (fun _ => True) v4 x4_2) ∧ Aside0 (w'.heap[gb206]? = some (.cells #[.int .i64 ((rd_T43 l0 x14_1).f0), .string ((rd_T43 l0 x14_1).f1), .int .i64 ((rd_T43 l0 x14_1).f2), .int .i64 ((rd_T43 l0 x14_1).f3)] 43 (0, 0))) ∧ Aside0 (Below w.heap.size w w'))
                case atStart => exact ⟨(x4_1), H', ⟨Nat.le_refl _⟩, ⟨by (with_reducible repeat (first | apply Kd.R_alloc | apply Kd.R_drewN | apply Kd.R_drew)); exact Kd.R_mono (Kd.R_far (p := ⟨gb206, 3, none⟩) (Kd.R_far (p := ⟨gb206, 2, none⟩) (Kd.R_far (p := ⟨gb206, 1, none⟩) (Kd.R_far (p := ⟨gb206, 0, none⟩) (Kd.R_types HO_4.out BK206.out (by decide)) (fun _ hk => hk.2) (.int .i64 ((rd_T43 l0 x14_1).f0))) (fun _ hk => hk.2) (.string ((rd_T43 l0 x14_1).f1))) (fun _ hk => hk.2) (.int .i64 ((rd_T43 l0 x14_1).f2))) (fun _ hk => hk.2) (.int .i64 ((rd_T43 l0 x14_1).f3))) (fun _ hk => trivial)⟩, ⟨by (with_reducible repeat (first | refine blk_drewN ?_ _ | refine blk_drew ?_ | refine blk_alloc ?_ _)); refine blk_put (cs := #[.int .i64 ((rd_T43 l0 x14_1).f0), .string ((rd_T43 l0 x14_1).f1), .int .i64 ((rd_T43 l0 x14_1).f2), .int .i64 0]) ?_ 3 _ rfl; (with_reducible repeat (first | refine blk_drewN ?_ _ | refine blk_drew ?_ | refine blk_alloc ?_ _)); refine blk_put (cs := #[.int .i64 ((rd_T43 l0 x14_1).f0), .string ((rd_T43 l0 x14_1).f1), .int .i64 0, .int .i64 0]) ?_ 2 _ rfl; (with_reducible repeat (first | refine blk_drewN ?_ _ | refine blk_drew ?_ | refine blk_alloc ?_ _)); refine blk_put (cs := #[.int .i64 ((rd_T43 l0 x14_1).f0), .string (⟨#[]⟩ : ByteArray), .int .i64 0, .int .i64 0]) ?_ 1 _ rfl; (with_reducible repeat (first | refine blk_drewN ?_ _ | refine blk_drew ?_ | refine blk_alloc ?_ _)); refine blk_put (cs := #[.int .i64 0, .string (⟨#[]⟩ : ByteArray), .int .i64 0, .int .i64 0]) ?_ 0 _ rfl; (with_reducible repeat (first | refine blk_drewN ?_ _ | refine blk_drew ?_ | refine blk_alloc ?_ _)); exact BK206.out⟩, ⟨by repeat (first | (with_reducible first | exact HB.out | apply below_alloc | apply pw_below_drewN | apply below_drew1 | refine below_set ?_ GE206.out) | exact HB.out)⟩⟩
                case round =>
                  clear H'
                  try clear c2
                  try clear c2b0
                  try clear c2b1
                  try clear p2
                  try clear q2
                  try clear hx2
                  try clear c3
                  try clear c3b0
                  try clear c4
                  try clear c4b0
                  try clear c5
                  try clear c5b0
                  try clear hcz8_0
                  try clear hcz8_1
                  try clear hcz8_2
                  try clear hcz8_3
                  try clear hfz8_0
                  try clear hfz8_1
                  try clear hfz8_2
                  try clear hfz8_3
                  try clear hx205_0
                  try clear hx205_1
                  try clear hx205_2
                  try clear hx205_3
                  try clear p2
                  try clear p205
                  try clear q205
                  obtain ⟨x4_2, HA, HK2, HO_4, BK206, HB⟩ := hrel
                  cases gk with
                  | zero => exact absurd HA.out (by simp [impl_rightTree.l1])
                  | succ k2 =>
                    have H := HA.out
                    clear HA
                    simp only [impl_rightTree.l1] at H
                    by_cases c9 : (x4_2.length : Int) > 0
                    · rw [if_pos c9] at H
                      have c9b0 : decide (0 < (x4_2.length : Int)) = true := decide_eq_true c9
                      have c9b1 : decide (0 < x4_2.length) = true := decide_eq_true (by omega)
                      clear c9
                      (first | rw [c9b0] | (simp only [i64_w, i32_w]; rw [c9b0]) | rw [c9b1] | skip)
                      obtain ⟨ji10, hji10⟩ : ∃ j_ : Int, (wrap64 ((x4_2.length : Int) - 1)) = j_ := ⟨_, rfl⟩
                      replace H : (if 0 ≤ (ji10) then (if (ji10) < (x4_2.length : Int) then (if (rd x4_2 (ji10)) = 0 then (if (ji10) ≤ (x4_2.length : Int) then (impl_rightTree.l1 k2 x3_1 (x4_2.take ((ji10) : Int).toNat) l0 (l0.length : Int) x14_1 ((rd_T43 l0 x14_1).f0) ((rd_T43 l0 x14_1).f1) ((rd_T43 l0 x14_1).f2) ((rd_T43 l0 x14_1).f3)) else (none)) else (impl_rightTree.j2 k2 x3_1 x4_2 l0 (l0.length : Int) x14_1 ((rd_T43 l0 x14_1).f0) ((rd_T43 l0 x14_1).f1) ((rd_T43 l0 x14_1).f2) ((rd_T43 l0 x14_1).f3))) else (none)) else (none)) = some r := by first | (rw [hji10] at H; exact H) | (simp only [hji10] at H ⊢; exact H)
                      have hji10w : (IntKind.i64.wrap ((x4_2.length : Int) - 1)) = ji10 := (i64_w _).trans hji10
                      by_cases c11 : 0 ≤ (ji10)
                      · rw [if_pos c11] at H
                        have c11b0 : decide (0 ≤ (ji10)) = true := decide_eq_true c11
                        clear c11
                        by_cases c12 : (ji10) < (x4_2.length : Int)
                        · rw [if_pos c12] at H
                          have c12b0 : decide ((ji10) < (x4_2.length : Int)) = true := decide_eq_true c12
                          clear c12
                          by_cases c13 : (rd x4_2 (ji10)) = 0
                          · rw [if_pos c13] at H
                            have c13b0 : ((rd x4_2 (ji10)) == 0) = true := beq_iff_eq.mpr c13
                            have c13b1 : ((rd x4_2 (ji10)) != 0) = false := bne_eq_false_iff_eq.mpr c13
                            clear c13
                            by_cases c14 : (ji10) ≤ (x4_2.length : Int)
                            · rw [if_pos c14] at H
                              have c14b0 := eq_true c14
                              have c14b1 : decide ((ji10) ≤ (x4_2.length : Int)) = true := decide_eq_true c14
                              clear c14
                              obtain ⟨y208, hy208⟩ : ∃ y_ : List Int, y_ = (x4_2.take ((ji10) : Int).toNat) := ⟨_, rfl⟩
                              replace H : (impl_rightTree.l1 k2 x3_1 y208 l0 (l0.length : Int) x14_1 ((rd_T43 l0 x14_1).f0) ((rd_T43 l0 x14_1).f1) ((rd_T43 l0 x14_1).f2) ((rd_T43 l0 x14_1).f3)) = some r := by first | (rw [hy208]; with_reducible exact H) | (have H2_ := (Option.bind_some _ _).symm.trans H; rw [hy208]; with_reducible exact H2_) | (have H2_ := (Option.bind_some _ _).symm.trans H; with_reducible exact H2_) | with_reducible exact H | (rw [hy208]; exact H) | exact H
                              have Ny208 := Aside0.mk hy208
                              clear hy208
                              have H' := Aside0.mk H
                              clear H
                              obtain ⟨Ao15, co15, eo15⟩ := Kd.R_slice HO_4.out
                              subst eo15
                              have p207 : 0 ≤ ((ji10) : Int) := of_decide_eq_true (by first | (with_reducible assumption) | assumption)
                              have q207 : (ji10) < (x4_2.length : Int) := of_decide_eq_true (by first | (with_reducible assumption) | assumption)
                              obtain ⟨ad207, e207, hx207_0⟩ := Kd.at_int (Kd.R_reads' HO_4.out).2.2 (ji10) p207 q207
                              cases e207
                              replace p207 := eq_true p207
                              replace q207 := eq_true q207
                              have q16 : ((ji10) : Int) ≤ ((x4_2.length : Int) : Int) := of_decide_eq_true (by first | (with_reducible assumption) | assumption)
                              obtain ⟨i016, hi016, _, hsz16, _⟩ := info_parts info3
                              have hcut16 := cut_to (P := Tryd.prog) 62 3 .i64 Tryd.underlying62 hi016 (some ad207) x4_2.length co15 (ji10) (of_decide_eq_true (by first | (with_reducible assumption) | assumption)) q16 (Kd.R_reads' HO_4.out).2.1
                              have hr16 := Kd.R_take (m := ((ji10) : Int).toNat) HO_4.out (by omega)
                              have hy16 : y208.length = ((ji10) : Int).toNat := (by rw [Ny208.out, List.length_take]; omega)
                              rw [← Ny208.out] at hr16
                              rw [← hy16] at hr16 hcut16
                              clear hy16 hi016 hsz16 HO_4
                              have HO210 := Aside0.mk hr16
                              clear hr16
                              replace q16 := eq_true q16
                              go_wp2
                              go_roundg k2
                              case measure => have := HK1.out; have := HK2.out; omega
                              case rel => exact ⟨(y208), H', ⟨by have := HK1.out; have := HK2.out; omega⟩, ⟨by (with_reducible repeat (first | apply Kd.R_alloc | apply Kd.R_drewN | apply Kd.R_drew)); exact HO210.out⟩, ⟨by (with_reducible repeat (first | refine blk_drewN ?_ _ | refine blk_drew ?_ | refine blk_alloc ?_ _)); exact BK206.out⟩, ⟨by repeat (first | (with_reducible first | exact HB.out | apply below_alloc | apply pw_below_drewN | apply below_drew1 | refine below_set ?_ GE206.out) | exact HB.out)⟩⟩
                            · rw [if_neg c14] at H
                              exact absurd H (by simp)
                          · rw [if_neg c13] at H
                            have c13b0 : ((rd x4_2 (ji10)) == 0) = false := beq_eq_false_iff_ne.mpr c13
                            have c13b1 : ((rd x4_2 (ji10)) != 0) = true := bne_iff_ne.mpr c13
                            have H' := Aside0.mk H
                            clear H
                            obtain ⟨Ao17, co17, eo17⟩ := Kd.R_slice HO_4.out
                            subst eo17
                            have p207 : 0 ≤ ((ji10) : Int) := of_decide_eq_true (by first | (with_reducible assumption) | assumption)
                            have q207 : (ji10) < (x4_2.length : Int) := of_decide_eq_true (by first | (with_reducible assumption) | assumption)
                            obtain ⟨ad207, e207, hx207_0⟩ := Kd.at_int (Kd.R_reads' HO_4.out).2.2 (ji10) p207 q207
                            cases e207
                            replace p207 := eq_true p207
                            replace q207 := eq_true q207
                            go_wp2
                            go_meet
                            case rel => exact ⟨_, (x4_2), H', ⟨by have := HK1.out; have := HK2.out; first | omega | exact Nat.le_refl _⟩, ⟨by (with_reducible repeat (first | apply Kd.R_alloc | apply Kd.R_drewN | apply Kd.R_drew)); exact HO_4.out⟩, ⟨by (with_reducible repeat (first | refine blk_drewN ?_ _ | refine blk_drew ?_ | refine blk_alloc ?_ _)); exact BK206.out⟩, ⟨by repeat (first | (with_reducible first | exact HB.out | apply below_alloc | apply pw_below_drewN | apply below_drew1 | refine below_set ?_ GE206.out) | exact HB.out)⟩⟩
                        · rw [if_neg c12] at H
                          exact absurd H (by simp)
                      · rw [if_neg c11] at H
                        exact absurd H (by simp)
                    · rw [if_neg c9] at H
                      have c9b0 : decide (0 < (x4_2.length : Int)) = false := decide_eq_false c9
                      have c9b1 : decide (0 < x4_2.length) = false := decide_eq_false (by omega)
                      clear c9
                      (first | rw [c9b0] | (simp only [i64_w, i32_w]; rw [c9b0]) | rw [c9b1] | skip)
                      have H' := Aside0.mk H
                      clear H
                      obtain ⟨Ao18, co18, eo18⟩ := Kd.R_slice HO_4.out
                      subst eo18
                      go_wp2
                      go_meet
                      case rel => exact ⟨_, (x4_2), H', ⟨by have := HK1.out; have := HK2.out; first | omega | exact Nat.le_refl _⟩, ⟨by (with_reducible repeat (first | apply Kd.R_alloc | apply Kd.R_drewN | apply Kd.R_drew)); exact HO_4.out⟩, ⟨by (with_reducible repeat (first | refine blk_drewN ?_ _ | refine blk_drew ?_ | refine blk_alloc ?_ _)); exact BK206.out⟩, ⟨by repeat (first | (with_reducible first | exact HB.out | apply below_alloc | apply pw_below_drewN | apply below_drew1 | refine below_set ?_ GE206.out) | exact HB.out)⟩⟩
              case rest =>
                clear HC6
                try clear c1
                try clear q1
                try clear c2
                try clear c2b0
                try clear c2b1
                try clear p2
                try clear q2
                try clear hx2
                try clear c3
                try clear c3b0
                try clear c4
                try clear c4b0
                try clear c5
                try clear c5b0
                try clear p6
                try clear c9
                try clear c9b0
                try clear c9b1
                try clear c11
                try clear c11b0
                try clear c12
                try clear c12b0
                try clear c13
                try clear c13b0
                try clear c13b1
                try clear c14
                try clear c14b0
                try clear c14b1
                try clear q16
                try clear hcz8_0
                try clear hcz8_1
                try clear hcz8_2
                try clear hcz8_3
                try clear hfz8_0
                try clear hfz8_1
                try clear hfz8_2
                try clear hfz8_3
                try clear hx205_0
                try clear hx205_1
                try clear hx205_2
                try clear hx205_3
                try clear hx207_0
                try clear p2
                try clear p205
                try clear p207
                try clear q16
                try clear q2
                try clear q205
                try clear q207
                obtain ⟨kq, x4_5, HA, HJ5, HO_4, BK206, HB⟩ := hcut
                cases kq with
                | zero => exact absurd HA.out (by simp [impl_rightTree.j2])
                | succ kj5 =>
                  have H := HA.out
                  clear HA
                  simp only [impl_rightTree.j2] at H
                  replace H := Option.bind_eq_some_iff.mp H
                  obtain ⟨t211, A190, H⟩ := H
                  replace H : (if t211 = true then (if (x4_5.length : Int) > 0 then (if 0 ≤ (wrap64 ((x4_5.length : Int) - 1)) then (if (wrap64 ((x4_5.length : Int) - 1)) < (x4_5.length : Int) then (impl_rightTree.j3 kj5 (wrap64 (x3_1 + (((rd_T43 l0 x14_1).f1).size : Int))) (x4_5.set ((wrap64 ((x4_5.length : Int) - 1)) : Int).toNat (wrap64 ((rd x4_5 (wrap64 ((x4_5.length : Int) - 1))) - 1))) l0 (l0.length : Int) x14_1 ((rd_T43 l0 x14_1).f0) ((rd_T43 l0 x14_1).f1) ((rd_T43 l0 x14_1).f2) ((rd_T43 l0 x14_1).f3)) else (none)) else (none)) else (impl_rightTree.j3 kj5 (wrap64 (x3_1 + (((rd_T43 l0 x14_1).f1).size : Int))) x4_5 l0 (l0.length : Int) x14_1 ((rd_T43 l0 x14_1).f0) ((rd_T43 l0 x14_1).f1) ((rd_T43 l0 x14_1).f2) ((rd_T43 l0 x14_1).f3))) else (some false)) = some r := H
                  have A19 := Aside0.mk A190
                  clear A190
                  by_cases c20 : t211 = true
                  · subst c20
                    have H1 : (if (x4_5.length : Int) > 0 then (if 0 ≤ (wrap64 ((x4_5.length : Int) - 1)) then (if (wrap64 ((x4_5.length : Int) - 1)) < (x4_5.length : Int) then (impl_rightTree.j3 kj5 (wrap64 (x3_1 + (((rd_T43 l0 x14_1).f1).size : Int))) (x4_5.set ((wrap64 ((x4_5.length : Int) - 1)) : Int).toNat (wrap64 ((rd x4_5 (wrap64 ((x4_5.length : Int) - 1))) - 1))) l0 (l0.length : Int) x14_1 ((rd_T43 l0 x14_1).f0) ((rd_T43 l0 x14_1).f1) ((rd_T43 l0 x14_1).f2) ((rd_T43 l0 x14_1).f3)) else (none)) else (none)) else (impl_rightTree.j3 kj5 (wrap64 (x3_1 + (((rd_T43 l0 x14_1).f1).size : Int))) x4_5 l0 (l0.length : Int) x14_1 ((rd_T43 l0 x14_1).f0) ((rd_T43 l0 x14_1).f1) ((rd_T43 l0 x14_1).f2) ((rd_T43 l0 x14_1).f3))) = some r := by rw [if_pos rfl] at H; exact H
                    clear H
                    have H := H1
                    clear H1
                    have HC21 := Aside0.mk H
                    clear H
                    have hcz22_0 : wc.cell? ⟨gb206, 0, none⟩ = some (.int .i64 ((rd_T43 l0 x14_1).f0)) := (blk_cell BK206.out 0).trans rfl
                    have hcz22_1 : wc.cell? ⟨gb206, 1, none⟩ = some (.string ((rd_T43 l0 x14_1).f1)) := (blk_cell BK206.out 1).trans rfl
                    have hcz22_2 : wc.cell? ⟨gb206, 2, none⟩ = some (.int .i64 ((rd_T43 l0 x14_1).f2)) := (blk_cell BK206.out 2).trans rfl
                    have hcz22_3 : wc.cell? ⟨gb206, 3, none⟩ = some (.int .i64 ((rd_T43 l0 x14_1).f3)) := (blk_cell BK206.out 3).trans rfl
                    have hfz22_0 := blk_frozen BK206.out 0
                    have hfz22_1 := blk_frozen BK206.out 1
                    have hfz22_2 := blk_frozen BK206.out 2
                    have hfz22_3 := blk_frozen BK206.out 3
                    go_upto_if 45 with (first | ((with_reducible refine gate_callee (f := 46) rfl ?_); refine goesL_ (some 36) rfl rfl Tryd.func46 (by kernel_rfl) rfl #[.agg #[.int .i64 ((rd_T43 l0 x14_1).f0), .string ((rd_T43 l0 x14_1).f1), .int .i64 ((rd_T43 l0 x14_1).f2), .int .i64 ((rd_T43 l0 x14_1).f3)]] rfl (by (try simp only [List.map_toArray, List.map_cons, List.map_nil]); first | done | rfl | (simp only [List.length_drop, List.length_take]; rfl)) ?_; (with_reducible refine (impl_goodNode.calls ((rd_T43 l0 x14_1).f0) ((rd_T43 l0 x14_1).f1) ((rd_T43 l0 x14_1).f2) ((rd_T43 l0 x14_1).f3) true _ (HT.out.here (by repeat (first | (with_reducible first | exact HB.out | apply below_alloc | apply pw_below_drewN | apply below_drew1 | refine below_set ?_ GE206.out) | exact HB.out))) A19.out).mono ?_); rintro e w23 ⟨rfl, hb⟩; refine ⟨_, rfl, ?_⟩; have n0_ := Aside0.mk (Kd.R_below (by (with_reducible repeat (first | apply Kd.R_alloc | apply Kd.R_drewN | apply Kd.R_drew)); exact HO_4.out) hb); have n1_ := Aside0.mk (blk_below (g := gb206) (o := .cells #[.int .i64 ((rd_T43 l0 x14_1).f0), .string ((rd_T43 l0 x14_1).f1), .int .i64 ((rd_T43 l0 x14_1).f2), .int .i64 ((rd_T43 l0 x14_1).f3)] 43 (0, 0)) (by (with_reducible repeat (first | refine blk_drewN ?_ _ | refine blk_drew ?_ | refine blk_alloc ?_ _)); exact BK206.out) hb); have n2_ := Aside0.mk (below_step (by repeat (first | (with_reducible first | exact HB.out | apply below_alloc | apply pw_below_drewN | apply below_drew1 | refine below_set ?_ GE206.out) | exact HB.out)) hb); clear HO_4; clear BK206; clear HB; have HO_4 := n0_; have BK206 := n1_; have HB := n2_; clear n0_ n1_ n2_; (try clear hb); (try clear hb2); (try clear hk); (try clear hi); have hcz24_0 : w23.cell? ⟨gb206, 0, none⟩ = some (.int .i64 ((rd_T43 l0 x14_1).f0)) := (blk_cell BK206.out 0).trans rfl; have hcz24_1 : w23.cell? ⟨gb206, 1, none⟩ = some (.string ((rd_T43 l0 x14_1).f1)) := (blk_cell BK206.out 1).trans rfl; have hcz24_2 : w23.cell? ⟨gb206, 2, none⟩ = some (.int .i64 ((rd_T43 l0 x14_1).f2)) := (blk_cell BK206.out 2).trans rfl; have hcz24_3 : w23.cell? ⟨gb206, 3, none⟩ = some (.int .i64 ((rd_T43 l0 x14_1).f3)) := (blk_cell BK206.out 3).trans rfl; have hfz24_0 := blk_frozen BK206.out 0; have hfz24_1 := blk_frozen BK206.out 1; have hfz24_2 := blk_frozen BK206.out 2; have hfz24_3 := blk_frozen BK206.out 3; obtain ⟨Ao25, co25, eo25⟩ := Kd.R_slice HO_4.out; subst eo25))
                    (try simp only [Act.put, List.setIfInBounds_toArray, List.set_cons_zero, List.set_cons_succ])
                    go_cut [] (fun wc => ∃ (kq : Nat) (x4_20 : List Int), Aside0 (impl_rightTree.j3 kq (wrap64 (x3_1 + (((rd_T43 l0 x14_1).f1).size : Int))) x4_20 l0 (l0.length : Int) x14_1 ((rd_T43 l0 x14_1).f0) ((rd_T43 l0 x14_1).f1) ((rd_T43 l0 x14_1).f2) ((rd_T43 l0 x14_1).f3) = some r) ∧ Aside0 (kq ≤ kj5) ∧ Aside0 (Kd.R (Kd.int .i64) 3 wc w.heap.size (fun _ => True) (.slice Ao25 x4_5.length co25) x4_20) ∧ Aside0 (wc.heap[gb206]? = some (.cells #[.int .i64 ((rd_T43 l0 x14_1).f0), .string ((rd_T43 l0 x14_1).f1), .int .i64 ((rd_T43 l0 x14_1).f2), .int .i64 ((rd_T43 l0 x14_1).f3)] 43 (0, 0))) ∧ Aside0 (Below w.heap.size w wc))
                    case first =>
                      have H := HC21.out
                      clear HC21
                      by_cases c26 : (x4_5.length : Int) > 0
                      · rw [if_pos c26] at H
                        have c26b0 : decide (0 < (x4_5.length : Int)) = true := decide_eq_true c26
                        have c26b1 : decide (0 < x4_5.length) = true := decide_eq_true (by omega)
                        clear c26
                        (first | rw [c26b0] | (simp only [i64_w, i32_w]; rw [c26b0]) | rw [c26b1] | skip)
                        obtain ⟨ji27, hji27⟩ : ∃ j_ : Int, (wrap64 ((x4_5.length : Int) - 1)) = j_ := ⟨_, rfl⟩
                        replace H : (if 0 ≤ (ji27) then (if (ji27) < (x4_5.length : Int) then (impl_rightTree.j3 kj5 (wrap64 (x3_1 + (((rd_T43 l0 x14_1).f1).size : Int))) (x4_5.set ((ji27) : Int).toNat (wrap64 ((rd x4_5 (ji27)) - 1))) l0 (l0.length : Int) x14_1 ((rd_T43 l0 x14_1).f0) ((rd_T43 l0 x14_1).f1) ((rd_T43 l0 x14_1).f2) ((rd_T43 l0 x14_1).f3)) else (none)) else (none)) = some r := by first | (rw [hji27] at H; exact H) | (simp only [hji27] at H ⊢; exact H)
                        have hji27w : (IntKind.i64.wrap ((x4_5.length : Int) - 1)) = ji27 := (i64_w _).trans hji27
                        by_cases c28 : 0 ≤ (ji27)
                        · rw [if_pos c28] at H
                          have c28b0 : decide (0 ≤ (ji27)) = true := decide_eq_true c28
                          clear c28
                          by_cases c29 : (ji27) < (x4_5.length : Int)
                          · rw [if_pos c29] at H
                            have c29b0 : decide ((ji27) < (x4_5.length : Int)) = true := decide_eq_true c29
                            clear c29
                            obtain ⟨y213, hy213⟩ : ∃ y_ : List Int, y_ = (x4_5.set ((ji27) : Int).toNat (wrap64 ((rd x4_5 (ji27)) - 1))) := ⟨_, rfl⟩
                            replace H : (impl_rightTree.j3 kj5 (wrap64 (x3_1 + (((rd_T43 l0 x14_1).f1).size : Int))) y213 l0 (l0.length : Int) x14_1 ((rd_T43 l0 x14_1).f0) ((rd_T43 l0 x14_1).f1) ((rd_T43 l0 x14_1).f2) ((rd_T43 l0 x14_1).f3)) = some r := by first | (rw [hy213]; with_reducible exact H) | (have H2_ := (Option.bind_some _ _).symm.trans H; rw [hy213]; with_reducible exact H2_) | (have H2_ := (Option.bind_some _ _).symm.trans H; with_reducible exact H2_) | with_reducible exact H | (rw [hy213]; exact H) | exact H
                            have Ny213 := Aside0.mk hy213
                            clear hy213
                            have H' := Aside0.mk H
                            clear H
                            have p212 : 0 ≤ ((ji27) : Int) := of_decide_eq_true (by first | (with_reducible assumption) | assumption)
                            have q212 : (ji27) < (x4_5.length : Int) := of_decide_eq_true (by first | (with_reducible assumption) | assumption)
                            obtain ⟨ad212, e212, hx212_0⟩ := Kd.at_int (Kd.R_reads' HO_4.out).2.2 (ji27) p212 q212
                            cases e212
                            replace p212 := eq_true p212
                            replace q212 := eq_true q212
                            have p30 : 0 ≤ ((ji27) : Int) := of_decide_eq_true (by first | (with_reducible assumption) | assumption)
                            have q30 : ((ji27) : Int) < ((x4_5.length : Int) : Int) := of_decide_eq_true (by first | (with_reducible assumption) | assumption)
                            obtain ⟨go30, co30, eo30, gb30, gl30, cl30, HG30⟩ := Kd.R_form HO_4.out (by omega)
                            (first | cases eo30 | (injection eo30 with ea_ en_ ec_; (first | subst ea_ | (injection ea_ with ea_; subst ea_)); subst ec_; clear en_))
                            have GB30 := Aside0.mk gb30
                            have GG30 := Aside0.mk HG30
                            clear gb30 gl30 HG30
                            (first | simp only [add_plain] at hx212_0 | skip)
                            obtain ⟨hx30_0, hf30_0⟩ := Kd.R_celln 0 HO_4.out ((ji27) : Int) p30 q30
                            replace p30 := eq_true p30
                            replace q30 := eq_true q30
                            have HP31 := Kd.R_putg HO_4.out ((ji27) : Int) (wrap64 ((rd x4_5 (ji27)) - 1))
                            go_wp2_with (first | ((with_reducible refine gate_store (t := 3) (p := 53) rfl ?_); refine store_event (t := 3) (p := 53) (v := ?vo_w32) (w1 := (w23.setCell ⟨go30, ((ji27) : Int).toNat, none⟩ (.int .i64 (wrap64 ((rd x4_5 (ji27)) - 1))))) ?hg ?ho ?hn ?hr ?_; (case ho => rfl); (case hg => rfl); (case hn => rfl); (case hr => first | (go_simp; done) | (go_simp; rfl)); intro w32 hw; have hg : w23.grownBy w32 (some go30) := (by rw [hw]; exact HP31.2); have hp_ : Kd.R (Kd.int .i64) 3 w32 w.heap.size (fun _ => True) (.slice (some ⟨go30, 0, none⟩) x4_5.length co25) y213 := (by rw [hw, Ny213.out]; exact HP31.1); clear HP31; have n0_ := Aside0.mk (hp_); have n1_ := Aside0.mk (blk_grown (g := gb206) (o := .cells #[.int .i64 ((rd_T43 l0 x14_1).f0), .string ((rd_T43 l0 x14_1).f1), .int .i64 ((rd_T43 l0 x14_1).f2), .int .i64 ((rd_T43 l0 x14_1).f3)] 43 (0, 0)) (by (with_reducible repeat (first | refine blk_drewN ?_ _ | refine blk_drew ?_ | refine blk_alloc ?_ _)); exact BK206.out) hg (Kd.R_ne HO_4.out BK206.out (by decide))); have n2_ := Aside0.mk ((by rw [hw]; exact below_set (HB.out) GB30.out : Below w.heap.size w w32)); clear HO_4; clear BK206; clear HB; have HO_4 := n0_; have BK206 := n1_; have HB := n2_; clear n0_ n1_ n2_; clear hg hw hp_))
                            go_meet
                            case rel => exact ⟨_, (y213), H', ⟨by have := HK1.out; have := HJ5.out; first | omega | exact Nat.le_refl _⟩, ⟨by (with_reducible repeat (first | apply Kd.R_alloc | apply Kd.R_drewN | apply Kd.R_drew)); exact HO_4.out⟩, ⟨by (with_reducible repeat (first | refine blk_drewN ?_ _ | refine blk_drew ?_ | refine blk_alloc ?_ _)); exact BK206.out⟩, ⟨by repeat (first | (with_reducible first | exact HB.out | apply below_alloc | apply pw_below_drewN | apply below_drew1 | refine below_set ?_ GE206.out) | exact HB.out)⟩⟩
                          · rw [if_neg c29] at H
                            exact absurd H (by simp)
                        · rw [if_neg c28] at H
                          exact absurd H (by simp)
                      · rw [if_neg c26] at H
                        have c26b0 : decide (0 < (x4_5.length : Int)) = false := decide_eq_false c26
                        have c26b1 : decide (0 < x4_5.length) = false := decide_eq_false (by omega)
                        clear c26
                        (first | rw [c26b0] | (simp only [i64_w, i32_w]; rw [c26b0]) | rw [c26b1] | skip)
                        have H' := Aside0.mk H
                        clear H
                        go_wp2
                        go_meet
                        case rel => exact ⟨_, (x4_5), H', ⟨by have := HK1.out; have := HJ5.out; first | omega | exact Nat.le_refl _⟩, ⟨by (with_reducible repeat (first | apply Kd.R_alloc | apply Kd.R_drewN | apply Kd.R_drew)); exact HO_4.out⟩, ⟨by (with_reducible repeat (first | refine blk_drewN ?_ _ | refine blk_drew ?_ | refine blk_alloc ?_ _)); exact BK206.out⟩, ⟨by repeat (first | (with_reducible first | exact HB.out | apply below_alloc | apply pw_below_drewN | apply below_drew1 | refine below_set ?_ GE206.out) | exact HB.out)⟩⟩
                    case rest =>
                      clear HC21
                      try clear c1
                      try clear q1
                      try clear c2
                      try clear c2b0
                      try clear c2b1
                      try clear p2
                      try clear q2
                      try clear hx2
                      try clear c3
                      try clear c3b0
                      try clear p3
                      try clear q3
                      try clear hx3
                      try clear hf3
                      try clear c4
                      try clear c4b0
                      try clear c5
                      try clear c5b0
                      try clear p6
                      try clear c9
                      try clear c9b0
                      try clear c9b1
                      try clear c11
                      try clear c11b0
                      try clear c12
                      try clear c12b0
                      try clear c13
                      try clear c13b0
                      try clear c13b1
                      try clear c14
                      try clear c14b0
                      try clear c14b1
                      try clear q16
                      try clear c20
                      try clear p20
                      try clear q20
                      try clear hx20
                      try clear p21
                      try clear q21
                      try clear hx21
                      try clear c25
                      try clear c26
                      try clear c26b0
                      try clear c26b1
                      try clear c28
                      try clear c28b0
                      try clear c29
                      try clear c29b0
                      try clear p30
                      try clear q30
                      try clear hx30
                      try clear hf30
                      try clear hcz22_0
                      try clear hcz22_1
                      try clear hcz22_2
                      try clear hcz22_3
                      try clear hcz24_0
                      try clear hcz24_1
                      try clear hcz24_2
                      try clear hcz24_3
                      try clear hcz8_0
                      try clear hcz8_1
                      try clear hcz8_2
                      try clear hcz8_3
                      try clear hfz22_0
                      try clear hfz22_1
                      try clear hfz22_2
                      try clear hfz22_3
                      try clear hfz24_0
                      try clear hfz24_1
                      try clear hfz24_2
                      try clear hfz24_3
                      try clear hfz8_0
                      try clear hfz8_1
                      try clear hfz8_2
                      try clear hfz8_3
                      try clear hx205_0
                      try clear hx205_1
                      try clear hx205_2
                      try clear hx205_3
                      try clear hx207_0
                      try clear hx212_0
                      try clear hx30_0
                      try clear p2
                      try clear p205
                      try clear p207
                      try clear p212
                      try clear p30
                      try clear p6
                      try clear q1
                      try clear q16
                      try clear q2
                      try clear q205
                      try clear q207
                      try clear q212
                      try clear q30
                      obtain ⟨kq, x4_20, HA, HJ20, HO_4, BK206, HB⟩ := hcut
                      have hl4_20 := (Kd.R_reads' HO_4.out).1
                      rw [hl4_20] at HO_4
                      (try simp only [hl4_20])
                      (try simp only [hl4_20] at BK206)
                      cases kq with
                      | zero => exact absurd HA.out (by simp [impl_rightTree.j3])
                      | succ kj20 =>
                        have H := HA.out
                        clear HA
                        simp only [impl_rightTree.j3] at H
                        by_cases c33 : ((rd_T43 l0 x14_1).f0) = 1
                        · rw [if_pos c33] at H
                          have c33b0 : (((rd_T43 l0 x14_1).f0) == 1) = true := beq_iff_eq.mpr c33
                          have c33b1 : (((rd_T43 l0 x14_1).f0) != 1) = false := bne_eq_false_iff_eq.mpr c33
                          clear c33
                          by_cases c34 : x4_20.length < 17592186044416
                          · rw [if_pos c34] at H
                            have LMc34 := Aside0.mk c34
                            clear c34
                            obtain ⟨y214, hy214⟩ : ∃ y_ : List Int, y_ = (x4_20 ++ [((rd_T43 l0 x14_1).f2)]) := ⟨_, rfl⟩
                            replace H : (if (y214.length : Int) > 200 then (some false) else (impl_rightTree.l0 kj20 (wrap64 (x3_1 + (((rd_T43 l0 x14_1).f1).size : Int))) y214 l0 (l0.length : Int) (wrap64 (x14_1 + 1)))) = some r := by first | (rw [hy214]; with_reducible exact H) | (have H2_ := (Option.bind_some _ _).symm.trans H; rw [hy214]; with_reducible exact H2_) | (have H2_ := (Option.bind_some _ _).symm.trans H; with_reducible exact H2_) | with_reducible exact H | (rw [hy214]; exact H) | exact H
                            have Ny214 := Aside0.mk hy214
                            clear hy214
                            by_cases c35 : (y214.length : Int) > 200
                            · rw [if_pos c35] at H
                              have c35b0 : decide (200 < (y214.length : Int)) = true := decide_eq_true c35
                              have c35b1 : decide (200 < y214.length) = true := decide_eq_true (by omega)
                              clear c35
                              obtain rfl := Option.some.inj H
                              have hcz36_0 : wc.cell? ⟨gb206, 0, none⟩ = some (.int .i64 ((rd_T43 l0 x14_1).f0)) := (blk_cell BK206.out 0).trans rfl
                              have hcz36_1 : wc.cell? ⟨gb206, 1, none⟩ = some (.string ((rd_T43 l0 x14_1).f1)) := (blk_cell BK206.out 1).trans rfl
                              have hcz36_2 : wc.cell? ⟨gb206, 2, none⟩ = some (.int .i64 ((rd_T43 l0 x14_1).f2)) := (blk_cell BK206.out 2).trans rfl
                              have hcz36_3 : wc.cell? ⟨gb206, 3, none⟩ = some (.int .i64 ((rd_T43 l0 x14_1).f3)) := (blk_cell BK206.out 3).trans rfl
                              have hfz36_0 := blk_frozen BK206.out 0
                              have hfz36_1 := blk_frozen BK206.out 1
                              have hfz36_2 := blk_frozen BK206.out 2
                              have hfz36_3 := blk_frozen BK206.out 3
                              go_wp2_with (first | ((with_reducible refine gate_builtin (b := .append) (xs := #[.tmp 57, .tmp 60]) rfl ?_); (try (refine gate_guard (by rfl) ?_; dsimp only)); at_builtin; refine Kd.R_append (Kd.int .i64) (w0 := w) w.heap.size rfl (.tmp 57) (.tmp 60) 62 3 (.int .i64 0) 8 rfl Tryd.underlying62 info3 rfl (by decide) (by omega) (.slice Ao25 x4_20.length co25) x4_20 ((rd_T43 l0 x14_1).f2) [.int .i64 ((rd_T43 l0 x14_1).f2)] (fun _ => True) (fun _ => False) rfl rfl ?aP (fun _ hk => hk.elim) ?aF ?aO ?aB ?aS ?aL ?_; (case aP => exact rfl); (case aB => exact (by repeat (first | (with_reducible first | exact HB.out | apply below_alloc | apply pw_below_drewN | apply below_drew1 | refine below_set ?_ GE206.out) | exact HB.out))); (case aF => exact (fun _ _ => trivial)); (case aO => exact (by (with_reducible repeat (first | apply Kd.R_alloc | apply Kd.R_drewN | apply Kd.R_drew)); exact HO_4.out)); (case aS => exact (below_size (by repeat (first | (with_reducible first | exact HB.out | apply below_alloc | apply pw_below_drewN | apply below_drew1 | refine below_set ?_ GE206.out) | exact HB.out)))); (case aL => have := LMc34.out; omega); intro v215 w37 ho hb hg hat; rw [← Ny214.out] at ho; have n0_ := Aside0.mk (blk_grown (g := gb206) (o := .cells #[.int .i64 ((rd_T43 l0 x14_1).f0), .string ((rd_T43 l0 x14_1).f1), .int .i64 ((rd_T43 l0 x14_1).f2), .int .i64 ((rd_T43 l0 x14_1).f3)] 43 (0, 0)) (by (with_reducible repeat (first | refine blk_drewN ?_ _ | refine blk_drew ?_ | refine blk_alloc ?_ _)); exact BK206.out) hg (Kd.R_ne HO_4.out BK206.out (by decide))); have n1_ := Aside0.mk (hb); have n2_ := Aside0.mk (ho); clear BK206; clear HB; clear HO_4; have BK206 := n0_; have HB := n1_; have HO216 := n2_; clear n0_ n1_ n2_; clear ho hb hg hat; obtain ⟨Ao38, co38, eo38⟩ := Kd.R_slice HO216.out; subst eo38))
                              go_ret
                              exact ⟨by first | rfl | (simp [errW_none, errW_some] <;> rfl) | (simp [*, errW_none, errW_some] <;> rfl), by repeat (first | (with_reducible first | exact HB.out | apply below_alloc | apply pw_below_drewN | apply below_drew1 | refine below_set ?_ GE206.out) | exact HB.out)⟩
                            · rw [if_neg c35] at H
                              have c35b0 : decide (200 < (y214.length : Int)) = false := decide_eq_false c35
                              have c35b1 : decide (200 < y214.length) = false := decide_eq_false (by omega)
                              clear c35
                              have H' := Aside0.mk H
                              clear H
                              have hcz39_0 : wc.cell? ⟨gb206, 0, none⟩ = some (.int .i64 ((rd_T43 l0 x14_1).f0)) := (blk_cell BK206.out 0).trans rfl
                              have hcz39_1 : wc.cell? ⟨gb206, 1, none⟩ = some (.string ((rd_T43 l0 x14_1).f1)) := (blk_cell BK206.out 1).trans rfl
                              have hcz39_2 : wc.cell? ⟨gb206, 2, none⟩ = some (.int .i64 ((rd_T43 l0 x14_1).f2)) := (blk_cell BK206.out 2).trans rfl
                              have hcz39_3 : wc.cell? ⟨gb206, 3, none⟩ = some (.int .i64 ((rd_T43 l0 x14_1).f3)) := (blk_cell BK206.out 3).trans rfl
                              have hfz39_0 := blk_frozen BK206.out 0
                              have hfz39_1 := blk_frozen BK206.out 1
                              have hfz39_2 := blk_frozen BK206.out 2
                              have hfz39_3 := blk_frozen BK206.out 3
                              go_wp2_with (first | ((with_reducible refine gate_builtin (b := .append) (xs := #[.tmp 57, .tmp 60]) rfl ?_); (try (refine gate_guard (by rfl) ?_; dsimp only)); at_builtin; refine Kd.R_append (Kd.int .i64) (w0 := w) w.heap.size rfl (.tmp 57) (.tmp 60) 62 3 (.int .i64 0) 8 rfl Tryd.underlying62 info3 rfl (by decide) (by omega) (.slice Ao25 x4_20.length co25) x4_20 ((rd_T43 l0 x14_1).f2) [.int .i64 ((rd_T43 l0 x14_1).f2)] (fun _ => True) (fun _ => False) rfl rfl ?aP (fun _ hk => hk.elim) ?aF ?aO ?aB ?aS ?aL ?_; (case aP => exact rfl); (case aB => exact (by repeat (first | (with_reducible first | exact HB.out | apply below_alloc | apply pw_below_drewN | apply below_drew1 | refine below_set ?_ GE206.out) | exact HB.out))); (case aF => exact (fun _ _ => trivial)); (case aO => exact (by (with_reducible repeat (first | apply Kd.R_alloc | apply Kd.R_drewN | apply Kd.R_drew)); exact HO_4.out)); (case aS => exact (below_size (by repeat (first | (with_reducible first | exact HB.out | apply below_alloc | apply pw_below_drewN | apply below_drew1 | refine below_set ?_ GE206.out) | exact HB.out)))); (case aL => have := LMc34.out; omega); intro v215 w40 ho hb hg hat; rw [← Ny214.out] at ho; have n0_ := Aside0.mk (blk_grown (g := gb206) (o := .cells #[.int .i64 ((rd_T43 l0 x14_1).f0), .string ((rd_T43 l0 x14_1).f1), .int .i64 ((rd_T43 l0 x14_1).f2), .int .i64 ((rd_T43 l0 x14_1).f3)] 43 (0, 0)) (by (with_reducible repeat (first | refine blk_drewN ?_ _ | refine blk_drew ?_ | refine blk_alloc ?_ _)); exact BK206.out) hg (Kd.R_ne HO_4.out BK206.out (by decide))); have n1_ := Aside0.mk (hb); have n2_ := Aside0.mk (ho); clear BK206; clear HB; clear HO_4; have BK206 := n0_; have HB := n1_; have HO216 := n2_; clear n0_ n1_ n2_; clear ho hb hg hat; obtain ⟨Ao41, co41, eo41⟩ := Kd.R_slice HO216.out; subst eo41))
                              (try simp only [← hl4_20])
                              go_roundg kj20
                              case measure => have := HK1.out; have := HJ5.out; have := HJ20.out; omega
                              case rel => exact ⟨((wrap64 (x3_1 + (((rd_T43 l0 x14_1).f1).size : Int)))), (y214), (wrap64 (x14_1 + 1)), (by first | rfl | (simp; done) | (simp [*]; done)), (by first | rfl | (simp; done) | (simp [*]; done)), H', ⟨by have := HK1.out; have := HJ5.out; have := HJ20.out; omega⟩, ⟨by (try simp only [hl4_20]); (with_reducible repeat (first | apply Kd.R_alloc | apply Kd.R_drewN | apply Kd.R_drew)); exact HO216.out⟩, ⟨by repeat (first | (with_reducible first | exact HB.out | apply below_alloc | apply pw_below_drewN | apply below_drew1 | refine below_set ?_ GE206.out) | exact HB.out)⟩⟩
                          · rw [if_neg c34] at H
                            exact absurd H (by simp)
                        · rw [if_neg c33] at H
                          have c33b0 : (((rd_T43 l0 x14_1).f0) == 1) = false := beq_eq_false_iff_ne.mpr c33
                          have c33b1 : (((rd_T43 l0 x14_1).f0) != 1) = true := bne_iff_ne.mpr c33
                          have H' := Aside0.mk H
                          clear H
                          have hcz42_0 : wc.cell? ⟨gb206, 0, none⟩ = some (.int .i64 ((rd_T43 l0 x14_1).f0)) := (blk_cell BK206.out 0).trans rfl
                          have hcz42_1 : wc.cell? ⟨gb206, 1, none⟩ = some (.string ((rd_T43 l0 x14_1).f1)) := (blk_cell BK206.out 1).trans rfl
                          have hcz42_2 : wc.cell? ⟨gb206, 2, none⟩ = some (.int .i64 ((rd_T43 l0 x14_1).f2)) := (blk_cell BK206.out 2).trans rfl
                          have hcz42_3 : wc.cell? ⟨gb206, 3, none⟩ = some (.int .i64 ((rd_T43 l0 x14_1).f3)) := (blk_cell BK206.out 3).trans rfl
                          have hfz42_0 := blk_frozen BK206.out 0
                          have hfz42_1 := blk_frozen BK206.out 1
                          have hfz42_2 := blk_frozen BK206.out 2
                          have hfz42_3 := blk_frozen BK206.out 3
                          go_wp2
                          (try simp only [← hl4_20])
                          go_roundg kj20
                          case measure => have := HK1.out; have := HJ5.out; have := HJ20.out; omega
                          case rel => exact ⟨((wrap64 (x3_1 + (((rd_T43 l0 x14_1).f1).size : Int)))), (x4_20), (wrap64 (x14_1 + 1)), (by first | rfl | (simp; done) | (simp [*]; done)), (by first | rfl | (simp; done) | (simp [*]; done)), H', ⟨by have := HK1.out; have := HJ5.out; have := HJ20.out; omega⟩, ⟨by (try simp only [hl4_20]); (with_reducible repeat (first | apply Kd.R_alloc | apply Kd.R_drewN | apply Kd.R_drew)); exact HO_4.out⟩, ⟨by repeat (first | (with_reducible first | exact HB.out | apply below_alloc | apply pw_below_drewN | apply below_drew1 | refine below_set ?_ GE206.out) | exact HB.out)⟩⟩
                  · replace c20 := Bool.eq_false_iff.mpr c20
                    subst c20
                    have H1 : (some false) = some r := by rw [if_neg (show ¬ (false = true) by decide)] at H; exact H
                    clear H
                    have H := H1
                    clear H1
                    obtain rfl := Option.some.inj H
                    have hcz43_0 : wc.cell? ⟨gb206, 0, none⟩ = some (.int .i64 ((rd_T43 l0 x14_1).f0)) := (blk_cell BK206.out 0).trans rfl
                    have hcz43_1 : wc.cell? ⟨gb206, 1, none⟩ = some (.string ((rd_T43 l0 x14_1).f1)) := (blk_cell BK206.out 1).trans rfl
                    have hcz43_2 : wc.cell? ⟨gb206, 2, none⟩ = some (.int .i64 ((rd_T43 l0 x14_1).f2)) := (blk_cell BK206.out 2).trans rfl
                    have hcz43_3 : wc.cell? ⟨gb206, 3, none⟩ = some (.int .i64 ((rd_T43 l0 x14_1).f3)) := (blk_cell BK206.out 3).trans rfl
                    have hfz43_0 := blk_frozen BK206.out 0
                    have hfz43_1 := blk_frozen BK206.out 1
                    have hfz43_2 := blk_frozen BK206.out 2
                    have hfz43_3 := blk_frozen BK206.out 3
                    go_wp2_with (first | ((with_reducible refine gate_callee (f := 46) rfl ?_); refine goesL_ (some 36) rfl rfl Tryd.func46 (by kernel_rfl) rfl #[.agg #[.int .i64 ((rd_T43 l0 x14_1).f0), .string ((rd_T43 l0 x14_1).f1), .int .i64 ((rd_T43 l0 x14_1).f2), .int .i64 ((rd_T43 l0 x14_1).f3)]] rfl (by (try simp only [List.map_toArray, List.map_cons, List.map_nil]); first | done | rfl | (simp only [List.length_drop, List.length_take]; rfl)) ?_; (with_reducible refine (impl_goodNode.calls ((rd_T43 l0 x14_1).f0) ((rd_T43 l0 x14_1).f1) ((rd_T43 l0 x14_1).f2) ((rd_T43 l0 x14_1).f3) false _ (HT.out.here (by repeat (first | (with_reducible first | exact HB.out | apply below_alloc | apply pw_below_drewN | apply below_drew1 | refine below_set ?_ GE206.out) | exact HB.out))) A19.out).mono ?_); rintro e w44 ⟨rfl, hb⟩; refine ⟨_, rfl, ?_⟩; have n0_ := Aside0.mk (Kd.R_below (by (with_reducible repeat (first | apply Kd.R_alloc | apply Kd.R_drewN | apply Kd.R_drew)); exact HO_4.out) hb); have n1_ := Aside0.mk (blk_below (g := gb206) (o := .cells #[.int .i64 ((rd_T43 l0 x14_1).f0), .string ((rd_T43 l0 x14_1).f1), .int .i64 ((rd_T43 l0 x14_1).f2), .int .i64 ((rd_T43 l0 x14_1).f3)] 43 (0, 0)) (by (with_reducible repeat (first | refine blk_drewN ?_ _ | refine blk_drew ?_ | refine blk_alloc ?_ _)); exact BK206.out) hb); have n2_ := Aside0.mk (below_step (by repeat (first | (with_reducible first | exact HB.out | apply below_alloc | apply pw_below_drewN | apply below_drew1 | refine below_set ?_ GE206.out) | exact HB.out)) hb); clear HO_4; clear BK206; clear HB; have HO_4 := n0_; have BK206 := n1_; have HB := n2_; clear n0_ n1_ n2_; (try clear hb); (try clear hb2); (try clear hk); (try clear hi)))
                    go_ret
                    exact ⟨by first | rfl | (simp [errW_none, errW_some] <;> rfl) | (simp [*, errW_none, errW_some] <;> rfl), by repeat (first | (with_reducible first | exact HB.out | apply below_alloc | apply pw_below_drewN | apply below_drew1 | refine below_set ?_ GE206.out) | exact HB.out)⟩
            · rw [if_neg c5] at H
              exact absurd H (by simp)
          · rw [if_neg c4] at H
            exact absurd H (by simp)
        · rw [if_neg c3] at H
          have c3b0 : decide (x14_1 < (l0.length : Int)) = false := decide_eq_false c3
          clear c3
          have H' := Aside0.mk H
          clear H
          obtain ⟨Ao45, co45, eo45⟩ := Kd.R_slice HO_4.out
          subst eo45
          go_wp2
          go_loopg [68] k1 (fun kq v68 w' => ∃ (x68_2 : Int), v68 = .int .i64 x68_2 ∧ Aside0 (impl_rightTree.l2 kq x3_1 x4_1 (x4_1.length : Int) x68_2 = some r) ∧ Aside0 (kq ≤ k1) ∧ Aside0 (Kd.R (Kd.int .i64) 3 w' w.heap.size (fun _ => True) (.slice Ao45 x4_1.length co45) x4_1) ∧ Aside0 (Below w.heap.size w w'))
          case atStart => exact ⟨(0), (by first | rfl | (simp; done) | (simp [*]; done)), H', ⟨Nat.le_refl _⟩, ⟨by (with_reducible repeat (first | apply Kd.R_alloc | apply Kd.R_drewN | apply Kd.R_drew)); exact HO_4.out⟩, ⟨by repeat (first | (with_reducible first | exact HB.out | apply below_alloc | apply pw_below_drewN | apply below_drew1) | exact HB.out)⟩⟩
          case round =>
            clear H'
            try clear c1
            try clear q1
            try clear c2
            try clear c2b0
            try clear c2b1
            try clear p2
            try clear q2
            try clear hx2
            try clear c3
            try clear c3b0
            try clear p3
            try clear q3
            try clear hx3
            try clear hf3
            try clear c4
            try clear c4b0
            try clear c5
            try clear c5b0
            try clear p6
            try clear c9
            try clear c9b0
            try clear c9b1
            try clear c11
            try clear c11b0
            try clear c12
            try clear c12b0
            try clear c13
            try clear c13b0
            try clear c13b1
            try clear c14
            try clear c14b0
            try clear c14b1
            try clear q16
            try clear c20
            try clear p20
            try clear q20
            try clear hx20
            try clear p21
            try clear q21
            try clear hx21
            try clear c25
            try clear c26
            try clear c26b0
            try clear c26b1
            try clear c28
            try clear c28b0
            try clear c29
            try clear c29b0
            try clear p30
            try clear q30
            try clear hx30
            try clear hf30
            try clear c33
            try clear c33b0
            try clear c33b1
            try clear c34
            try clear c35
            try clear c35b0
            try clear c35b1
            try clear hcz22_0
            try clear hcz22_1
            try clear hcz22_2
            try clear hcz22_3
            try clear hcz24_0
            try clear hcz24_1
            try clear hcz24_2
            try clear hcz24_3
            try clear hcz36_0
            try clear hcz36_1
            try clear hcz36_2
            try clear hcz36_3
            try clear hcz39_0
            try clear hcz39_1
            try clear hcz39_2
            try clear hcz39_3
            try clear hcz42_0
            try clear hcz42_1
            try clear hcz42_2
            try clear hcz42_3
            try clear hcz43_0
            try clear hcz43_1
            try clear hcz43_2
            try clear hcz43_3
            try clear hcz8_0
            try clear hcz8_1
            try clear hcz8_2
            try clear hcz8_3
            try clear hfz22_0
            try clear hfz22_1
            try clear hfz22_2
            try clear hfz22_3
            try clear hfz24_0
            try clear hfz24_1
            try clear hfz24_2
            try clear hfz24_3
            try clear hfz36_0
            try clear hfz36_1
            try clear hfz36_2
            try clear hfz36_3
            try clear hfz39_0
            try clear hfz39_1
            try clear hfz39_2
            try clear hfz39_3
            try clear hfz42_0
            try clear hfz42_1
            try clear hfz42_2
            try clear hfz42_3
            try clear hfz43_0
            try clear hfz43_1
            try clear hfz43_2
            try clear hfz43_3
            try clear hfz8_0
            try clear hfz8_1
            try clear hfz8_2
            try clear hfz8_3
            try clear hx205_0
            try clear hx205_1
            try clear hx205_2
            try clear hx205_3
            try clear hx207_0
            try clear hx212_0
            try clear hx30_0
            try clear p2
            try clear p20
            try clear p205
            try clear p207
            try clear p21
            try clear p212
            try clear p3
            try clear p30
            try clear p6
            try clear q1
            try clear q16
            try clear q2
            try clear q20
            try clear q205
            try clear q207
            try clear q21
            try clear q212
            try clear q3
            try clear q30
            obtain ⟨x68_2, rfl, HA, HK2, HO_66, HB⟩ := hrel
            cases gk with
            | zero => exact absurd HA.out (by simp [impl_rightTree.l2])
            | succ k2 =>
              have H := HA.out
              clear HA
              simp only [impl_rightTree.l2] at H
              by_cases c46 : x68_2 < (x4_1.length : Int)
              · rw [if_pos c46] at H
                have c46b0 : decide (x68_2 < (x4_1.length : Int)) = true := decide_eq_true c46
                clear c46
                by_cases c47 : 0 ≤ x68_2
                · rw [if_pos c47] at H
                  have c47b0 : decide (0 ≤ x68_2) = true := decide_eq_true c47
                  clear c47
                  by_cases c48 : x68_2 < (x4_1.length : Int)
                  · rw [if_pos c48] at H
                    have c48b0 : decide (x68_2 < (x4_1.length : Int)) = true := decide_eq_true c48
                    clear c48
                    by_cases c49 : (rd x4_1 x68_2) > 0
                    · rw [if_pos c49] at H
                      have c49b0 : decide (0 < (rd x4_1 x68_2)) = true := decide_eq_true c49
                      clear c49
                      obtain rfl := Option.some.inj H
                      have p217 : 0 ≤ (x68_2 : Int) := of_decide_eq_true (by first | (with_reducible assumption) | assumption)
                      have q217 : x68_2 < (x4_1.length : Int) := of_decide_eq_true (by first | (with_reducible assumption) | assumption)
                      obtain ⟨ad217, e217, hx217_0⟩ := Kd.at_int (Kd.R_reads' HO_66.out).2.2 x68_2 p217 q217
                      cases e217
                      replace p217 := eq_true p217
                      replace q217 := eq_true q217
                      go_wp2
                      go_ret
                      exact ⟨by first | rfl | (simp [errW_none, errW_some] <;> rfl) | (simp [*, errW_none, errW_some] <;> rfl), by repeat (first | (with_reducible first | exact HB.out | apply below_alloc | apply pw_below_drewN | apply below_drew1) | exact HB.out)⟩
                    · rw [if_neg c49] at H
                      have c49b0 : decide (0 < (rd x4_1 x68_2)) = false := decide_eq_false c49
                      clear c49
                      have H' := Aside0.mk H
                      clear H
                      have p217 : 0 ≤ (x68_2 : Int) := of_decide_eq_true (by first | (with_reducible assumption) | assumption)
                      have q217 : x68_2 < (x4_1.length : Int) := of_decide_eq_true (by first | (with_reducible assumption) | assumption)
                      obtain ⟨ad217, e217, hx217_0⟩ := Kd.at_int (Kd.R_reads' HO_66.out).2.2 x68_2 p217 q217
                      cases e217
                      replace p217 := eq_true p217
                      replace q217 := eq_true q217
                      go_wp2
                      go_roundg k2
                      case measure => have := HK1.out; have := HK2.out; omega
                      case rel => exact ⟨(wrap64 (x68_2 + 1)), (by first | rfl | (simp; done) | (simp [*]; done)), H', ⟨by have := HK1.out; have := HK2.out; omega⟩, ⟨by (with_reducible repeat (first | apply Kd.R_alloc | apply Kd.R_drewN | apply Kd.R_drew)); exact HO_66.out⟩, ⟨by repeat (first | (with_reducible first | exact HB.out | apply below_alloc | apply pw_below_drewN | apply below_drew1) | exact HB.out)⟩⟩
                  · rw [if_neg c48] at H
                    exact absurd H (by simp)
                · rw [if_neg c47] at H
                  exact absurd H (by simp)
              · rw [if_neg c46] at H
                have c46b0 : decide (x68_2 < (x4_1.length : Int)) = false := decide_eq_false c46
                clear c46
                obtain rfl := Option.some.inj H
                go_wp2
                go_ret
                exact ⟨by first | rfl | (simp [errW_none, errW_some] <;> rfl) | (simp [*, errW_none, errW_some] <;> rfl), by repeat (first | (with_reducible first | exact HB.out | apply below_alloc | apply pw_below_drewN | apply below_drew1) | exact HB.out)⟩

end Go.Proofs.YtbeelgaganbblaaDoor.PFnExactGoodTree

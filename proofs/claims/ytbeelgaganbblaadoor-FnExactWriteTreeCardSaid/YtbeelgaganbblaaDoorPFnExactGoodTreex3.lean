-- Printed by wip/print2/make.py (the kit's print, told of contracts that are proved by hand). Lean checks it.
import Derived.Test.YtbeelgaganbblaaDoorPFnExactGoodTreex0
import Derived.Test.YtbeelgaganbblaaDoorPFnExactGoodTreex2
namespace Go.Proofs.YtbeelgaganbblaaDoor.PFnExactGoodTree
open Go.RowKit Go.Proofs.YtbeelgaganbblaaDoorW.PrintWords Go.Proofs.YtbeelgaganbblaaDoorW.PrintLast Go.Proofs.YtbeelgaganbblaaDoorW.PrintMore
attribute [local go_sem] max2_int min2_int max_two min_two max_three min_three max_four min_four   -- for this text's walks alone
set_option linter.unusedVariables false
set_option linter.unusedSimpArgs false

/-! ### spec_l3Form: function 22 -/
mutual
def spec_l3Form.l0 : Nat → List Int → Int → List (S43) → Int → Int → Option (Bool)
  | 0, _, _, _, _, _ => none
  | k + 1, x3, x4, x10, x11, x12 => if x12 < x11 then (if 0 ≤ x12 then (if x12 < (x10.length : Int) then (if (wrap64 (x4 + (((rd_T43 x10 x12).f1).size : Int))) > 20000 then (spec_l3Form.j1 k x3 (wrap64 (x4 + (((rd_T43 x10 x12).f1).size : Int))) x10 x11 x12 true ((rd_T43 x10 x12).f0) ((rd_T43 x10 x12).f1) ((rd_T43 x10 x12).f2) ((rd_T43 x10 x12).f3)) else ((spec_l3Word.f k ((rd_T43 x10 x12).f0) ((rd_T43 x10 x12).f1) ((rd_T43 x10 x12).f2) ((rd_T43 x10 x12).f3)).bind fun t125 => (if t125 = true then (if ((rd_T43 x10 x12).f2) < 0 then (spec_l3Form.j1 k x3 (wrap64 (x4 + (((rd_T43 x10 x12).f1).size : Int))) x10 x11 x12 true ((rd_T43 x10 x12).f0) ((rd_T43 x10 x12).f1) ((rd_T43 x10 x12).f2) ((rd_T43 x10 x12).f3)) else (if ((rd_T43 x10 x12).f0) = 1 then (spec_l3Form.j1 k x3 (wrap64 (x4 + (((rd_T43 x10 x12).f1).size : Int))) x10 x11 x12 false ((rd_T43 x10 x12).f0) ((rd_T43 x10 x12).f1) ((rd_T43 x10 x12).f2) ((rd_T43 x10 x12).f3)) else (spec_l3Form.j1 k x3 (wrap64 (x4 + (((rd_T43 x10 x12).f1).size : Int))) x10 x11 x12 (((rd_T43 x10 x12).f2) != 0) ((rd_T43 x10 x12).f0) ((rd_T43 x10 x12).f1) ((rd_T43 x10 x12).f2) ((rd_T43 x10 x12).f3)))) else (spec_l3Form.j1 k x3 (wrap64 (x4 + (((rd_T43 x10 x12).f1).size : Int))) x10 x11 x12 true ((rd_T43 x10 x12).f0) ((rd_T43 x10 x12).f1) ((rd_T43 x10 x12).f2) ((rd_T43 x10 x12).f3))))) else (none)) else (none)) else (some ((x3.length : Int) == 0))
def spec_l3Form.j1 : Nat → List Int → Int → List (S43) → Int → Int → Bool → Int → ByteArray → Int → Int → Option (Bool)
  | 0, _, _, _, _, _, _, _, _, _, _ => none
  | k + 1, x3, x4, x10, x11, x12, x42, x125000, x125001, x125002, x125003 => if x42 = true then (some false) else (if (x3.length : Int) > 0 then (if 0 ≤ (wrap64 ((x3.length : Int) - 1)) then (if (wrap64 ((x3.length : Int) - 1)) < (x3.length : Int) then (spec_l3Form.j2 k (x3.set ((wrap64 ((x3.length : Int) - 1)) : Int).toNat (wrap64 ((rd x3 (wrap64 ((x3.length : Int) - 1))) - 1))) x4 x10 x11 x12 x125000 x125001 x125002 x125003) else (none)) else (none)) else (spec_l3Form.j2 k x3 x4 x10 x11 x12 x125000 x125001 x125002 x125003))
def spec_l3Form.j2 : Nat → List Int → Int → List (S43) → Int → Int → Int → ByteArray → Int → Int → Option (Bool)
  | 0, _, _, _, _, _, _, _, _, _ => none
  | k + 1, x3, x4, x10, x11, x12, x125000, x125001, x125002, x125003 => if x125000 = 1 then (if x3.length < 17592186044416 then ((some (x3 ++ [x125002] : List Int)).bind fun y128 => (if (y128.length : Int) > 200 then (some false) else (spec_l3Form.j3 k y128 x4 x10 x11 x12))) else (none)) else (spec_l3Form.j3 k x3 x4 x10 x11 x12)
def spec_l3Form.j3 : Nat → List Int → Int → List (S43) → Int → Int → Option (Bool)
  | 0, _, _, _, _, _ => none
  | k + 1, x3, x4, x10, x11, x12 => spec_l3Form.l1 k x3 x4 x10 x11 x12
def spec_l3Form.l1 : Nat → List Int → Int → List (S43) → Int → Int → Option (Bool)
  | 0, _, _, _, _, _ => none
  | k + 1, x3, x4, x10, x11, x12 => if (x3.length : Int) > 0 then (if 0 ≤ (wrap64 ((x3.length : Int) - 1)) then (if (wrap64 ((x3.length : Int) - 1)) < (x3.length : Int) then (if (rd x3 (wrap64 ((x3.length : Int) - 1))) = 0 then (if (wrap64 ((x3.length : Int) - 1)) ≤ (x3.length : Int) then (spec_l3Form.l1 k (x3.take ((wrap64 ((x3.length : Int) - 1)) : Int).toNat) x4 x10 x11 x12) else (none)) else (spec_l3Form.l0 k x3 x4 x10 x11 (wrap64 (x12 + 1)))) else (none)) else (none)) else (spec_l3Form.l0 k x3 x4 x10 x11 (wrap64 (x12 + 1)))
end
def spec_l3Form.f (k : Nat) (l0 : List (S43)) : Option (Bool) := if (l0.length : Int) > 8000 then (some false) else (spec_l3Form.l0 k ([] : List Int) 0 l0 (l0.length : Int) 0)
theorem spec_l3Form.mono_l : ∀ k, (∀ y0 y1 y2 y3 y4, LeO (spec_l3Form.l0 k y0 y1 y2 y3 y4) (spec_l3Form.l0 (k + 1) y0 y1 y2 y3 y4)) ∧ (∀ y0 y1 y2 y3 y4 y5 y6 y7 y8 y9, LeO (spec_l3Form.j1 k y0 y1 y2 y3 y4 y5 y6 y7 y8 y9) (spec_l3Form.j1 (k + 1) y0 y1 y2 y3 y4 y5 y6 y7 y8 y9)) ∧ (∀ y0 y1 y2 y3 y4 y5 y6 y7 y8, LeO (spec_l3Form.j2 k y0 y1 y2 y3 y4 y5 y6 y7 y8) (spec_l3Form.j2 (k + 1) y0 y1 y2 y3 y4 y5 y6 y7 y8)) ∧ (∀ y0 y1 y2 y3 y4, LeO (spec_l3Form.j3 k y0 y1 y2 y3 y4) (spec_l3Form.j3 (k + 1) y0 y1 y2 y3 y4)) ∧ (∀ y0 y1 y2 y3 y4, LeO (spec_l3Form.l1 k y0 y1 y2 y3 y4) (spec_l3Form.l1 (k + 1) y0 y1 y2 y3 y4))
  | 0 => ⟨fun _ _ _ _ _ r h => by simp [spec_l3Form.l0] at h, fun _ _ _ _ _ _ _ _ _ _ r h => by simp [spec_l3Form.j1] at h, fun _ _ _ _ _ _ _ _ _ r h => by simp [spec_l3Form.j2] at h, fun _ _ _ _ _ r h => by simp [spec_l3Form.j3] at h, fun _ _ _ _ _ r h => by simp [spec_l3Form.l1] at h⟩
  | k + 1 => by
    obtain ⟨ih0, ih1, ih2, ih3, ih4⟩ := spec_l3Form.mono_l k
    refine ⟨?_, ?_, ?_, ?_, ?_⟩
    · intro y0 y1 y2 y3 y4
      unfold spec_l3Form.l0
      repeat' first
      | (with_reducible exact ih0 _ _ _ _ _)
      | (with_reducible exact ih1 _ _ _ _ _ _ _ _ _ _)
      | (with_reducible exact ih2 _ _ _ _ _ _ _ _ _)
      | (with_reducible exact ih3 _ _ _ _ _)
      | (with_reducible exact ih4 _ _ _ _ _)
      | (with_reducible exact spec_l3Word.mono _ _ _ _ _)
      | (with_reducible exact LeO.refl _)
      | (with_reducible exact LeO.none _)
      | (with_reducible refine LeO.ite ?_ ?_)
      | (with_reducible refine LeO.bind ?_ (fun _ => ?_))
      | exact ih0 _ _ _ _ _
      | exact ih1 _ _ _ _ _ _ _ _ _ _
      | exact ih2 _ _ _ _ _ _ _ _ _
      | exact ih3 _ _ _ _ _
      | exact ih4 _ _ _ _ _
      | exact spec_l3Word.mono _ _ _ _ _
      | exact LeO.none _
      | refine LeO.ite ?_ ?_
      | refine LeO.bind ?_ (fun _ => ?_)
    · intro y0 y1 y2 y3 y4 y5 y6 y7 y8 y9
      unfold spec_l3Form.j1
      repeat' first
      | (with_reducible exact ih0 _ _ _ _ _)
      | (with_reducible exact ih1 _ _ _ _ _ _ _ _ _ _)
      | (with_reducible exact ih2 _ _ _ _ _ _ _ _ _)
      | (with_reducible exact ih3 _ _ _ _ _)
      | (with_reducible exact ih4 _ _ _ _ _)
      | (with_reducible exact spec_l3Word.mono _ _ _ _ _)
      | (with_reducible exact LeO.refl _)
      | (with_reducible exact LeO.none _)
      | (with_reducible refine LeO.ite ?_ ?_)
      | (with_reducible refine LeO.bind ?_ (fun _ => ?_))
      | exact ih0 _ _ _ _ _
      | exact ih1 _ _ _ _ _ _ _ _ _ _
      | exact ih2 _ _ _ _ _ _ _ _ _
      | exact ih3 _ _ _ _ _
      | exact ih4 _ _ _ _ _
      | exact spec_l3Word.mono _ _ _ _ _
      | exact LeO.none _
      | refine LeO.ite ?_ ?_
      | refine LeO.bind ?_ (fun _ => ?_)
    · intro y0 y1 y2 y3 y4 y5 y6 y7 y8
      unfold spec_l3Form.j2
      repeat' first
      | (with_reducible exact ih0 _ _ _ _ _)
      | (with_reducible exact ih1 _ _ _ _ _ _ _ _ _ _)
      | (with_reducible exact ih2 _ _ _ _ _ _ _ _ _)
      | (with_reducible exact ih3 _ _ _ _ _)
      | (with_reducible exact ih4 _ _ _ _ _)
      | (with_reducible exact spec_l3Word.mono _ _ _ _ _)
      | (with_reducible exact LeO.refl _)
      | (with_reducible exact LeO.none _)
      | (with_reducible refine LeO.ite ?_ ?_)
      | (with_reducible refine LeO.bind ?_ (fun _ => ?_))
      | exact ih0 _ _ _ _ _
      | exact ih1 _ _ _ _ _ _ _ _ _ _
      | exact ih2 _ _ _ _ _ _ _ _ _
      | exact ih3 _ _ _ _ _
      | exact ih4 _ _ _ _ _
      | exact spec_l3Word.mono _ _ _ _ _
      | exact LeO.none _
      | refine LeO.ite ?_ ?_
      | refine LeO.bind ?_ (fun _ => ?_)
    · intro y0 y1 y2 y3 y4
      unfold spec_l3Form.j3
      repeat' first
      | (with_reducible exact ih0 _ _ _ _ _)
      | (with_reducible exact ih1 _ _ _ _ _ _ _ _ _ _)
      | (with_reducible exact ih2 _ _ _ _ _ _ _ _ _)
      | (with_reducible exact ih3 _ _ _ _ _)
      | (with_reducible exact ih4 _ _ _ _ _)
      | (with_reducible exact spec_l3Word.mono _ _ _ _ _)
      | (with_reducible exact LeO.refl _)
      | (with_reducible exact LeO.none _)
      | (with_reducible refine LeO.ite ?_ ?_)
      | (with_reducible refine LeO.bind ?_ (fun _ => ?_))
      | exact ih0 _ _ _ _ _
      | exact ih1 _ _ _ _ _ _ _ _ _ _
      | exact ih2 _ _ _ _ _ _ _ _ _
      | exact ih3 _ _ _ _ _
      | exact ih4 _ _ _ _ _
      | exact spec_l3Word.mono _ _ _ _ _
      | exact LeO.none _
      | refine LeO.ite ?_ ?_
      | refine LeO.bind ?_ (fun _ => ?_)
    · intro y0 y1 y2 y3 y4
      unfold spec_l3Form.l1
      repeat' first
      | (with_reducible exact ih0 _ _ _ _ _)
      | (with_reducible exact ih1 _ _ _ _ _ _ _ _ _ _)
      | (with_reducible exact ih2 _ _ _ _ _ _ _ _ _)
      | (with_reducible exact ih3 _ _ _ _ _)
      | (with_reducible exact ih4 _ _ _ _ _)
      | (with_reducible exact spec_l3Word.mono _ _ _ _ _)
      | (with_reducible exact LeO.refl _)
      | (with_reducible exact LeO.none _)
      | (with_reducible refine LeO.ite ?_ ?_)
      | (with_reducible refine LeO.bind ?_ (fun _ => ?_))
      | exact ih0 _ _ _ _ _
      | exact ih1 _ _ _ _ _ _ _ _ _ _
      | exact ih2 _ _ _ _ _ _ _ _ _
      | exact ih3 _ _ _ _ _
      | exact ih4 _ _ _ _ _
      | exact spec_l3Word.mono _ _ _ _ _
      | exact LeO.none _
      | refine LeO.ite ?_ ?_
      | refine LeO.bind ?_ (fun _ => ?_)
theorem spec_l3Form.mono : ∀ a0 k, LeO (spec_l3Form.f k a0) (spec_l3Form.f (k + 1) a0) := by
  intro a0 k
  obtain ⟨ih0, ih1, ih2, ih3, ih4⟩ := spec_l3Form.mono_l k
  unfold spec_l3Form.f
  repeat' first
      | (with_reducible exact ih0 _ _ _ _ _)
      | (with_reducible exact ih1 _ _ _ _ _ _ _ _ _ _)
      | (with_reducible exact ih2 _ _ _ _ _ _ _ _ _)
      | (with_reducible exact ih3 _ _ _ _ _)
      | (with_reducible exact ih4 _ _ _ _ _)
      | (with_reducible exact spec_l3Word.mono _ _ _ _ _)
      | (with_reducible exact LeO.refl _)
      | (with_reducible exact LeO.none _)
      | (with_reducible refine LeO.ite ?_ ?_)
      | (with_reducible refine LeO.bind ?_ (fun _ => ?_))
      | exact ih0 _ _ _ _ _
      | exact ih1 _ _ _ _ _ _ _ _ _ _
      | exact ih2 _ _ _ _ _ _ _ _ _
      | exact ih3 _ _ _ _ _
      | exact ih4 _ _ _ _ _
      | exact spec_l3Word.mono _ _ _ _ _
      | exact LeO.none _
      | refine LeO.ite ?_ ?_
      | refine LeO.bind ?_ (fun _ => ?_)
set_option maxHeartbeats 8000000 in
set_option maxRecDepth 100000 in
theorem spec_l3Form.calls (k : Nat) (A0 : Option Addr) (c0 : Nat) (l0 : List (S43)) (r : Bool) (w : World) (hr0 : Kd.C k43 w A0 l0.length l0) (hc0 : l0.length ≤ c0) (h : spec_l3Form.f k l0 = some r) :
    Calls Tryd.prog 22 #[.slice A0 l0.length c0] w fun e w' => e = .returned (.bool r) ∧ Below w.heap.size w w' := by
  have hu43 := Tryd.underlying43
  have HR0 := Aside0.mk hr0
  have HC0 := Aside0.mk hc0
  clear hr0 hc0
  have HB := Aside0.mk (Below.refl w.heap.size w)
  have H : (if (l0.length : Int) > 8000 then (some false) else (spec_l3Form.l0 k ([] : List Int) 0 l0 (l0.length : Int) 0)) = some r := h
  clear h
  by_cases c2 : (l0.length : Int) > 8000
  · rw [if_pos c2] at H
    have c2b0 : decide (8000 < (l0.length : Int)) = true := decide_eq_true c2
    have c2b1 : decide (8000 < l0.length) = true := decide_eq_true (by omega)
    clear c2
    obtain rfl := Option.some.inj H
    go_enter Tryd.func22, Tryd.ntmps22
    go_wp2
    go_ret
    exact ⟨by first | rfl | (simp [errW_none, errW_some] <;> rfl) | (simp [*, errW_none, errW_some] <;> rfl), by repeat (first | (with_reducible first | exact HB.out | apply below_alloc | apply pw_below_drewN | apply below_drew1) | exact HB.out)⟩
  · rw [if_neg c2] at H
    have c2b0 : decide (8000 < (l0.length : Int)) = false := decide_eq_false c2
    have c2b1 : decide (8000 < l0.length) = false := decide_eq_false (by omega)
    clear c2
    have H' := Aside0.mk H
    clear H
    go_enter Tryd.func22, Tryd.ntmps22
    go_wp2
    go_loopg [3, 4, 12] k (fun kq v3 v4 v12 w' => ∃ (x3_1 : List Int) (x4_1 : Int) (x12_1 : Int), v4 = .int .i64 x4_1 ∧ v12 = .int .i64 x12_1 ∧ Aside0 (spec_l3Form.l0 kq x3_1 x4_1 l0 (l0.length : Int) x12_1 = some r) ∧ Aside0 (kq ≤ k) ∧ Aside0 (Kd.R (Kd.int .i64) 3 w' w.heap.size (fun _ => True) v3 x3_1) ∧ Aside0 (Below w.heap.size w w'))
    case atStart => exact ⟨(([] : List Int)), (0), (0), (by first | rfl | (simp; done) | (simp [*]; done)), (by first | rfl | (simp; done) | (simp [*]; done)), H', ⟨Nat.le_refl _⟩, ⟨by first | exact Kd.R_nil _ _ _ _ _ | exact Kd.N_nil _ _ _ _ _ | exact Kd.V_nil _ _ _ _ _ | exact Kd.Q_nil _ _ _ _ _ | exact Kd.S_nil _ _ _ _ _⟩, ⟨by repeat (first | (with_reducible first | exact HB.out | apply below_alloc | apply pw_below_drewN | apply below_drew1) | exact HB.out)⟩⟩
    case round =>
      clear H'
      try clear c2
      try clear c2b0
      try clear c2b1
      try clear p2
      obtain ⟨x3_1, x4_1, x12_1, rfl, rfl, HA, HK1, HO_3, HB⟩ := hrel
      cases gk with
      | zero => exact absurd HA.out (by simp [spec_l3Form.l0])
      | succ k1 =>
        have H := HA.out
        clear HA
        simp only [spec_l3Form.l0] at H
        by_cases c3 : x12_1 < (l0.length : Int)
        · rw [if_pos c3] at H
          have c3b0 : decide (x12_1 < (l0.length : Int)) = true := decide_eq_true c3
          clear c3
          by_cases c4 : 0 ≤ x12_1
          · rw [if_pos c4] at H
            have c4b0 : decide (0 ≤ x12_1) = true := decide_eq_true c4
            clear c4
            by_cases c5 : x12_1 < (l0.length : Int)
            · rw [if_pos c5] at H
              have c5b0 : decide (x12_1 < (l0.length : Int)) = true := decide_eq_true c5
              clear c5
              have HC6 := Aside0.mk H
              clear H
              have p123 : 0 ≤ (x12_1 : Int) := of_decide_eq_true (by first | (with_reducible assumption) | assumption)
              have q123 : x12_1 < (l0.length : Int) := of_decide_eq_true (by first | (with_reducible assumption) | assumption)
              obtain ⟨ad123, e123, hx123_0, hx123_1, hx123_2, hx123_3⟩ := at_T43 HR0.out x12_1 p123 q123
              cases e123
              replace hx123_0 := (HB.out.cell (World.block_lt_of_cell? w _ hx123_0)).trans hx123_0
              replace hx123_1 := (HB.out.cell (World.block_lt_of_cell? w _ hx123_1)).trans hx123_1
              replace hx123_2 := (HB.out.cell (World.block_lt_of_cell? w _ hx123_2)).trans hx123_2
              replace hx123_3 := (HB.out.cell (World.block_lt_of_cell? w _ hx123_3)).trans hx123_3
              replace p123 := eq_true p123
              replace q123 := eq_true q123
              go_upto_region 9 with (first | ((with_reducible refine gate_dst (N := 6) rfl ?_); (try (refine gate_guard (by rfl) ?_; dsimp only)); refine box_event ?hg (N := 6) ?hd (cs := #[.int .i64 0, .string (⟨#[]⟩ : ByteArray), .int .i64 0, .int .i64 0]) (t := 43) ?hr ?_; (case hd => rfl); (case hg => rfl); (case hr => first | (go_simp; done) | (go_simp; rfl)); intro gb124 hg w7 hbox hb; have n0_ := Aside0.mk (Kd.R_below (by (with_reducible repeat (first | apply Kd.R_alloc | apply Kd.R_drewN | apply Kd.R_drew)); exact HO_3.out) hb); have n1_ := Aside0.mk (below_step (by repeat (first | (with_reducible first | exact HB.out | apply below_alloc | apply pw_below_drewN | apply below_drew1) | exact HB.out)) hb); have n2_ := Aside0.mk (hbox); have n3_ := Aside0.mk ((by rw [hg]; exact (below_size (by repeat (first | (with_reducible first | exact HB.out | apply below_alloc | apply pw_below_drewN | apply below_drew1) | exact HB.out))) : w.heap.size ≤ gb124)); have n4_ := Aside0.mk ((by rw [hg]; exact (below_size (by repeat (first | (with_reducible first | exact HB.out | apply below_alloc | apply pw_below_drewN | apply below_drew1) | exact HB.out))) : w.heap.size ≤ gb124)); clear HO_3; clear HB; have HO_3 := n0_; have HB := n1_; have BK124 := n2_; have GW124 := n3_; have GE124 := n4_; clear n0_ n1_ n2_ n3_ n4_; clear hb hbox hg; have hcz8_0 : w7.cell? ⟨gb124, 0, none⟩ = some (.int .i64 0) := (blk_cell BK124.out 0).trans rfl; have hcz8_1 : w7.cell? ⟨gb124, 1, none⟩ = some (.string (⟨#[]⟩ : ByteArray)) := (blk_cell BK124.out 1).trans rfl; have hcz8_2 : w7.cell? ⟨gb124, 2, none⟩ = some (.int .i64 0) := (blk_cell BK124.out 2).trans rfl; have hcz8_3 : w7.cell? ⟨gb124, 3, none⟩ = some (.int .i64 0) := (blk_cell BK124.out 3).trans rfl; have hfz8_0 := blk_frozen BK124.out 0; have hfz8_1 := blk_frozen BK124.out 1; have hfz8_2 := blk_frozen BK124.out 2; have hfz8_3 := blk_frozen BK124.out 3))
              (try simp only [Act.put, List.setIfInBounds_toArray, List.set_cons_zero, List.set_cons_succ])
              go_cut [42] (fun v42 wc => ∃ (kq : Nat) (x42_5 : Bool), v42 = .bool x42_5 ∧ Aside0 (spec_l3Form.j1 kq x3_1 (wrap64 (x4_1 + (((rd_T43 l0 x12_1).f1).size : Int))) l0 (l0.length : Int) x12_1 x42_5 ((rd_T43 l0 x12_1).f0) ((rd_T43 l0 x12_1).f1) ((rd_T43 l0 x12_1).f2) ((rd_T43 l0 x12_1).f3) = some r) ∧ Aside0 (kq ≤ k1) ∧ Aside0 (Kd.R (Kd.int .i64) 3 wc w.heap.size (fun _ => True) u3 x3_1) ∧ Aside0 (wc.heap[gb124]? = some (.cells #[.int .i64 ((rd_T43 l0 x12_1).f0), .string ((rd_T43 l0 x12_1).f1), .int .i64 ((rd_T43 l0 x12_1).f2), .int .i64 ((rd_T43 l0 x12_1).f3)] 43 (0, 0))) ∧ Aside0 (Below w.heap.size w wc))
              case first =>
                have H := HC6.out
                clear HC6
                by_cases c9 : (wrap64 (x4_1 + (((rd_T43 l0 x12_1).f1).size : Int))) > 20000
                · rw [if_pos c9] at H
                  have c9b0 : decide (20000 < (wrap64 (x4_1 + (((rd_T43 l0 x12_1).f1).size : Int)))) = true := decide_eq_true c9
                  clear c9
                  (first | rw [c9b0] | (simp only [i64_w, i32_w]; rw [c9b0]) | rw [c9b1] | skip)
                  have H' := Aside0.mk H
                  clear H
                  go_wp2
                  go_meet
                  case rel => exact ⟨_, (true), (by first | rfl | (simp; done) | (simp [*]; done)), H', ⟨by have := HK1.out; first | omega | exact Nat.le_refl _⟩, ⟨by (with_reducible repeat (first | apply Kd.R_alloc | apply Kd.R_drewN | apply Kd.R_drew)); exact Kd.R_mono (Kd.R_far (p := ⟨gb124, 3, none⟩) (Kd.R_far (p := ⟨gb124, 2, none⟩) (Kd.R_far (p := ⟨gb124, 1, none⟩) (Kd.R_far (p := ⟨gb124, 0, none⟩) (Kd.R_types HO_3.out BK124.out (by decide)) (fun _ hk => hk.2) (.int .i64 ((rd_T43 l0 x12_1).f0))) (fun _ hk => hk.2) (.string ((rd_T43 l0 x12_1).f1))) (fun _ hk => hk.2) (.int .i64 ((rd_T43 l0 x12_1).f2))) (fun _ hk => hk.2) (.int .i64 ((rd_T43 l0 x12_1).f3))) (fun _ hk => trivial)⟩, ⟨by (with_reducible repeat (first | refine blk_drewN ?_ _ | refine blk_drew ?_ | refine blk_alloc ?_ _)); refine blk_put (cs := #[.int .i64 ((rd_T43 l0 x12_1).f0), .string ((rd_T43 l0 x12_1).f1), .int .i64 ((rd_T43 l0 x12_1).f2), .int .i64 0]) ?_ 3 _ rfl; (with_reducible repeat (first | refine blk_drewN ?_ _ | refine blk_drew ?_ | refine blk_alloc ?_ _)); refine blk_put (cs := #[.int .i64 ((rd_T43 l0 x12_1).f0), .string ((rd_T43 l0 x12_1).f1), .int .i64 0, .int .i64 0]) ?_ 2 _ rfl; (with_reducible repeat (first | refine blk_drewN ?_ _ | refine blk_drew ?_ | refine blk_alloc ?_ _)); refine blk_put (cs := #[.int .i64 ((rd_T43 l0 x12_1).f0), .string (⟨#[]⟩ : ByteArray), .int .i64 0, .int .i64 0]) ?_ 1 _ rfl; (with_reducible repeat (first | refine blk_drewN ?_ _ | refine blk_drew ?_ | refine blk_alloc ?_ _)); refine blk_put (cs := #[.int .i64 0, .string (⟨#[]⟩ : ByteArray), .int .i64 0, .int .i64 0]) ?_ 0 _ rfl; (with_reducible repeat (first | refine blk_drewN ?_ _ | refine blk_drew ?_ | refine blk_alloc ?_ _)); exact BK124.out⟩, ⟨by repeat (first | (with_reducible first | exact HB.out | apply below_alloc | apply pw_below_drewN | apply below_drew1 | refine below_set ?_ GE124.out) | exact HB.out)⟩⟩
                · rw [if_neg c9] at H
                  have c9b0 : decide (20000 < (wrap64 (x4_1 + (((rd_T43 l0 x12_1).f1).size : Int)))) = false := decide_eq_false c9
                  clear c9
                  (first | rw [c9b0] | (simp only [i64_w, i32_w]; rw [c9b0]) | rw [c9b1] | skip)
                  replace H := Option.bind_eq_some_iff.mp H
                  obtain ⟨t125, A100, H⟩ := H
                  replace H : (if t125 = true then (if ((rd_T43 l0 x12_1).f2) < 0 then (spec_l3Form.j1 k1 x3_1 (wrap64 (x4_1 + (((rd_T43 l0 x12_1).f1).size : Int))) l0 (l0.length : Int) x12_1 true ((rd_T43 l0 x12_1).f0) ((rd_T43 l0 x12_1).f1) ((rd_T43 l0 x12_1).f2) ((rd_T43 l0 x12_1).f3)) else (if ((rd_T43 l0 x12_1).f0) = 1 then (spec_l3Form.j1 k1 x3_1 (wrap64 (x4_1 + (((rd_T43 l0 x12_1).f1).size : Int))) l0 (l0.length : Int) x12_1 false ((rd_T43 l0 x12_1).f0) ((rd_T43 l0 x12_1).f1) ((rd_T43 l0 x12_1).f2) ((rd_T43 l0 x12_1).f3)) else (spec_l3Form.j1 k1 x3_1 (wrap64 (x4_1 + (((rd_T43 l0 x12_1).f1).size : Int))) l0 (l0.length : Int) x12_1 (((rd_T43 l0 x12_1).f2) != 0) ((rd_T43 l0 x12_1).f0) ((rd_T43 l0 x12_1).f1) ((rd_T43 l0 x12_1).f2) ((rd_T43 l0 x12_1).f3)))) else (spec_l3Form.j1 k1 x3_1 (wrap64 (x4_1 + (((rd_T43 l0 x12_1).f1).size : Int))) l0 (l0.length : Int) x12_1 true ((rd_T43 l0 x12_1).f0) ((rd_T43 l0 x12_1).f1) ((rd_T43 l0 x12_1).f2) ((rd_T43 l0 x12_1).f3))) = some r := H
                  have A10 := Aside0.mk A100
                  clear A100
                  by_cases c11 : t125 = true
                  · subst c11
                    have H1 : (if ((rd_T43 l0 x12_1).f2) < 0 then (spec_l3Form.j1 k1 x3_1 (wrap64 (x4_1 + (((rd_T43 l0 x12_1).f1).size : Int))) l0 (l0.length : Int) x12_1 true ((rd_T43 l0 x12_1).f0) ((rd_T43 l0 x12_1).f1) ((rd_T43 l0 x12_1).f2) ((rd_T43 l0 x12_1).f3)) else (if ((rd_T43 l0 x12_1).f0) = 1 then (spec_l3Form.j1 k1 x3_1 (wrap64 (x4_1 + (((rd_T43 l0 x12_1).f1).size : Int))) l0 (l0.length : Int) x12_1 false ((rd_T43 l0 x12_1).f0) ((rd_T43 l0 x12_1).f1) ((rd_T43 l0 x12_1).f2) ((rd_T43 l0 x12_1).f3)) else (spec_l3Form.j1 k1 x3_1 (wrap64 (x4_1 + (((rd_T43 l0 x12_1).f1).size : Int))) l0 (l0.length : Int) x12_1 (((rd_T43 l0 x12_1).f2) != 0) ((rd_T43 l0 x12_1).f0) ((rd_T43 l0 x12_1).f1) ((rd_T43 l0 x12_1).f2) ((rd_T43 l0 x12_1).f3)))) = some r := by rw [if_pos rfl] at H; exact H
                    clear H
                    have H := H1
                    clear H1
                    by_cases c12 : ((rd_T43 l0 x12_1).f2) < 0
                    · rw [if_pos c12] at H
                      have c12b0 : decide (((rd_T43 l0 x12_1).f2) < 0) = true := decide_eq_true c12
                      clear c12
                      have H' := Aside0.mk H
                      clear H
                      have hcz13_0 : w7.cell? ⟨gb124, 0, none⟩ = some (.int .i64 0) := (blk_cell BK124.out 0).trans rfl
                      have hcz13_1 : w7.cell? ⟨gb124, 1, none⟩ = some (.string (⟨#[]⟩ : ByteArray)) := (blk_cell BK124.out 1).trans rfl
                      have hcz13_2 : w7.cell? ⟨gb124, 2, none⟩ = some (.int .i64 0) := (blk_cell BK124.out 2).trans rfl
                      have hcz13_3 : w7.cell? ⟨gb124, 3, none⟩ = some (.int .i64 0) := (blk_cell BK124.out 3).trans rfl
                      have hfz13_0 := blk_frozen BK124.out 0
                      have hfz13_1 := blk_frozen BK124.out 1
                      have hfz13_2 := blk_frozen BK124.out 2
                      have hfz13_3 := blk_frozen BK124.out 3
                      go_wp2_with (first | (go_at_call 44; (with_reducible refine (spec_l3Word.calls k1 ((rd_T43 l0 x12_1).f0) ((rd_T43 l0 x12_1).f1) ((rd_T43 l0 x12_1).f2) ((rd_T43 l0 x12_1).f3) true _ A10.out).mono ?_); rintro e w14 ⟨rfl, hb⟩; have n0_ := Aside0.mk (Kd.R_below (by (with_reducible repeat (first | apply Kd.R_alloc | apply Kd.R_drewN | apply Kd.R_drew)); exact (Kd.R_mono (Kd.R_far (p := ⟨gb124, 3, none⟩) (Kd.R_far (p := ⟨gb124, 2, none⟩) (Kd.R_far (p := ⟨gb124, 1, none⟩) (Kd.R_far (p := ⟨gb124, 0, none⟩) (Kd.R_types HO_3.out BK124.out (by decide)) (fun _ hk => hk.2) (.int .i64 ((rd_T43 l0 x12_1).f0))) (fun _ hk => hk.2) (.string ((rd_T43 l0 x12_1).f1))) (fun _ hk => hk.2) (.int .i64 ((rd_T43 l0 x12_1).f2))) (fun _ hk => hk.2) (.int .i64 ((rd_T43 l0 x12_1).f3))) (fun _ h_ => h_.1))) hb); have n1_ := Aside0.mk (blk_below (g := gb124) (o := .cells #[.int .i64 ((rd_T43 l0 x12_1).f0), .string ((rd_T43 l0 x12_1).f1), .int .i64 ((rd_T43 l0 x12_1).f2), .int .i64 ((rd_T43 l0 x12_1).f3)] 43 (0, 0)) (by (with_reducible repeat (first | refine blk_drewN ?_ _ | refine blk_drew ?_ | refine blk_alloc ?_ _)); refine blk_put (cs := #[.int .i64 ((rd_T43 l0 x12_1).f0), .string ((rd_T43 l0 x12_1).f1), .int .i64 ((rd_T43 l0 x12_1).f2), .int .i64 0]) ?_ 3 _ rfl; (with_reducible repeat (first | refine blk_drewN ?_ _ | refine blk_drew ?_ | refine blk_alloc ?_ _)); refine blk_put (cs := #[.int .i64 ((rd_T43 l0 x12_1).f0), .string ((rd_T43 l0 x12_1).f1), .int .i64 0, .int .i64 0]) ?_ 2 _ rfl; (with_reducible repeat (first | refine blk_drewN ?_ _ | refine blk_drew ?_ | refine blk_alloc ?_ _)); refine blk_put (cs := #[.int .i64 ((rd_T43 l0 x12_1).f0), .string (⟨#[]⟩ : ByteArray), .int .i64 0, .int .i64 0]) ?_ 1 _ rfl; (with_reducible repeat (first | refine blk_drewN ?_ _ | refine blk_drew ?_ | refine blk_alloc ?_ _)); refine blk_put (cs := #[.int .i64 0, .string (⟨#[]⟩ : ByteArray), .int .i64 0, .int .i64 0]) ?_ 0 _ rfl; (with_reducible repeat (first | refine blk_drewN ?_ _ | refine blk_drew ?_ | refine blk_alloc ?_ _)); exact BK124.out) hb); have n2_ := Aside0.mk (below_step (by repeat (first | (with_reducible first | exact HB.out | apply below_alloc | apply pw_below_drewN | apply below_drew1 | refine below_set ?_ GE124.out) | exact HB.out)) hb); clear HO_3; clear BK124; clear HB; have HO_3 := n0_; have BK124 := n1_; have HB := n2_; clear n0_ n1_ n2_; (try clear hb); (try clear hb2); (try clear hk); (try clear hi); have hcz15_0 : w14.cell? ⟨gb124, 0, none⟩ = some (.int .i64 ((rd_T43 l0 x12_1).f0)) := (blk_cell BK124.out 0).trans rfl; have hcz15_1 : w14.cell? ⟨gb124, 1, none⟩ = some (.string ((rd_T43 l0 x12_1).f1)) := (blk_cell BK124.out 1).trans rfl; have hcz15_2 : w14.cell? ⟨gb124, 2, none⟩ = some (.int .i64 ((rd_T43 l0 x12_1).f2)) := (blk_cell BK124.out 2).trans rfl; have hcz15_3 : w14.cell? ⟨gb124, 3, none⟩ = some (.int .i64 ((rd_T43 l0 x12_1).f3)) := (blk_cell BK124.out 3).trans rfl; have hfz15_0 := blk_frozen BK124.out 0; have hfz15_1 := blk_frozen BK124.out 1; have hfz15_2 := blk_frozen BK124.out 2; have hfz15_3 := blk_frozen BK124.out 3))
                      go_meet
                      case rel => exact ⟨_, (true), (by first | rfl | (simp; done) | (simp [*]; done)), H', ⟨by have := HK1.out; first | omega | exact Nat.le_refl _⟩, ⟨by (with_reducible repeat (first | apply Kd.R_alloc | apply Kd.R_drewN | apply Kd.R_drew)); exact HO_3.out⟩, ⟨by (with_reducible repeat (first | refine blk_drewN ?_ _ | refine blk_drew ?_ | refine blk_alloc ?_ _)); exact BK124.out⟩, ⟨by repeat (first | (with_reducible first | exact HB.out | apply below_alloc | apply pw_below_drewN | apply below_drew1 | refine below_set ?_ GE124.out) | exact HB.out)⟩⟩
                    · rw [if_neg c12] at H
                      have c12b0 : decide (((rd_T43 l0 x12_1).f2) < 0) = false := decide_eq_false c12
                      clear c12
                      by_cases c16 : ((rd_T43 l0 x12_1).f0) = 1
                      · rw [if_pos c16] at H
                        have c16b0 : (((rd_T43 l0 x12_1).f0) == 1) = true := beq_iff_eq.mpr c16
                        have c16b1 : (((rd_T43 l0 x12_1).f0) != 1) = false := bne_eq_false_iff_eq.mpr c16
                        clear c16
                        have H' := Aside0.mk H
                        clear H
                        have hcz17_0 : w7.cell? ⟨gb124, 0, none⟩ = some (.int .i64 0) := (blk_cell BK124.out 0).trans rfl
                        have hcz17_1 : w7.cell? ⟨gb124, 1, none⟩ = some (.string (⟨#[]⟩ : ByteArray)) := (blk_cell BK124.out 1).trans rfl
                        have hcz17_2 : w7.cell? ⟨gb124, 2, none⟩ = some (.int .i64 0) := (blk_cell BK124.out 2).trans rfl
                        have hcz17_3 : w7.cell? ⟨gb124, 3, none⟩ = some (.int .i64 0) := (blk_cell BK124.out 3).trans rfl
                        have hfz17_0 := blk_frozen BK124.out 0
                        have hfz17_1 := blk_frozen BK124.out 1
                        have hfz17_2 := blk_frozen BK124.out 2
                        have hfz17_3 := blk_frozen BK124.out 3
                        go_wp2_with (first | (go_at_call 44; (with_reducible refine (spec_l3Word.calls k1 ((rd_T43 l0 x12_1).f0) ((rd_T43 l0 x12_1).f1) ((rd_T43 l0 x12_1).f2) ((rd_T43 l0 x12_1).f3) true _ A10.out).mono ?_); rintro e w18 ⟨rfl, hb⟩; have n0_ := Aside0.mk (Kd.R_below (by (with_reducible repeat (first | apply Kd.R_alloc | apply Kd.R_drewN | apply Kd.R_drew)); exact (Kd.R_mono (Kd.R_far (p := ⟨gb124, 3, none⟩) (Kd.R_far (p := ⟨gb124, 2, none⟩) (Kd.R_far (p := ⟨gb124, 1, none⟩) (Kd.R_far (p := ⟨gb124, 0, none⟩) (Kd.R_types HO_3.out BK124.out (by decide)) (fun _ hk => hk.2) (.int .i64 ((rd_T43 l0 x12_1).f0))) (fun _ hk => hk.2) (.string ((rd_T43 l0 x12_1).f1))) (fun _ hk => hk.2) (.int .i64 ((rd_T43 l0 x12_1).f2))) (fun _ hk => hk.2) (.int .i64 ((rd_T43 l0 x12_1).f3))) (fun _ h_ => h_.1))) hb); have n1_ := Aside0.mk (blk_below (g := gb124) (o := .cells #[.int .i64 ((rd_T43 l0 x12_1).f0), .string ((rd_T43 l0 x12_1).f1), .int .i64 ((rd_T43 l0 x12_1).f2), .int .i64 ((rd_T43 l0 x12_1).f3)] 43 (0, 0)) (by (with_reducible repeat (first | refine blk_drewN ?_ _ | refine blk_drew ?_ | refine blk_alloc ?_ _)); refine blk_put (cs := #[.int .i64 ((rd_T43 l0 x12_1).f0), .string ((rd_T43 l0 x12_1).f1), .int .i64 ((rd_T43 l0 x12_1).f2), .int .i64 0]) ?_ 3 _ rfl; (with_reducible repeat (first | refine blk_drewN ?_ _ | refine blk_drew ?_ | refine blk_alloc ?_ _)); refine blk_put (cs := #[.int .i64 ((rd_T43 l0 x12_1).f0), .string ((rd_T43 l0 x12_1).f1), .int .i64 0, .int .i64 0]) ?_ 2 _ rfl; (with_reducible repeat (first | refine blk_drewN ?_ _ | refine blk_drew ?_ | refine blk_alloc ?_ _)); refine blk_put (cs := #[.int .i64 ((rd_T43 l0 x12_1).f0), .string (⟨#[]⟩ : ByteArray), .int .i64 0, .int .i64 0]) ?_ 1 _ rfl; (with_reducible repeat (first | refine blk_drewN ?_ _ | refine blk_drew ?_ | refine blk_alloc ?_ _)); refine blk_put (cs := #[.int .i64 0, .string (⟨#[]⟩ : ByteArray), .int .i64 0, .int .i64 0]) ?_ 0 _ rfl; (with_reducible repeat (first | refine blk_drewN ?_ _ | refine blk_drew ?_ | refine blk_alloc ?_ _)); exact BK124.out) hb); have n2_ := Aside0.mk (below_step (by repeat (first | (with_reducible first | exact HB.out | apply below_alloc | apply pw_below_drewN | apply below_drew1 | refine below_set ?_ GE124.out) | exact HB.out)) hb); clear HO_3; clear BK124; clear HB; have HO_3 := n0_; have BK124 := n1_; have HB := n2_; clear n0_ n1_ n2_; (try clear hb); (try clear hb2); (try clear hk); (try clear hi); have hcz19_0 : w18.cell? ⟨gb124, 0, none⟩ = some (.int .i64 ((rd_T43 l0 x12_1).f0)) := (blk_cell BK124.out 0).trans rfl; have hcz19_1 : w18.cell? ⟨gb124, 1, none⟩ = some (.string ((rd_T43 l0 x12_1).f1)) := (blk_cell BK124.out 1).trans rfl; have hcz19_2 : w18.cell? ⟨gb124, 2, none⟩ = some (.int .i64 ((rd_T43 l0 x12_1).f2)) := (blk_cell BK124.out 2).trans rfl; have hcz19_3 : w18.cell? ⟨gb124, 3, none⟩ = some (.int .i64 ((rd_T43 l0 x12_1).f3)) := (blk_cell BK124.out 3).trans rfl; have hfz19_0 := blk_frozen BK124.out 0; have hfz19_1 := blk_frozen BK124.out 1; have hfz19_2 := blk_frozen BK124.out 2; have hfz19_3 := blk_frozen BK124.out 3))
                        go_meet
                        case rel => exact ⟨_, (false), (by first | rfl | (simp; done) | (simp [*]; done)), H', ⟨by have := HK1.out; first | omega | exact Nat.le_refl _⟩, ⟨by (with_reducible repeat (first | apply Kd.R_alloc | apply Kd.R_drewN | apply Kd.R_drew)); exact HO_3.out⟩, ⟨by (with_reducible repeat (first | refine blk_drewN ?_ _ | refine blk_drew ?_ | refine blk_alloc ?_ _)); exact BK124.out⟩, ⟨by repeat (first | (with_reducible first | exact HB.out | apply below_alloc | apply pw_below_drewN | apply below_drew1 | refine below_set ?_ GE124.out) | exact HB.out)⟩⟩
                      · rw [if_neg c16] at H
                        have c16b0 : (((rd_T43 l0 x12_1).f0) == 1) = false := beq_eq_false_iff_ne.mpr c16
                        have c16b1 : (((rd_T43 l0 x12_1).f0) != 1) = true := bne_iff_ne.mpr c16
                        have H' := Aside0.mk H
                        clear H
                        have hcz20_0 : w7.cell? ⟨gb124, 0, none⟩ = some (.int .i64 0) := (blk_cell BK124.out 0).trans rfl
                        have hcz20_1 : w7.cell? ⟨gb124, 1, none⟩ = some (.string (⟨#[]⟩ : ByteArray)) := (blk_cell BK124.out 1).trans rfl
                        have hcz20_2 : w7.cell? ⟨gb124, 2, none⟩ = some (.int .i64 0) := (blk_cell BK124.out 2).trans rfl
                        have hcz20_3 : w7.cell? ⟨gb124, 3, none⟩ = some (.int .i64 0) := (blk_cell BK124.out 3).trans rfl
                        have hfz20_0 := blk_frozen BK124.out 0
                        have hfz20_1 := blk_frozen BK124.out 1
                        have hfz20_2 := blk_frozen BK124.out 2
                        have hfz20_3 := blk_frozen BK124.out 3
                        go_wp2_with (first | (go_at_call 44; (with_reducible refine (spec_l3Word.calls k1 ((rd_T43 l0 x12_1).f0) ((rd_T43 l0 x12_1).f1) ((rd_T43 l0 x12_1).f2) ((rd_T43 l0 x12_1).f3) true _ A10.out).mono ?_); rintro e w21 ⟨rfl, hb⟩; have n0_ := Aside0.mk (Kd.R_below (by (with_reducible repeat (first | apply Kd.R_alloc | apply Kd.R_drewN | apply Kd.R_drew)); exact (Kd.R_mono (Kd.R_far (p := ⟨gb124, 3, none⟩) (Kd.R_far (p := ⟨gb124, 2, none⟩) (Kd.R_far (p := ⟨gb124, 1, none⟩) (Kd.R_far (p := ⟨gb124, 0, none⟩) (Kd.R_types HO_3.out BK124.out (by decide)) (fun _ hk => hk.2) (.int .i64 ((rd_T43 l0 x12_1).f0))) (fun _ hk => hk.2) (.string ((rd_T43 l0 x12_1).f1))) (fun _ hk => hk.2) (.int .i64 ((rd_T43 l0 x12_1).f2))) (fun _ hk => hk.2) (.int .i64 ((rd_T43 l0 x12_1).f3))) (fun _ h_ => h_.1))) hb); have n1_ := Aside0.mk (blk_below (g := gb124) (o := .cells #[.int .i64 ((rd_T43 l0 x12_1).f0), .string ((rd_T43 l0 x12_1).f1), .int .i64 ((rd_T43 l0 x12_1).f2), .int .i64 ((rd_T43 l0 x12_1).f3)] 43 (0, 0)) (by (with_reducible repeat (first | refine blk_drewN ?_ _ | refine blk_drew ?_ | refine blk_alloc ?_ _)); refine blk_put (cs := #[.int .i64 ((rd_T43 l0 x12_1).f0), .string ((rd_T43 l0 x12_1).f1), .int .i64 ((rd_T43 l0 x12_1).f2), .int .i64 0]) ?_ 3 _ rfl; (with_reducible repeat (first | refine blk_drewN ?_ _ | refine blk_drew ?_ | refine blk_alloc ?_ _)); refine blk_put (cs := #[.int .i64 ((rd_T43 l0 x12_1).f0), .string ((rd_T43 l0 x12_1).f1), .int .i64 0, .int .i64 0]) ?_ 2 _ rfl; (with_reducible repeat (first | refine blk_drewN ?_ _ | refine blk_drew ?_ | refine blk_alloc ?_ _)); refine blk_put (cs := #[.int .i64 ((rd_T43 l0 x12_1).f0), .string (⟨#[]⟩ : ByteArray), .int .i64 0, .int .i64 0]) ?_ 1 _ rfl; (with_reducible repeat (first | refine blk_drewN ?_ _ | refine blk_drew ?_ | refine blk_alloc ?_ _)); refine blk_put (cs := #[.int .i64 0, .string (⟨#[]⟩ : ByteArray), .int .i64 0, .int .i64 0]) ?_ 0 _ rfl; (with_reducible repeat (first | refine blk_drewN ?_ _ | refine blk_drew ?_ | refine blk_alloc ?_ _)); exact BK124.out) hb); have n2_ := Aside0.mk (below_step (by repeat (first | (with_reducible first | exact HB.out | apply below_alloc | apply pw_below_drewN | apply below_drew1 | refine below_set ?_ GE124.out) | exact HB.out)) hb); clear HO_3; clear BK124; clear HB; have HO_3 := n0_; have BK124 := n1_; have HB := n2_; clear n0_ n1_ n2_; (try clear hb); (try clear hb2); (try clear hk); (try clear hi); have hcz22_0 : w21.cell? ⟨gb124, 0, none⟩ = some (.int .i64 ((rd_T43 l0 x12_1).f0)) := (blk_cell BK124.out 0).trans rfl; have hcz22_1 : w21.cell? ⟨gb124, 1, none⟩ = some (.string ((rd_T43 l0 x12_1).f1)) := (blk_cell BK124.out 1).trans rfl; have hcz22_2 : w21.cell? ⟨gb124, 2, none⟩ = some (.int .i64 ((rd_T43 l0 x12_1).f2)) := (blk_cell BK124.out 2).trans rfl; have hcz22_3 : w21.cell? ⟨gb124, 3, none⟩ = some (.int .i64 ((rd_T43 l0 x12_1).f3)) := (blk_cell BK124.out 3).trans rfl; have hfz22_0 := blk_frozen BK124.out 0; have hfz22_1 := blk_frozen BK124.out 1; have hfz22_2 := blk_frozen BK124.out 2; have hfz22_3 := blk_frozen BK124.out 3))
                        go_meet
                        case rel => exact ⟨_, ((((rd_T43 l0 x12_1).f2) != 0)), (by first | rfl | (simp; done) | (simp [*]; done)), H', ⟨by have := HK1.out; first | omega | exact Nat.le_refl _⟩, ⟨by (with_reducible repeat (first | apply Kd.R_alloc | apply Kd.R_drewN | apply Kd.R_drew)); exact HO_3.out⟩, ⟨by (with_reducible repeat (first | refine blk_drewN ?_ _ | refine blk_drew ?_ | refine blk_alloc ?_ _)); exact BK124.out⟩, ⟨by repeat (first | (with_reducible first | exact HB.out | apply below_alloc | apply pw_below_drewN | apply below_drew1 | refine below_set ?_ GE124.out) | exact HB.out)⟩⟩
                  · replace c11 := Bool.eq_false_iff.mpr c11
                    subst c11
                    have H1 : (spec_l3Form.j1 k1 x3_1 (wrap64 (x4_1 + (((rd_T43 l0 x12_1).f1).size : Int))) l0 (l0.length : Int) x12_1 true ((rd_T43 l0 x12_1).f0) ((rd_T43 l0 x12_1).f1) ((rd_T43 l0 x12_1).f2) ((rd_T43 l0 x12_1).f3)) = some r := by rw [if_neg (show ¬ (false = true) by decide)] at H; exact H
                    clear H
                    have H := H1
                    clear H1
                    have H' := Aside0.mk H
                    clear H
                    have hcz23_0 : w7.cell? ⟨gb124, 0, none⟩ = some (.int .i64 0) := (blk_cell BK124.out 0).trans rfl
                    have hcz23_1 : w7.cell? ⟨gb124, 1, none⟩ = some (.string (⟨#[]⟩ : ByteArray)) := (blk_cell BK124.out 1).trans rfl
                    have hcz23_2 : w7.cell? ⟨gb124, 2, none⟩ = some (.int .i64 0) := (blk_cell BK124.out 2).trans rfl
                    have hcz23_3 : w7.cell? ⟨gb124, 3, none⟩ = some (.int .i64 0) := (blk_cell BK124.out 3).trans rfl
                    have hfz23_0 := blk_frozen BK124.out 0
                    have hfz23_1 := blk_frozen BK124.out 1
                    have hfz23_2 := blk_frozen BK124.out 2
                    have hfz23_3 := blk_frozen BK124.out 3
                    go_wp2_with (first | (go_at_call 44; (with_reducible refine (spec_l3Word.calls k1 ((rd_T43 l0 x12_1).f0) ((rd_T43 l0 x12_1).f1) ((rd_T43 l0 x12_1).f2) ((rd_T43 l0 x12_1).f3) false _ A10.out).mono ?_); rintro e w24 ⟨rfl, hb⟩; have n0_ := Aside0.mk (Kd.R_below (by (with_reducible repeat (first | apply Kd.R_alloc | apply Kd.R_drewN | apply Kd.R_drew)); exact (Kd.R_mono (Kd.R_far (p := ⟨gb124, 3, none⟩) (Kd.R_far (p := ⟨gb124, 2, none⟩) (Kd.R_far (p := ⟨gb124, 1, none⟩) (Kd.R_far (p := ⟨gb124, 0, none⟩) (Kd.R_types HO_3.out BK124.out (by decide)) (fun _ hk => hk.2) (.int .i64 ((rd_T43 l0 x12_1).f0))) (fun _ hk => hk.2) (.string ((rd_T43 l0 x12_1).f1))) (fun _ hk => hk.2) (.int .i64 ((rd_T43 l0 x12_1).f2))) (fun _ hk => hk.2) (.int .i64 ((rd_T43 l0 x12_1).f3))) (fun _ h_ => h_.1))) hb); have n1_ := Aside0.mk (blk_below (g := gb124) (o := .cells #[.int .i64 ((rd_T43 l0 x12_1).f0), .string ((rd_T43 l0 x12_1).f1), .int .i64 ((rd_T43 l0 x12_1).f2), .int .i64 ((rd_T43 l0 x12_1).f3)] 43 (0, 0)) (by (with_reducible repeat (first | refine blk_drewN ?_ _ | refine blk_drew ?_ | refine blk_alloc ?_ _)); refine blk_put (cs := #[.int .i64 ((rd_T43 l0 x12_1).f0), .string ((rd_T43 l0 x12_1).f1), .int .i64 ((rd_T43 l0 x12_1).f2), .int .i64 0]) ?_ 3 _ rfl; (with_reducible repeat (first | refine blk_drewN ?_ _ | refine blk_drew ?_ | refine blk_alloc ?_ _)); refine blk_put (cs := #[.int .i64 ((rd_T43 l0 x12_1).f0), .string ((rd_T43 l0 x12_1).f1), .int .i64 0, .int .i64 0]) ?_ 2 _ rfl; (with_reducible repeat (first | refine blk_drewN ?_ _ | refine blk_drew ?_ | refine blk_alloc ?_ _)); refine blk_put (cs := #[.int .i64 ((rd_T43 l0 x12_1).f0), .string (⟨#[]⟩ : ByteArray), .int .i64 0, .int .i64 0]) ?_ 1 _ rfl; (with_reducible repeat (first | refine blk_drewN ?_ _ | refine blk_drew ?_ | refine blk_alloc ?_ _)); refine blk_put (cs := #[.int .i64 0, .string (⟨#[]⟩ : ByteArray), .int .i64 0, .int .i64 0]) ?_ 0 _ rfl; (with_reducible repeat (first | refine blk_drewN ?_ _ | refine blk_drew ?_ | refine blk_alloc ?_ _)); exact BK124.out) hb); have n2_ := Aside0.mk (below_step (by repeat (first | (with_reducible first | exact HB.out | apply below_alloc | apply pw_below_drewN | apply below_drew1 | refine below_set ?_ GE124.out) | exact HB.out)) hb); clear HO_3; clear BK124; clear HB; have HO_3 := n0_; have BK124 := n1_; have HB := n2_; clear n0_ n1_ n2_; (try clear hb); (try clear hb2); (try clear hk); (try clear hi)))
                    go_meet
                    case rel => exact ⟨_, (true), (by first | rfl | (simp; done) | (simp [*]; done)), H', ⟨by have := HK1.out; first | omega | exact Nat.le_refl _⟩, ⟨by (with_reducible repeat (first | apply Kd.R_alloc | apply Kd.R_drewN | apply Kd.R_drew)); exact HO_3.out⟩, ⟨by (with_reducible repeat (first | refine blk_drewN ?_ _ | refine blk_drew ?_ | refine blk_alloc ?_ _)); exact BK124.out⟩, ⟨by repeat (first | (with_reducible first | exact HB.out | apply below_alloc | apply pw_below_drewN | apply below_drew1 | refine below_set ?_ GE124.out) | exact HB.out)⟩⟩
              case rest =>
                clear HC6
                try clear c1
                try clear p1
                try clear q1
                try clear hx1
                try clear c2
                try clear c2b0
                try clear c2b1
                try clear p2
                try clear c3
                try clear c3b0
                try clear c4
                try clear c4b0
                try clear c5
                try clear c5b0
                try clear p6
                try clear c9
                try clear c9b0
                try clear c11
                try clear c12
                try clear c12b0
                try clear p12
                try clear q12
                try clear hx12
                try clear c16
                try clear c16b0
                try clear c16b1
                try clear c22
                try clear hcz13_0
                try clear hcz13_1
                try clear hcz13_2
                try clear hcz13_3
                try clear hcz15_0
                try clear hcz15_1
                try clear hcz15_2
                try clear hcz15_3
                try clear hcz17_0
                try clear hcz17_1
                try clear hcz17_2
                try clear hcz17_3
                try clear hcz19_0
                try clear hcz19_1
                try clear hcz19_2
                try clear hcz19_3
                try clear hcz20_0
                try clear hcz20_1
                try clear hcz20_2
                try clear hcz20_3
                try clear hcz22_0
                try clear hcz22_1
                try clear hcz22_2
                try clear hcz22_3
                try clear hcz23_0
                try clear hcz23_1
                try clear hcz23_2
                try clear hcz23_3
                try clear hcz8_0
                try clear hcz8_1
                try clear hcz8_2
                try clear hcz8_3
                try clear hfz13_0
                try clear hfz13_1
                try clear hfz13_2
                try clear hfz13_3
                try clear hfz15_0
                try clear hfz15_1
                try clear hfz15_2
                try clear hfz15_3
                try clear hfz17_0
                try clear hfz17_1
                try clear hfz17_2
                try clear hfz17_3
                try clear hfz19_0
                try clear hfz19_1
                try clear hfz19_2
                try clear hfz19_3
                try clear hfz20_0
                try clear hfz20_1
                try clear hfz20_2
                try clear hfz20_3
                try clear hfz22_0
                try clear hfz22_1
                try clear hfz22_2
                try clear hfz22_3
                try clear hfz23_0
                try clear hfz23_1
                try clear hfz23_2
                try clear hfz23_3
                try clear hfz8_0
                try clear hfz8_1
                try clear hfz8_2
                try clear hfz8_3
                try clear hx123_0
                try clear hx123_1
                try clear hx123_2
                try clear hx123_3
                try clear p123
                try clear p2
                try clear q123
                obtain ⟨kq, x42_5, rfl, HA, HJ5, HO_3, BK124, HB⟩ := hcut
                cases kq with
                | zero => exact absurd HA.out (by simp [spec_l3Form.j1])
                | succ kj5 =>
                  have H := HA.out
                  clear HA
                  simp only [spec_l3Form.j1] at H
                  by_cases c25 : x42_5 = true
                  · subst c25
                    have H1 : (some false) = some r := by rw [if_pos rfl] at H; exact H
                    clear H
                    have H := H1
                    clear H1
                    obtain rfl := Option.some.inj H
                    go_wp2
                    go_ret
                    exact ⟨by first | rfl | (simp [errW_none, errW_some] <;> rfl) | (simp [*, errW_none, errW_some] <;> rfl), by repeat (first | (with_reducible first | exact HB.out | apply below_alloc | apply pw_below_drewN | apply below_drew1 | refine below_set ?_ GE124.out) | exact HB.out)⟩
                  · replace c25 := Bool.eq_false_iff.mpr c25
                    subst c25
                    have H1 : (if (x3_1.length : Int) > 0 then (if 0 ≤ (wrap64 ((x3_1.length : Int) - 1)) then (if (wrap64 ((x3_1.length : Int) - 1)) < (x3_1.length : Int) then (spec_l3Form.j2 kj5 (x3_1.set ((wrap64 ((x3_1.length : Int) - 1)) : Int).toNat (wrap64 ((rd x3_1 (wrap64 ((x3_1.length : Int) - 1))) - 1))) (wrap64 (x4_1 + (((rd_T43 l0 x12_1).f1).size : Int))) l0 (l0.length : Int) x12_1 ((rd_T43 l0 x12_1).f0) ((rd_T43 l0 x12_1).f1) ((rd_T43 l0 x12_1).f2) ((rd_T43 l0 x12_1).f3)) else (none)) else (none)) else (spec_l3Form.j2 kj5 x3_1 (wrap64 (x4_1 + (((rd_T43 l0 x12_1).f1).size : Int))) l0 (l0.length : Int) x12_1 ((rd_T43 l0 x12_1).f0) ((rd_T43 l0 x12_1).f1) ((rd_T43 l0 x12_1).f2) ((rd_T43 l0 x12_1).f3))) = some r := by rw [if_neg (show ¬ (false = true) by decide)] at H; exact H
                    clear H
                    have H := H1
                    clear H1
                    have HC26 := Aside0.mk H
                    clear H
                    obtain ⟨Ao27, co27, eo27⟩ := Kd.R_slice HO_3.out
                    subst eo27
                    go_upto_if 45 with (fail)
                    go_cut [] (fun wc => ∃ (kq : Nat) (x3_25 : List Int), Aside0 (spec_l3Form.j2 kq x3_25 (wrap64 (x4_1 + (((rd_T43 l0 x12_1).f1).size : Int))) l0 (l0.length : Int) x12_1 ((rd_T43 l0 x12_1).f0) ((rd_T43 l0 x12_1).f1) ((rd_T43 l0 x12_1).f2) ((rd_T43 l0 x12_1).f3) = some r) ∧ Aside0 (kq ≤ kj5) ∧ Aside0 (Kd.R (Kd.int .i64) 3 wc w.heap.size (fun _ => True) (.slice Ao27 x3_1.length co27) x3_25) ∧ Aside0 (wc.heap[gb124]? = some (.cells #[.int .i64 ((rd_T43 l0 x12_1).f0), .string ((rd_T43 l0 x12_1).f1), .int .i64 ((rd_T43 l0 x12_1).f2), .int .i64 ((rd_T43 l0 x12_1).f3)] 43 (0, 0))) ∧ Aside0 (Below w.heap.size w wc))
                    case first =>
                      have H := HC26.out
                      clear HC26
                      by_cases c28 : (x3_1.length : Int) > 0
                      · rw [if_pos c28] at H
                        have c28b0 : decide (0 < (x3_1.length : Int)) = true := decide_eq_true c28
                        have c28b1 : decide (0 < x3_1.length) = true := decide_eq_true (by omega)
                        clear c28
                        (first | rw [c28b0] | (simp only [i64_w, i32_w]; rw [c28b0]) | rw [c28b1] | skip)
                        obtain ⟨ji29, hji29⟩ : ∃ j_ : Int, (wrap64 ((x3_1.length : Int) - 1)) = j_ := ⟨_, rfl⟩
                        replace H : (if 0 ≤ (ji29) then (if (ji29) < (x3_1.length : Int) then (spec_l3Form.j2 kj5 (x3_1.set ((ji29) : Int).toNat (wrap64 ((rd x3_1 (ji29)) - 1))) (wrap64 (x4_1 + (((rd_T43 l0 x12_1).f1).size : Int))) l0 (l0.length : Int) x12_1 ((rd_T43 l0 x12_1).f0) ((rd_T43 l0 x12_1).f1) ((rd_T43 l0 x12_1).f2) ((rd_T43 l0 x12_1).f3)) else (none)) else (none)) = some r := by first | (rw [hji29] at H; exact H) | (simp only [hji29] at H ⊢; exact H)
                        have hji29w : (IntKind.i64.wrap ((x3_1.length : Int) - 1)) = ji29 := (i64_w _).trans hji29
                        by_cases c30 : 0 ≤ (ji29)
                        · rw [if_pos c30] at H
                          have c30b0 : decide (0 ≤ (ji29)) = true := decide_eq_true c30
                          clear c30
                          by_cases c31 : (ji29) < (x3_1.length : Int)
                          · rw [if_pos c31] at H
                            have c31b0 : decide ((ji29) < (x3_1.length : Int)) = true := decide_eq_true c31
                            clear c31
                            obtain ⟨y127, hy127⟩ : ∃ y_ : List Int, y_ = (x3_1.set ((ji29) : Int).toNat (wrap64 ((rd x3_1 (ji29)) - 1))) := ⟨_, rfl⟩
                            replace H : (spec_l3Form.j2 kj5 y127 (wrap64 (x4_1 + (((rd_T43 l0 x12_1).f1).size : Int))) l0 (l0.length : Int) x12_1 ((rd_T43 l0 x12_1).f0) ((rd_T43 l0 x12_1).f1) ((rd_T43 l0 x12_1).f2) ((rd_T43 l0 x12_1).f3)) = some r := by first | (rw [hy127]; with_reducible exact H) | (have H2_ := (Option.bind_some _ _).symm.trans H; rw [hy127]; with_reducible exact H2_) | (have H2_ := (Option.bind_some _ _).symm.trans H; with_reducible exact H2_) | with_reducible exact H | (rw [hy127]; exact H) | exact H
                            have Ny127 := Aside0.mk hy127
                            clear hy127
                            have H' := Aside0.mk H
                            clear H
                            have p126 : 0 ≤ ((ji29) : Int) := of_decide_eq_true (by first | (with_reducible assumption) | assumption)
                            have q126 : (ji29) < (x3_1.length : Int) := of_decide_eq_true (by first | (with_reducible assumption) | assumption)
                            obtain ⟨ad126, e126, hx126_0⟩ := Kd.at_int (Kd.R_reads' HO_3.out).2.2 (ji29) p126 q126
                            cases e126
                            replace p126 := eq_true p126
                            replace q126 := eq_true q126
                            have p32 : 0 ≤ ((ji29) : Int) := of_decide_eq_true (by first | (with_reducible assumption) | assumption)
                            have q32 : ((ji29) : Int) < ((x3_1.length : Int) : Int) := of_decide_eq_true (by first | (with_reducible assumption) | assumption)
                            obtain ⟨go32, co32, eo32, gb32, gl32, cl32, HG32⟩ := Kd.R_form HO_3.out (by omega)
                            (first | cases eo32 | (injection eo32 with ea_ en_ ec_; (first | subst ea_ | (injection ea_ with ea_; subst ea_)); subst ec_; clear en_))
                            have GB32 := Aside0.mk gb32
                            have GG32 := Aside0.mk HG32
                            clear gb32 gl32 HG32
                            (first | simp only [add_plain] at hx126_0 | skip)
                            obtain ⟨hx32_0, hf32_0⟩ := Kd.R_celln 0 HO_3.out ((ji29) : Int) p32 q32
                            replace p32 := eq_true p32
                            replace q32 := eq_true q32
                            have HP33 := Kd.R_putg HO_3.out ((ji29) : Int) (wrap64 ((rd x3_1 (ji29)) - 1))
                            go_wp2_with (first | ((with_reducible refine gate_store (t := 3) (p := 53) rfl ?_); refine store_event (t := 3) (p := 53) (v := ?vo_w34) (w1 := (wc.setCell ⟨go32, ((ji29) : Int).toNat, none⟩ (.int .i64 (wrap64 ((rd x3_1 (ji29)) - 1))))) ?hg ?ho ?hn ?hr ?_; (case ho => rfl); (case hg => rfl); (case hn => rfl); (case hr => first | (go_simp; done) | (go_simp; rfl)); intro w34 hw; have hg : wc.grownBy w34 (some go32) := (by rw [hw]; exact HP33.2); have hp_ : Kd.R (Kd.int .i64) 3 w34 w.heap.size (fun _ => True) (.slice (some ⟨go32, 0, none⟩) x3_1.length co27) y127 := (by rw [hw, Ny127.out]; exact HP33.1); clear HP33; have n0_ := Aside0.mk (hp_); have n1_ := Aside0.mk (blk_grown (g := gb124) (o := .cells #[.int .i64 ((rd_T43 l0 x12_1).f0), .string ((rd_T43 l0 x12_1).f1), .int .i64 ((rd_T43 l0 x12_1).f2), .int .i64 ((rd_T43 l0 x12_1).f3)] 43 (0, 0)) (by (with_reducible repeat (first | refine blk_drewN ?_ _ | refine blk_drew ?_ | refine blk_alloc ?_ _)); exact BK124.out) hg (Kd.R_ne HO_3.out BK124.out (by decide))); have n2_ := Aside0.mk ((by rw [hw]; exact below_set (HB.out) GB32.out : Below w.heap.size w w34)); clear HO_3; clear BK124; clear HB; have HO_3 := n0_; have BK124 := n1_; have HB := n2_; clear n0_ n1_ n2_; clear hg hw hp_))
                            go_meet
                            case rel => exact ⟨_, (y127), H', ⟨by have := HK1.out; have := HJ5.out; first | omega | exact Nat.le_refl _⟩, ⟨by (with_reducible repeat (first | apply Kd.R_alloc | apply Kd.R_drewN | apply Kd.R_drew)); exact HO_3.out⟩, ⟨by (with_reducible repeat (first | refine blk_drewN ?_ _ | refine blk_drew ?_ | refine blk_alloc ?_ _)); exact BK124.out⟩, ⟨by repeat (first | (with_reducible first | exact HB.out | apply below_alloc | apply pw_below_drewN | apply below_drew1 | refine below_set ?_ GE124.out) | exact HB.out)⟩⟩
                          · rw [if_neg c31] at H
                            exact absurd H (by simp)
                        · rw [if_neg c30] at H
                          exact absurd H (by simp)
                      · rw [if_neg c28] at H
                        have c28b0 : decide (0 < (x3_1.length : Int)) = false := decide_eq_false c28
                        have c28b1 : decide (0 < x3_1.length) = false := decide_eq_false (by omega)
                        clear c28
                        (first | rw [c28b0] | (simp only [i64_w, i32_w]; rw [c28b0]) | rw [c28b1] | skip)
                        have H' := Aside0.mk H
                        clear H
                        go_wp2
                        go_meet
                        case rel => exact ⟨_, (x3_1), H', ⟨by have := HK1.out; have := HJ5.out; first | omega | exact Nat.le_refl _⟩, ⟨by (with_reducible repeat (first | apply Kd.R_alloc | apply Kd.R_drewN | apply Kd.R_drew)); exact HO_3.out⟩, ⟨by (with_reducible repeat (first | refine blk_drewN ?_ _ | refine blk_drew ?_ | refine blk_alloc ?_ _)); exact BK124.out⟩, ⟨by repeat (first | (with_reducible first | exact HB.out | apply below_alloc | apply pw_below_drewN | apply below_drew1 | refine below_set ?_ GE124.out) | exact HB.out)⟩⟩
                    case rest =>
                      clear HC26
                      try clear c1
                      try clear p1
                      try clear q1
                      try clear hx1
                      try clear c2
                      try clear c2b0
                      try clear c2b1
                      try clear p2
                      try clear c3
                      try clear c3b0
                      try clear p3
                      try clear q3
                      try clear hx3
                      try clear hf3
                      try clear c4
                      try clear c4b0
                      try clear c5
                      try clear c5b0
                      try clear p6
                      try clear c9
                      try clear c9b0
                      try clear c11
                      try clear c12
                      try clear c12b0
                      try clear p12
                      try clear q12
                      try clear hx12
                      try clear c16
                      try clear c16b0
                      try clear c16b1
                      try clear c22
                      try clear c25
                      try clear c28
                      try clear c28b0
                      try clear c28b1
                      try clear c30
                      try clear c30b0
                      try clear c31
                      try clear c31b0
                      try clear p32
                      try clear q32
                      try clear hx32
                      try clear hf32
                      try clear hcz13_0
                      try clear hcz13_1
                      try clear hcz13_2
                      try clear hcz13_3
                      try clear hcz15_0
                      try clear hcz15_1
                      try clear hcz15_2
                      try clear hcz15_3
                      try clear hcz17_0
                      try clear hcz17_1
                      try clear hcz17_2
                      try clear hcz17_3
                      try clear hcz19_0
                      try clear hcz19_1
                      try clear hcz19_2
                      try clear hcz19_3
                      try clear hcz20_0
                      try clear hcz20_1
                      try clear hcz20_2
                      try clear hcz20_3
                      try clear hcz22_0
                      try clear hcz22_1
                      try clear hcz22_2
                      try clear hcz22_3
                      try clear hcz23_0
                      try clear hcz23_1
                      try clear hcz23_2
                      try clear hcz23_3
                      try clear hcz8_0
                      try clear hcz8_1
                      try clear hcz8_2
                      try clear hcz8_3
                      try clear hfz13_0
                      try clear hfz13_1
                      try clear hfz13_2
                      try clear hfz13_3
                      try clear hfz15_0
                      try clear hfz15_1
                      try clear hfz15_2
                      try clear hfz15_3
                      try clear hfz17_0
                      try clear hfz17_1
                      try clear hfz17_2
                      try clear hfz17_3
                      try clear hfz19_0
                      try clear hfz19_1
                      try clear hfz19_2
                      try clear hfz19_3
                      try clear hfz20_0
                      try clear hfz20_1
                      try clear hfz20_2
                      try clear hfz20_3
                      try clear hfz22_0
                      try clear hfz22_1
                      try clear hfz22_2
                      try clear hfz22_3
                      try clear hfz23_0
                      try clear hfz23_1
                      try clear hfz23_2
                      try clear hfz23_3
                      try clear hfz8_0
                      try clear hfz8_1
                      try clear hfz8_2
                      try clear hfz8_3
                      try clear hx123_0
                      try clear hx123_1
                      try clear hx123_2
                      try clear hx123_3
                      try clear hx126_0
                      try clear hx32_0
                      try clear p1
                      try clear p12
                      try clear p123
                      try clear p126
                      try clear p2
                      try clear p32
                      try clear p6
                      try clear q1
                      try clear q12
                      try clear q123
                      try clear q126
                      try clear q32
                      obtain ⟨kq, x3_25, HA, HJ25, HO_3, BK124, HB⟩ := hcut
                      have hl3_25 := (Kd.R_reads' HO_3.out).1
                      rw [hl3_25] at HO_3
                      (try simp only [hl3_25])
                      (try simp only [hl3_25] at BK124)
                      cases kq with
                      | zero => exact absurd HA.out (by simp [spec_l3Form.j2])
                      | succ kj25 =>
                        have H := HA.out
                        clear HA
                        simp only [spec_l3Form.j2] at H
                        have HC35 := Aside0.mk H
                        clear H
                        have hcz36_0 : wc.cell? ⟨gb124, 0, none⟩ = some (.int .i64 ((rd_T43 l0 x12_1).f0)) := (blk_cell BK124.out 0).trans rfl
                        have hcz36_1 : wc.cell? ⟨gb124, 1, none⟩ = some (.string ((rd_T43 l0 x12_1).f1)) := (blk_cell BK124.out 1).trans rfl
                        have hcz36_2 : wc.cell? ⟨gb124, 2, none⟩ = some (.int .i64 ((rd_T43 l0 x12_1).f2)) := (blk_cell BK124.out 2).trans rfl
                        have hcz36_3 : wc.cell? ⟨gb124, 3, none⟩ = some (.int .i64 ((rd_T43 l0 x12_1).f3)) := (blk_cell BK124.out 3).trans rfl
                        have hfz36_0 := blk_frozen BK124.out 0
                        have hfz36_1 := blk_frozen BK124.out 1
                        have hfz36_2 := blk_frozen BK124.out 2
                        have hfz36_3 := blk_frozen BK124.out 3
                        go_upto_if 56 with (fail)
                        go_cut [3] (fun v3 wc => ∃ (kq : Nat) (x3_34 : List Int), Aside0 (spec_l3Form.j3 kq x3_34 (wrap64 (x4_1 + (((rd_T43 l0 x12_1).f1).size : Int))) l0 (l0.length : Int) x12_1 = some r) ∧ Aside0 (kq ≤ kj25) ∧ Aside0 (Kd.R (Kd.int .i64) 3 wc w.heap.size (fun _ => True) v3 x3_34) ∧ Aside0 (wc.heap[gb124]? = some (.cells #[.int .i64 ((rd_T43 l0 x12_1).f0), .string ((rd_T43 l0 x12_1).f1), .int .i64 ((rd_T43 l0 x12_1).f2), .int .i64 ((rd_T43 l0 x12_1).f3)] 43 (0, 0))) ∧ Aside0 (Below w.heap.size w wc))
                        case first =>
                          have H := HC35.out
                          clear HC35
                          by_cases c37 : ((rd_T43 l0 x12_1).f0) = 1
                          · rw [if_pos c37] at H
                            have c37b0 : (((rd_T43 l0 x12_1).f0) == 1) = true := beq_iff_eq.mpr c37
                            have c37b1 : (((rd_T43 l0 x12_1).f0) != 1) = false := bne_eq_false_iff_eq.mpr c37
                            clear c37
                            (first | rw [c37b0] | (simp only [i64_w, i32_w]; rw [c37b0]) | rw [c37b1] | skip)
                            by_cases c38 : x3_25.length < 17592186044416
                            · rw [if_pos c38] at H
                              have LMc38 := Aside0.mk c38
                              clear c38
                              obtain ⟨y128, hy128⟩ : ∃ y_ : List Int, y_ = (x3_25 ++ [((rd_T43 l0 x12_1).f2)]) := ⟨_, rfl⟩
                              replace H : (if (y128.length : Int) > 200 then (some false) else (spec_l3Form.j3 kj25 y128 (wrap64 (x4_1 + (((rd_T43 l0 x12_1).f1).size : Int))) l0 (l0.length : Int) x12_1)) = some r := by first | (rw [hy128]; with_reducible exact H) | (have H2_ := (Option.bind_some _ _).symm.trans H; rw [hy128]; with_reducible exact H2_) | (have H2_ := (Option.bind_some _ _).symm.trans H; with_reducible exact H2_) | with_reducible exact H | (rw [hy128]; exact H) | exact H
                              have Ny128 := Aside0.mk hy128
                              clear hy128
                              by_cases c39 : (y128.length : Int) > 200
                              · rw [if_pos c39] at H
                                have c39b0 : decide (200 < (y128.length : Int)) = true := decide_eq_true c39
                                have c39b1 : decide (200 < y128.length) = true := decide_eq_true (by omega)
                                clear c39
                                obtain rfl := Option.some.inj H
                                have hcz40_0 : wc.cell? ⟨gb124, 0, none⟩ = some (.int .i64 ((rd_T43 l0 x12_1).f0)) := (blk_cell BK124.out 0).trans rfl
                                have hcz40_1 : wc.cell? ⟨gb124, 1, none⟩ = some (.string ((rd_T43 l0 x12_1).f1)) := (blk_cell BK124.out 1).trans rfl
                                have hcz40_2 : wc.cell? ⟨gb124, 2, none⟩ = some (.int .i64 ((rd_T43 l0 x12_1).f2)) := (blk_cell BK124.out 2).trans rfl
                                have hcz40_3 : wc.cell? ⟨gb124, 3, none⟩ = some (.int .i64 ((rd_T43 l0 x12_1).f3)) := (blk_cell BK124.out 3).trans rfl
                                have hfz40_0 := blk_frozen BK124.out 0
                                have hfz40_1 := blk_frozen BK124.out 1
                                have hfz40_2 := blk_frozen BK124.out 2
                                have hfz40_3 := blk_frozen BK124.out 3
                                go_wp2_with (first | ((with_reducible refine gate_builtin (b := .append) (xs := #[.tmp 57, .tmp 60]) rfl ?_); (try (refine gate_guard (by rfl) ?_; dsimp only)); at_builtin; refine Kd.R_append (Kd.int .i64) (w0 := w) w.heap.size rfl (.tmp 57) (.tmp 60) 62 3 (.int .i64 0) 8 rfl Tryd.underlying62 info3 rfl (by decide) (by omega) (.slice Ao27 x3_25.length co27) x3_25 ((rd_T43 l0 x12_1).f2) [.int .i64 ((rd_T43 l0 x12_1).f2)] (fun _ => True) (fun _ => False) rfl rfl ?aP (fun _ hk => hk.elim) ?aF ?aO ?aB ?aS ?aL ?_; (case aP => exact rfl); (case aB => exact (by repeat (first | (with_reducible first | exact HB.out | apply below_alloc | apply pw_below_drewN | apply below_drew1 | refine below_set ?_ GE124.out) | exact HB.out))); (case aF => exact (fun _ _ => trivial)); (case aO => exact (by (with_reducible repeat (first | apply Kd.R_alloc | apply Kd.R_drewN | apply Kd.R_drew)); exact HO_3.out)); (case aS => exact (below_size (by repeat (first | (with_reducible first | exact HB.out | apply below_alloc | apply pw_below_drewN | apply below_drew1 | refine below_set ?_ GE124.out) | exact HB.out)))); (case aL => have := LMc38.out; omega); intro v129 w41 ho hb hg hat; rw [← Ny128.out] at ho; have n0_ := Aside0.mk (blk_grown (g := gb124) (o := .cells #[.int .i64 ((rd_T43 l0 x12_1).f0), .string ((rd_T43 l0 x12_1).f1), .int .i64 ((rd_T43 l0 x12_1).f2), .int .i64 ((rd_T43 l0 x12_1).f3)] 43 (0, 0)) (by (with_reducible repeat (first | refine blk_drewN ?_ _ | refine blk_drew ?_ | refine blk_alloc ?_ _)); exact BK124.out) hg (Kd.R_ne HO_3.out BK124.out (by decide))); have n1_ := Aside0.mk (hb); have n2_ := Aside0.mk (ho); clear BK124; clear HB; clear HO_3; have BK124 := n0_; have HB := n1_; have HO130 := n2_; clear n0_ n1_ n2_; clear ho hb hg hat; obtain ⟨Ao42, co42, eo42⟩ := Kd.R_slice HO130.out; subst eo42))
                                go_ret
                                exact ⟨by first | rfl | (simp [errW_none, errW_some] <;> rfl) | (simp [*, errW_none, errW_some] <;> rfl), by repeat (first | (with_reducible first | exact HB.out | apply below_alloc | apply pw_below_drewN | apply below_drew1 | refine below_set ?_ GE124.out) | exact HB.out)⟩
                              · rw [if_neg c39] at H
                                have c39b0 : decide (200 < (y128.length : Int)) = false := decide_eq_false c39
                                have c39b1 : decide (200 < y128.length) = false := decide_eq_false (by omega)
                                clear c39
                                have H' := Aside0.mk H
                                clear H
                                have hcz43_0 : wc.cell? ⟨gb124, 0, none⟩ = some (.int .i64 ((rd_T43 l0 x12_1).f0)) := (blk_cell BK124.out 0).trans rfl
                                have hcz43_1 : wc.cell? ⟨gb124, 1, none⟩ = some (.string ((rd_T43 l0 x12_1).f1)) := (blk_cell BK124.out 1).trans rfl
                                have hcz43_2 : wc.cell? ⟨gb124, 2, none⟩ = some (.int .i64 ((rd_T43 l0 x12_1).f2)) := (blk_cell BK124.out 2).trans rfl
                                have hcz43_3 : wc.cell? ⟨gb124, 3, none⟩ = some (.int .i64 ((rd_T43 l0 x12_1).f3)) := (blk_cell BK124.out 3).trans rfl
                                have hfz43_0 := blk_frozen BK124.out 0
                                have hfz43_1 := blk_frozen BK124.out 1
                                have hfz43_2 := blk_frozen BK124.out 2
                                have hfz43_3 := blk_frozen BK124.out 3
                                go_wp2_with (first | ((with_reducible refine gate_builtin (b := .append) (xs := #[.tmp 57, .tmp 60]) rfl ?_); (try (refine gate_guard (by rfl) ?_; dsimp only)); at_builtin; refine Kd.R_append (Kd.int .i64) (w0 := w) w.heap.size rfl (.tmp 57) (.tmp 60) 62 3 (.int .i64 0) 8 rfl Tryd.underlying62 info3 rfl (by decide) (by omega) (.slice Ao27 x3_25.length co27) x3_25 ((rd_T43 l0 x12_1).f2) [.int .i64 ((rd_T43 l0 x12_1).f2)] (fun _ => True) (fun _ => False) rfl rfl ?aP (fun _ hk => hk.elim) ?aF ?aO ?aB ?aS ?aL ?_; (case aP => exact rfl); (case aB => exact (by repeat (first | (with_reducible first | exact HB.out | apply below_alloc | apply pw_below_drewN | apply below_drew1 | refine below_set ?_ GE124.out) | exact HB.out))); (case aF => exact (fun _ _ => trivial)); (case aO => exact (by (with_reducible repeat (first | apply Kd.R_alloc | apply Kd.R_drewN | apply Kd.R_drew)); exact HO_3.out)); (case aS => exact (below_size (by repeat (first | (with_reducible first | exact HB.out | apply below_alloc | apply pw_below_drewN | apply below_drew1 | refine below_set ?_ GE124.out) | exact HB.out)))); (case aL => have := LMc38.out; omega); intro v129 w44 ho hb hg hat; rw [← Ny128.out] at ho; have n0_ := Aside0.mk (blk_grown (g := gb124) (o := .cells #[.int .i64 ((rd_T43 l0 x12_1).f0), .string ((rd_T43 l0 x12_1).f1), .int .i64 ((rd_T43 l0 x12_1).f2), .int .i64 ((rd_T43 l0 x12_1).f3)] 43 (0, 0)) (by (with_reducible repeat (first | refine blk_drewN ?_ _ | refine blk_drew ?_ | refine blk_alloc ?_ _)); exact BK124.out) hg (Kd.R_ne HO_3.out BK124.out (by decide))); have n1_ := Aside0.mk (hb); have n2_ := Aside0.mk (ho); clear BK124; clear HB; clear HO_3; have BK124 := n0_; have HB := n1_; have HO130 := n2_; clear n0_ n1_ n2_; clear ho hb hg hat; obtain ⟨Ao45, co45, eo45⟩ := Kd.R_slice HO130.out; subst eo45))
                                go_meet
                                case rel => exact ⟨_, (y128), H', ⟨by have := HK1.out; have := HJ5.out; have := HJ25.out; first | omega | exact Nat.le_refl _⟩, ⟨by (try simp only [hl3_25]); (with_reducible repeat (first | apply Kd.R_alloc | apply Kd.R_drewN | apply Kd.R_drew)); exact HO130.out⟩, ⟨by (try simp only [hl3_25]); (with_reducible repeat (first | refine blk_drewN ?_ _ | refine blk_drew ?_ | refine blk_alloc ?_ _)); exact BK124.out⟩, ⟨by repeat (first | (with_reducible first | exact HB.out | apply below_alloc | apply pw_below_drewN | apply below_drew1 | refine below_set ?_ GE124.out) | exact HB.out)⟩⟩
                            · rw [if_neg c38] at H
                              exact absurd H (by simp)
                          · rw [if_neg c37] at H
                            have c37b0 : (((rd_T43 l0 x12_1).f0) == 1) = false := beq_eq_false_iff_ne.mpr c37
                            have c37b1 : (((rd_T43 l0 x12_1).f0) != 1) = true := bne_iff_ne.mpr c37
                            (first | rw [c37b0] | (simp only [i64_w, i32_w]; rw [c37b0]) | rw [c37b1] | skip)
                            have H' := Aside0.mk H
                            clear H
                            go_wp2
                            go_meet
                            case rel => exact ⟨_, (x3_25), H', ⟨by have := HK1.out; have := HJ5.out; have := HJ25.out; first | omega | exact Nat.le_refl _⟩, ⟨by (try simp only [hl3_25]); (with_reducible repeat (first | apply Kd.R_alloc | apply Kd.R_drewN | apply Kd.R_drew)); exact HO_3.out⟩, ⟨by (try simp only [hl3_25]); (with_reducible repeat (first | refine blk_drewN ?_ _ | refine blk_drew ?_ | refine blk_alloc ?_ _)); exact BK124.out⟩, ⟨by repeat (first | (with_reducible first | exact HB.out | apply below_alloc | apply pw_below_drewN | apply below_drew1 | refine below_set ?_ GE124.out) | exact HB.out)⟩⟩
                        case rest =>
                          clear HC35
                          try clear c1
                          try clear p1
                          try clear q1
                          try clear hx1
                          try clear c2
                          try clear c2b0
                          try clear c2b1
                          try clear p2
                          try clear c3
                          try clear c3b0
                          try clear p3
                          try clear q3
                          try clear hx3
                          try clear hf3
                          try clear c4
                          try clear c4b0
                          try clear c5
                          try clear c5b0
                          try clear p6
                          try clear c9
                          try clear c9b0
                          try clear c11
                          try clear c12
                          try clear c12b0
                          try clear p12
                          try clear q12
                          try clear hx12
                          try clear c16
                          try clear c16b0
                          try clear c16b1
                          try clear c22
                          try clear c25
                          try clear c28
                          try clear c28b0
                          try clear c28b1
                          try clear c30
                          try clear c30b0
                          try clear c31
                          try clear c31b0
                          try clear p32
                          try clear q32
                          try clear hx32
                          try clear hf32
                          try clear c37
                          try clear c37b0
                          try clear c37b1
                          try clear c38
                          try clear c39
                          try clear c39b0
                          try clear c39b1
                          try clear hcz13_0
                          try clear hcz13_1
                          try clear hcz13_2
                          try clear hcz13_3
                          try clear hcz15_0
                          try clear hcz15_1
                          try clear hcz15_2
                          try clear hcz15_3
                          try clear hcz17_0
                          try clear hcz17_1
                          try clear hcz17_2
                          try clear hcz17_3
                          try clear hcz19_0
                          try clear hcz19_1
                          try clear hcz19_2
                          try clear hcz19_3
                          try clear hcz20_0
                          try clear hcz20_1
                          try clear hcz20_2
                          try clear hcz20_3
                          try clear hcz22_0
                          try clear hcz22_1
                          try clear hcz22_2
                          try clear hcz22_3
                          try clear hcz23_0
                          try clear hcz23_1
                          try clear hcz23_2
                          try clear hcz23_3
                          try clear hcz36_0
                          try clear hcz36_1
                          try clear hcz36_2
                          try clear hcz36_3
                          try clear hcz40_0
                          try clear hcz40_1
                          try clear hcz40_2
                          try clear hcz40_3
                          try clear hcz43_0
                          try clear hcz43_1
                          try clear hcz43_2
                          try clear hcz43_3
                          try clear hcz8_0
                          try clear hcz8_1
                          try clear hcz8_2
                          try clear hcz8_3
                          try clear hfz13_0
                          try clear hfz13_1
                          try clear hfz13_2
                          try clear hfz13_3
                          try clear hfz15_0
                          try clear hfz15_1
                          try clear hfz15_2
                          try clear hfz15_3
                          try clear hfz17_0
                          try clear hfz17_1
                          try clear hfz17_2
                          try clear hfz17_3
                          try clear hfz19_0
                          try clear hfz19_1
                          try clear hfz19_2
                          try clear hfz19_3
                          try clear hfz20_0
                          try clear hfz20_1
                          try clear hfz20_2
                          try clear hfz20_3
                          try clear hfz22_0
                          try clear hfz22_1
                          try clear hfz22_2
                          try clear hfz22_3
                          try clear hfz23_0
                          try clear hfz23_1
                          try clear hfz23_2
                          try clear hfz23_3
                          try clear hfz36_0
                          try clear hfz36_1
                          try clear hfz36_2
                          try clear hfz36_3
                          try clear hfz40_0
                          try clear hfz40_1
                          try clear hfz40_2
                          try clear hfz40_3
                          try clear hfz43_0
                          try clear hfz43_1
                          try clear hfz43_2
                          try clear hfz43_3
                          try clear hfz8_0
                          try clear hfz8_1
                          try clear hfz8_2
                          try clear hfz8_3
                          try clear hx123_0
                          try clear hx123_1
                          try clear hx123_2
                          try clear hx123_3
                          try clear hx126_0
                          try clear hx32_0
                          try clear p1
                          try clear p12
                          try clear p123
                          try clear p126
                          try clear p2
                          try clear p3
                          try clear p32
                          try clear p6
                          try clear q1
                          try clear q12
                          try clear q123
                          try clear q126
                          try clear q3
                          try clear q32
                          obtain ⟨kq, x3_34, HA, HJ34, HO_3, BK124, HB⟩ := hcut
                          cases kq with
                          | zero => exact absurd HA.out (by simp [spec_l3Form.j3])
                          | succ kj34 =>
                            have H := HA.out
                            clear HA
                            simp only [spec_l3Form.j3] at H
                            have H' := Aside0.mk H
                            clear H
                            go_wp2
                            go_loopg [3] kj34 (fun kq v3 w' => ∃ (x3_5 : List Int), Aside0 (spec_l3Form.l1 kq x3_5 (wrap64 (x4_1 + (((rd_T43 l0 x12_1).f1).size : Int))) l0 (l0.length : Int) x12_1 = some r) ∧ Aside0 (kq ≤ kj34) ∧ Aside0 (Kd.R (Kd.int .i64) 3 w' w.heap.size (fun _ => True) v3 x3_5) ∧ Aside0 (w'.heap[gb124]? = some (.cells #[.int .i64 ((rd_T43 l0 x12_1).f0), .string ((rd_T43 l0 x12_1).f1), .int .i64 ((rd_T43 l0 x12_1).f2), .int .i64 ((rd_T43 l0 x12_1).f3)] 43 (0, 0))) ∧ Aside0 (Below w.heap.size w w'))
                            case atStart => exact ⟨(x3_34), H', ⟨Nat.le_refl _⟩, ⟨by (try simp only [hl3_25]); (with_reducible repeat (first | apply Kd.R_alloc | apply Kd.R_drewN | apply Kd.R_drew)); exact HO_3.out⟩, ⟨by (try simp only [hl3_25]); (with_reducible repeat (first | refine blk_drewN ?_ _ | refine blk_drew ?_ | refine blk_alloc ?_ _)); exact BK124.out⟩, ⟨by repeat (first | (with_reducible first | exact HB.out | apply below_alloc | apply pw_below_drewN | apply below_drew1 | refine below_set ?_ GE124.out) | exact HB.out)⟩⟩
                            case round =>
                              clear H'
                              try clear c1
                              try clear p1
                              try clear q1
                              try clear hx1
                              try clear c2
                              try clear c2b0
                              try clear c2b1
                              try clear p2
                              try clear c3
                              try clear c3b0
                              try clear p3
                              try clear q3
                              try clear hx3
                              try clear hf3
                              try clear c4
                              try clear c4b0
                              try clear c5
                              try clear c5b0
                              try clear p6
                              try clear c9
                              try clear c9b0
                              try clear c11
                              try clear c12
                              try clear c12b0
                              try clear p12
                              try clear q12
                              try clear hx12
                              try clear c16
                              try clear c16b0
                              try clear c16b1
                              try clear c22
                              try clear c25
                              try clear c28
                              try clear c28b0
                              try clear c28b1
                              try clear c30
                              try clear c30b0
                              try clear c31
                              try clear c31b0
                              try clear p32
                              try clear q32
                              try clear hx32
                              try clear hf32
                              try clear c37
                              try clear c37b0
                              try clear c37b1
                              try clear c38
                              try clear c39
                              try clear c39b0
                              try clear c39b1
                              try clear hcz13_0
                              try clear hcz13_1
                              try clear hcz13_2
                              try clear hcz13_3
                              try clear hcz15_0
                              try clear hcz15_1
                              try clear hcz15_2
                              try clear hcz15_3
                              try clear hcz17_0
                              try clear hcz17_1
                              try clear hcz17_2
                              try clear hcz17_3
                              try clear hcz19_0
                              try clear hcz19_1
                              try clear hcz19_2
                              try clear hcz19_3
                              try clear hcz20_0
                              try clear hcz20_1
                              try clear hcz20_2
                              try clear hcz20_3
                              try clear hcz22_0
                              try clear hcz22_1
                              try clear hcz22_2
                              try clear hcz22_3
                              try clear hcz23_0
                              try clear hcz23_1
                              try clear hcz23_2
                              try clear hcz23_3
                              try clear hcz36_0
                              try clear hcz36_1
                              try clear hcz36_2
                              try clear hcz36_3
                              try clear hcz40_0
                              try clear hcz40_1
                              try clear hcz40_2
                              try clear hcz40_3
                              try clear hcz43_0
                              try clear hcz43_1
                              try clear hcz43_2
                              try clear hcz43_3
                              try clear hcz8_0
                              try clear hcz8_1
                              try clear hcz8_2
                              try clear hcz8_3
                              try clear hfz13_0
                              try clear hfz13_1
                              try clear hfz13_2
                              try clear hfz13_3
                              try clear hfz15_0
                              try clear hfz15_1
                              try clear hfz15_2
                              try clear hfz15_3
                              try clear hfz17_0
                              try clear hfz17_1
                              try clear hfz17_2
                              try clear hfz17_3
                              try clear hfz19_0
                              try clear hfz19_1
                              try clear hfz19_2
                              try clear hfz19_3
                              try clear hfz20_0
                              try clear hfz20_1
                              try clear hfz20_2
                              try clear hfz20_3
                              try clear hfz22_0
                              try clear hfz22_1
                              try clear hfz22_2
                              try clear hfz22_3
                              try clear hfz23_0
                              try clear hfz23_1
                              try clear hfz23_2
                              try clear hfz23_3
                              try clear hfz36_0
                              try clear hfz36_1
                              try clear hfz36_2
                              try clear hfz36_3
                              try clear hfz40_0
                              try clear hfz40_1
                              try clear hfz40_2
                              try clear hfz40_3
                              try clear hfz43_0
                              try clear hfz43_1
                              try clear hfz43_2
                              try clear hfz43_3
                              try clear hfz8_0
                              try clear hfz8_1
                              try clear hfz8_2
                              try clear hfz8_3
                              try clear hx123_0
                              try clear hx123_1
                              try clear hx123_2
                              try clear hx123_3
                              try clear hx126_0
                              try clear hx32_0
                              try clear p1
                              try clear p12
                              try clear p123
                              try clear p126
                              try clear p2
                              try clear p3
                              try clear p32
                              try clear p6
                              try clear q1
                              try clear q12
                              try clear q123
                              try clear q126
                              try clear q3
                              try clear q32
                              obtain ⟨x3_5, HA, HK5, HO_3, BK124, HB⟩ := hrel
                              cases gk with
                              | zero => exact absurd HA.out (by simp [spec_l3Form.l1])
                              | succ k5 =>
                                have H := HA.out
                                clear HA
                                simp only [spec_l3Form.l1] at H
                                by_cases c46 : (x3_5.length : Int) > 0
                                · rw [if_pos c46] at H
                                  have c46b0 : decide (0 < (x3_5.length : Int)) = true := decide_eq_true c46
                                  have c46b1 : decide (0 < x3_5.length) = true := decide_eq_true (by omega)
                                  clear c46
                                  obtain ⟨ji47, hji47⟩ : ∃ j_ : Int, (wrap64 ((x3_5.length : Int) - 1)) = j_ := ⟨_, rfl⟩
                                  replace H : (if 0 ≤ (ji47) then (if (ji47) < (x3_5.length : Int) then (if (rd x3_5 (ji47)) = 0 then (if (ji47) ≤ (x3_5.length : Int) then (spec_l3Form.l1 k5 (x3_5.take ((ji47) : Int).toNat) (wrap64 (x4_1 + (((rd_T43 l0 x12_1).f1).size : Int))) l0 (l0.length : Int) x12_1) else (none)) else (spec_l3Form.l0 k5 x3_5 (wrap64 (x4_1 + (((rd_T43 l0 x12_1).f1).size : Int))) l0 (l0.length : Int) (wrap64 (x12_1 + 1)))) else (none)) else (none)) = some r := by first | (rw [hji47] at H; exact H) | (simp only [hji47] at H ⊢; exact H)
                                  have hji47w : (IntKind.i64.wrap ((x3_5.length : Int) - 1)) = ji47 := (i64_w _).trans hji47
                                  by_cases c48 : 0 ≤ (ji47)
                                  · rw [if_pos c48] at H
                                    have c48b0 : decide (0 ≤ (ji47)) = true := decide_eq_true c48
                                    clear c48
                                    by_cases c49 : (ji47) < (x3_5.length : Int)
                                    · rw [if_pos c49] at H
                                      have c49b0 : decide ((ji47) < (x3_5.length : Int)) = true := decide_eq_true c49
                                      clear c49
                                      by_cases c50 : (rd x3_5 (ji47)) = 0
                                      · rw [if_pos c50] at H
                                        have c50b0 : ((rd x3_5 (ji47)) == 0) = true := beq_iff_eq.mpr c50
                                        have c50b1 : ((rd x3_5 (ji47)) != 0) = false := bne_eq_false_iff_eq.mpr c50
                                        clear c50
                                        by_cases c51 : (ji47) ≤ (x3_5.length : Int)
                                        · rw [if_pos c51] at H
                                          have c51b0 := eq_true c51
                                          have c51b1 : decide ((ji47) ≤ (x3_5.length : Int)) = true := decide_eq_true c51
                                          clear c51
                                          obtain ⟨y132, hy132⟩ : ∃ y_ : List Int, y_ = (x3_5.take ((ji47) : Int).toNat) := ⟨_, rfl⟩
                                          replace H : (spec_l3Form.l1 k5 y132 (wrap64 (x4_1 + (((rd_T43 l0 x12_1).f1).size : Int))) l0 (l0.length : Int) x12_1) = some r := by first | (rw [hy132]; with_reducible exact H) | (have H2_ := (Option.bind_some _ _).symm.trans H; rw [hy132]; with_reducible exact H2_) | (have H2_ := (Option.bind_some _ _).symm.trans H; with_reducible exact H2_) | with_reducible exact H | (rw [hy132]; exact H) | exact H
                                          have Ny132 := Aside0.mk hy132
                                          clear hy132
                                          have H' := Aside0.mk H
                                          clear H
                                          obtain ⟨Ao52, co52, eo52⟩ := Kd.R_slice HO_3.out
                                          subst eo52
                                          have p131 : 0 ≤ ((ji47) : Int) := of_decide_eq_true (by first | (with_reducible assumption) | assumption)
                                          have q131 : (ji47) < (x3_5.length : Int) := of_decide_eq_true (by first | (with_reducible assumption) | assumption)
                                          obtain ⟨ad131, e131, hx131_0⟩ := Kd.at_int (Kd.R_reads' HO_3.out).2.2 (ji47) p131 q131
                                          cases e131
                                          replace p131 := eq_true p131
                                          replace q131 := eq_true q131
                                          have q53 : ((ji47) : Int) ≤ ((x3_5.length : Int) : Int) := of_decide_eq_true (by first | (with_reducible assumption) | assumption)
                                          obtain ⟨i053, hi053, _, hsz53, _⟩ := info_parts info3
                                          have hcut53 := cut_to (P := Tryd.prog) 62 3 .i64 Tryd.underlying62 hi053 (some ad131) x3_5.length co52 (ji47) (of_decide_eq_true (by first | (with_reducible assumption) | assumption)) q53 (Kd.R_reads' HO_3.out).2.1
                                          have hr53 := Kd.R_take (m := ((ji47) : Int).toNat) HO_3.out (by omega)
                                          have hy53 : y132.length = ((ji47) : Int).toNat := (by rw [Ny132.out, List.length_take]; omega)
                                          rw [← Ny132.out] at hr53
                                          rw [← hy53] at hr53 hcut53
                                          clear hy53 hi053 hsz53 HO_3
                                          have HO134 := Aside0.mk hr53
                                          clear hr53
                                          replace q53 := eq_true q53
                                          go_wp2
                                          go_roundg k5
                                          case measure => have := HK1.out; have := HJ5.out; have := HJ25.out; have := HJ34.out; have := HK5.out; omega
                                          case rel => exact ⟨(y132), H', ⟨by have := HK1.out; have := HJ5.out; have := HJ25.out; have := HJ34.out; have := HK5.out; omega⟩, ⟨by (try simp only [hl3_25]); (with_reducible repeat (first | apply Kd.R_alloc | apply Kd.R_drewN | apply Kd.R_drew)); exact HO134.out⟩, ⟨by (try simp only [hl3_25]); (with_reducible repeat (first | refine blk_drewN ?_ _ | refine blk_drew ?_ | refine blk_alloc ?_ _)); exact BK124.out⟩, ⟨by repeat (first | (with_reducible first | exact HB.out | apply below_alloc | apply pw_below_drewN | apply below_drew1 | refine below_set ?_ GE124.out) | exact HB.out)⟩⟩
                                        · rw [if_neg c51] at H
                                          exact absurd H (by simp)
                                      · rw [if_neg c50] at H
                                        have c50b0 : ((rd x3_5 (ji47)) == 0) = false := beq_eq_false_iff_ne.mpr c50
                                        have c50b1 : ((rd x3_5 (ji47)) != 0) = true := bne_iff_ne.mpr c50
                                        have H' := Aside0.mk H
                                        clear H
                                        obtain ⟨Ao54, co54, eo54⟩ := Kd.R_slice HO_3.out
                                        subst eo54
                                        have p131 : 0 ≤ ((ji47) : Int) := of_decide_eq_true (by first | (with_reducible assumption) | assumption)
                                        have q131 : (ji47) < (x3_5.length : Int) := of_decide_eq_true (by first | (with_reducible assumption) | assumption)
                                        obtain ⟨ad131, e131, hx131_0⟩ := Kd.at_int (Kd.R_reads' HO_3.out).2.2 (ji47) p131 q131
                                        cases e131
                                        replace p131 := eq_true p131
                                        replace q131 := eq_true q131
                                        go_wp2
                                        (try simp only [← hl3_25])
                                        go_roundg k5
                                        case measure => have := HK1.out; have := HJ5.out; have := HJ25.out; have := HJ34.out; have := HK5.out; omega
                                        case rel => exact ⟨(x3_5), ((wrap64 (x4_1 + (((rd_T43 l0 x12_1).f1).size : Int)))), (wrap64 (x12_1 + 1)), (by first | rfl | (simp; done) | (simp [*]; done)), (by first | rfl | (simp; done) | (simp [*]; done)), H', ⟨by have := HK1.out; have := HJ5.out; have := HJ25.out; have := HJ34.out; have := HK5.out; omega⟩, ⟨by (try simp only [hl3_25]); (with_reducible repeat (first | apply Kd.R_alloc | apply Kd.R_drewN | apply Kd.R_drew)); exact HO_3.out⟩, ⟨by repeat (first | (with_reducible first | exact HB.out | apply below_alloc | apply pw_below_drewN | apply below_drew1 | refine below_set ?_ GE124.out) | exact HB.out)⟩⟩
                                    · rw [if_neg c49] at H
                                      exact absurd H (by simp)
                                  · rw [if_neg c48] at H
                                    exact absurd H (by simp)
                                · rw [if_neg c46] at H
                                  have c46b0 : decide (0 < (x3_5.length : Int)) = false := decide_eq_false c46
                                  have c46b1 : decide (0 < x3_5.length) = false := decide_eq_false (by omega)
                                  clear c46
                                  have H' := Aside0.mk H
                                  clear H
                                  obtain ⟨Ao55, co55, eo55⟩ := Kd.R_slice HO_3.out
                                  subst eo55
                                  go_wp2
                                  (try simp only [← hl3_25])
                                  go_roundg k5
                                  case measure => have := HK1.out; have := HJ5.out; have := HJ25.out; have := HJ34.out; have := HK5.out; omega
                                  case rel => exact ⟨(x3_5), ((wrap64 (x4_1 + (((rd_T43 l0 x12_1).f1).size : Int)))), (wrap64 (x12_1 + 1)), (by first | rfl | (simp; done) | (simp [*]; done)), (by first | rfl | (simp; done) | (simp [*]; done)), H', ⟨by have := HK1.out; have := HJ5.out; have := HJ25.out; have := HJ34.out; have := HK5.out; omega⟩, ⟨by (try simp only [hl3_25]); (with_reducible repeat (first | apply Kd.R_alloc | apply Kd.R_drewN | apply Kd.R_drew)); exact HO_3.out⟩, ⟨by repeat (first | (with_reducible first | exact HB.out | apply below_alloc | apply pw_below_drewN | apply below_drew1 | refine below_set ?_ GE124.out) | exact HB.out)⟩⟩
            · rw [if_neg c5] at H
              exact absurd H (by simp)
          · rw [if_neg c4] at H
            exact absurd H (by simp)
        · rw [if_neg c3] at H
          have c3b0 : decide (x12_1 < (l0.length : Int)) = false := decide_eq_false c3
          clear c3
          obtain rfl := Option.some.inj H
          obtain ⟨Ao56, co56, eo56⟩ := Kd.R_slice HO_3.out
          subst eo56
          go_wp2
          go_ret
          exact ⟨by first | rfl | (simp [errW_none, errW_some] <;> rfl) | (simp [*, errW_none, errW_some] <;> rfl), by repeat (first | (with_reducible first | exact HB.out | apply below_alloc | apply pw_below_drewN | apply below_drew1) | exact HB.out)⟩

end Go.Proofs.YtbeelgaganbblaaDoor.PFnExactGoodTree

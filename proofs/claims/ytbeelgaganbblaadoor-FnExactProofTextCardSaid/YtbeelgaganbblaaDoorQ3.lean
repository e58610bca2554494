/- laws.FnExactProofText, for every row of lemmas: the program's ProofText answers as the reference's; the row is not written to. Condition: the row's own (strconv's table of powers of ten and the two tables of math/bits read as the program's text lays them), tied by the given tie. -/
import Derived.Below
import Derived.Carry
import Derived.ChangeArms
import Derived.ChangeOld
import Derived.DataElems
import Derived.DataReads
import Derived.Deep.DeepHandedRow
import Derived.Lib.LaidTab
import Derived.Lib.SmallJoins
import Derived.OpenShut
import Derived.ProofKit
import Derived.ShutString
import Derived.SizedLaws
import Derived.Test.YtbeelgaganbblaaDoorCards
import Derived.Test.YtbeelgaganbblaaDoorQ0
import Derived.Test.YtbeelgaganbblaaDoorQ1
import Derived.Test.YtbeelgaganbblaaDoorQ2
import Derived.Test.YtbeelgaganbblaaDoorTie
import Derived.Test.YtbeelgaganbblaaDoorWWords
import Derived.WalkKit
namespace Go.Proofs.YtbeelgaganbblaaDoor.PFnExactProofText
open Go.RowKit Go.Proofs.YtbeelgaganbblaaDoorW.PrintWords Go.Proofs.YtbeelgaganbblaaDoorW.PrintLast Go.Proofs.YtbeelgaganbblaaDoorW.PrintMore
attribute [local go_sem] max2_int min2_int max_two min_two max_three min_three max_four min_four   -- for this text's walks alone
set_option linter.unusedVariables false
set_option linter.unusedSimpArgs false
def laws_eqLemmaS.l0 : Nat → List (S71) → List (S71) → Int → Option (Bool)
  | 0, _, _, _ => none
  | k + 1, x0, x1, x5 => if x5 < (x0.length : Int) then (if 0 ≤ x5 then (if x5 < (x1.length : Int) then ((laws_eqLemma.f k ((rd_T71 x0 x5).f0) ((rd_T71 x0 x5).f1) ((rd_T71 x0 x5).f2) ((rd_T71 x0 x5).f3) ((rd_T71 x1 x5).f0) ((rd_T71 x1 x5).f1) ((rd_T71 x1 x5).f2) ((rd_T71 x1 x5).f3)).bind fun t205 => (if t205 = true then (laws_eqLemmaS.l0 k x0 x1 (wrap64 (x5 + 1))) else (some false))) else (none)) else (none)) else (some true)
def laws_eqLemmaS.f (k : Nat) (l0 : List (S71)) (l1 : List (S71)) : Option (Bool) := if (l0.length : Int) = (l1.length : Int) then (laws_eqLemmaS.l0 k l0 l1 0) else (some false)
def laws_eqLemmaS.T6 : Bool × List (List Nat × List Nat) := (true, [([], []), ([], []), ([0, 1], [0, 1]), ([2], [2]), ([], []), ([], []), ([4, 5], [4, 5]), ([6], [6]), ([3, 7], [3, 7]), ([8], [8])])
def laws_eqLemmaS.B6 : List Nat := [0, 0, 3, 7, 0, 0, 48, 112, 255, 511]
theorem laws_eqLemmaS.tab6 : rtab .any (opsOf Tryd.f18 6) = laws_eqLemmaS.T6 := by kernel_rfl
theorem laws_eqLemmaS.bits6 : waitsOk laws_eqLemmaS.T6.2 laws_eqLemmaS.B6 = true := by kernel_rfl
set_option maxHeartbeats 8000000 in
set_option maxRecDepth 100000 in
theorem laws_eqLemmaS.calls (k : Nat) (A0 : Option Addr) (c0 : Nat) (l0 : List (S71)) (A1 : Option Addr) (c1 : Nat) (l1 : List (S71)) (r : Bool) (w : World) (hr0 : Kd.C k71 w A0 l0.length l0) (hc0 : l0.length ≤ c0) (hr1 : Kd.C k71 w A1 l1.length l1) (hc1 : l1.length ≤ c1) (h : laws_eqLemmaS.f k l0 l1 = some r) :
    Calls Tryd.prog 18 #[.slice A0 l0.length c0, .slice A1 l1.length c1] w fun e w' => e = .returned (.bool r) ∧ Below w.heap.size w w' := by
  have hu71 := Tryd.underlying71
  have HR0 := Aside0.mk hr0
  have HC0 := Aside0.mk hc0
  clear hr0 hc0
  have HR1 := Aside0.mk hr1
  have HC1 := Aside0.mk hc1
  clear hr1 hc1
  have HB := Aside0.mk (Below.refl w.heap.size w)
  have H : (if (l0.length : Int) = (l1.length : Int) then (laws_eqLemmaS.l0 k l0 l1 0) else (some false)) = some r := h
  clear h
  by_cases c3 : (l0.length : Int) = (l1.length : Int)
  · rw [if_pos c3] at H
    have c3b0 : ((l0.length : Int) == (l1.length : Int)) = true := beq_iff_eq.mpr c3
    have c3b1 : ((l0.length : Int) != (l1.length : Int)) = false := bne_eq_false_iff_eq.mpr c3
    have c3b2 : (l0.length == l1.length) = true := by first | simpa using c3 | (simp at c3 ⊢; omega)
    clear c3
    have H' := Aside0.mk H
    clear H
    go_enter Tryd.func18, Tryd.ntmps18
    go_wp2
    go_loopg [5] k (fun kq v5 w' => ∃ (x5_1 : Int), v5 = .int .i64 x5_1 ∧ Aside0 (laws_eqLemmaS.l0 kq l0 l1 x5_1 = some r) ∧ Aside0 (kq ≤ k) ∧ Aside0 (Below w.heap.size w w'))
    case atStart => exact ⟨(0), (by first | rfl | (simp; done) | (simp [*]; done)), H', ⟨Nat.le_refl _⟩, ⟨by repeat (first | (with_reducible first | exact HB.out | apply below_alloc | apply pw_below_drewN | apply below_drew1) | exact HB.out)⟩⟩
    case round =>
      clear H'
      try clear c1
      try clear p2
      try clear c3
      try clear c3b0
      try clear c3b1
      try clear c3b2
      obtain ⟨x5_1, rfl, HA, HK1, HB⟩ := hrel
      cases gk with
      | zero => exact absurd HA.out (by simp [laws_eqLemmaS.l0])
      | succ k1 =>
        have H := HA.out
        clear HA
        simp only [laws_eqLemmaS.l0] at H
        by_cases c4 : x5_1 < (l0.length : Int)
        · rw [if_pos c4] at H
          have c4b0 : decide (x5_1 < (l0.length : Int)) = true := decide_eq_true c4
          clear c4
          by_cases c5 : 0 ≤ x5_1
          · rw [if_pos c5] at H
            have c5b0 : decide (0 ≤ x5_1) = true := decide_eq_true c5
            clear c5
            by_cases c6 : x5_1 < (l1.length : Int)
            · rw [if_pos c6] at H
              have c6b0 : decide (x5_1 < (l1.length : Int)) = true := decide_eq_true c6
              clear c6
              replace H := Option.bind_eq_some_iff.mp H
              obtain ⟨t205, A70, H⟩ := H
              replace H : (if t205 = true then (laws_eqLemmaS.l0 k1 l0 l1 (wrap64 (x5_1 + 1))) else (some false)) = some r := H
              have A7 := Aside0.mk A70
              clear A70
              by_cases c8 : t205 = true
              · subst c8
                have H1 : (laws_eqLemmaS.l0 k1 l0 l1 (wrap64 (x5_1 + 1))) = some r := by rw [if_pos rfl] at H; exact H
                clear H
                have H := H1
                clear H1
                have H' := Aside0.mk H
                clear H
                try go_wp2
                have n0_ := Aside0.mk (below_drew1 HB.out)
                clear HB
                have HB := n0_
                clear n0_
                have p203 : 0 ≤ (x5_1 : Int) := of_decide_eq_true (by first | (with_reducible assumption) | assumption)
                have q203 : x5_1 < (l0.length : Int) := of_decide_eq_true (by first | (with_reducible assumption) | assumption)
                obtain ⟨ad203, A203_1, c203_1, A203_2, c203_2, A203_3, c203_3, e203, hx203_0, hx203_1, hx203_2, hx203_3, hl203_1, hi203_1, hl203_2, hi203_2, hl203_3, hi203_3⟩ := at_T71 HR0.out x5_1 p203 q203
                have hw203_3 := hx203_3
                have hw203_2 := hx203_2
                have hw203_1 := hx203_1
                have hw203_0 := hx203_0
                cases e203
                replace hx203_0 := (HB.out.cell (World.block_lt_of_cell? w _ hx203_0)).trans hx203_0
                replace hx203_1 := (HB.out.cell (World.block_lt_of_cell? w _ hx203_1)).trans hx203_1
                replace hx203_2 := (HB.out.cell (World.block_lt_of_cell? w _ hx203_2)).trans hx203_2
                replace hx203_3 := (HB.out.cell (World.block_lt_of_cell? w _ hx203_3)).trans hx203_3
                have HR203_1 := Aside0.mk hi203_1
                have HC203_1 := Aside0.mk hl203_1
                clear hi203_1 hl203_1
                have HR203_2 := Aside0.mk hi203_2
                have HC203_2 := Aside0.mk hl203_2
                clear hi203_2 hl203_2
                have HR203_3 := Aside0.mk hi203_3
                have HC203_3 := Aside0.mk hl203_3
                clear hi203_3 hl203_3
                replace p203 := eq_true p203
                replace q203 := eq_true q203
                have p204 : 0 ≤ (x5_1 : Int) := of_decide_eq_true (by first | (with_reducible assumption) | assumption)
                have q204 : x5_1 < (l1.length : Int) := of_decide_eq_true (by first | (with_reducible assumption) | assumption)
                obtain ⟨ad204, A204_1, c204_1, A204_2, c204_2, A204_3, c204_3, e204, hx204_0, hx204_1, hx204_2, hx204_3, hl204_1, hi204_1, hl204_2, hi204_2, hl204_3, hi204_3⟩ := at_T71 HR1.out x5_1 p204 q204
                have hw204_3 := hx204_3
                have hw204_2 := hx204_2
                have hw204_1 := hx204_1
                have hw204_0 := hx204_0
                cases e204
                replace hx204_0 := (HB.out.cell (World.block_lt_of_cell? w _ hx204_0)).trans hx204_0
                replace hx204_1 := (HB.out.cell (World.block_lt_of_cell? w _ hx204_1)).trans hx204_1
                replace hx204_2 := (HB.out.cell (World.block_lt_of_cell? w _ hx204_2)).trans hx204_2
                replace hx204_3 := (HB.out.cell (World.block_lt_of_cell? w _ hx204_3)).trans hx204_3
                have HR204_1 := Aside0.mk hi204_1
                have HC204_1 := Aside0.mk hl204_1
                clear hi204_1 hl204_1
                have HR204_2 := Aside0.mk hi204_2
                have HC204_2 := Aside0.mk hl204_2
                clear hi204_2 hl204_2
                have HR204_3 := Aside0.mk hi204_3
                have HC204_3 := Aside0.mk hl204_3
                clear hi204_3 hl204_3
                replace p204 := eq_true p204
                replace q204 := eq_true q204
                refine start_ (n := 10) (S := fun w' => w'.cell? (ad203.add ((x5_1).toNat * 4)) = some (.int .i64 ((rd_T71 l0 x5_1).f0)) ∧ w'.cell? ⟨(ad203.add ((x5_1).toNat * 4)).block, (ad203.add ((x5_1).toNat * 4)).off + 1, none⟩ = some (.slice A203_1 ((rd_T71 l0 x5_1).f1).length c203_1) ∧ w'.cell? ⟨(ad203.add ((x5_1).toNat * 4)).block, (ad203.add ((x5_1).toNat * 4)).off + 2, none⟩ = some (.slice A203_2 ((rd_T71 l0 x5_1).f2).length c203_2) ∧ w'.cell? ⟨(ad203.add ((x5_1).toNat * 4)).block, (ad203.add ((x5_1).toNat * 4)).off + 3, none⟩ = some (.slice A203_3 ((rd_T71 l0 x5_1).f3).length c203_3) ∧ w'.cell? (ad204.add ((x5_1).toNat * 4)) = some (.int .i64 ((rd_T71 l1 x5_1).f0)) ∧ w'.cell? ⟨(ad204.add ((x5_1).toNat * 4)).block, (ad204.add ((x5_1).toNat * 4)).off + 1, none⟩ = some (.slice A204_1 ((rd_T71 l1 x5_1).f1).length c204_1) ∧ w'.cell? ⟨(ad204.add ((x5_1).toNat * 4)).block, (ad204.add ((x5_1).toNat * 4)).off + 2, none⟩ = some (.slice A204_2 ((rd_T71 l1 x5_1).f2).length c204_2) ∧ w'.cell? ⟨(ad204.add ((x5_1).toNat * 4)).block, (ad204.add ((x5_1).toNat * 4)).off + 3, none⟩ = some (.slice A204_3 ((rd_T71 l1 x5_1).f3).length c204_3)) (ds := []) #[false, false, false, false, false, false, false, false, false, false] (by kernel_rfl) rfl rfl ⟨((HB.out.cell (World.block_lt_of_cell? w _ hw203_0)).trans hw203_0), ((HB.out.cell (World.block_lt_of_cell? w _ hw203_1)).trans hw203_1), ((HB.out.cell (World.block_lt_of_cell? w _ hw203_2)).trans hw203_2), ((HB.out.cell (World.block_lt_of_cell? w _ hw203_3)).trans hw203_3), ((HB.out.cell (World.block_lt_of_cell? w _ hw204_0)).trans hw204_0), ((HB.out.cell (World.block_lt_of_cell? w _ hw204_1)).trans hw204_1), ((HB.out.cell (World.block_lt_of_cell? w _ hw204_2)).trans hw204_2), ((HB.out.cell (World.block_lt_of_cell? w _ hw204_3)).trans hw204_3)⟩ (fun hHeld => ?_); refine with_tabW laws_eqLemmaS.tab6 laws_eqLemmaS.bits6 (fun HT_ HW_ => ?_)
                generalize wr.drew = w9 at HB HR203_1 HR203_2 HR203_3 HR204_1 HR204_2 HR204_3 hx203_0 hx203_1 hx203_2 hx203_3 hx204_0 hx204_1 hx204_2 hx204_3 hHeld ⊢
                refine pure_ (i := 0) (N := some 17) (v := ?_) (a' := ?_) #[true, false, false, false, false, false, false, false, false, false] rfl rfl (any_of HT_.out (by kernel_rfl)) (fun _ _ _ h => h) (Or.inl ⟨by rfl, ?_⟩) ?_ ?_
                rotate_left
                · intro w'
                  go_simp
                  with_reducible rfl
                rotate_left
                · simp only [Act.put, List.setIfInBounds_toArray, List.set_cons_zero, List.set_cons_succ, i64_w, i32_w]
                  rfl
                refine pure_ (i := 1) (N := some 18) (v := ?_) (a' := ?_) #[true, true, false, false, false, false, false, false, false, false] rfl rfl (any_of HT_.out (by kernel_rfl)) (fun _ _ _ h => h) (Or.inl ⟨by rfl, ?_⟩) ?_ ?_
                rotate_left
                · intro w'
                  go_simp
                  with_reducible rfl
                rotate_left
                · simp only [Act.put, List.setIfInBounds_toArray, List.set_cons_zero, List.set_cons_succ, i64_w, i32_w]
                  rfl
                refine pure_ (i := 2) (N := some 19) (v := ?_) (a' := ?_) #[true, true, true, false, false, false, false, false, false, false] rfl rfl (any_of HT_.out (by kernel_rfl)) (fun _ _ _ h => h) (Or.inl ⟨by rfl, ?_⟩) ?_ ?_
                rotate_left
                · intro w'
                  go_simp
                  with_reducible rfl
                rotate_left
                · simp only [Act.put, List.setIfInBounds_toArray, List.set_cons_zero, List.set_cons_succ, i64_w, i32_w]
                  rfl
                refine pure_ (i := 4) (N := some 21) (v := ?_) (a' := ?_) #[true, true, true, false, true, false, false, false, false, false] rfl rfl (any_of HT_.out (by kernel_rfl)) (fun _ _ _ h => h) (Or.inl ⟨by rfl, ?_⟩) ?_ ?_
                rotate_left
                · intro w'
                  go_simp
                  with_reducible rfl
                rotate_left
                · simp only [Act.put, List.setIfInBounds_toArray, List.set_cons_zero, List.set_cons_succ, i64_w, i32_w]
                  rfl
                refine pure_ (i := 5) (N := some 22) (v := ?_) (a' := ?_) #[true, true, true, false, true, true, false, false, false, false] rfl rfl (any_of HT_.out (by kernel_rfl)) (fun _ _ _ h => h) (Or.inl ⟨by rfl, ?_⟩) ?_ ?_
                rotate_left
                · intro w'
                  go_simp
                  with_reducible rfl
                rotate_left
                · simp only [Act.put, List.setIfInBounds_toArray, List.set_cons_zero, List.set_cons_succ, i64_w, i32_w]
                  rfl
                refine pure_ (i := 6) (N := some 23) (v := ?_) (a' := ?_) #[true, true, true, false, true, true, true, false, false, false] rfl rfl (any_of HT_.out (by kernel_rfl)) (fun _ _ _ h => h) (Or.inl ⟨by rfl, ?_⟩) ?_ ?_
                rotate_left
                · intro w'
                  go_simp
                  with_reducible rfl
                rotate_left
                · simp only [Act.put, List.setIfInBounds_toArray, List.set_cons_zero, List.set_cons_succ, i64_w, i32_w]
                  rfl
                refine take_ (i := 3) (N := some 20) (v := ?_) (a' := ?_) #[true, true, true, true, true, true, true, false, false, false] rfl rfl (take_ofW HT_.out HW_.out (by kernel_rfl)) (fun _ _ _ h => h) (Or.inl ⟨by rfl, ?_⟩) hHeld ?_ ?_
                rotate_left
                · rintro w' ⟨s0, s1, s2, s3, s4, s5, s6, s7⟩
                  go_simp
                  with_reducible rfl
                rotate_left
                · simp only [Act.put, List.setIfInBounds_toArray, List.set_cons_zero, List.set_cons_succ, i64_w, i32_w]
                  rfl
                refine take_ (i := 7) (N := some 24) (v := ?_) (a' := ?_) #[true, true, true, true, true, true, true, true, false, false] rfl rfl (take_ofW HT_.out HW_.out (by kernel_rfl)) (fun _ _ _ h => h) (Or.inl ⟨by rfl, ?_⟩) hHeld ?_ ?_
                rotate_left
                · rintro w' ⟨s0, s1, s2, s3, s4, s5, s6, s7⟩
                  go_simp
                  with_reducible rfl
                rotate_left
                · simp only [Act.put, List.setIfInBounds_toArray, List.set_cons_zero, List.set_cons_succ, i64_w, i32_w]
                  rfl
                refine one_ (i := 8) (N := some 25) #[true, true, true, true, true, true, true, true, true, false] rfl rfl (one_of HT_.out (by kernel_rfl)) (by decide) (fun K hK => ?_)
                refine goes_ Tryd.func41 (by kernel_rfl) rfl #[.agg #[.int .i64 ((rd_T71 l0 x5_1).f0), .slice A203_1 ((rd_T71 l0 x5_1).f1).length c203_1, .slice A203_2 ((rd_T71 l0 x5_1).f2).length c203_2, .slice A203_3 ((rd_T71 l0 x5_1).f3).length c203_3], .agg #[.int .i64 ((rd_T71 l1 x5_1).f0), .slice A204_1 ((rd_T71 l1 x5_1).f1).length c204_1, .slice A204_2 ((rd_T71 l1 x5_1).f2).length c204_2, .slice A204_3 ((rd_T71 l1 x5_1).f3).length c204_3]] (by rfl) rfl rfl (by (try simp only [List.map_toArray, List.map_cons, List.map_nil]); first | done | rfl | (simp only [List.length_drop, List.length_take]; rfl)) ?_
                with_reducible refine (laws_eqLemma.calls k1 ((rd_T71 l0 x5_1).f0) _ _ ((rd_T71 l0 x5_1).f1) _ _ ((rd_T71 l0 x5_1).f2) _ _ ((rd_T71 l0 x5_1).f3) ((rd_T71 l1 x5_1).f0) _ _ ((rd_T71 l1 x5_1).f1) _ _ ((rd_T71 l1 x5_1).f2) _ _ ((rd_T71 l1 x5_1).f3) true _ ?side1 ?side2 ?side3 ?side4 ?side5 ?side6 ?side7 ?side8 ?side9 ?side10 ?side11 ?side12 A7.out).mono ?_
                (case side1 => repeat (first | exact (Kd.C_below HR203_1.out HB.out) | (with_reducible refine Kd.C_alloc ?_ _) | (with_reducible refine Kd.C_drewN ?_ _) | (with_reducible refine Kd.C_drew ?_)))
                (case side2 => exact HC203_1.out)
                (case side3 => repeat (first | exact (Kd.C_below HR203_2.out HB.out) | (with_reducible refine Kd.C_alloc ?_ _) | (with_reducible refine Kd.C_drewN ?_ _) | (with_reducible refine Kd.C_drew ?_)))
                (case side4 => exact HC203_2.out)
                (case side5 => repeat (first | exact (Kd.C_below HR203_3.out HB.out) | (with_reducible refine Kd.C_alloc ?_ _) | (with_reducible refine Kd.C_drewN ?_ _) | (with_reducible refine Kd.C_drew ?_)))
                (case side6 => exact HC203_3.out)
                (case side7 => repeat (first | exact (Kd.C_below HR204_1.out HB.out) | (with_reducible refine Kd.C_alloc ?_ _) | (with_reducible refine Kd.C_drewN ?_ _) | (with_reducible refine Kd.C_drew ?_)))
                (case side8 => exact HC204_1.out)
                (case side9 => repeat (first | exact (Kd.C_below HR204_2.out HB.out) | (with_reducible refine Kd.C_alloc ?_ _) | (with_reducible refine Kd.C_drewN ?_ _) | (with_reducible refine Kd.C_drew ?_)))
                (case side10 => exact HC204_2.out)
                (case side11 => repeat (first | exact (Kd.C_below HR204_3.out HB.out) | (with_reducible refine Kd.C_alloc ?_ _) | (with_reducible refine Kd.C_drewN ?_ _) | (with_reducible refine Kd.C_drew ?_)))
                (case side12 => exact HC204_3.out)
                rintro e w10 ⟨rfl, hb⟩
                refine ⟨_, rfl, ?_⟩
                have n0_ := Aside0.mk (below_step (by repeat (first | (with_reducible first | exact HB.out | apply below_alloc | apply pw_below_drewN | apply below_drew1) | exact HB.out)) hb)
                clear HB
                have HB := n0_
                clear n0_
                (try clear hb)
                (try clear hb2)
                (try clear hk)
                (try clear hi)
                refine hK.out _ _ ⟨((HB.out.cell (World.block_lt_of_cell? w _ hw203_0)).trans hw203_0), ((HB.out.cell (World.block_lt_of_cell? w _ hw203_1)).trans hw203_1), ((HB.out.cell (World.block_lt_of_cell? w _ hw203_2)).trans hw203_2), ((HB.out.cell (World.block_lt_of_cell? w _ hw203_3)).trans hw203_3), ((HB.out.cell (World.block_lt_of_cell? w _ hw204_0)).trans hw204_0), ((HB.out.cell (World.block_lt_of_cell? w _ hw204_1)).trans hw204_1), ((HB.out.cell (World.block_lt_of_cell? w _ hw204_2)).trans hw204_2), ((HB.out.cell (World.block_lt_of_cell? w _ hw204_3)).trans hw204_3)⟩ (fun hHeld => ?_)
                clear hK K
                refine norm_ (a' := ?_) ?_ ?_
                rotate_left
                · show Act.put _ (some 25) _ = _
                  simp only [Act.put, List.setIfInBounds_toArray, List.set_cons_zero, List.set_cons_succ, i64_w, i32_w]
                  rfl
                refine pure_ (i := 9) (N := some 26) (v := ?_) (a' := ?_) #[true, true, true, true, true, true, true, true, true, true] rfl rfl (any_of HT_.out (by kernel_rfl)) (fun _ _ _ h => h) (Or.inl ⟨by rfl, ?_⟩) ?_ ?_
                rotate_left
                · intro w'
                  go_simp
                  with_reducible rfl
                rotate_left
                · simp only [Act.put, List.setIfInBounds_toArray, List.set_cons_zero, List.set_cons_succ, i64_w, i32_w]
                  rfl
                refine done_ (done_of HT_.out (by kernel_rfl)) ?_
                try go_wp2
                go_roundg k1
                case measure => have := HK1.out; omega
                case rel => exact ⟨(wrap64 (x5_1 + 1)), (by first | rfl | (simp; done) | (simp [*]; done)), H', ⟨by have := HK1.out; omega⟩, ⟨by repeat (first | (with_reducible first | exact HB.out | apply below_alloc | apply pw_below_drewN | apply below_drew1) | exact HB.out)⟩⟩
              · replace c8 := Bool.eq_false_iff.mpr c8
                subst c8
                have H1 : (some false) = some r := by rw [if_neg (show ¬ (false = true) by decide)] at H; exact H
                clear H
                have H := H1
                clear H1
                obtain rfl := Option.some.inj H
                try go_wp2
                have n0_ := Aside0.mk (below_drew1 HB.out)
                clear HB
                have HB := n0_
                clear n0_
                have p203 : 0 ≤ (x5_1 : Int) := of_decide_eq_true (by first | (with_reducible assumption) | assumption)
                have q203 : x5_1 < (l0.length : Int) := of_decide_eq_true (by first | (with_reducible assumption) | assumption)
                obtain ⟨ad203, A203_1, c203_1, A203_2, c203_2, A203_3, c203_3, e203, hx203_0, hx203_1, hx203_2, hx203_3, hl203_1, hi203_1, hl203_2, hi203_2, hl203_3, hi203_3⟩ := at_T71 HR0.out x5_1 p203 q203
                have hw203_3 := hx203_3
                have hw203_2 := hx203_2
                have hw203_1 := hx203_1
                have hw203_0 := hx203_0
                cases e203
                replace hx203_0 := (HB.out.cell (World.block_lt_of_cell? w _ hx203_0)).trans hx203_0
                replace hx203_1 := (HB.out.cell (World.block_lt_of_cell? w _ hx203_1)).trans hx203_1
                replace hx203_2 := (HB.out.cell (World.block_lt_of_cell? w _ hx203_2)).trans hx203_2
                replace hx203_3 := (HB.out.cell (World.block_lt_of_cell? w _ hx203_3)).trans hx203_3
                have HR203_1 := Aside0.mk hi203_1
                have HC203_1 := Aside0.mk hl203_1
                clear hi203_1 hl203_1
                have HR203_2 := Aside0.mk hi203_2
                have HC203_2 := Aside0.mk hl203_2
                clear hi203_2 hl203_2
                have HR203_3 := Aside0.mk hi203_3
                have HC203_3 := Aside0.mk hl203_3
                clear hi203_3 hl203_3
                replace p203 := eq_true p203
                replace q203 := eq_true q203
                have p204 : 0 ≤ (x5_1 : Int) := of_decide_eq_true (by first | (with_reducible assumption) | assumption)
                have q204 : x5_1 < (l1.length : Int) := of_decide_eq_true (by first | (with_reducible assumption) | assumption)
                obtain ⟨ad204, A204_1, c204_1, A204_2, c204_2, A204_3, c204_3, e204, hx204_0, hx204_1, hx204_2, hx204_3, hl204_1, hi204_1, hl204_2, hi204_2, hl204_3, hi204_3⟩ := at_T71 HR1.out x5_1 p204 q204
                have hw204_3 := hx204_3
                have hw204_2 := hx204_2
                have hw204_1 := hx204_1
                have hw204_0 := hx204_0
                cases e204
                replace hx204_0 := (HB.out.cell (World.block_lt_of_cell? w _ hx204_0)).trans hx204_0
                replace hx204_1 := (HB.out.cell (World.block_lt_of_cell? w _ hx204_1)).trans hx204_1
                replace hx204_2 := (HB.out.cell (World.block_lt_of_cell? w _ hx204_2)).trans hx204_2
                replace hx204_3 := (HB.out.cell (World.block_lt_of_cell? w _ hx204_3)).trans hx204_3
                have HR204_1 := Aside0.mk hi204_1
                have HC204_1 := Aside0.mk hl204_1
                clear hi204_1 hl204_1
                have HR204_2 := Aside0.mk hi204_2
                have HC204_2 := Aside0.mk hl204_2
                clear hi204_2 hl204_2
                have HR204_3 := Aside0.mk hi204_3
                have HC204_3 := Aside0.mk hl204_3
                clear hi204_3 hl204_3
                replace p204 := eq_true p204
                replace q204 := eq_true q204
                refine start_ (n := 10) (S := fun w' => w'.cell? (ad203.add ((x5_1).toNat * 4)) = some (.int .i64 ((rd_T71 l0 x5_1).f0)) ∧ w'.cell? ⟨(ad203.add ((x5_1).toNat * 4)).block, (ad203.add ((x5_1).toNat * 4)).off + 1, none⟩ = some (.slice A203_1 ((rd_T71 l0 x5_1).f1).length c203_1) ∧ w'.cell? ⟨(ad203.add ((x5_1).toNat * 4)).block, (ad203.add ((x5_1).toNat * 4)).off + 2, none⟩ = some (.slice A203_2 ((rd_T71 l0 x5_1).f2).length c203_2) ∧ w'.cell? ⟨(ad203.add ((x5_1).toNat * 4)).block, (ad203.add ((x5_1).toNat * 4)).off + 3, none⟩ = some (.slice A203_3 ((rd_T71 l0 x5_1).f3).length c203_3) ∧ w'.cell? (ad204.add ((x5_1).toNat * 4)) = some (.int .i64 ((rd_T71 l1 x5_1).f0)) ∧ w'.cell? ⟨(ad204.add ((x5_1).toNat * 4)).block, (ad204.add ((x5_1).toNat * 4)).off + 1, none⟩ = some (.slice A204_1 ((rd_T71 l1 x5_1).f1).length c204_1) ∧ w'.cell? ⟨(ad204.add ((x5_1).toNat * 4)).block, (ad204.add ((x5_1).toNat * 4)).off + 2, none⟩ = some (.slice A204_2 ((rd_T71 l1 x5_1).f2).length c204_2) ∧ w'.cell? ⟨(ad204.add ((x5_1).toNat * 4)).block, (ad204.add ((x5_1).toNat * 4)).off + 3, none⟩ = some (.slice A204_3 ((rd_T71 l1 x5_1).f3).length c204_3)) (ds := []) #[false, false, false, false, false, false, false, false, false, false] (by kernel_rfl) rfl rfl ⟨((HB.out.cell (World.block_lt_of_cell? w _ hw203_0)).trans hw203_0), ((HB.out.cell (World.block_lt_of_cell? w _ hw203_1)).trans hw203_1), ((HB.out.cell (World.block_lt_of_cell? w _ hw203_2)).trans hw203_2), ((HB.out.cell (World.block_lt_of_cell? w _ hw203_3)).trans hw203_3), ((HB.out.cell (World.block_lt_of_cell? w _ hw204_0)).trans hw204_0), ((HB.out.cell (World.block_lt_of_cell? w _ hw204_1)).trans hw204_1), ((HB.out.cell (World.block_lt_of_cell? w _ hw204_2)).trans hw204_2), ((HB.out.cell (World.block_lt_of_cell? w _ hw204_3)).trans hw204_3)⟩ (fun hHeld => ?_); refine with_tabW laws_eqLemmaS.tab6 laws_eqLemmaS.bits6 (fun HT_ HW_ => ?_)
                generalize wr.drew = w11 at HB HR203_1 HR203_2 HR203_3 HR204_1 HR204_2 HR204_3 hx203_0 hx203_1 hx203_2 hx203_3 hx204_0 hx204_1 hx204_2 hx204_3 hHeld ⊢
                refine pure_ (i := 0) (N := some 17) (v := ?_) (a' := ?_) #[true, false, false, false, false, false, false, false, false, false] rfl rfl (any_of HT_.out (by kernel_rfl)) (fun _ _ _ h => h) (Or.inl ⟨by rfl, ?_⟩) ?_ ?_
                rotate_left
                · intro w'
                  go_simp
                  with_reducible rfl
                rotate_left
                · simp only [Act.put, List.setIfInBounds_toArray, List.set_cons_zero, List.set_cons_succ, i64_w, i32_w]
                  rfl
                refine pure_ (i := 1) (N := some 18) (v := ?_) (a' := ?_) #[true, true, false, false, false, false, false, false, false, false] rfl rfl (any_of HT_.out (by kernel_rfl)) (fun _ _ _ h => h) (Or.inl ⟨by rfl, ?_⟩) ?_ ?_
                rotate_left
                · intro w'
                  go_simp
                  with_reducible rfl
                rotate_left
                · simp only [Act.put, List.setIfInBounds_toArray, List.set_cons_zero, List.set_cons_succ, i64_w, i32_w]
                  rfl
                refine pure_ (i := 2) (N := some 19) (v := ?_) (a' := ?_) #[true, true, true, false, false, false, false, false, false, false] rfl rfl (any_of HT_.out (by kernel_rfl)) (fun _ _ _ h => h) (Or.inl ⟨by rfl, ?_⟩) ?_ ?_
                rotate_left
                · intro w'
                  go_simp
                  with_reducible rfl
                rotate_left
                · simp only [Act.put, List.setIfInBounds_toArray, List.set_cons_zero, List.set_cons_succ, i64_w, i32_w]
                  rfl
                refine pure_ (i := 4) (N := some 21) (v := ?_) (a' := ?_) #[true, true, true, false, true, false, false, false, false, false] rfl rfl (any_of HT_.out (by kernel_rfl)) (fun _ _ _ h => h) (Or.inl ⟨by rfl, ?_⟩) ?_ ?_
                rotate_left
                · intro w'
                  go_simp
                  with_reducible rfl
                rotate_left
                · simp only [Act.put, List.setIfInBounds_toArray, List.set_cons_zero, List.set_cons_succ, i64_w, i32_w]
                  rfl
                refine pure_ (i := 5) (N := some 22) (v := ?_) (a' := ?_) #[true, true, true, false, true, true, false, false, false, false] rfl rfl (any_of HT_.out (by kernel_rfl)) (fun _ _ _ h => h) (Or.inl ⟨by rfl, ?_⟩) ?_ ?_
                rotate_left
                · intro w'
                  go_simp
                  with_reducible rfl
                rotate_left
                · simp only [Act.put, List.setIfInBounds_toArray, List.set_cons_zero, List.set_cons_succ, i64_w, i32_w]
                  rfl
                refine pure_ (i := 6) (N := some 23) (v := ?_) (a' := ?_) #[true, true, true, false, true, true, true, false, false, false] rfl rfl (any_of HT_.out (by kernel_rfl)) (fun _ _ _ h => h) (Or.inl ⟨by rfl, ?_⟩) ?_ ?_
                rotate_left
                · intro w'
                  go_simp
                  with_reducible rfl
                rotate_left
                · simp only [Act.put, List.setIfInBounds_toArray, List.set_cons_zero, List.set_cons_succ, i64_w, i32_w]
                  rfl
                refine take_ (i := 3) (N := some 20) (v := ?_) (a' := ?_) #[true, true, true, true, true, true, true, false, false, false] rfl rfl (take_ofW HT_.out HW_.out (by kernel_rfl)) (fun _ _ _ h => h) (Or.inl ⟨by rfl, ?_⟩) hHeld ?_ ?_
                rotate_left
                · rintro w' ⟨s0, s1, s2, s3, s4, s5, s6, s7⟩
                  go_simp
                  with_reducible rfl
                rotate_left
                · simp only [Act.put, List.setIfInBounds_toArray, List.set_cons_zero, List.set_cons_succ, i64_w, i32_w]
                  rfl
                refine take_ (i := 7) (N := some 24) (v := ?_) (a' := ?_) #[true, true, true, true, true, true, true, true, false, false] rfl rfl (take_ofW HT_.out HW_.out (by kernel_rfl)) (fun _ _ _ h => h) (Or.inl ⟨by rfl, ?_⟩) hHeld ?_ ?_
                rotate_left
                · rintro w' ⟨s0, s1, s2, s3, s4, s5, s6, s7⟩
                  go_simp
                  with_reducible rfl
                rotate_left
                · simp only [Act.put, List.setIfInBounds_toArray, List.set_cons_zero, List.set_cons_succ, i64_w, i32_w]
                  rfl
                refine one_ (i := 8) (N := some 25) #[true, true, true, true, true, true, true, true, true, false] rfl rfl (one_of HT_.out (by kernel_rfl)) (by decide) (fun K hK => ?_)
                refine goes_ Tryd.func41 (by kernel_rfl) rfl #[.agg #[.int .i64 ((rd_T71 l0 x5_1).f0), .slice A203_1 ((rd_T71 l0 x5_1).f1).length c203_1, .slice A203_2 ((rd_T71 l0 x5_1).f2).length c203_2, .slice A203_3 ((rd_T71 l0 x5_1).f3).length c203_3], .agg #[.int .i64 ((rd_T71 l1 x5_1).f0), .slice A204_1 ((rd_T71 l1 x5_1).f1).length c204_1, .slice A204_2 ((rd_T71 l1 x5_1).f2).length c204_2, .slice A204_3 ((rd_T71 l1 x5_1).f3).length c204_3]] (by rfl) rfl rfl (by (try simp only [List.map_toArray, List.map_cons, List.map_nil]); first | done | rfl | (simp only [List.length_drop, List.length_take]; rfl)) ?_
                with_reducible refine (laws_eqLemma.calls k1 ((rd_T71 l0 x5_1).f0) _ _ ((rd_T71 l0 x5_1).f1) _ _ ((rd_T71 l0 x5_1).f2) _ _ ((rd_T71 l0 x5_1).f3) ((rd_T71 l1 x5_1).f0) _ _ ((rd_T71 l1 x5_1).f1) _ _ ((rd_T71 l1 x5_1).f2) _ _ ((rd_T71 l1 x5_1).f3) false _ ?side1 ?side2 ?side3 ?side4 ?side5 ?side6 ?side7 ?side8 ?side9 ?side10 ?side11 ?side12 A7.out).mono ?_
                (case side1 => repeat (first | exact (Kd.C_below HR203_1.out HB.out) | (with_reducible refine Kd.C_alloc ?_ _) | (with_reducible refine Kd.C_drewN ?_ _) | (with_reducible refine Kd.C_drew ?_)))
                (case side2 => exact HC203_1.out)
                (case side3 => repeat (first | exact (Kd.C_below HR203_2.out HB.out) | (with_reducible refine Kd.C_alloc ?_ _) | (with_reducible refine Kd.C_drewN ?_ _) | (with_reducible refine Kd.C_drew ?_)))
                (case side4 => exact HC203_2.out)
                (case side5 => repeat (first | exact (Kd.C_below HR203_3.out HB.out) | (with_reducible refine Kd.C_alloc ?_ _) | (with_reducible refine Kd.C_drewN ?_ _) | (with_reducible refine Kd.C_drew ?_)))
                (case side6 => exact HC203_3.out)
                (case side7 => repeat (first | exact (Kd.C_below HR204_1.out HB.out) | (with_reducible refine Kd.C_alloc ?_ _) | (with_reducible refine Kd.C_drewN ?_ _) | (with_reducible refine Kd.C_drew ?_)))
                (case side8 => exact HC204_1.out)
                (case side9 => repeat (first | exact (Kd.C_below HR204_2.out HB.out) | (with_reducible refine Kd.C_alloc ?_ _) | (with_reducible refine Kd.C_drewN ?_ _) | (with_reducible refine Kd.C_drew ?_)))
                (case side10 => exact HC204_2.out)
                (case side11 => repeat (first | exact (Kd.C_below HR204_3.out HB.out) | (with_reducible refine Kd.C_alloc ?_ _) | (with_reducible refine Kd.C_drewN ?_ _) | (with_reducible refine Kd.C_drew ?_)))
                (case side12 => exact HC204_3.out)
                rintro e w12 ⟨rfl, hb⟩
                refine ⟨_, rfl, ?_⟩
                have n0_ := Aside0.mk (below_step (by repeat (first | (with_reducible first | exact HB.out | apply below_alloc | apply pw_below_drewN | apply below_drew1) | exact HB.out)) hb)
                clear HB
                have HB := n0_
                clear n0_
                (try clear hb)
                (try clear hb2)
                (try clear hk)
                (try clear hi)
                refine hK.out _ _ ⟨((HB.out.cell (World.block_lt_of_cell? w _ hw203_0)).trans hw203_0), ((HB.out.cell (World.block_lt_of_cell? w _ hw203_1)).trans hw203_1), ((HB.out.cell (World.block_lt_of_cell? w _ hw203_2)).trans hw203_2), ((HB.out.cell (World.block_lt_of_cell? w _ hw203_3)).trans hw203_3), ((HB.out.cell (World.block_lt_of_cell? w _ hw204_0)).trans hw204_0), ((HB.out.cell (World.block_lt_of_cell? w _ hw204_1)).trans hw204_1), ((HB.out.cell (World.block_lt_of_cell? w _ hw204_2)).trans hw204_2), ((HB.out.cell (World.block_lt_of_cell? w _ hw204_3)).trans hw204_3)⟩ (fun hHeld => ?_)
                clear hK K
                refine norm_ (a' := ?_) ?_ ?_
                rotate_left
                · show Act.put _ (some 25) _ = _
                  simp only [Act.put, List.setIfInBounds_toArray, List.set_cons_zero, List.set_cons_succ, i64_w, i32_w]
                  rfl
                refine pure_ (i := 9) (N := some 26) (v := ?_) (a' := ?_) #[true, true, true, true, true, true, true, true, true, true] rfl rfl (any_of HT_.out (by kernel_rfl)) (fun _ _ _ h => h) (Or.inl ⟨by rfl, ?_⟩) ?_ ?_
                rotate_left
                · intro w'
                  go_simp
                  with_reducible rfl
                rotate_left
                · simp only [Act.put, List.setIfInBounds_toArray, List.set_cons_zero, List.set_cons_succ, i64_w, i32_w]
                  rfl
                refine done_ (done_of HT_.out (by kernel_rfl)) ?_
                try go_wp2
                go_ret
                exact ⟨by first | rfl | (simp [errW_none, errW_some] <;> rfl) | (simp [*, errW_none, errW_some] <;> rfl), by repeat (first | (with_reducible first | exact HB.out | apply below_alloc | apply pw_below_drewN | apply below_drew1) | exact HB.out)⟩
            · rw [if_neg c6] at H
              exact absurd H (by simp)
          · rw [if_neg c5] at H
            exact absurd H (by simp)
        · rw [if_neg c4] at H
          have c4b0 : decide (x5_1 < (l0.length : Int)) = false := decide_eq_false c4
          clear c4
          obtain rfl := Option.some.inj H
          go_wp2
          go_ret
          exact ⟨by first | rfl | (simp [errW_none, errW_some] <;> rfl) | (simp [*, errW_none, errW_some] <;> rfl), by repeat (first | (with_reducible first | exact HB.out | apply below_alloc | apply pw_below_drewN | apply below_drew1) | exact HB.out)⟩
  · rw [if_neg c3] at H
    have c3b0 : ((l0.length : Int) == (l1.length : Int)) = false := beq_eq_false_iff_ne.mpr c3
    have c3b1 : ((l0.length : Int) != (l1.length : Int)) = true := bne_iff_ne.mpr c3
    have c3b2 : (l0.length == l1.length) = false := by first | simpa using c3 | (simp at c3 ⊢; omega)
    obtain rfl := Option.some.inj H
    go_enter Tryd.func18, Tryd.ntmps18
    go_wp2
    go_ret
    exact ⟨by first | rfl | (simp [errW_none, errW_some] <;> rfl) | (simp [*, errW_none, errW_some] <;> rfl), by repeat (first | (with_reducible first | exact HB.out | apply below_alloc | apply pw_below_drewN | apply below_drew1) | exact HB.out)⟩
noncomputable def laws_FnExactProofText.f (k : Nat) (l0 : List (S65)) : Option (Bool) := (laws_szLemmaS.f k l0 1048576).bind fun t206 => (if t206 < 0 then (some true) else ((laws_toLemmaS.f k l0).bind fun t207 => ((spec_ProofText.f t207).bind fun t210 => ((laws_toLemmaS.f k l0).bind fun t211 => ((impl_ProofText.f t211).bind fun t214 => (if t214.toList = t210.toList then ((laws_toLemmaS.f k l0).bind fun t215 => ((laws_eqLemmaS.f k t211 t215).bind fun t218 => (if t218 = true then (some true) else (some false)))) else (some false)))))))
set_option maxHeartbeats 8000000 in
set_option maxRecDepth 100000 in
theorem laws_FnExactProofText.calls (k : Nat) (A0 : Option Addr) (c0 : Nat) (l0 : List (S65)) (r : Bool) (w : World) (hT : Pi.Tb w) (hr0 : Kd.C k65 w A0 l0.length l0) (hc0 : l0.length ≤ c0) (h : laws_FnExactProofText.f k l0 = some r) :
    Calls Tryd.prog 5 #[.slice A0 l0.length c0] w fun e w' => e = .returned (.bool r) ∧ Below w.heap.size w w' := by
  have HR0 := Aside0.mk hr0
  have HC0 := Aside0.mk hc0
  clear hr0 hc0
  have HT := Aside0.mk hT
  clear hT
  have HB := Aside0.mk (Below.refl w.heap.size w)
  have H : ((laws_szLemmaS.f k l0 1048576).bind fun t206 => (if t206 < 0 then (some true) else ((laws_toLemmaS.f k l0).bind fun t207 => ((spec_ProofText.f t207).bind fun t210 => ((laws_toLemmaS.f k l0).bind fun t211 => ((impl_ProofText.f t211).bind fun t214 => (if t214.toList = t210.toList then ((laws_toLemmaS.f k l0).bind fun t215 => ((laws_eqLemmaS.f k t211 t215).bind fun t218 => (if t218 = true then (some true) else (some false)))) else (some false)))))))) = some r := h
  clear h
  replace H := Option.bind_eq_some_iff.mp H
  obtain ⟨t206, A20, H⟩ := H
  replace H : (if t206 < 0 then (some true) else ((laws_toLemmaS.f k l0).bind fun t207 => ((spec_ProofText.f t207).bind fun t210 => ((laws_toLemmaS.f k l0).bind fun t211 => ((impl_ProofText.f t211).bind fun t214 => (if t214.toList = t210.toList then ((laws_toLemmaS.f k l0).bind fun t215 => ((laws_eqLemmaS.f k t211 t215).bind fun t218 => (if t218 = true then (some true) else (some false)))) else (some false))))))) = some r := H
  have A2 := Aside0.mk A20
  clear A20
  by_cases c3 : t206 < 0
  · rw [if_pos c3] at H
    have c3b0 : decide (t206 < 0) = true := decide_eq_true c3
    clear c3
    obtain rfl := Option.some.inj H
    go_enter Tryd.func5, Tryd.ntmps5
    go_wp2_with (first | ((with_reducible refine gate_callee (f := 14) rfl ?_); refine goesL_ (some 9) rfl rfl Tryd.func14 (by kernel_rfl) rfl #[.slice A0 l0.length c0, .int .i64 1048576] rfl (by (try simp only [List.map_toArray, List.map_cons, List.map_nil]); first | done | rfl | (simp only [List.length_drop, List.length_take]; rfl)) ?_; (with_reducible refine (laws_szLemmaS.calls k _ _ l0 1048576 t206 _ ?side1 ?side2 A2.out).mono ?_); (case side1 => repeat (first | exact HR0.out | (with_reducible refine Kd.C_alloc ?_ _) | (with_reducible refine Kd.C_drewN ?_ _) | (with_reducible refine Kd.C_drew ?_))); (case side2 => exact HC0.out); rintro e w4 ⟨rfl, hb⟩; refine ⟨_, rfl, ?_⟩; have n0_ := Aside0.mk (below_step (by repeat (first | (with_reducible first | exact HB.out | apply below_alloc | apply pw_below_drewN | apply below_drew1) | exact HB.out)) hb); clear HB; have HB := n0_; clear n0_; (try clear hb); (try clear hb2); (try clear hk); (try clear hi)))
    go_ret
    exact ⟨by first | rfl | (simp [errW_none, errW_some] <;> rfl) | (simp [*, errW_none, errW_some] <;> rfl), by repeat (first | (with_reducible first | exact HB.out | apply below_alloc | apply pw_below_drewN | apply below_drew1) | exact HB.out)⟩
  · rw [if_neg c3] at H
    have c3b0 : decide (t206 < 0) = false := decide_eq_false c3
    clear c3
    replace H := Option.bind_eq_some_iff.mp H
    obtain ⟨t207, A50, H⟩ := H
    replace H : ((spec_ProofText.f t207).bind fun t210 => ((laws_toLemmaS.f k l0).bind fun t211 => ((impl_ProofText.f t211).bind fun t214 => (if t214.toList = t210.toList then ((laws_toLemmaS.f k l0).bind fun t215 => ((laws_eqLemmaS.f k t211 t215).bind fun t218 => (if t218 = true then (some true) else (some false)))) else (some false))))) = some r := H
    have A5 := Aside0.mk A50
    clear A50
    replace H := Option.bind_eq_some_iff.mp H
    obtain ⟨t210, A60, H⟩ := H
    replace H : ((laws_toLemmaS.f k l0).bind fun t211 => ((impl_ProofText.f t211).bind fun t214 => (if t214.toList = t210.toList then ((laws_toLemmaS.f k l0).bind fun t215 => ((laws_eqLemmaS.f k t211 t215).bind fun t218 => (if t218 = true then (some true) else (some false)))) else (some false)))) = some r := H
    have A6 := Aside0.mk A60
    clear A60
    replace H := Option.bind_eq_some_iff.mp H
    obtain ⟨t211, A70, H⟩ := H
    replace H : ((impl_ProofText.f t211).bind fun t214 => (if t214.toList = t210.toList then ((laws_toLemmaS.f k l0).bind fun t215 => ((laws_eqLemmaS.f k t211 t215).bind fun t218 => (if t218 = true then (some true) else (some false)))) else (some false))) = some r := H
    have A7 := Aside0.mk A70
    clear A70
    replace H := Option.bind_eq_some_iff.mp H
    obtain ⟨t214, A80, H⟩ := H
    replace H : (if t214.toList = t210.toList then ((laws_toLemmaS.f k l0).bind fun t215 => ((laws_eqLemmaS.f k t211 t215).bind fun t218 => (if t218 = true then (some true) else (some false)))) else (some false)) = some r := H
    have A8 := Aside0.mk A80
    clear A80
    by_cases c9 : t214.toList = t210.toList
    · rw [if_pos c9] at H
      have c9b0 : (t214.toList == t210.toList) = true := beq_iff_eq.mpr c9
      have c9b1 : (t214.toList != t210.toList) = false := bne_eq_false_iff_eq.mpr c9
      clear c9
      replace H := Option.bind_eq_some_iff.mp H
      obtain ⟨t215, A100, H⟩ := H
      replace H : ((laws_eqLemmaS.f k t211 t215).bind fun t218 => (if t218 = true then (some true) else (some false))) = some r := H
      have A10 := Aside0.mk A100
      clear A100
      replace H := Option.bind_eq_some_iff.mp H
      obtain ⟨t218, A110, H⟩ := H
      replace H : (if t218 = true then (some true) else (some false)) = some r := H
      have A11 := Aside0.mk A110
      clear A110
      by_cases c12 : t218 = true
      · subst c12
        have H1 : (some true) = some r := by rw [if_pos rfl] at H; exact H
        clear H
        have H := H1
        clear H1
        obtain rfl := Option.some.inj H
        go_enter Tryd.func5, Tryd.ntmps5
        go_wp2_with (first | ((with_reducible refine gate_callee (f := 14) rfl ?_); refine goesL_ (some 9) rfl rfl Tryd.func14 (by kernel_rfl) rfl #[.slice A0 l0.length c0, .int .i64 1048576] rfl (by (try simp only [List.map_toArray, List.map_cons, List.map_nil]); first | done | rfl | (simp only [List.length_drop, List.length_take]; rfl)) ?_; (with_reducible refine (laws_szLemmaS.calls k _ _ l0 1048576 t206 _ ?side1 ?side2 A2.out).mono ?_); (case side1 => repeat (first | exact HR0.out | (with_reducible refine Kd.C_alloc ?_ _) | (with_reducible refine Kd.C_drewN ?_ _) | (with_reducible refine Kd.C_drew ?_))); (case side2 => exact HC0.out); rintro e w13 ⟨rfl, hb⟩; refine ⟨_, rfl, ?_⟩; have n0_ := Aside0.mk (below_step (by repeat (first | (with_reducible first | exact HB.out | apply below_alloc | apply pw_below_drewN | apply below_drew1) | exact HB.out)) hb); clear HB; have HB := n0_; clear n0_; (try clear hb); (try clear hb2); (try clear hk); (try clear hi)) | ((with_reducible refine gate_callee (f := 16) rfl ?_); refine goesL_ (some 13) rfl rfl Tryd.func16 (by kernel_rfl) rfl #[.slice A0 l0.length c0] rfl (by (try simp only [List.map_toArray, List.map_cons, List.map_nil]); first | done | rfl | (simp only [List.length_drop, List.length_take]; rfl)) ?_; (with_reducible refine (laws_toLemmaS.calls k _ _ l0 t207 _ ?side1 ?side2 A5.out).mono ?_); (case side1 => repeat (first | exact (Kd.C_below HR0.out HB.out) | (with_reducible refine Kd.C_alloc ?_ _) | (with_reducible refine Kd.C_drewN ?_ _) | (with_reducible refine Kd.C_drew ?_))); (case side2 => exact HC0.out); rintro e w14 ⟨v208, rfl, ho0, hb⟩; refine ⟨_, rfl, ?_⟩; have n0_ := Aside0.mk (Kd.R_lower ho0 (below_size (by repeat (first | (with_reducible first | exact HB.out | apply below_alloc | apply pw_below_drewN | apply below_drew1) | exact HB.out)))); have n1_ := Aside0.mk (below_step (by repeat (first | (with_reducible first | exact HB.out | apply below_alloc | apply pw_below_drewN | apply below_drew1) | exact HB.out)) hb); clear HB; have HO209 := n0_; have HB := n1_; clear n0_ n1_; (try clear hb); (try clear hb2); (try clear hk); (try clear hi); (try clear ho0); obtain ⟨Ao15, co15, eo15⟩ := Kd.R_slice HO209.out; subst eo15) | ((with_reducible refine gate_callee (f := 15) rfl ?_); refine goesL_ (some 14) rfl rfl Tryd.func15 (by kernel_rfl) rfl #[.slice Ao15 t207.length co15] rfl (by (try simp only [List.map_toArray, List.map_cons, List.map_nil]); first | done | rfl | (simp only [List.length_drop, List.length_take]; rfl)) ?_; (with_reducible refine (spec_ProofText.calls _ _ t207 t210 _ ?side1 ?side2 A6.out).mono ?_); (case side1 => repeat (first | exact (Kd.R_reads' HO209.out).2.2 | (with_reducible refine Kd.C_alloc ?_ _) | (with_reducible refine Kd.C_drewN ?_ _) | (with_reducible refine Kd.C_drew ?_))); (case side2 => exact (Kd.R_reads' HO209.out).2.1); rintro e w16 ⟨rfl, hb⟩; refine ⟨_, rfl, ?_⟩; have n0_ := Aside0.mk (Kd.R_below (by (with_reducible repeat (first | apply Kd.R_alloc | apply Kd.R_drewN | apply Kd.R_drew)); exact HO209.out) hb); have n1_ := Aside0.mk (below_step (by repeat (first | (with_reducible first | exact HB.out | apply below_alloc | apply pw_below_drewN | apply below_drew1) | exact HB.out)) hb); clear HO209; clear HB; have HO209 := n0_; have HB := n1_; clear n0_ n1_; (try clear hb); (try clear hb2); (try clear hk); (try clear hi)) | ((with_reducible refine gate_callee (f := 16) rfl ?_); refine goesL_ (some 16) rfl rfl Tryd.func16 (by kernel_rfl) rfl #[.slice A0 l0.length c0] rfl (by (try simp only [List.map_toArray, List.map_cons, List.map_nil]); first | done | rfl | (simp only [List.length_drop, List.length_take]; rfl)) ?_; (with_reducible refine (laws_toLemmaS.calls k _ _ l0 t211 _ ?side1 ?side2 A7.out).mono ?_); (case side1 => repeat (first | exact (Kd.C_below HR0.out HB.out) | (with_reducible refine Kd.C_alloc ?_ _) | (with_reducible refine Kd.C_drewN ?_ _) | (with_reducible refine Kd.C_drew ?_))); (case side2 => exact HC0.out); rintro e w17 ⟨v212, rfl, ho0, hb⟩; refine ⟨_, rfl, ?_⟩; have n0_ := Aside0.mk (Kd.R_elder' (by (with_reducible repeat (first | apply Kd.R_alloc | apply Kd.R_drewN | apply Kd.R_drew)); exact HO209.out) (Kd.R_base ho0) hb); have n1_ := Aside0.mk (Kd.R_lower (Kd.R_new' ho0 (Kd.R_lt (by (with_reducible repeat (first | apply Kd.R_alloc | apply Kd.R_drewN | apply Kd.R_drew)); exact HO209.out))) (below_size (by repeat (first | (with_reducible first | exact HB.out | apply below_alloc | apply pw_below_drewN | apply below_drew1) | exact HB.out)))); have n2_ := Aside0.mk (below_step (by repeat (first | (with_reducible first | exact HB.out | apply below_alloc | apply pw_below_drewN | apply below_drew1) | exact HB.out)) hb); clear HO209; clear HB; have HO209 := n0_; have HO213 := n1_; have HB := n2_; clear n0_ n1_ n2_; (try clear hb); (try clear hb2); (try clear hk); (try clear hi); (try clear ho0); obtain ⟨Ao18, co18, eo18⟩ := Kd.R_slice HO213.out; subst eo18) | ((with_reducible refine gate_callee (f := 17) rfl ?_); refine goesL_ (some 18) rfl rfl Tryd.func17 (by kernel_rfl) rfl #[.slice Ao18 t211.length co18] rfl (by (try simp only [List.map_toArray, List.map_cons, List.map_nil]); first | done | rfl | (simp only [List.length_drop, List.length_take]; rfl)) ?_; (with_reducible refine (impl_ProofText.calls _ _ t211 t214 _ (HT.out.here (by repeat (first | (with_reducible first | exact HB.out | apply below_alloc | apply pw_below_drewN | apply below_drew1) | exact HB.out))) ?side1 ?side2 A8.out).mono ?_); (case side1 => repeat (first | exact (Kd.R_reads' HO213.out).2.2 | (with_reducible refine Kd.C_alloc ?_ _) | (with_reducible refine Kd.C_drewN ?_ _) | (with_reducible refine Kd.C_drew ?_))); (case side2 => exact (Kd.R_reads' HO213.out).2.1); rintro e w19 ⟨rfl, hb⟩; refine ⟨_, rfl, ?_⟩; have n0_ := Aside0.mk (Kd.R_below (by (with_reducible repeat (first | apply Kd.R_alloc | apply Kd.R_drewN | apply Kd.R_drew)); exact HO209.out) hb); have n1_ := Aside0.mk (Kd.R_below (by (with_reducible repeat (first | apply Kd.R_alloc | apply Kd.R_drewN | apply Kd.R_drew)); exact HO213.out) hb); have n2_ := Aside0.mk (below_step (by repeat (first | (with_reducible first | exact HB.out | apply below_alloc | apply pw_below_drewN | apply below_drew1) | exact HB.out)) hb); clear HO209; clear HO213; clear HB; have HO209 := n0_; have HO213 := n1_; have HB := n2_; clear n0_ n1_ n2_; (try clear hb); (try clear hb2); (try clear hk); (try clear hi)) | ((with_reducible refine gate_callee (f := 16) rfl ?_); refine goesL_ (some 24) rfl rfl Tryd.func16 (by kernel_rfl) rfl #[.slice A0 l0.length c0] rfl (by (try simp only [List.map_toArray, List.map_cons, List.map_nil]); first | done | rfl | (simp only [List.length_drop, List.length_take]; rfl)) ?_; (with_reducible refine (laws_toLemmaS.calls k _ _ l0 t215 _ ?side1 ?side2 A10.out).mono ?_); (case side1 => repeat (first | exact (Kd.C_below HR0.out HB.out) | (with_reducible refine Kd.C_alloc ?_ _) | (with_reducible refine Kd.C_drewN ?_ _) | (with_reducible refine Kd.C_drew ?_))); (case side2 => exact HC0.out); rintro e w20 ⟨v216, rfl, ho0, hb⟩; refine ⟨_, rfl, ?_⟩; have n0_ := Aside0.mk (Kd.R_elder' (by (with_reducible repeat (first | apply Kd.R_alloc | apply Kd.R_drewN | apply Kd.R_drew)); exact HO209.out) (Kd.R_base ho0) hb); have n1_ := Aside0.mk (Kd.R_elder' (by (with_reducible repeat (first | apply Kd.R_alloc | apply Kd.R_drewN | apply Kd.R_drew)); exact HO213.out) (Kd.R_base ho0) hb); have n2_ := Aside0.mk (Kd.R_lower (Kd.R_new' (Kd.R_new' ho0 (Kd.R_lt (by (with_reducible repeat (first | apply Kd.R_alloc | apply Kd.R_drewN | apply Kd.R_drew)); exact HO209.out))) (Kd.R_lt (by (with_reducible repeat (first | apply Kd.R_alloc | apply Kd.R_drewN | apply Kd.R_drew)); exact HO213.out))) (below_size (by repeat (first | (with_reducible first | exact HB.out | apply below_alloc | apply pw_below_drewN | apply below_drew1) | exact HB.out)))); have n3_ := Aside0.mk (below_step (by repeat (first | (with_reducible first | exact HB.out | apply below_alloc | apply pw_below_drewN | apply below_drew1) | exact HB.out)) hb); clear HO209; clear HO213; clear HB; have HO209 := n0_; have HO213 := n1_; have HO217 := n2_; have HB := n3_; clear n0_ n1_ n2_ n3_; (try clear hb); (try clear hb2); (try clear hk); (try clear hi); (try clear ho0); obtain ⟨Ao21, co21, eo21⟩ := Kd.R_slice HO217.out; subst eo21) | ((with_reducible refine gate_callee (f := 18) rfl ?_); refine goesL_ (some 25) rfl rfl Tryd.func18 (by kernel_rfl) rfl #[.slice Ao18 t211.length co18, .slice Ao21 t215.length co21] rfl (by (try simp only [List.map_toArray, List.map_cons, List.map_nil]); first | done | rfl | (simp only [List.length_drop, List.length_take]; rfl)) ?_; (with_reducible refine (laws_eqLemmaS.calls k _ _ t211 _ _ t215 true _ ?side1 ?side2 ?side3 ?side4 A11.out).mono ?_); (case side1 => repeat (first | exact (Kd.R_reads' HO213.out).2.2 | (with_reducible refine Kd.C_alloc ?_ _) | (with_reducible refine Kd.C_drewN ?_ _) | (with_reducible refine Kd.C_drew ?_))); (case side2 => exact (Kd.R_reads' HO213.out).2.1); (case side3 => repeat (first | exact (Kd.R_reads' HO217.out).2.2 | (with_reducible refine Kd.C_alloc ?_ _) | (with_reducible refine Kd.C_drewN ?_ _) | (with_reducible refine Kd.C_drew ?_))); (case side4 => exact (Kd.R_reads' HO217.out).2.1); rintro e w22 ⟨rfl, hb⟩; refine ⟨_, rfl, ?_⟩; have n0_ := Aside0.mk (Kd.R_below (by (with_reducible repeat (first | apply Kd.R_alloc | apply Kd.R_drewN | apply Kd.R_drew)); exact HO209.out) hb); have n1_ := Aside0.mk (Kd.R_below (by (with_reducible repeat (first | apply Kd.R_alloc | apply Kd.R_drewN | apply Kd.R_drew)); exact HO213.out) hb); have n2_ := Aside0.mk (Kd.R_below (by (with_reducible repeat (first | apply Kd.R_alloc | apply Kd.R_drewN | apply Kd.R_drew)); exact HO217.out) hb); have n3_ := Aside0.mk (below_step (by repeat (first | (with_reducible first | exact HB.out | apply below_alloc | apply pw_below_drewN | apply below_drew1) | exact HB.out)) hb); clear HO209; clear HO213; clear HO217; clear HB; have HO209 := n0_; have HO213 := n1_; have HO217 := n2_; have HB := n3_; clear n0_ n1_ n2_ n3_; (try clear hb); (try clear hb2); (try clear hk); (try clear hi)))
        go_ret
        exact ⟨by first | rfl | (simp [errW_none, errW_some] <;> rfl) | (simp [*, errW_none, errW_some] <;> rfl), by repeat (first | (with_reducible first | exact HB.out | apply below_alloc | apply pw_below_drewN | apply below_drew1) | exact HB.out)⟩
      · replace c12 := Bool.eq_false_iff.mpr c12
        subst c12
        have H1 : (some false) = some r := by rw [if_neg (show ¬ (false = true) by decide)] at H; exact H
        clear H
        have H := H1
        clear H1
        obtain rfl := Option.some.inj H
        go_enter Tryd.func5, Tryd.ntmps5
        go_wp2_with (first | ((with_reducible refine gate_callee (f := 14) rfl ?_); refine goesL_ (some 9) rfl rfl Tryd.func14 (by kernel_rfl) rfl #[.slice A0 l0.length c0, .int .i64 1048576] rfl (by (try simp only [List.map_toArray, List.map_cons, List.map_nil]); first | done | rfl | (simp only [List.length_drop, List.length_take]; rfl)) ?_; (with_reducible refine (laws_szLemmaS.calls k _ _ l0 1048576 t206 _ ?side1 ?side2 A2.out).mono ?_); (case side1 => repeat (first | exact HR0.out | (with_reducible refine Kd.C_alloc ?_ _) | (with_reducible refine Kd.C_drewN ?_ _) | (with_reducible refine Kd.C_drew ?_))); (case side2 => exact HC0.out); rintro e w23 ⟨rfl, hb⟩; refine ⟨_, rfl, ?_⟩; have n0_ := Aside0.mk (below_step (by repeat (first | (with_reducible first | exact HB.out | apply below_alloc | apply pw_below_drewN | apply below_drew1) | exact HB.out)) hb); clear HB; have HB := n0_; clear n0_; (try clear hb); (try clear hb2); (try clear hk); (try clear hi)) | ((with_reducible refine gate_callee (f := 16) rfl ?_); refine goesL_ (some 13) rfl rfl Tryd.func16 (by kernel_rfl) rfl #[.slice A0 l0.length c0] rfl (by (try simp only [List.map_toArray, List.map_cons, List.map_nil]); first | done | rfl | (simp only [List.length_drop, List.length_take]; rfl)) ?_; (with_reducible refine (laws_toLemmaS.calls k _ _ l0 t207 _ ?side1 ?side2 A5.out).mono ?_); (case side1 => repeat (first | exact (Kd.C_below HR0.out HB.out) | (with_reducible refine Kd.C_alloc ?_ _) | (with_reducible refine Kd.C_drewN ?_ _) | (with_reducible refine Kd.C_drew ?_))); (case side2 => exact HC0.out); rintro e w24 ⟨v208, rfl, ho0, hb⟩; refine ⟨_, rfl, ?_⟩; have n0_ := Aside0.mk (Kd.R_lower ho0 (below_size (by repeat (first | (with_reducible first | exact HB.out | apply below_alloc | apply pw_below_drewN | apply below_drew1) | exact HB.out)))); have n1_ := Aside0.mk (below_step (by repeat (first | (with_reducible first | exact HB.out | apply below_alloc | apply pw_below_drewN | apply below_drew1) | exact HB.out)) hb); clear HB; have HO209 := n0_; have HB := n1_; clear n0_ n1_; (try clear hb); (try clear hb2); (try clear hk); (try clear hi); (try clear ho0); obtain ⟨Ao25, co25, eo25⟩ := Kd.R_slice HO209.out; subst eo25) | ((with_reducible refine gate_callee (f := 15) rfl ?_); refine goesL_ (some 14) rfl rfl Tryd.func15 (by kernel_rfl) rfl #[.slice Ao25 t207.length co25] rfl (by (try simp only [List.map_toArray, List.map_cons, List.map_nil]); first | done | rfl | (simp only [List.length_drop, List.length_take]; rfl)) ?_; (with_reducible refine (spec_ProofText.calls _ _ t207 t210 _ ?side1 ?side2 A6.out).mono ?_); (case side1 => repeat (first | exact (Kd.R_reads' HO209.out).2.2 | (with_reducible refine Kd.C_alloc ?_ _) | (with_reducible refine Kd.C_drewN ?_ _) | (with_reducible refine Kd.C_drew ?_))); (case side2 => exact (Kd.R_reads' HO209.out).2.1); rintro e w26 ⟨rfl, hb⟩; refine ⟨_, rfl, ?_⟩; have n0_ := Aside0.mk (Kd.R_below (by (with_reducible repeat (first | apply Kd.R_alloc | apply Kd.R_drewN | apply Kd.R_drew)); exact HO209.out) hb); have n1_ := Aside0.mk (below_step (by repeat (first | (with_reducible first | exact HB.out | apply below_alloc | apply pw_below_drewN | apply below_drew1) | exact HB.out)) hb); clear HO209; clear HB; have HO209 := n0_; have HB := n1_; clear n0_ n1_; (try clear hb); (try clear hb2); (try clear hk); (try clear hi)) | ((with_reducible refine gate_callee (f := 16) rfl ?_); refine goesL_ (some 16) rfl rfl Tryd.func16 (by kernel_rfl) rfl #[.slice A0 l0.length c0] rfl (by (try simp only [List.map_toArray, List.map_cons, List.map_nil]); first | done | rfl | (simp only [List.length_drop, List.length_take]; rfl)) ?_; (with_reducible refine (laws_toLemmaS.calls k _ _ l0 t211 _ ?side1 ?side2 A7.out).mono ?_); (case side1 => repeat (first | exact (Kd.C_below HR0.out HB.out) | (with_reducible refine Kd.C_alloc ?_ _) | (with_reducible refine Kd.C_drewN ?_ _) | (with_reducible refine Kd.C_drew ?_))); (case side2 => exact HC0.out); rintro e w27 ⟨v212, rfl, ho0, hb⟩; refine ⟨_, rfl, ?_⟩; have n0_ := Aside0.mk (Kd.R_elder' (by (with_reducible repeat (first | apply Kd.R_alloc | apply Kd.R_drewN | apply Kd.R_drew)); exact HO209.out) (Kd.R_base ho0) hb); have n1_ := Aside0.mk (Kd.R_lower (Kd.R_new' ho0 (Kd.R_lt (by (with_reducible repeat (first | apply Kd.R_alloc | apply Kd.R_drewN | apply Kd.R_drew)); exact HO209.out))) (below_size (by repeat (first | (with_reducible first | exact HB.out | apply below_alloc | apply pw_below_drewN | apply below_drew1) | exact HB.out)))); have n2_ := Aside0.mk (below_step (by repeat (first | (with_reducible first | exact HB.out | apply below_alloc | apply pw_below_drewN | apply below_drew1) | exact HB.out)) hb); clear HO209; clear HB; have HO209 := n0_; have HO213 := n1_; have HB := n2_; clear n0_ n1_ n2_; (try clear hb); (try clear hb2); (try clear hk); (try clear hi); (try clear ho0); obtain ⟨Ao28, co28, eo28⟩ := Kd.R_slice HO213.out; subst eo28) | ((with_reducible refine gate_callee (f := 17) rfl ?_); refine goesL_ (some 18) rfl rfl Tryd.func17 (by kernel_rfl) rfl #[.slice Ao28 t211.length co28] rfl (by (try simp only [List.map_toArray, List.map_cons, List.map_nil]); first | done | rfl | (simp only [List.length_drop, List.length_take]; rfl)) ?_; (with_reducible refine (impl_ProofText.calls _ _ t211 t214 _ (HT.out.here (by repeat (first | (with_reducible first | exact HB.out | apply below_alloc | apply pw_below_drewN | apply below_drew1) | exact HB.out))) ?side1 ?side2 A8.out).mono ?_); (case side1 => repeat (first | exact (Kd.R_reads' HO213.out).2.2 | (with_reducible refine Kd.C_alloc ?_ _) | (with_reducible refine Kd.C_drewN ?_ _) | (with_reducible refine Kd.C_drew ?_))); (case side2 => exact (Kd.R_reads' HO213.out).2.1); rintro e w29 ⟨rfl, hb⟩; refine ⟨_, rfl, ?_⟩; have n0_ := Aside0.mk (Kd.R_below (by (with_reducible repeat (first | apply Kd.R_alloc | apply Kd.R_drewN | apply Kd.R_drew)); exact HO209.out) hb); have n1_ := Aside0.mk (Kd.R_below (by (with_reducible repeat (first | apply Kd.R_alloc | apply Kd.R_drewN | apply Kd.R_drew)); exact HO213.out) hb); have n2_ := Aside0.mk (below_step (by repeat (first | (with_reducible first | exact HB.out | apply below_alloc | apply pw_below_drewN | apply below_drew1) | exact HB.out)) hb); clear HO209; clear HO213; clear HB; have HO209 := n0_; have HO213 := n1_; have HB := n2_; clear n0_ n1_ n2_; (try clear hb); (try clear hb2); (try clear hk); (try clear hi)) | ((with_reducible refine gate_callee (f := 16) rfl ?_); refine goesL_ (some 24) rfl rfl Tryd.func16 (by kernel_rfl) rfl #[.slice A0 l0.length c0] rfl (by (try simp only [List.map_toArray, List.map_cons, List.map_nil]); first | done | rfl | (simp only [List.length_drop, List.length_take]; rfl)) ?_; (with_reducible refine (laws_toLemmaS.calls k _ _ l0 t215 _ ?side1 ?side2 A10.out).mono ?_); (case side1 => repeat (first | exact (Kd.C_below HR0.out HB.out) | (with_reducible refine Kd.C_alloc ?_ _) | (with_reducible refine Kd.C_drewN ?_ _) | (with_reducible refine Kd.C_drew ?_))); (case side2 => exact HC0.out); rintro e w30 ⟨v216, rfl, ho0, hb⟩; refine ⟨_, rfl, ?_⟩; have n0_ := Aside0.mk (Kd.R_elder' (by (with_reducible repeat (first | apply Kd.R_alloc | apply Kd.R_drewN | apply Kd.R_drew)); exact HO209.out) (Kd.R_base ho0) hb); have n1_ := Aside0.mk (Kd.R_elder' (by (with_reducible repeat (first | apply Kd.R_alloc | apply Kd.R_drewN | apply Kd.R_drew)); exact HO213.out) (Kd.R_base ho0) hb); have n2_ := Aside0.mk (Kd.R_lower (Kd.R_new' (Kd.R_new' ho0 (Kd.R_lt (by (with_reducible repeat (first | apply Kd.R_alloc | apply Kd.R_drewN | apply Kd.R_drew)); exact HO209.out))) (Kd.R_lt (by (with_reducible repeat (first | apply Kd.R_alloc | apply Kd.R_drewN | apply Kd.R_drew)); exact HO213.out))) (below_size (by repeat (first | (with_reducible first | exact HB.out | apply below_alloc | apply pw_below_drewN | apply below_drew1) | exact HB.out)))); have n3_ := Aside0.mk (below_step (by repeat (first | (with_reducible first | exact HB.out | apply below_alloc | apply pw_below_drewN | apply below_drew1) | exact HB.out)) hb); clear HO209; clear HO213; clear HB; have HO209 := n0_; have HO213 := n1_; have HO217 := n2_; have HB := n3_; clear n0_ n1_ n2_ n3_; (try clear hb); (try clear hb2); (try clear hk); (try clear hi); (try clear ho0); obtain ⟨Ao31, co31, eo31⟩ := Kd.R_slice HO217.out; subst eo31) | ((with_reducible refine gate_callee (f := 18) rfl ?_); refine goesL_ (some 25) rfl rfl Tryd.func18 (by kernel_rfl) rfl #[.slice Ao28 t211.length co28, .slice Ao31 t215.length co31] rfl (by (try simp only [List.map_toArray, List.map_cons, List.map_nil]); first | done | rfl | (simp only [List.length_drop, List.length_take]; rfl)) ?_; (with_reducible refine (laws_eqLemmaS.calls k _ _ t211 _ _ t215 false _ ?side1 ?side2 ?side3 ?side4 A11.out).mono ?_); (case side1 => repeat (first | exact (Kd.R_reads' HO213.out).2.2 | (with_reducible refine Kd.C_alloc ?_ _) | (with_reducible refine Kd.C_drewN ?_ _) | (with_reducible refine Kd.C_drew ?_))); (case side2 => exact (Kd.R_reads' HO213.out).2.1); (case side3 => repeat (first | exact (Kd.R_reads' HO217.out).2.2 | (with_reducible refine Kd.C_alloc ?_ _) | (with_reducible refine Kd.C_drewN ?_ _) | (with_reducible refine Kd.C_drew ?_))); (case side4 => exact (Kd.R_reads' HO217.out).2.1); rintro e w32 ⟨rfl, hb⟩; refine ⟨_, rfl, ?_⟩; have n0_ := Aside0.mk (Kd.R_below (by (with_reducible repeat (first | apply Kd.R_alloc | apply Kd.R_drewN | apply Kd.R_drew)); exact HO209.out) hb); have n1_ := Aside0.mk (Kd.R_below (by (with_reducible repeat (first | apply Kd.R_alloc | apply Kd.R_drewN | apply Kd.R_drew)); exact HO213.out) hb); have n2_ := Aside0.mk (Kd.R_below (by (with_reducible repeat (first | apply Kd.R_alloc | apply Kd.R_drewN | apply Kd.R_drew)); exact HO217.out) hb); have n3_ := Aside0.mk (below_step (by repeat (first | (with_reducible first | exact HB.out | apply below_alloc | apply pw_below_drewN | apply below_drew1) | exact HB.out)) hb); clear HO209; clear HO213; clear HO217; clear HB; have HO209 := n0_; have HO213 := n1_; have HO217 := n2_; have HB := n3_; clear n0_ n1_ n2_ n3_; (try clear hb); (try clear hb2); (try clear hk); (try clear hi)))
        go_ret
        exact ⟨by first | rfl | (simp [errW_none, errW_some] <;> rfl) | (simp [*, errW_none, errW_some] <;> rfl), by repeat (first | (with_reducible first | exact HB.out | apply below_alloc | apply pw_below_drewN | apply below_drew1) | exact HB.out)⟩
    · rw [if_neg c9] at H
      have c9b0 : (t214.toList == t210.toList) = false := beq_eq_false_iff_ne.mpr c9
      have c9b1 : (t214.toList != t210.toList) = true := bne_iff_ne.mpr c9
      obtain rfl := Option.some.inj H
      go_enter Tryd.func5, Tryd.ntmps5
      go_wp2_with (first | ((with_reducible refine gate_callee (f := 14) rfl ?_); refine goesL_ (some 9) rfl rfl Tryd.func14 (by kernel_rfl) rfl #[.slice A0 l0.length c0, .int .i64 1048576] rfl (by (try simp only [List.map_toArray, List.map_cons, List.map_nil]); first | done | rfl | (simp only [List.length_drop, List.length_take]; rfl)) ?_; (with_reducible refine (laws_szLemmaS.calls k _ _ l0 1048576 t206 _ ?side1 ?side2 A2.out).mono ?_); (case side1 => repeat (first | exact HR0.out | (with_reducible refine Kd.C_alloc ?_ _) | (with_reducible refine Kd.C_drewN ?_ _) | (with_reducible refine Kd.C_drew ?_))); (case side2 => exact HC0.out); rintro e w33 ⟨rfl, hb⟩; refine ⟨_, rfl, ?_⟩; have n0_ := Aside0.mk (below_step (by repeat (first | (with_reducible first | exact HB.out | apply below_alloc | apply pw_below_drewN | apply below_drew1) | exact HB.out)) hb); clear HB; have HB := n0_; clear n0_; (try clear hb); (try clear hb2); (try clear hk); (try clear hi)) | ((with_reducible refine gate_callee (f := 16) rfl ?_); refine goesL_ (some 13) rfl rfl Tryd.func16 (by kernel_rfl) rfl #[.slice A0 l0.length c0] rfl (by (try simp only [List.map_toArray, List.map_cons, List.map_nil]); first | done | rfl | (simp only [List.length_drop, List.length_take]; rfl)) ?_; (with_reducible refine (laws_toLemmaS.calls k _ _ l0 t207 _ ?side1 ?side2 A5.out).mono ?_); (case side1 => repeat (first | exact (Kd.C_below HR0.out HB.out) | (with_reducible refine Kd.C_alloc ?_ _) | (with_reducible refine Kd.C_drewN ?_ _) | (with_reducible refine Kd.C_drew ?_))); (case side2 => exact HC0.out); rintro e w34 ⟨v208, rfl, ho0, hb⟩; refine ⟨_, rfl, ?_⟩; have n0_ := Aside0.mk (Kd.R_lower ho0 (below_size (by repeat (first | (with_reducible first | exact HB.out | apply below_alloc | apply pw_below_drewN | apply below_drew1) | exact HB.out)))); have n1_ := Aside0.mk (below_step (by repeat (first | (with_reducible first | exact HB.out | apply below_alloc | apply pw_below_drewN | apply below_drew1) | exact HB.out)) hb); clear HB; have HO209 := n0_; have HB := n1_; clear n0_ n1_; (try clear hb); (try clear hb2); (try clear hk); (try clear hi); (try clear ho0); obtain ⟨Ao35, co35, eo35⟩ := Kd.R_slice HO209.out; subst eo35) | ((with_reducible refine gate_callee (f := 15) rfl ?_); refine goesL_ (some 14) rfl rfl Tryd.func15 (by kernel_rfl) rfl #[.slice Ao35 t207.length co35] rfl (by (try simp only [List.map_toArray, List.map_cons, List.map_nil]); first | done | rfl | (simp only [List.length_drop, List.length_take]; rfl)) ?_; (with_reducible refine (spec_ProofText.calls _ _ t207 t210 _ ?side1 ?side2 A6.out).mono ?_); (case side1 => repeat (first | exact (Kd.R_reads' HO209.out).2.2 | (with_reducible refine Kd.C_alloc ?_ _) | (with_reducible refine Kd.C_drewN ?_ _) | (with_reducible refine Kd.C_drew ?_))); (case side2 => exact (Kd.R_reads' HO209.out).2.1); rintro e w36 ⟨rfl, hb⟩; refine ⟨_, rfl, ?_⟩; have n0_ := Aside0.mk (Kd.R_below (by (with_reducible repeat (first | apply Kd.R_alloc | apply Kd.R_drewN | apply Kd.R_drew)); exact HO209.out) hb); have n1_ := Aside0.mk (below_step (by repeat (first | (with_reducible first | exact HB.out | apply below_alloc | apply pw_below_drewN | apply below_drew1) | exact HB.out)) hb); clear HO209; clear HB; have HO209 := n0_; have HB := n1_; clear n0_ n1_; (try clear hb); (try clear hb2); (try clear hk); (try clear hi)) | ((with_reducible refine gate_callee (f := 16) rfl ?_); refine goesL_ (some 16) rfl rfl Tryd.func16 (by kernel_rfl) rfl #[.slice A0 l0.length c0] rfl (by (try simp only [List.map_toArray, List.map_cons, List.map_nil]); first | done | rfl | (simp only [List.length_drop, List.length_take]; rfl)) ?_; (with_reducible refine (laws_toLemmaS.calls k _ _ l0 t211 _ ?side1 ?side2 A7.out).mono ?_); (case side1 => repeat (first | exact (Kd.C_below HR0.out HB.out) | (with_reducible refine Kd.C_alloc ?_ _) | (with_reducible refine Kd.C_drewN ?_ _) | (with_reducible refine Kd.C_drew ?_))); (case side2 => exact HC0.out); rintro e w37 ⟨v212, rfl, ho0, hb⟩; refine ⟨_, rfl, ?_⟩; have n0_ := Aside0.mk (Kd.R_elder' (by (with_reducible repeat (first | apply Kd.R_alloc | apply Kd.R_drewN | apply Kd.R_drew)); exact HO209.out) (Kd.R_base ho0) hb); have n1_ := Aside0.mk (Kd.R_lower (Kd.R_new' ho0 (Kd.R_lt (by (with_reducible repeat (first | apply Kd.R_alloc | apply Kd.R_drewN | apply Kd.R_drew)); exact HO209.out))) (below_size (by repeat (first | (with_reducible first | exact HB.out | apply below_alloc | apply pw_below_drewN | apply below_drew1) | exact HB.out)))); have n2_ := Aside0.mk (below_step (by repeat (first | (with_reducible first | exact HB.out | apply below_alloc | apply pw_below_drewN | apply below_drew1) | exact HB.out)) hb); clear HO209; clear HB; have HO209 := n0_; have HO213 := n1_; have HB := n2_; clear n0_ n1_ n2_; (try clear hb); (try clear hb2); (try clear hk); (try clear hi); (try clear ho0); obtain ⟨Ao38, co38, eo38⟩ := Kd.R_slice HO213.out; subst eo38) | ((with_reducible refine gate_callee (f := 17) rfl ?_); refine goesL_ (some 18) rfl rfl Tryd.func17 (by kernel_rfl) rfl #[.slice Ao38 t211.length co38] rfl (by (try simp only [List.map_toArray, List.map_cons, List.map_nil]); first | done | rfl | (simp only [List.length_drop, List.length_take]; rfl)) ?_; (with_reducible refine (impl_ProofText.calls _ _ t211 t214 _ (HT.out.here (by repeat (first | (with_reducible first | exact HB.out | apply below_alloc | apply pw_below_drewN | apply below_drew1) | exact HB.out))) ?side1 ?side2 A8.out).mono ?_); (case side1 => repeat (first | exact (Kd.R_reads' HO213.out).2.2 | (with_reducible refine Kd.C_alloc ?_ _) | (with_reducible refine Kd.C_drewN ?_ _) | (with_reducible refine Kd.C_drew ?_))); (case side2 => exact (Kd.R_reads' HO213.out).2.1); rintro e w39 ⟨rfl, hb⟩; refine ⟨_, rfl, ?_⟩; have n0_ := Aside0.mk (Kd.R_below (by (with_reducible repeat (first | apply Kd.R_alloc | apply Kd.R_drewN | apply Kd.R_drew)); exact HO209.out) hb); have n1_ := Aside0.mk (Kd.R_below (by (with_reducible repeat (first | apply Kd.R_alloc | apply Kd.R_drewN | apply Kd.R_drew)); exact HO213.out) hb); have n2_ := Aside0.mk (below_step (by repeat (first | (with_reducible first | exact HB.out | apply below_alloc | apply pw_below_drewN | apply below_drew1) | exact HB.out)) hb); clear HO209; clear HO213; clear HB; have HO209 := n0_; have HO213 := n1_; have HB := n2_; clear n0_ n1_ n2_; (try clear hb); (try clear hb2); (try clear hk); (try clear hi)))
      go_ret
      exact ⟨by first | rfl | (simp [errW_none, errW_some] <;> rfl) | (simp [*, errW_none, errW_some] <;> rfl), by repeat (first | (with_reducible first | exact HB.out | apply below_alloc | apply pw_below_drewN | apply below_drew1) | exact HB.out)⟩
end Go.Proofs.YtbeelgaganbblaaDoor.PFnExactProofText
namespace Go.Proofs.YtbeelgaganbblaaDoor.PtL
open Go.RowKit Go.Proofs.YtbeelgaganbblaaDoor Go.Proofs.YtbeelgaganbblaaDoorW.PrintWords Go.Proofs.YtbeelgaganbblaaDoor.By Go.Proofs.YtbeelgaganbblaaDoor.Gp Go.Proofs.YtbeelgaganbblaaDoor.Pw Go.Proofs.YtbeelgaganbblaaDoor.Pi Go.Proofs.YtbeelgaganbblaaDoor.Pl Go.Proofs.YtbeelgaganbblaaDoor.PFnExactProofText
set_option linter.unusedVariables false
set_option linter.unusedSimpArgs false
set_option maxRecDepth 100000
theorem rd_at {α : Type} (z : α) {l : List α} {i : Nat} (h : i < l.length) : l.getD ((i : Int)).toNat z = l[i] := by
  rw [Int.toNat_natCast, List.getD_eq_getElem?_getD, List.getElem?_eq_getElem h]; rfl
/-- what an element costs is taken off, one by one -/
theorem sz_loop {α : Type} (f : Nat → List α → Int → Int → Option Int) (g : Nat → α → Int → Option Int) (wt : α → Nat) (l : List α)
    (hf : ∀ (k : Nat) (a : Int) (i : Nat) (h : i < l.length), f (k + 1) l a i = (g k l[i] a).bind fun t => if t < 0 then some (-1) else f k l t (wrap64 ((i : Int) + 1)))
    (hz : ∀ (k : Nat) (a : Int) (i : Nat), l.length ≤ i → f (k + 1) l a i = some a)
    (hg : ∀ x ∈ l, ∀ a : Int, 0 ≤ a → a ≤ 1048576 → ∃ t, Evt (fun k => g k x a) t ∧ (t < 0 ∨ (0 ≤ t ∧ (wt x : Int) + t = a)))
    (hl : l.length ≤ 1048576) : ∀ (d i : Nat) (a : Int), i ≤ l.length → l.length - i = d → 0 ≤ a → a ≤ 1048576 → ∃ t, Evt (fun k => f k l a i) t ∧ (t < 0 ∨ (0 ≤ t ∧ (((l.drop i).map wt).sum : Nat) + t = a)) := by
  intro d
  induction d with
  | zero =>
    intro i a hi hd h0 h1
    refine ⟨a, Evt.done (fun k => hz k a i (by omega)), .inr ⟨h0, ?_⟩⟩
    rw [List.drop_eq_nil_of_le (by omega)]; simp
  | succ d ih =>
    intro i a hi hd h0 h1
    have hlt : i < l.length := by omega
    have hw1 : wrap64 ((i : Int) + 1) = ((i + 1 : Nat) : Int) := wrap_ok (by omega) (by omega)
    obtain ⟨t, ht, hq⟩ := hg l[i] (List.getElem_mem hlt) a h0 h1
    by_cases hn : t < 0
    · refine ⟨-1, ?_, .inl (by decide)⟩
      refine Evt.succ (fun k => hf k a i hlt) (Evt.bind ht (Evt.pure fun k => ?_))
      show (if t < 0 then some (-1) else _) = _
      rw [if_pos hn]
    · have hq2 := hq.resolve_left hn
      obtain ⟨u, hu, hv⟩ := ih (i + 1) t (by omega) (by omega) hq2.1 (by omega)
      refine ⟨u, ?_, ?_⟩
      · refine Evt.succ (fun k => hf k a i hlt) (Evt.bind ht (Evt.same (fun k => ?_) hu))
        show (if t < 0 then some (-1) else _) = _
        rw [if_neg hn, hw1]
      · rcases hv with hv | ⟨v1, v2⟩
        · exact .inl hv
        · refine .inr ⟨v1, ?_⟩
          rw [List.drop_eq_getElem_cons hlt, List.map_cons, List.sum_cons]
          omega
theorem sz_row {α : Type} (F : Nat → List α → Int → Option Int) (f : Nat → List α → Int → Int → Option Int) (g : Nat → α → Int → Option Int) (wt : α → Nat) (l : List α)
    (hF : ∀ (k : Nat) (a : Int), F k l a = if (wrap64 (a - (l.length : Int))) < 0 then some (-1) else f k l (wrap64 (a - (l.length : Int))) 0)
    (hf : ∀ (k : Nat) (a : Int) (i : Nat) (h : i < l.length), f (k + 1) l a i = (g k l[i] a).bind fun t => if t < 0 then some (-1) else f k l t (wrap64 ((i : Int) + 1)))
    (hz : ∀ (k : Nat) (a : Int) (i : Nat), l.length ≤ i → f (k + 1) l a i = some a)
    (hg : ∀ x ∈ l, ∀ a : Int, 0 ≤ a → a ≤ 1048576 → ∃ t, Evt (fun k => g k x a) t ∧ (t < 0 ∨ (0 ≤ t ∧ (wt x : Int) + t = a)))
    (hl : l.length ≤ 9223372036854775807) (a : Int) (h0 : 0 ≤ a) (h1 : a ≤ 1048576) : ∃ t, Evt (fun k => F k l a) t ∧ (t < 0 ∨ (0 ≤ t ∧ ((l.length + (l.map wt).sum : Nat) : Int) + t = a)) := by
  have hw : wrap64 (a - (l.length : Int)) = a - (l.length : Int) := wrap_ok (by omega) (by omega)
  by_cases hn : a - (l.length : Int) < 0
  · exact ⟨-1, Evt.pure fun k => by rw [hF, hw, if_pos hn], .inl (by decide)⟩
  · obtain ⟨t, ht, hv⟩ := sz_loop f g wt l hf hz hg (by omega) l.length 0 (a - (l.length : Int)) (by omega) rfl (by omega) (by omega)
    refine ⟨t, Evt.same (fun k => by rw [hF, hw, if_neg hn]; rfl) ht, ?_⟩
    rcases hv with hv | ⟨v1, v2⟩
    · exact .inl hv
    · rw [List.drop_zero] at v2
      exact .inr ⟨v1, by omega⟩
theorem to_loop {α β : Type} (F : Nat → List α → Option (List β)) (f : Nat → List α → List β → Int → Option (List β)) (g : Nat → α → Option β) (c : α → β) (z : β) (l : List α)
    (hF : ∀ k : Nat, F k l = f k l (List.replicate l.length z) 0)
    (hf : ∀ (k : Nat) (acc : List β) (i : Nat) (h : i < l.length), acc.length = l.length → f (k + 1) l acc i = (g k l[i]).bind fun t => f k l (acc.set i t) (wrap64 ((i : Int) + 1)))
    (hz : ∀ (k : Nat) (acc : List β) (i : Nat), l.length ≤ i → f (k + 1) l acc i = some acc)
    (hg : ∀ x ∈ l, Evt (fun k => g k x) (c x)) (hl : l.length ≤ 1048576) : Evt (fun k => F k l) (l.map c) := by
  have go : ∀ (d i : Nat), i ≤ l.length → l.length - i = d → Evt (fun k => f k l ((l.take i).map c ++ List.replicate (l.length - i) z) i) (l.map c) := by
    intro d
    induction d with
    | zero =>
      intro i hi hd
      refine Evt.done (fun k => ?_)
      rw [hz k _ i (by omega), List.take_of_length_le (by omega), hd]; simp
    | succ d ih =>
      intro i hi hd
      have hlt : i < l.length := by omega
      have hw1 : wrap64 ((i : Int) + 1) = ((i + 1 : Nat) : Int) := wrap_ok (by omega) (by omega)
      refine Evt.succ (fun k => hf k _ i hlt (by simp; omega)) (Evt.bind (hg l[i] (List.getElem_mem hlt)) (Evt.same (fun k => ?_) (ih (i + 1) (by omega) (by omega))))
      rw [hw1]
      congr 1
      rw [List.set_append_right _ _ (by simp; omega), show i - ((l.take i).map c).length = 0 by simp; omega, show l.length - i = (l.length - (i + 1)) + 1 by omega, List.replicate_succ, List.set_cons_zero, List.take_succ_eq_append_getElem hlt, List.map_append, List.append_assoc]
      rfl
  exact Evt.same (fun k => by rw [hF]; rfl) (go l.length 0 (by omega) rfl)
theorem eq_loop {α : Type} (F : Nat → List α → List α → Option Bool) (f : Nat → List α → List α → Int → Option Bool) (g : Nat → α → Option Bool) (l : List α)
    (hF : ∀ k : Nat, F k l l = f k l l 0)
    (hf : ∀ (k : Nat) (i : Nat) (h : i < l.length), f (k + 1) l l i = (g k l[i]).bind fun t => if t = true then f k l l (wrap64 ((i : Int) + 1)) else some false)
    (hz : ∀ (k : Nat) (i : Nat), l.length ≤ i → f (k + 1) l l i = some true)
    (hg : ∀ x ∈ l, Evt (fun k => g k x) true) (hl : l.length ≤ 1048576) : Evt (fun k => F k l l) true := by
  have go : ∀ (d i : Nat), i ≤ l.length → l.length - i = d → Evt (fun k => f k l l i) true := by
    intro d
    induction d with
    | zero => intro i hi hd; exact Evt.done (fun k => hz k i (by omega))
    | succ d ih =>
      intro i hi hd
      have hlt : i < l.length := by omega
      have hw1 : wrap64 ((i : Int) + 1) = ((i + 1 : Nat) : Int) := wrap_ok (by omega) (by omega)
      refine Evt.succ (fun k => hf k i hlt) (Evt.bind (hg l[i] (List.getElem_mem hlt)) (Evt.same (fun k => ?_) (ih (i + 1) (by omega) (by omega))))
      rw [if_pos rfl, hw1]
  exact Evt.same (fun k => by rw [hF]; rfl) (go l.length 0 (by omega) rfl)
def wS (x : ByteArray) : Nat := x.size
def wT (n : S122) : Nat := n.f1.size + (n.f2.length + (n.f2.map wS).sum)
def wL (l : S65) : Nat := l.f1.length + l.f2.length + (l.f3.length + (l.f3.map wT).sum)
/-- what holds of an argument -/
def BT (n : S122) : Prop := -9223372036854775808 ≤ n.f0 ∧ n.f0 ≤ 9223372036854775807 ∧ n.f1.size ≤ 9223372036854775807 ∧ n.f2.length ≤ 9223372036854775807 ∧ ∀ m ∈ n.f2, m.size ≤ 9223372036854775807
structure BL (l : S65) : Prop where
  i1 : ∀ x ∈ l.f1, -9223372036854775808 ≤ x ∧ x ≤ 9223372036854775807
  i2 : ∀ x ∈ l.f2, -9223372036854775808 ≤ x ∧ x ≤ 9223372036854775807
  n1 : l.f1.length ≤ 9223372036854775807
  n2 : l.f2.length ≤ 9223372036854775807
  n3 : l.f3.length ≤ 9223372036854775807
  t : ∀ n ∈ l.f3, BT n
theorem sz_int (l : List Int) (hl : l.length ≤ 9223372036854775807) (a : Int) (h0 : 0 ≤ a) (h1 : a ≤ 1048576) : ∃ t, laws_szIntS.f l a = some t ∧ (t < 0 ∨ (0 ≤ t ∧ (l.length : Int) + t = a)) := by
  have hw : wrap64 (a - (l.length : Int)) = a - (l.length : Int) := wrap_ok (by omega) (by omega)
  unfold laws_szIntS.f
  rw [hw]
  by_cases hn : a - (l.length : Int) < 0
  · exact ⟨-1, by rw [if_pos hn], .inl (by decide)⟩
  · exact ⟨_, by rw [if_neg hn], .inr ⟨by omega, by omega⟩⟩
theorem sz_strs (l : List ByteArray) (hl : l.length ≤ 9223372036854775807) (hs : ∀ m ∈ l, m.size ≤ 9223372036854775807) (a : Int) (h0 : 0 ≤ a) (h1 : a ≤ 1048576) : ∃ t, Evt (fun k => laws_szStringS.f k l a) t ∧ (t < 0 ∨ (0 ≤ t ∧ ((l.length + (l.map wS).sum : Nat) : Int) + t = a)) := by
  refine sz_row laws_szStringS.f laws_szStringS.l0 (fun _ x a => some (wrap64 (a - (x.size : Int)))) wS l (fun k a => by unfold laws_szStringS.f; rfl) (fun k a i h => ?_) (fun k a i h => ?_) (fun x hx a h0 h1 => ?_) hl a h0 h1
  · simp only [laws_szStringS.l0]
    rw [if_pos (by omega), if_pos (by omega), show rdOf ByteArray.empty l (i : Int) = l[i] from rd_at _ h]; rfl
  · simp only [laws_szStringS.l0]
    rw [if_neg (by omega)]
  · have := hs x hx
    have hw : wrap64 (a - (x.size : Int)) = a - (x.size : Int) := wrap_ok (by omega) (by omega)
    refine ⟨_, Evt.pure fun k => rfl, ?_⟩
    rw [hw]; unfold wS; omega
theorem sz_node (n : S122) (hn : BT n) (a : Int) (h0 : 0 ≤ a) (h1 : a ≤ 1048576) : ∃ t, Evt (fun k => laws_szTreeNode.f k n.f0 n.f1 n.f2 a) t ∧ (t < 0 ∨ (0 ≤ t ∧ (wT n : Int) + t = a)) := by
  obtain ⟨_, _, b1, b2, b3⟩ := hn
  have hw : wrap64 (a - (n.f1.size : Int)) = a - (n.f1.size : Int) := wrap_ok (by omega) (by omega)
  by_cases hx : a - (n.f1.size : Int) < 0
  · exact ⟨-1, Evt.pure fun k => by unfold laws_szTreeNode.f; rw [hw, if_pos hx], .inl (by decide)⟩
  · obtain ⟨t, ht, hv⟩ := sz_strs n.f2 b2 b3 (a - (n.f1.size : Int)) (by omega) (by omega)
    have e := Evt.bind (g := fun k t => if t < 0 then some (-1) else some t) ht (r := if t < 0 then -1 else t) (Evt.pure fun k => by split <;> rfl)
    refine ⟨_, Evt.same (fun k => by unfold laws_szTreeNode.f; rw [hw, if_neg hx]) e, ?_⟩
    split
    · exact .inl (by decide)
    · have h2 := hv.resolve_left ‹_›
      refine .inr ⟨h2.1, ?_⟩
      have := h2.2
      unfold wT; omega
theorem sz_nodes (l : List S122) (hl : l.length ≤ 9223372036854775807) (hs : ∀ n ∈ l, BT n) (a : Int) (h0 : 0 ≤ a) (h1 : a ≤ 1048576) : ∃ t, Evt (fun k => laws_szTreeNodeS.f k l a) t ∧ (t < 0 ∨ (0 ≤ t ∧ ((l.length + (l.map wT).sum : Nat) : Int) + t = a)) := by
  refine sz_row laws_szTreeNodeS.f laws_szTreeNodeS.l0 (fun k n a => laws_szTreeNode.f k n.f0 n.f1 n.f2 a) wT l (fun k a => by unfold laws_szTreeNodeS.f; rfl) (fun k a i h => ?_) (fun k a i h => ?_) (fun x hx a h0 h1 => sz_node x (hs x hx) a h0 h1) hl a h0 h1
  · simp only [laws_szTreeNodeS.l0]
    rw [if_pos (by omega), if_pos (by omega), show rd_T122 l (i : Int) = l[i] from rd_at _ h]
  · simp only [laws_szTreeNodeS.l0]
    rw [if_neg (by omega)]
theorem sz_lemma (l : S65) (hl : BL l) (a : Int) (h0 : 0 ≤ a) (h1 : a ≤ 1048576) : ∃ t, Evt (fun k => laws_szLemma.f k l.f0 l.f1 l.f2 l.f3 a) t ∧ (t < 0 ∨ (0 ≤ t ∧ (wL l : Int) + t = a)) := by
  obtain ⟨t1, e1, v1⟩ := sz_int l.f1 hl.n1 a h0 h1
  by_cases n1 : t1 < 0
  · exact ⟨-1, Evt.pure fun k => by unfold laws_szLemma.f; rw [e1, Option.bind_some, if_pos n1], .inl (by decide)⟩
  have v1 := v1.resolve_left n1
  obtain ⟨t2, e2, v2⟩ := sz_int l.f2 hl.n2 t1 v1.1 (by omega)
  by_cases n2 : t2 < 0
  · exact ⟨-1, Evt.pure fun k => by unfold laws_szLemma.f; rw [e1, Option.bind_some, if_neg n1, e2, Option.bind_some, if_pos n2], .inl (by decide)⟩
  have v2 := v2.resolve_left n2
  obtain ⟨t, ht, hv⟩ := sz_nodes l.f3 hl.n3 hl.t t2 v2.1 (by omega)
  have e := Evt.bind (g := fun k t => if t < 0 then some (-1) else some t) ht (r := if t < 0 then -1 else t) (Evt.pure fun k => by split <;> rfl)
  refine ⟨_, Evt.same (fun k => by unfold laws_szLemma.f; rw [e1, Option.bind_some, if_neg n1, e2, Option.bind_some, if_neg n2]) e, ?_⟩
  split
  · exact .inl (by decide)
  · have h2 := hv.resolve_left ‹_›
    refine .inr ⟨h2.1, ?_⟩
    have := h2.2
    unfold wL; omega
theorem sz_lemmas (l : List S65) (hl : l.length ≤ 9223372036854775807) (hs : ∀ x ∈ l, BL x) : ∃ t, Evt (fun k => laws_szLemmaS.f k l 1048576) t ∧ (t < 0 ∨ (0 ≤ t ∧ ((l.length + (l.map wL).sum : Nat) : Int) + t = 1048576)) := by
  refine sz_row laws_szLemmaS.f laws_szLemmaS.l0 (fun k x a => laws_szLemma.f k x.f0 x.f1 x.f2 x.f3 a) wL l (fun k a => by unfold laws_szLemmaS.f; rfl) (fun k a i h => ?_) (fun k a i h => ?_) (fun x hx a h0 h1 => sz_lemma x (hs x hx) a h0 h1) hl 1048576 (by decide) (by decide)
  · simp only [laws_szLemmaS.l0]
    rw [if_pos (by omega), if_pos (by omega), show rd_T65 l (i : Int) = l[i] from rd_at _ h]
  · simp only [laws_szLemmaS.l0]
    rw [if_neg (by omega)]
def cvT (n : S122) : S77 := ⟨n.f0, n.f1, n.f2⟩
def cvL (l : S65) : S71 := ⟨l.f0, l.f1, l.f2, l.f3.map cvT⟩
theorem to_int (l : List Int) (hl : l.length ≤ 1048576) : Evt (fun k => laws_toIntS.f k l) l := by
  have h := to_loop laws_toIntS.f laws_toIntS.l0 (fun _ x => some x) (fun x => x) 0 l (fun k => ?_) (fun k acc i h ha => ?_) (fun k acc i h => ?_) (fun x hx => Evt.pure fun k => rfl) hl
  · rw [List.map_id'] at h; exact h
  · unfold laws_toIntS.f; rw [if_pos (by omega), Int.toNat_natCast, if_pos (by omega)]
  · simp only [laws_toIntS.l0]
    rw [if_pos (by omega), if_pos (by omega), if_pos (by omega), show rd l (i : Int) = l[i] from rd_at _ h, Int.toNat_natCast]; rfl
  · simp only [laws_toIntS.l0]; rw [if_neg (by omega)]
theorem to_strs (l : List ByteArray) (hl : l.length ≤ 1048576) : Evt (fun k => laws_toStringS.f k l) l := by
  have h := to_loop laws_toStringS.f laws_toStringS.l0 (fun _ x => some x) (fun x => x) (⟨#[]⟩ : ByteArray) l (fun k => ?_) (fun k acc i h ha => ?_) (fun k acc i h => ?_) (fun x hx => Evt.pure fun k => rfl) hl
  · rw [List.map_id'] at h; exact h
  · unfold laws_toStringS.f; rw [if_pos (by omega), Int.toNat_natCast, if_pos (by omega)]
  · simp only [laws_toStringS.l0]
    rw [if_pos (by omega), if_pos (by omega), if_pos (by omega), show rdOf ByteArray.empty l (i : Int) = l[i] from rd_at _ h, Int.toNat_natCast]; rfl
  · simp only [laws_toStringS.l0]; rw [if_neg (by omega)]
theorem to_nodes (l : List S122) (hl : l.length ≤ 1048576) (hs : ∀ n ∈ l, n.f2.length ≤ 1048576) : Evt (fun k => laws_toTreeNodeS.f k l) (l.map cvT) := by
  refine to_loop laws_toTreeNodeS.f laws_toTreeNodeS.l0 (fun k n => (laws_toTreeNode.f k n.f0 n.f1 n.f2).bind fun b => some (⟨b.1, b.2.1, b.2.2⟩ : S77)) cvT z77 l (fun k => ?_) (fun k acc i h ha => ?_) (fun k acc i h => ?_) (fun x hx => ?_) hl
  · unfold laws_toTreeNodeS.f; rw [if_pos (by omega), Int.toNat_natCast, if_pos (by omega)]
  · simp only [laws_toTreeNodeS.l0]
    rw [if_pos (by omega), if_pos (by omega), show rd_T122 l (i : Int) = l[i] from rd_at _ h, Option.bind_assoc]
    congr 1
    funext b
    rw [if_pos (by omega), Int.toNat_natCast, Option.bind_some]
  · simp only [laws_toTreeNodeS.l0]; rw [if_neg (by omega)]
  · refine Evt.bind (a := (x.f0, x.f1, x.f2)) ?_ (Evt.pure fun k => rfl)
    exact Evt.same (fun k => by unfold laws_toTreeNode.f; rfl) (Evt.bind (to_strs x.f2 (hs x hx)) (Evt.pure fun k => rfl))
theorem to_lemmas (l : List S65) (hl : l.length ≤ 1048576) (hs : ∀ x ∈ l, x.f1.length ≤ 1048576 ∧ x.f2.length ≤ 1048576 ∧ x.f3.length ≤ 1048576 ∧ ∀ n ∈ x.f3, n.f2.length ≤ 1048576) : Evt (fun k => laws_toLemmaS.f k l) (l.map cvL) := by
  refine to_loop laws_toLemmaS.f laws_toLemmaS.l0 (fun k x => (laws_toLemma.f k x.f0 x.f1 x.f2 x.f3).bind fun b => some (⟨b.1, b.2.1, b.2.2.1, b.2.2.2⟩ : S71)) cvL z71 l (fun k => ?_) (fun k acc i h ha => ?_) (fun k acc i h => ?_) (fun x hx => ?_) hl
  · unfold laws_toLemmaS.f; rw [if_pos (by omega), Int.toNat_natCast, if_pos (by omega)]
  · simp only [laws_toLemmaS.l0]
    rw [if_pos (by omega), if_pos (by omega), show rd_T65 l (i : Int) = l[i] from rd_at _ h, Option.bind_assoc]
    congr 1
    funext b
    rw [if_pos (by omega), Int.toNat_natCast, Option.bind_some]
  · simp only [laws_toLemmaS.l0]; rw [if_neg (by omega)]
  · obtain ⟨h1, h2, h3, h4⟩ := hs x hx
    refine Evt.bind (a := (x.f0, x.f1, x.f2, x.f3.map cvT)) ?_ (Evt.pure fun k => rfl)
    refine Evt.same (fun k => by unfold laws_toLemma.f; rfl) (Evt.bind (to_int x.f1 h1) (Evt.bind (to_int x.f2 h2) (Evt.bind (g := fun k t => some (x.f0, x.f1, x.f2, t)) (to_nodes x.f3 h3 h4) (Evt.pure fun k => rfl))))
theorem eq_int (l : List Int) (hl : l.length ≤ 1048576) : Evt (fun k => laws_eqIntS.f k l l) true := by
  refine eq_loop laws_eqIntS.f laws_eqIntS.l0 (fun _ _ => some true) l (fun k => ?_) (fun k i h => ?_) (fun k i h => ?_) (fun x hx => Evt.pure fun k => rfl) hl
  · unfold laws_eqIntS.f; rw [if_pos rfl]
  · simp only [laws_eqIntS.l0]; rw [if_pos (by omega), if_pos (by omega), if_pos (by omega), if_pos trivial]; rfl
  · simp only [laws_eqIntS.l0]; rw [if_neg (by omega)]
theorem eq_strs (l : List ByteArray) (hl : l.length ≤ 1048576) : Evt (fun k => laws_eqStringS.f k l l) true := by
  refine eq_loop laws_eqStringS.f laws_eqStringS.l0 (fun _ _ => some true) l (fun k => ?_) (fun k i h => ?_) (fun k i h => ?_) (fun x hx => Evt.pure fun k => rfl) hl
  · unfold laws_eqStringS.f; rw [if_pos rfl]
  · simp only [laws_eqStringS.l0]; rw [if_pos (by omega), if_pos (by omega), if_pos (by omega), if_pos trivial]; rfl
  · simp only [laws_eqStringS.l0]; rw [if_neg (by omega)]
theorem eq_nodes (l : List S77) (hl : l.length ≤ 1048576) (hs : ∀ n ∈ l, n.f2.length ≤ 1048576) : Evt (fun k => laws_eqTreeNodeS.f k l l) true := by
  refine eq_loop laws_eqTreeNodeS.f laws_eqTreeNodeS.l0 (fun k n => laws_eqTreeNode.f k n.f0 n.f1 n.f2 n.f0 n.f1 n.f2) l (fun k => ?_) (fun k i h => ?_) (fun k i h => ?_) (fun x hx => ?_) hl
  · unfold laws_eqTreeNodeS.f; rw [if_pos rfl]
  · simp only [laws_eqTreeNodeS.l0]; rw [if_pos (by omega), if_pos (by omega), if_pos (by omega), show rd_T77 l (i : Int) = l[i] from rd_at _ h]
  · simp only [laws_eqTreeNodeS.l0]; rw [if_neg (by omega)]
  · exact Evt.same (fun k => by unfold laws_eqTreeNode.f; rw [if_pos rfl, if_pos rfl]) (Evt.bind (eq_strs x.f2 (hs x hx)) (Evt.pure fun k => by rw [if_pos rfl]))
theorem eq_lemmas (l : List S71) (hl : l.length ≤ 1048576) (hs : ∀ x ∈ l, x.f1.length ≤ 1048576 ∧ x.f2.length ≤ 1048576 ∧ x.f3.length ≤ 1048576 ∧ ∀ n ∈ x.f3, n.f2.length ≤ 1048576) : Evt (fun k => laws_eqLemmaS.f k l l) true := by
  refine eq_loop laws_eqLemmaS.f laws_eqLemmaS.l0 (fun k n => laws_eqLemma.f k n.f0 n.f1 n.f2 n.f3 n.f0 n.f1 n.f2 n.f3) l (fun k => ?_) (fun k i h => ?_) (fun k i h => ?_) (fun x hx => ?_) hl
  · unfold laws_eqLemmaS.f; rw [if_pos rfl]
  · simp only [laws_eqLemmaS.l0]; rw [if_pos (by omega), if_pos (by omega), if_pos (by omega), show rd_T71 l (i : Int) = l[i] from rd_at _ h]
  · simp only [laws_eqLemmaS.l0]; rw [if_neg (by omega)]
  · obtain ⟨h1, h2, h3, h4⟩ := hs x hx
    refine Evt.same (fun k => by unfold laws_eqLemma.f; rw [if_pos rfl]) (Evt.bind (eq_int x.f1 h1) ?_)
    refine Evt.same (fun k => by rw [if_pos rfl]) (Evt.bind (eq_int x.f2 h2) ?_)
    exact Evt.same (fun k => by rw [if_pos rfl]) (Evt.bind (eq_nodes x.f3 h3 h4) (Evt.pure fun k => by rw [if_pos rfl]))
theorem mem_sum {α : Type} (g : α → Nat) {x : α} {l : List α} (h : x ∈ l) : g x ≤ (l.map g).sum := by
  obtain ⟨a, b, rfl⟩ := List.append_of_mem h
  rw [List.map_append, List.sum_append, List.map_cons, List.sum_cons]; omega
theorem ok_of (l : List S65) (hs : ∀ x ∈ l, BL x) (hw : l.length + (l.map wL).sum ≤ 1048576) : OkP (l.map cvL) := by
  refine ⟨fun y hy => ?_, by rw [List.length_map]; omega, ?_⟩
  · obtain ⟨x, hx, rfl⟩ := List.mem_map.1 hy
    have hb := hs x hx
    have h1 := mem_sum wL hx
    have h2 : wL x = x.f1.length + x.f2.length + (x.f3.length + (x.f3.map wT).sum) := rfl
    refine ⟨hb.i1, hb.i2, fun n hn => ?_, by show x.f1.length ≤ _; omega, by show x.f2.length ≤ _; omega, by show (x.f3.map cvT).length ≤ _; rw [List.length_map]; omega⟩
    obtain ⟨m, hm, rfl⟩ := List.mem_map.1 (show n ∈ x.f3.map cvT from hn)
    obtain ⟨b1, b2, b3, b4, b5⟩ := hb.t m hm
    have h3 := mem_sum wT hm
    have h4 : wT m = m.f1.size + (m.f2.length + (m.f2.map wS).sum) := rfl
    refine ⟨b1, b2, by show m.f1.size ≤ _; omega, by show m.f2.length ≤ _; omega, fun t ht => ?_⟩
    have h5 := mem_sum wS (show t ∈ m.f2 from ht)
    have : wS t = t.size := rfl
    omega
  · have hn : ∀ ns : List S122, ((ns.map cvT).map nodeW).sum ≤ 4 * ns.length + (ns.map wT).sum := by
      intro ns
      induction ns with
      | nil => exact Nat.le_refl _
      | cons n r ih =>
        simp only [List.map_cons, List.sum_cons, List.length_cons]
        have h1 : nodeW (cvT n) = 4 + n.f2.length := rfl
        have h2 : wT n = n.f1.size + (n.f2.length + (n.f2.map wS).sum) := rfl
        omega
    have hl : ∀ ls : List S65, ((ls.map cvL).map lemW).sum ≤ 10 * ls.length + 5 * (ls.map wL).sum := by
      intro ls
      induction ls with
      | nil => exact Nat.le_refl _
      | cons n r ih =>
        simp only [List.map_cons, List.sum_cons, List.length_cons]
        have h1 : lemW (cvL n) = 10 + n.f1.length + n.f2.length + ((n.f3.map cvT).map nodeW).sum := rfl
        have h2 : wL n = n.f1.length + n.f2.length + (n.f3.length + (n.f3.map wT).sum) := rfl
        have h3 := hn n.f3
        omega
    have := hl l
    omega
theorem law_true (l : List S65) (hl : l.length ≤ 9223372036854775807) (hs : ∀ x ∈ l, BL x) : ∃ k, laws_FnExactProofText.f k l = some true := by
  have fin : Evt (fun k => laws_FnExactProofText.f k l) true := by
    obtain ⟨t, ht, hv⟩ := sz_lemmas l hl hs
    by_cases hn : t < 0
    · exact Evt.same (fun k => by unfold laws_FnExactProofText.f; rfl) (Evt.bind ht (Evt.pure fun k => by rw [if_pos hn]))
    · have h2 := hv.resolve_left hn
      have hw : l.length + (l.map wL).sum ≤ 1048576 := by omega
      have hok := ok_of l hs hw
      have hq : ∀ x ∈ l, x.f1.length ≤ 1048576 ∧ x.f2.length ≤ 1048576 ∧ x.f3.length ≤ 1048576 ∧ ∀ n ∈ x.f3, n.f2.length ≤ 1048576 := by
        intro x hx
        have h1 := mem_sum wL hx
        have h3 : wL x = x.f1.length + x.f2.length + (x.f3.length + (x.f3.map wT).sum) := rfl
        refine ⟨by omega, by omega, by omega, fun n hn => ?_⟩
        have h4 := mem_sum wT hn
        have h5 : wT n = n.f1.size + (n.f2.length + (n.f2.map wS).sum) := rfl
        omega
      have hto := to_lemmas l (by omega) hq
      have hspec : spec_ProofText.f (l.map cvL) = some (specT (l.map cvL)) := by unfold spec_ProofText.f; rw [if_pos hok]
      have himpl : impl_ProofText.f (l.map cvL) = some (specT (l.map cvL)) := by unfold impl_ProofText.f; rw [if_pos hok, Pl.same _ hok.l]
      have heq := eq_lemmas (l.map cvL) (by rw [List.length_map]; omega) (fun y hy => by
        obtain ⟨x, hx, rfl⟩ := List.mem_map.1 hy
        obtain ⟨q1, q2, q3, q4⟩ := hq x hx
        refine ⟨q1, q2, by show (x.f3.map cvT).length ≤ _; rw [List.length_map]; exact q3, fun n hn => ?_⟩
        obtain ⟨m, hm, rfl⟩ := List.mem_map.1 (show n ∈ x.f3.map cvT from hn)
        exact q4 m hm)
      refine Evt.same (fun k => by unfold laws_FnExactProofText.f; rfl) (Evt.bind ht ?_)
      refine Evt.same (fun k => by rw [if_neg hn]) (Evt.bind hto ?_)
      refine Evt.same (fun k => by rw [hspec, Option.bind_some]) (Evt.bind hto ?_)
      refine Evt.same (fun k => by rw [himpl, Option.bind_some, if_pos rfl]) (Evt.bind hto ?_)
      exact Evt.bind heq (Evt.pure fun k => by rw [if_pos rfl])
  obtain ⟨k, hk⟩ := fin
  exact ⟨k, hk k (Nat.le_refl _)⟩
end Go.Proofs.YtbeelgaganbblaaDoor.PtL
namespace Go.Proofs.YtbeelgaganbblaaDoor.Opn
open Go.RowKit Go.Proofs.YtbeelgaganbblaaDoorW.PrintWords
set_option linter.unusedVariables false
set_option linter.unusedSimpArgs false
/-- whatever reads at type t is of kind d, and G of it -/
def Opens {H α : Type} (enc : TypeId × Value → H) (P : Program) (w : World) (base : Nat) (spare : Nat → Bool) (held : Bool) (d : Kd α) (G : α → Prop) (t : TypeId) : Prop :=
  ∀ fuel cs x, DataW.trod enc P w base spare held fuel t cs = some x → ∃ a, d.K w a cs ∧ G a
section
variable {H α : Type} {enc : TypeId × Value → H} {P : Program} {w : World} {base : Nat} {spare : Nat → Bool} {held : Bool}
theorem opens_string {t : TypeId} (ht : P.underlying t = some .string) : Opens enc P w base spare held Kd.string (fun s => s.size ≤ maxLen) t := by
  intro fuel cs x h
  cases fuel with
  | zero => simp [DataW.trod] at h
  | succ n =>
    unfold DataW.trod at h
    rw [ht] at h
    split at h <;> simp_all
    exact ⟨_, rfl, h.1⟩
theorem opens_int {t : TypeId} {k : IntKind} (ht : P.underlying t = some (.int k)) : Opens enc P w base spare held (Kd.int k) (fun n => (Lit.int k n).wf = true) t := by
  intro fuel cs x h
  cases fuel with
  | zero => simp [DataW.trod] at h
  | succ n =>
    unfold DataW.trod at h
    rw [ht] at h
    split at h <;> simp_all
    obtain ⟨⟨rfl, h1⟩, h2⟩ := h
    exact ⟨_, rfl, h1⟩
theorem opens_slice {d : Kd α} {G : α → Prop} {t e : TypeId} (e' : Nat) (ht : P.underlying t = some (.slice e)) (hc : P.cellsOf e = d.sz) (h : Opens enc P w base spare held d G e) :
    Opens enc P w base spare held (Kd.slice e' d) (fun l => l.length ≤ maxLen ∧ ∀ a ∈ l, G a) t := by
  intro fuel cs x hx
  rcases DataW.trod_slice ht hx with ⟨rfl, _⟩ | ⟨a, len, cap, elems, rest, n, _, rfl, _, hb, hl, hm, hlen, hel, _, _⟩
  · exact ⟨[], ⟨none, 0, rfl, Nat.le_refl _, ⟨rfl, by simp, fun h => absurd h (by simp)⟩⟩, by simp [maxLen], by simp⟩
  · have each : ∀ i, i < len → ∃ y c, w.cells? base (a.add (i * d.sz)) d.sz = some c ∧ d.K w y c ∧ G y := by
      intro i hi
      have h1 := hel i hi
      rw [List.getElem?_eq_getElem (by omega), hc] at h1
      obtain ⟨c, hc1, hc2⟩ := Option.bind_eq_some_iff.1 h1
      obtain ⟨y, hy, hg⟩ := h _ _ _ hc2
      exact ⟨y, c, hc1, hy, hg⟩
    obtain ⟨l, hl1, hl2⟩ : ∃ l : List α, l.length = len ∧ ∀ i y, l[i]? = some y → ∃ c, w.cells? base (a.add (i * d.sz)) d.sz = some c ∧ d.K w y c ∧ G y := by
      have all : ∀ m, m ≤ len → ∃ l : List α, l.length = m ∧ ∀ i y, l[i]? = some y → ∃ c, w.cells? base (a.add (i * d.sz)) d.sz = some c ∧ d.K w y c ∧ G y := by
        intro m
        induction m with
        | zero => intro _; exact ⟨[], rfl, by simp⟩
        | succ m ih =>
          intro hm1
          obtain ⟨l, h1, h2⟩ := ih (by omega)
          obtain ⟨y, c, hy⟩ := each m (by omega)
          refine ⟨l ++ [y], by simp [h1], fun i z hz => ?_⟩
          by_cases hi : i < m
          · rw [List.getElem?_append_left (by omega)] at hz; exact h2 i z hz
          · have hi2 : i = m := by
              have := (List.getElem?_eq_some_iff.1 hz).1
              simp at this; omega
            subst hi2
            rw [List.getElem?_append_right (by omega), h1, Nat.sub_self] at hz
            simp at hz
            subst hz
            exact ⟨c, hy⟩
      exact all len (Nat.le_refl _)
    subst hl1
    refine ⟨l, ⟨some a, cap, rfl, hl, rfl, by unfold maxLen at hm; omega, fun _ => ⟨a, rfl, fun j p hp => ?_⟩⟩, by omega, fun y hy => ?_⟩
    · obtain ⟨c, hc1, hc2, _⟩ := hl2 j p hp
      obtain ⟨_, hs, hcell⟩ := World.cells?_some hc1
      refine ⟨c, hs, hc2, fun i u hu => ?_⟩
      have hi := (List.getElem?_eq_some_iff.1 hu).1
      rw [← Addr.add_add, hcell i (by omega)]; exact hu
    · obtain ⟨i, hi⟩ := List.mem_iff_getElem?.1 hy
      obtain ⟨_, _, _, hg⟩ := hl2 i y hi
      exact hg
theorem opens_struct3 {A B C : Type} {d0 : Kd A} {d1 : Kd B} {d2 : Kd C} {G0 : A → Prop} {G1 : B → Prop} {G2 : C → Prop} {t : TypeId} {f0 f1 f2 : Field} {f : α → A × B × C} (mk : A → B → C → α) (hf : ∀ a b c, f (mk a b c) = (a, b, c))
    (ht : P.underlying t = some (.struct #[f0, f1, f2])) (ho0 : f0.offset = 0) (ho1 : f1.offset = d0.sz) (ho2 : f2.offset = d0.sz + d1.sz) (hs : P.cellsOf t = d0.sz + (d1.sz + d2.sz)) (hs0 : P.cellsOf f0.type = d0.sz) (hs1 : P.cellsOf f1.type = d1.sz) (hs2 : P.cellsOf f2.type = d2.sz)
    (h0 : Opens enc P w base spare held d0 G0 f0.type) (h1 : Opens enc P w base spare held d1 G1 f1.type) (h2 : Opens enc P w base spare held d2 G2 f2.type) :
    Opens enc P w base spare held (Kd.iso (Kd.pair d0 (Kd.pair d1 d2)) f) (fun x => ∃ a b c, x = mk a b c ∧ G0 a ∧ G1 b ∧ G2 c) t := by
  intro fuel cs x hx
  obtain ⟨xs, n, _, _, hl, hlen, hfd⟩ := DataW.trod_struct ht hx
  have hlen3 : xs.length = 3 := hlen
  have e0 := hfd 0 f0 rfl
  have e1 := hfd 1 f1 rfl
  have e2 := hfd 2 f2 rfl
  rw [List.getElem?_eq_getElem (by omega), ho0, hs0] at e0
  rw [List.getElem?_eq_getElem (by omega), ho1, hs1] at e1
  rw [List.getElem?_eq_getElem (by omega), ho2, hs2] at e2
  obtain ⟨a, ka, ga⟩ := h0 _ _ _ e0
  obtain ⟨b, kb, gb⟩ := h1 _ _ _ e1
  obtain ⟨c, kc, gc⟩ := h2 _ _ _ e2
  refine ⟨mk a b c, ?_, a, b, c, rfl, ga, gb, gc⟩
  show ∃ c0 c1, cs = c0 ++ c1 ∧ d0.K w (f (mk a b c)).1 c0 ∧ ∃ c2 c3, c1 = c2 ++ c3 ∧ d1.K w (f (mk a b c)).2.1 c2 ∧ d2.K w (f (mk a b c)).2.2 c3
  rw [hf]
  refine ⟨_, _, ?_, ka, _, _, rfl, kb, kc⟩
  rw [hs] at hl
  rw [List.drop_zero, ← List.drop_drop, List.take_of_length_le (l := ((cs.drop d0.sz).drop d1.sz)) (by simp; omega), List.take_append_drop, List.take_append_drop]
end
end Go.Proofs.YtbeelgaganbblaaDoor.Opn
namespace Go.Proofs.YtbeelgaganbblaaDoor.Opn
open Go.RowKit Go.Proofs.YtbeelgaganbblaaDoorW.PrintWords
set_option linter.unusedVariables false
set_option linter.unusedSimpArgs false
section
variable {H α : Type} {enc : TypeId × Value → H} {P : Program} {w : World} {base : Nat} {spare : Nat → Bool} {held : Bool}
theorem opens_struct4 {A B C D : Type} {d0 : Kd A} {d1 : Kd B} {d2 : Kd C} {d3 : Kd D} {G0 : A → Prop} {G1 : B → Prop} {G2 : C → Prop} {G3 : D → Prop} {t : TypeId} {f0 f1 f2 f3 : Field} {f : α → A × B × C × D} (mk : A → B → C → D → α) (hf : ∀ a b c d, f (mk a b c d) = (a, b, c, d))
    (ht : P.underlying t = some (.struct #[f0, f1, f2, f3])) (ho0 : f0.offset = 0) (ho1 : f1.offset = d0.sz) (ho2 : f2.offset = d0.sz + d1.sz) (ho3 : f3.offset = d0.sz + d1.sz + d2.sz) (hs : P.cellsOf t = d0.sz + (d1.sz + (d2.sz + d3.sz)))
    (hs0 : P.cellsOf f0.type = d0.sz) (hs1 : P.cellsOf f1.type = d1.sz) (hs2 : P.cellsOf f2.type = d2.sz) (hs3 : P.cellsOf f3.type = d3.sz)
    (h0 : Opens enc P w base spare held d0 G0 f0.type) (h1 : Opens enc P w base spare held d1 G1 f1.type) (h2 : Opens enc P w base spare held d2 G2 f2.type) (h3 : Opens enc P w base spare held d3 G3 f3.type) :
    Opens enc P w base spare held (Kd.iso (Kd.pair d0 (Kd.pair d1 (Kd.pair d2 d3))) f) (fun x => ∃ a b c d, x = mk a b c d ∧ G0 a ∧ G1 b ∧ G2 c ∧ G3 d) t := by
  intro fuel cs x hx
  obtain ⟨xs, n, _, _, hl, hlen, hfd⟩ := DataW.trod_struct ht hx
  have hlen3 : xs.length = 4 := hlen
  have e0 := hfd 0 f0 rfl
  have e1 := hfd 1 f1 rfl
  have e2 := hfd 2 f2 rfl
  have e3 := hfd 3 f3 rfl
  rw [List.getElem?_eq_getElem (by omega), ho0, hs0] at e0
  rw [List.getElem?_eq_getElem (by omega), ho1, hs1] at e1
  rw [List.getElem?_eq_getElem (by omega), ho2, hs2] at e2
  rw [List.getElem?_eq_getElem (by omega), ho3, hs3] at e3
  obtain ⟨a, ka, ga⟩ := h0 _ _ _ e0
  obtain ⟨b, kb, gb⟩ := h1 _ _ _ e1
  obtain ⟨c, kc, gc⟩ := h2 _ _ _ e2
  obtain ⟨d, kd, gd⟩ := h3 _ _ _ e3
  refine ⟨mk a b c d, ?_, a, b, c, d, rfl, ga, gb, gc, gd⟩
  show ∃ c0 c1, cs = c0 ++ c1 ∧ d0.K w (f (mk a b c d)).1 c0 ∧ ∃ c2 c3, c1 = c2 ++ c3 ∧ d1.K w (f (mk a b c d)).2.1 c2 ∧ ∃ c4 c5, c3 = c4 ++ c5 ∧ d2.K w (f (mk a b c d)).2.2.1 c4 ∧ d3.K w (f (mk a b c d)).2.2.2 c5
  rw [hf]
  refine ⟨_, _, ?_, ka, _, _, rfl, kb, _, _, rfl, kc, kd⟩
  rw [hs] at hl
  have q2 : cs.drop (d0.sz + d1.sz) = (cs.drop d0.sz).drop d1.sz := by rw [List.drop_drop]
  have q3 : cs.drop (d0.sz + d1.sz + d2.sz) = ((cs.drop d0.sz).drop d1.sz).drop d2.sz := by rw [List.drop_drop, List.drop_drop, Nat.add_assoc]
  rw [List.drop_zero, q3, q2, List.take_of_length_le (l := (((cs.drop d0.sz).drop d1.sz).drop d2.sz)) (by simp; omega), List.take_append_drop, List.take_append_drop, List.take_append_drop]
end
end Go.Proofs.YtbeelgaganbblaaDoor.Opn
namespace Go.Proofs.YtbeelgaganbblaaDoor.fnExactProofText
open Go.ChangeShapes Go.WideShapes Go.ChangeAt Go.RowKit Go.Proofs.YtbeelgaganbblaaDoor Go.Proofs.YtbeelgaganbblaaDoor.Opn Go.Proofs.YtbeelgaganbblaaDoorW.PrintWords Go.Proofs.YtbeelgaganbblaaDoor.Pl Go.Proofs.YtbeelgaganbblaaDoor.PtL Go.Proofs.YtbeelgaganbblaaDoor.PFnExactProofText
set_option linter.unusedVariables false
set_option linter.unusedSimpArgs false
set_option maxRecDepth 100000
theorem own : ownKnob Tryd.prog.godebug = none := by kernel_rfl
theorem laidOut : laidOutB Tryd.prog = true := by kernel_rfl
theorem gTabType : (Tryd.prog.globals[3]?).map (·.type) = some 152 := by kernel_rfl
theorem cellsT : Tryd.prog.cellsOf 152 = 20 := by kernel_rfl
theorem cellsE : Tryd.prog.cellsOf 100 = 1 := by kernel_rfl
theorem table {W : World} (h : laidMetH Tryd.prog Rows.fnExactProofTextRow.laid W) : Pi.Tb W := by
  have h2 := laidMetH.filter (fun x => x.1 == "internal/strconv.uint64pow10") h
  have e : Rows.fnExactProofTextRow.laid.filter (fun x => x.1 == "internal/strconv.uint64pow10") = [("internal/strconv.uint64pow10", Lib.tabData .u64 Lib.pow10Tab)] := by kernel_rfl
  rw [e] at h2
  exact Lib.tabIs_of_head (rest := []) Pi.gTab gTabType Tryd.underlying152 Tryd.underlying100 cellsE cellsT h2
/-- a world for the witness: the settled one, the tables as their initialisers lay them -/
noncomputable def row (W : World) (g : Nat) (l : List Int) (k : IntKind) : World :=
  { W with heap := W.heap.modify g fun
      | .cells _ t frozen => .cells (l.map fun z => Value.int k z).toArray t frozen
      | o => o }
def tab32 : List Int := [0, 1, 28, 2, 29, 14, 24, 3, 30, 22, 20, 15, 25, 17, 4, 8, 31, 27, 13, 23, 21, 19, 16, 7, 26, 12, 18, 6, 11, 5, 10, 9]
def tab64 : List Int := [0, 1, 56, 2, 57, 49, 28, 3, 61, 58, 42, 50, 38, 29, 17, 4, 62, 47, 59, 36, 45, 43, 51, 22, 53, 39, 33, 30, 24, 18, 12, 5, 63, 55, 48, 27, 60, 41, 37, 16, 46, 35, 44, 21, 52, 32, 23, 11, 54, 26, 40, 15, 34, 20, 31, 10, 25, 14, 19, 9, 13, 8, 7, 6]
noncomputable def laidWorld (os : Os) : World :=
  row (row (row (World.holding Tryd.prog os ⟨#[], #[], []⟩) 3 Lib.pow10Tab .u64) 4 tab32 .u8) 5 tab64 .u8
theorem laid_met (os : Os) (args : Array Value) : laidMet Tryd.prog Rows.fnExactProofTextRow.laid ((laidWorld os).forCall (fun _ _ => 0) ⟨#[], args, []⟩).memory :=
  laidMet_of_run' 8 (by kernel_rfl) (by kernel_rfl)
/-- what the walk gives, for every argument and every world -/
theorem contract (H : Type) (enc : TypeId × Value → H) (W : World) (base : Nat) (args : Array Value) (ds gs : List (DataW H)) (before : List MemPlace)
    (hval : ∀ (j : Nat) t v, Tryd.f5.params[j]? = some t → args[j]? = some v → Value.okWide Tryd.prog W .any base t v)
    (hW : DataW.Whole enc Tryd.prog Tryd.f5.params.toList Rows.fnExactProofTextSpec.vars false W args.toList ds gs before) (hL : laidMetH Tryd.prog Rows.fnExactProofTextRow.laid W) :
    Calls Tryd.prog 5 args W fun e W' => ∃ v, e = .returned v ∧ Rows.fnExactProofTextSpec.post enc Tryd.prog Tryd.f5 false true false false W args v W' := by
  have hW' := hW
  obtain ⟨p, q, hA0, hV, rfl, hfz, hnd⟩ := hW
  have hA : DataW.TrodAll enc Tryd.prog W 0 (fun _ => true) true Tryd.f5.params.toList args.toList ds p := hA0
  rw [Tryd.params5] at hA hval
  obtain ⟨v0, vs0, d0, ds0, p0, q0, hargs, rfl, rfl, h0, r0⟩ := trodAll_cons hA
  obtain ⟨rfl, rfl, rfl⟩ := trodAll_nil r0
  obtain rfl : args = #[v0] := by cases args; simp_all
  obtain ⟨rfl, rfl⟩ := trodVars_none hV
  obtain ⟨a0, len0, cap0, rfl⟩ := okWide_slice Tryd.underlying30 (hval 0 30 v0 rfl rfl)
  have k0 := h0
  have lt0 : ∀ x ∈ p0, x.block < W.heap.size := by obtain ⟨m, hm⟩ := k0; exact DataW.trod_lt m _ _ _ hm
  obtain ⟨l, hl, hle, hC, hn, hG⟩ : ∃ l : List S65, l.length = len0 ∧ l.length ≤ cap0 ∧ Kd.C k65 W a0 l.length l ∧ l.length ≤ 9223372036854775807 ∧ ∀ x ∈ l, BL x := by
    obtain ⟨fuel, hf⟩ := h0
    have oT := opens_slice (enc := enc) (P := Tryd.prog) (w := W) (base := 0) (spare := fun _ => true) (held := true) 122 Tryd.underlying63 (by kernel_rfl)
      (opens_struct3 (f := fun x : S122 => (x.f0, x.f1, x.f2)) S122.mk (fun _ _ _ => rfl) Tryd.underlying122 rfl rfl rfl (by kernel_rfl) (by kernel_rfl) (by kernel_rfl) (by kernel_rfl)
        (opens_int Tryd.underlying3) (opens_string Tryd.underlying9) (opens_slice 9 Tryd.underlying74 (by kernel_rfl) (opens_string Tryd.underlying9)))
    have oI := opens_slice (enc := enc) (P := Tryd.prog) (w := W) (base := 0) (spare := fun _ => true) (held := true) 3 Tryd.underlying62 (by kernel_rfl) (opens_int Tryd.underlying3)
    obtain ⟨l, ⟨A, c, hcs, hlc, hC⟩, hG⟩ := opens_slice 65 Tryd.underlying30 (by kernel_rfl)
      (opens_struct4 (f := fun x : S65 => (x.f0, x.f1, x.f2, x.f3)) S65.mk (fun _ _ _ _ => rfl) Tryd.underlying65 rfl rfl rfl rfl (by kernel_rfl) (by kernel_rfl) (by kernel_rfl) (by kernel_rfl) (by kernel_rfl)
        (opens_int Tryd.underlying3) oI oI oT) _ _ _ hf
    simp [Value.cells] at hcs
    obtain ⟨rfl, rfl, rfl⟩ := hcs
    have hi : ∀ x : Int, (Lit.int .i64 x).wf = true → -9223372036854775808 ≤ x ∧ x ≤ 9223372036854775807 := by
      intro x h
      have h2 : (decide (IntKind.i64.min ≤ x) && decide (x ≤ IntKind.i64.max)) = true := h
      rw [Bool.and_eq_true, decide_eq_true_eq, decide_eq_true_eq] at h2
      exact h2
    have hm : maxLen ≤ 9223372036854775807 := by unfold maxLen; omega
    refine ⟨l, rfl, hlc, hC, Nat.le_trans hG.1 hm, fun x hx => ?_⟩
    obtain ⟨a, b, c, d, rfl, _, ⟨b1, b2⟩, ⟨c1, c2⟩, ⟨d1, d2⟩⟩ := hG.2 x hx
    refine ⟨fun y hy => hi y (b2 y hy), fun y hy => hi y (c2 y hy), Nat.le_trans b1 hm, Nat.le_trans c1 hm, Nat.le_trans d1 hm, fun n hn => ?_⟩
    obtain ⟨e, f, g, rfl, e1, f1, g1, g2⟩ := d2 n hn
    exact ⟨(hi e e1).1, (hi e e1).2, Nat.le_trans f1 hm, Nat.le_trans g1 hm, fun m hm2 => Nat.le_trans (g2 m hm2) hm⟩
  subst hl
  obtain ⟨k, hk⟩ := law_true l hn hG
  have hT : Pi.Tb W := table hL
  clear hA0
  refine (laws_FnExactProofText.calls k a0 cap0 l true W hT hC hle hk).mono fun e W' ⟨he, bel⟩ => ?_
  subst he
  exact ⟨_, rfl, _, _, _, [], _, [], hW', trodAll_mk1 (shut_bool Tryd.underlying4 _), (trodAll_cons_mk (Below.trod laidOut (by kernel_rfl) (of_decide_eq_true (by kernel_rfl)) k0 bel lt0) trodAll_mk0), rfl, bel.frame _, fun h => by cases h⟩
theorem reads (os : Os) {H : Type} (enc : TypeId × Value → H) : ∃ places, DataW.whole enc Tryd.prog ((laidWorld os).forCall (fun _ _ => 0) ⟨#[], #[.slice none 0 0], []⟩).memory Tryd.f5.params.toList Rows.fnExactProofTextSpec.vars false #[Value.slice none 0 0].toList 8 = some ([.nil], [], places) :=
  ⟨[], by kernel_rfl⟩
theorem lifted (os : Os) (started : os.Started) (H : Type) (enc : TypeId × Value → H) (F : Stop.Interp) :
    ReturnsInHanded {} Tryd.checked os 5 .any ((OpenSpec.ofChange Rows.fnExactProofTextSpec).preRow enc Tryd.prog Tryd.f5 Rows.fnExactProofTextRow.domain false Rows.fnExactProofTextRow.laid) (((OpenSpec.ofChange Rows.fnExactProofTextSpec).at F).post enc Tryd.prog Tryd.f5 false true false false) := by
  obtain ⟨places, hx⟩ := reads os enc
  refine returnsInHanded_of_row (C := Tryd.checked) (s := OpenSpec.ofChange Rows.fnExactProofTextSpec) own started (by kernel_rfl) Tryd.func5
    (witness_row_at (enc := enc) (C := Tryd.checked) false (laidWorld os) #[.slice none 0 0] rfl (by kernel_rfl) (by kernel_rfl) (by kernel_rfl)
      (OpenSpec.preRow_of_cond 8 hx (by kernel_rfl) (fun k hk => by cases hk) (by kernel_rfl) (laid_met os _))) ?_
  intro W base args ds gs before hval hW _ _ _ hL hsh _
  exact contract H enc W base args ds gs before hval hW hL
theorem said : Rows.FnExactProofTextSaid :=
  OpenClaim.holds_of_cond 5 Tryd.f5 rfl rfl rfl rfl rfl rfl rfl ⟨rfl, rfl, rfl, rfl, rfl⟩ rfl rfl rfl rfl rfl (by kernel_rfl) Tryd.func5 (by kernel_rfl)
    (of_decide_eq_true (by kernel_rfl)) (by unfold Func.isWrapper; first | (rw [if_pos (by decide +kernel)]; kernel_rfl) | (rw [if_neg (by decide +kernel)]; exact ⟨rfl, rfl⟩))
    (fun os started H enc _ F => by rw [OpenClaim.pre_eq_preRow]; exact lifted os started H enc F)
/-- no parameter wants a stand-in; the program's own looks are off: what the card asks -/
theorem plain (f : FuncId) (fn : Func) (hf : Tryd.pinned.checked.prog.funcNamed "loop.example/g00007/laws.FnExactProofText" = some f) (hfn : Tryd.pinned.checked.prog.funcs[f]? = some fn) :
    false = Tryd.pinned.checked.prog.looks [] ∧ ∀ (j : Nat) t, fn.params[j]? = some t → Tryd.pinned.checked.prog.wantsStandIn t = false := by
  obtain rfl : f = 5 := Option.some.inj ((show Tryd.prog.funcNamed "loop.example/g00007/laws.FnExactProofText" = some 5 by kernel_rfl).symm.trans hf) |>.symm
  obtain rfl : fn = Tryd.f5 := (Option.some.inj (Tryd.func5.symm.trans hfn)).symm
  refine ⟨by kernel_rfl, fun j t ht => ?_⟩
  rw [Tryd.params5] at ht
  have ht2 : t = 30 := by simpa using Array.mem_of_getElem? ht
  rw [ht2]
  exact (show Tryd.prog.wantsStandIn 30 = false by kernel_rfl)
/-- the card -/
theorem card : Rows.FnExactProofTextCardSaid :=
  Claim7.holds_tied_plain_at .later [] _ _ _ _ said (fun _ h => by cases h) (by kernel_rfl) (fun _ h => by cases h) fnExactProofText_row_tie rfl ⟨rfl, rfl⟩ (by kernel_rfl) rfl plain (by kernel_rfl)
#print axioms card
end Go.Proofs.YtbeelgaganbblaaDoor.fnExactProofText
namespace Go.Proofs.YtbeelgaganbblaaDoor
/-- The card, under a short name, for the claim. -/
theorem fnExactProofText_card : Rows.FnExactProofTextCardSaid := fnExactProofText.card
end Go.Proofs.YtbeelgaganbblaaDoor

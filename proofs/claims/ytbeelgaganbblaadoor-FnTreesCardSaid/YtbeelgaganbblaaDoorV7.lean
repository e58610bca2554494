/- Parts of the proof, cut to what it uses: PFnExactGoodTreex8, GoodP. -/
import Derived.Lib.IndexBytes
import Derived.Lib.IndexMore
import Derived.Lib.LazyBuf
import Derived.Test.YtbeelgaganbblaaDoorV2
import Derived.Test.YtbeelgaganbblaaDoorV6
namespace Go.Proofs.YtbeelgaganbblaaDoor.PFnExactGoodTree
open Go.RowKit Go.Proofs.YtbeelgaganbblaaDoorW.PrintWords Go.Proofs.YtbeelgaganbblaaDoorW.PrintLast Go.Proofs.YtbeelgaganbblaaDoorW.PrintMore
attribute [local go_sem] max2_int min2_int max_two min_two max_three min_three max_four min_four
set_option linter.unusedVariables false
set_option linter.unusedSimpArgs false
mutual
def Zk.l0 : Nat → Int → List Int → List (S43) → Int → Int → Option (Bool)
  | 0, _, _, _, _, _ => none
  | k + 1, x3, x4, x12, x13, x14 => if x14 < x13 then (if 0 ≤ x14 then (if x14 < (x12.length : Int) then (Zk.l1 k x3 x4 x12 x13 x14 ((Z5 x12 x14).f0) ((Z5 x12 x14).f1) ((Z5 x12 x14).f2) ((Z5 x12 x14).f3)) else (none)) else (none)) else (Zk.l2 k x3 x4 (x4.length : Int) 0)
def Zk.j2 : Nat → Int → List Int → List (S43) → Int → Int → Int → ByteArray → Int → Int → Option (Bool)
  | 0, _, _, _, _, _, _, _, _, _ => none
  | k + 1, x3, x4, x12, x13, x14, x207000, x207001, x207002, x207003 => (ZQ.f x207000 x207001 x207002 x207003).bind fun t211 => (if t211 = true then (if (x4.length : Int) > 0 then (if 0 ≤ (wrap64 ((x4.length : Int) - 1)) then (if (wrap64 ((x4.length : Int) - 1)) < (x4.length : Int) then (Zk.j3 k (wrap64 (x3 + (x207001.size : Int))) (x4.set ((wrap64 ((x4.length : Int) - 1)) : Int).toNat (wrap64 ((rd x4 (wrap64 ((x4.length : Int) - 1))) - 1))) x12 x13 x14 x207000 x207001 x207002 x207003) else (none)) else (none)) else (Zk.j3 k (wrap64 (x3 + (x207001.size : Int))) x4 x12 x13 x14 x207000 x207001 x207002 x207003)) else (some false))
def Zk.j3 : Nat → Int → List Int → List (S43) → Int → Int → Int → ByteArray → Int → Int → Option (Bool)
  | 0, _, _, _, _, _, _, _, _, _ => none
  | k + 1, x3, x4, x12, x13, x14, x207000, x207001, x207002, x207003 => if x207000 = 1 then (if x4.length < 17592186044416 then ((some (x4 ++ [x207002] : List Int)).bind fun y214 => (if (y214.length : Int) > 200 then (some false) else (Zk.l0 k x3 y214 x12 x13 (wrap64 (x14 + 1))))) else (none)) else (Zk.l0 k x3 x4 x12 x13 (wrap64 (x14 + 1)))
def Zk.l1 : Nat → Int → List Int → List (S43) → Int → Int → Int → ByteArray → Int → Int → Option (Bool)
  | 0, _, _, _, _, _, _, _, _, _ => none
  | k + 1, x3, x4, x12, x13, x14, x207000, x207001, x207002, x207003 => if (x4.length : Int) > 0 then (if 0 ≤ (wrap64 ((x4.length : Int) - 1)) then (if (wrap64 ((x4.length : Int) - 1)) < (x4.length : Int) then (if (rd x4 (wrap64 ((x4.length : Int) - 1))) = 0 then (if (wrap64 ((x4.length : Int) - 1)) ≤ (x4.length : Int) then (Zk.l1 k x3 (x4.take ((wrap64 ((x4.length : Int) - 1)) : Int).toNat) x12 x13 x14 x207000 x207001 x207002 x207003) else (none)) else (Zk.j2 k x3 x4 x12 x13 x14 x207000 x207001 x207002 x207003)) else (none)) else (none)) else (Zk.j2 k x3 x4 x12 x13 x14 x207000 x207001 x207002 x207003)
def Zk.l2 : Nat → Int → List Int → Int → Int → Option (Bool)
  | 0, _, _, _, _ => none
  | k + 1, x3, x66, x67, x68 => if x68 < x67 then (if 0 ≤ x68 then (if x68 < (x66.length : Int) then (if (rd x66 x68) > 0 then (some false) else (Zk.l2 k x3 x66 x67 (wrap64 (x68 + 1)))) else (none)) else (none)) else (some (decide (x3 ≤ 20000)))
end
def Zk.f (k : Nat) (l0 : List (S43)) : Option (Bool) := if (l0.length : Int) > 8000 then (some false) else (Zk.l0 k 0 ([] : List Int) l0 (l0.length : Int) 0)
set_option maxHeartbeats 8000000 in
set_option maxRecDepth 100000 in
theorem Zk.calls (k : Nat) (A0 : Option Addr) (c0 : Nat) (l0 : List (S43)) (r : Bool) (w : World) (hT : Gn.Tab w) (hr0 : Kd.C k43 w A0 l0.length l0) (hc0 : l0.length ≤ c0) (h : Zk.f k l0 = some r) :
    Calls Tryd.prog 25 #[.slice A0 l0.length c0] w fun e w' => e = .returned (.bool r) ∧ Below w.heap.size w w' := by
  have hu43 := Tryd.underlying43; have HR0 := Z2.mk hr0; have HC0 := Z2.mk hc0; clear hr0 hc0; have HT := Z2.mk hT; clear hT; have HB := Z2.mk (Below.refl w.heap.size w); have H : (if (l0.length : Int) > 8000 then (some false) else (Zk.l0 k 0 ([] : List Int) l0 (l0.length : Int) 0)) = some r := h; clear h
  by_cases c2 : (l0.length : Int) > 8000
  · rw [if_pos c2] at H; have c2b0 : decide (8000 < (l0.length : Int)) = true := decide_eq_true c2; have c2b1 : decide (8000 < l0.length) = true := decide_eq_true (by omega); clear c2; obtain rfl := Option.some.inj H; go_enter Tryd.func25, Tryd.ntmps25; go_wp2; go_ret; exact ⟨by first | rfl | (simp [Zj, Zi] <;> rfl) | (simp [*, Zj, Zi] <;> rfl), by repeat (first | (with_reducible first | exact HB.out | apply Z3 | apply Z0 | apply Z4) | exact HB.out)⟩
  · rw [if_neg c2] at H; have c2b0 : decide (8000 < (l0.length : Int)) = false := decide_eq_false c2; have c2b1 : decide (8000 < l0.length) = false := decide_eq_false (by omega); clear c2; have H' := Z2.mk H; clear H; go_enter Tryd.func25, Tryd.ntmps25; go_wp2; go_loopg [3, 4, 14] k (fun kq v3 v4 v14 w' => ∃ (x3_1 : Int) (x4_1 : List Int) (x14_1 : Int), v3 = .int .i64 x3_1 ∧ v14 = .int .i64 x14_1 ∧ Z2 (Zk.l0 kq x3_1 x4_1 l0 (l0.length : Int) x14_1 = some r) ∧ Z2 (kq ≤ k) ∧ Z2 (Kd.R (Kd.int .i64) 3 w' w.heap.size (fun _ => True) v4 x4_1) ∧ Z2 (Below w.heap.size w w'))
    case atStart => exact ⟨(0), (([] : List Int)), (0), (by first | rfl | (simp; done) | (simp [*]; done)), (by first | rfl | (simp; done) | (simp [*]; done)), H', ⟨Nat.le_refl _⟩, ⟨by first | exact Kd.R_nil _ _ _ _ _ | exact Kd.N_nil _ _ _ _ _ | exact Kd.V_nil _ _ _ _ _ | exact Kd.Q_nil _ _ _ _ _ | exact Kd.S_nil _ _ _ _ _⟩, ⟨by repeat (first | (with_reducible first | exact HB.out | apply Z3 | apply Z0 | apply Z4) | exact HB.out)⟩⟩
    case round =>
      clear H'; (try clear c2); (try clear c2b0); (try clear c2b1); (try clear p2); obtain ⟨x3_1, x4_1, x14_1, rfl, rfl, HA, HK1, HO_4, HB⟩ := hrel
      cases gk with
      | zero => exact absurd HA.out (by simp [Zk.l0])
      | succ k1 =>
        have H := HA.out; clear HA; simp only [Zk.l0] at H
        by_cases c3 : x14_1 < (l0.length : Int)
        · rw [if_pos c3] at H; have c3b0 : decide (x14_1 < (l0.length : Int)) = true := decide_eq_true c3; clear c3
          by_cases c4 : 0 ≤ x14_1
          · rw [if_pos c4] at H; have c4b0 : decide (0 ≤ x14_1) = true := decide_eq_true c4; clear c4
            by_cases c5 : x14_1 < (l0.length : Int)
            · rw [if_pos c5] at H; have c5b0 : decide (x14_1 < (l0.length : Int)) = true := decide_eq_true c5; clear c5; have HC6 := Z2.mk H; clear H; have p205 : 0 ≤ (x14_1 : Int) := of_decide_eq_true (by first | (with_reducible assumption) | assumption); have q205 : x14_1 < (l0.length : Int) := of_decide_eq_true (by first | (with_reducible assumption) | assumption); obtain ⟨ad205, e205, hx205_0, hx205_1, hx205_2, hx205_3⟩ := at_T43 HR0.out x14_1 p205 q205; cases e205; replace hx205_0 := (HB.out.cell (World.block_lt_of_cell? w _ hx205_0)).trans hx205_0; replace hx205_1 := (HB.out.cell (World.block_lt_of_cell? w _ hx205_1)).trans hx205_1; replace hx205_2 := (HB.out.cell (World.block_lt_of_cell? w _ hx205_2)).trans hx205_2; replace hx205_3 := (HB.out.cell (World.block_lt_of_cell? w _ hx205_3)).trans hx205_3; replace p205 := eq_true p205; replace q205 := eq_true q205
              go_upto_block 2 with (first | ((with_reducible refine ZE (N := 6) rfl ?_); (try (refine ZA (by rfl) ?_; dsimp only)); refine ZG ?hg (N := 6) ?hd (cs := #[.int .i64 0, .string (⟨#[]⟩ : ByteArray), .int .i64 0, .int .i64 0]) (t := 43) ?hr ?_; (case hd => rfl); (case hg => rfl); (case hr => first | (go_simp; done) | (go_simp; rfl)); intro gb206 hg w7 hbox hb; have n0_ := Z2.mk (Kd.R_below (by (with_reducible repeat (first | apply Kd.Ze | apply Kd.Zd | apply Kd.Zl)); exact HO_4.out) hb); have n1_ := Z2.mk (Zt (by repeat (first | (with_reducible first | exact HB.out | apply Z3 | apply Z0 | apply Z4) | exact HB.out)) hb); have n2_ := Z2.mk (hbox); have n3_ := Z2.mk ((by rw [hg]; exact (Zq (by repeat (first | (with_reducible first | exact HB.out | apply Z3 | apply Z0 | apply Z4) | exact HB.out))) : w.heap.size ≤ gb206)); have n4_ := Z2.mk ((by rw [hg]; exact (Zq (by repeat (first | (with_reducible first | exact HB.out | apply Z3 | apply Z0 | apply Z4) | exact HB.out))) : w.heap.size ≤ gb206)); clear HO_4; clear HB; have HO_4 := n0_; have HB := n1_; have BK206 := n2_; have GW206 := n3_; have GE206 := n4_; clear n0_ n1_ n2_ n3_ n4_; clear hb hbox hg; have hcz8_0 : w7.cell? ⟨gb206, 0, none⟩ = some (.int .i64 0) := (Zb BK206.out 0).trans rfl; have hcz8_1 : w7.cell? ⟨gb206, 1, none⟩ = some (.string (⟨#[]⟩ : ByteArray)) := (Zb BK206.out 1).trans rfl; have hcz8_2 : w7.cell? ⟨gb206, 2, none⟩ = some (.int .i64 0) := (Zb BK206.out 2).trans rfl; have hcz8_3 : w7.cell? ⟨gb206, 3, none⟩ = some (.int .i64 0) := (Zb BK206.out 3).trans rfl; have hfz8_0 := Z7 BK206.out 0; have hfz8_1 := Z7 BK206.out 1; have hfz8_2 := Z7 BK206.out 2; have hfz8_3 := Z7 BK206.out 3))
              (try simp only [Act.put, List.setIfInBounds_toArray, List.set_cons_zero, List.set_cons_succ]); go_cut [4] (fun v4 wc => ∃ (kq : Nat) (x4_5 : List Int), Z2 (Zk.j2 kq x3_1 x4_5 l0 (l0.length : Int) x14_1 ((Z5 l0 x14_1).f0) ((Z5 l0 x14_1).f1) ((Z5 l0 x14_1).f2) ((Z5 l0 x14_1).f3) = some r) ∧ Z2 (kq ≤ k1) ∧ Z2 (Kd.R (Kd.int .i64) 3 wc w.heap.size (fun _ => True) v4 x4_5) ∧ Z2 (wc.heap[gb206]? = some (.cells #[.int .i64 ((Z5 l0 x14_1).f0), .string ((Z5 l0 x14_1).f1), .int .i64 ((Z5 l0 x14_1).f2), .int .i64 ((Z5 l0 x14_1).f3)] 43 (0, 0))) ∧ Z2 (Below w.heap.size w wc))
              case first =>
                have H := HC6.out; clear HC6; have H' := Z2.mk H; clear H; go_wp2; go_loopg [4] k1 (fun kq v4 w' => ∃ (x4_2 : List Int), Z2 (Zk.l1 kq x3_1 x4_2 l0 (l0.length : Int) x14_1 ((Z5 l0 x14_1).f0) ((Z5 l0 x14_1).f1) ((Z5 l0 x14_1).f2) ((Z5 l0 x14_1).f3) = some r) ∧ Z2 (kq ≤ k1) ∧ Z2 (Kd.R (Kd.int .i64) 3 w' w.heap.size (fun _ => True) v4 x4_2) ∧ Z2 (w'.heap[gb206]? = some (.cells #[.int .i64 ((Z5 l0 x14_1).f0), .string ((Z5 l0 x14_1).f1), .int .i64 ((Z5 l0 x14_1).f2), .int .i64 ((Z5 l0 x14_1).f3)] 43 (0, 0))) ∧ Z2 (Below w.heap.size w w'))
                case atStart => exact ⟨(x4_1), H', ⟨Nat.le_refl _⟩, ⟨by (with_reducible repeat (first | apply Kd.Ze | apply Kd.Zd | apply Kd.Zl)); exact Kd.R_mono (Kd.R_far (p := ⟨gb206, 3, none⟩) (Kd.R_far (p := ⟨gb206, 2, none⟩) (Kd.R_far (p := ⟨gb206, 1, none⟩) (Kd.R_far (p := ⟨gb206, 0, none⟩) (Kd.R_types HO_4.out BK206.out (by decide)) (fun _ hk => hk.2) (.int .i64 ((Z5 l0 x14_1).f0))) (fun _ hk => hk.2) (.string ((Z5 l0 x14_1).f1))) (fun _ hk => hk.2) (.int .i64 ((Z5 l0 x14_1).f2))) (fun _ hk => hk.2) (.int .i64 ((Z5 l0 x14_1).f3))) (fun _ hk => trivial)⟩, ⟨by (with_reducible repeat (first | refine Z8 ?_ _ | refine Za ?_ | refine Z9 ?_ _)); refine Zw (cs := #[.int .i64 ((Z5 l0 x14_1).f0), .string ((Z5 l0 x14_1).f1), .int .i64 ((Z5 l0 x14_1).f2), .int .i64 0]) ?_ 3 _ rfl; (with_reducible repeat (first | refine Z8 ?_ _ | refine Za ?_ | refine Z9 ?_ _)); refine Zw (cs := #[.int .i64 ((Z5 l0 x14_1).f0), .string ((Z5 l0 x14_1).f1), .int .i64 0, .int .i64 0]) ?_ 2 _ rfl; (with_reducible repeat (first | refine Z8 ?_ _ | refine Za ?_ | refine Z9 ?_ _)); refine Zw (cs := #[.int .i64 ((Z5 l0 x14_1).f0), .string (⟨#[]⟩ : ByteArray), .int .i64 0, .int .i64 0]) ?_ 1 _ rfl; (with_reducible repeat (first | refine Z8 ?_ _ | refine Za ?_ | refine Z9 ?_ _)); refine Zw (cs := #[.int .i64 0, .string (⟨#[]⟩ : ByteArray), .int .i64 0, .int .i64 0]) ?_ 0 _ rfl; (with_reducible repeat (first | refine Z8 ?_ _ | refine Za ?_ | refine Z9 ?_ _)); exact BK206.out⟩, ⟨by repeat (first | (with_reducible first | exact HB.out | apply Z3 | apply Z0 | apply Z4 | refine Z6 ?_ GE206.out) | exact HB.out)⟩⟩
                case round =>
                  clear H'; (try clear c2); (try clear c2b0); (try clear c2b1); (try clear p2); (try clear q2); (try clear hx2); (try clear c3); (try clear c3b0); (try clear c4); (try clear c4b0); (try clear c5); (try clear c5b0); (try clear hcz8_0); (try clear hcz8_1); (try clear hcz8_2); (try clear hcz8_3); (try clear hfz8_0); (try clear hfz8_1); (try clear hfz8_2); (try clear hfz8_3); (try clear hx205_0); (try clear hx205_1); (try clear hx205_2); (try clear hx205_3); (try clear p2); (try clear p205); (try clear q205); obtain ⟨x4_2, HA, HK2, HO_4, BK206, HB⟩ := hrel
                  cases gk with
                  | zero => exact absurd HA.out (by simp [Zk.l1])
                  | succ k2 =>
                    have H := HA.out; clear HA; simp only [Zk.l1] at H
                    by_cases c9 : (x4_2.length : Int) > 0
                    · rw [if_pos c9] at H; have c9b0 : decide (0 < (x4_2.length : Int)) = true := decide_eq_true c9; have c9b1 : decide (0 < x4_2.length) = true := decide_eq_true (by omega); clear c9; (first | rw [c9b0] | (simp only [i64_w, i32_w]; rw [c9b0]) | rw [c9b1] | skip); obtain ⟨ji10, hji10⟩ : ∃ j_ : Int, (wrap64 ((x4_2.length : Int) - 1)) = j_ := ⟨_, rfl⟩
                      replace H : (if 0 ≤ (ji10) then (if (ji10) < (x4_2.length : Int) then (if (rd x4_2 (ji10)) = 0 then (if (ji10) ≤ (x4_2.length : Int) then (Zk.l1 k2 x3_1 (x4_2.take ((ji10) : Int).toNat) l0 (l0.length : Int) x14_1 ((Z5 l0 x14_1).f0) ((Z5 l0 x14_1).f1) ((Z5 l0 x14_1).f2) ((Z5 l0 x14_1).f3)) else (none)) else (Zk.j2 k2 x3_1 x4_2 l0 (l0.length : Int) x14_1 ((Z5 l0 x14_1).f0) ((Z5 l0 x14_1).f1) ((Z5 l0 x14_1).f2) ((Z5 l0 x14_1).f3))) else (none)) else (none)) = some r := by first | (rw [hji10] at H; exact H) | (simp only [hji10] at H ⊢; exact H)
                      have hji10w : (IntKind.i64.wrap ((x4_2.length : Int) - 1)) = ji10 := (i64_w _).trans hji10
                      by_cases c11 : 0 ≤ (ji10)
                      · rw [if_pos c11] at H; have c11b0 : decide (0 ≤ (ji10)) = true := decide_eq_true c11; clear c11
                        by_cases c12 : (ji10) < (x4_2.length : Int)
                        · rw [if_pos c12] at H; have c12b0 : decide ((ji10) < (x4_2.length : Int)) = true := decide_eq_true c12; clear c12
                          by_cases c13 : (rd x4_2 (ji10)) = 0
                          · rw [if_pos c13] at H; have c13b0 : ((rd x4_2 (ji10)) == 0) = true := beq_iff_eq.mpr c13; have c13b1 : ((rd x4_2 (ji10)) != 0) = false := bne_eq_false_iff_eq.mpr c13; clear c13
                            by_cases c14 : (ji10) ≤ (x4_2.length : Int)
                            · rw [if_pos c14] at H; have c14b0 := eq_true c14; have c14b1 : decide ((ji10) ≤ (x4_2.length : Int)) = true := decide_eq_true c14; clear c14; obtain ⟨y208, hy208⟩ : ∃ y_ : List Int, y_ = (x4_2.take ((ji10) : Int).toNat) := ⟨_, rfl⟩
                              replace H : (Zk.l1 k2 x3_1 y208 l0 (l0.length : Int) x14_1 ((Z5 l0 x14_1).f0) ((Z5 l0 x14_1).f1) ((Z5 l0 x14_1).f2) ((Z5 l0 x14_1).f3)) = some r := by first | (rw [hy208]; with_reducible exact H) | (have H2_ := (Option.bind_some _ _).symm.trans H; rw [hy208]; with_reducible exact H2_) | (have H2_ := (Option.bind_some _ _).symm.trans H; with_reducible exact H2_) | with_reducible exact H | (rw [hy208]; exact H) | exact H
                              have Ny208 := Z2.mk hy208; clear hy208; have H' := Z2.mk H; clear H; obtain ⟨Ao15, co15, eo15⟩ := Kd.R_slice HO_4.out; subst eo15; have p207 : 0 ≤ ((ji10) : Int) := of_decide_eq_true (by first | (with_reducible assumption) | assumption); have q207 : (ji10) < (x4_2.length : Int) := of_decide_eq_true (by first | (with_reducible assumption) | assumption); obtain ⟨ad207, e207, hx207_0⟩ := Kd.at_int (Kd.R_reads' HO_4.out).2.2 (ji10) p207 q207; cases e207; replace p207 := eq_true p207; replace q207 := eq_true q207; have q16 : ((ji10) : Int) ≤ ((x4_2.length : Int) : Int) := of_decide_eq_true (by first | (with_reducible assumption) | assumption); obtain ⟨i016, hi016, _, hsz16, _⟩ := info_parts info3; have hcut16 := cut_to (P := Tryd.prog) 62 3 .i64 Tryd.underlying62 hi016 (some ad207) x4_2.length co15 (ji10) (of_decide_eq_true (by first | (with_reducible assumption) | assumption)) q16 (Kd.R_reads' HO_4.out).2.1; have hr16 := Kd.R_take (m := ((ji10) : Int).toNat) HO_4.out (by omega); have hy16 : y208.length = ((ji10) : Int).toNat := (by rw [Ny208.out, List.length_take]; omega); rw [← Ny208.out] at hr16; rw [← hy16] at hr16 hcut16; clear hy16 hi016 hsz16 HO_4; have HO210 := Z2.mk hr16; clear hr16; replace q16 := eq_true q16; go_wp2
                              go_roundg k2
                              case measure => have := HK1.out; have := HK2.out; omega
                              case rel => exact ⟨(y208), H', ⟨by have := HK1.out; have := HK2.out; omega⟩, ⟨by (with_reducible repeat (first | apply Kd.Ze | apply Kd.Zd | apply Kd.Zl)); exact HO210.out⟩, ⟨by (with_reducible repeat (first | refine Z8 ?_ _ | refine Za ?_ | refine Z9 ?_ _)); exact BK206.out⟩, ⟨by repeat (first | (with_reducible first | exact HB.out | apply Z3 | apply Z0 | apply Z4 | refine Z6 ?_ GE206.out) | exact HB.out)⟩⟩
                            · rw [if_neg c14] at H; exact absurd H (by simp)
                          · rw [if_neg c13] at H; have c13b0 : ((rd x4_2 (ji10)) == 0) = false := beq_eq_false_iff_ne.mpr c13; have c13b1 : ((rd x4_2 (ji10)) != 0) = true := bne_iff_ne.mpr c13; have H' := Z2.mk H; clear H; obtain ⟨Ao17, co17, eo17⟩ := Kd.R_slice HO_4.out; subst eo17; have p207 : 0 ≤ ((ji10) : Int) := of_decide_eq_true (by first | (with_reducible assumption) | assumption); have q207 : (ji10) < (x4_2.length : Int) := of_decide_eq_true (by first | (with_reducible assumption) | assumption); obtain ⟨ad207, e207, hx207_0⟩ := Kd.at_int (Kd.R_reads' HO_4.out).2.2 (ji10) p207 q207; cases e207; replace p207 := eq_true p207; replace q207 := eq_true q207; go_wp2; go_meet
                            case rel => exact ⟨_, (x4_2), H', ⟨by have := HK1.out; have := HK2.out; first | omega | exact Nat.le_refl _⟩, ⟨by (with_reducible repeat (first | apply Kd.Ze | apply Kd.Zd | apply Kd.Zl)); exact HO_4.out⟩, ⟨by (with_reducible repeat (first | refine Z8 ?_ _ | refine Za ?_ | refine Z9 ?_ _)); exact BK206.out⟩, ⟨by repeat (first | (with_reducible first | exact HB.out | apply Z3 | apply Z0 | apply Z4 | refine Z6 ?_ GE206.out) | exact HB.out)⟩⟩
                        · rw [if_neg c12] at H; exact absurd H (by simp)
                      · rw [if_neg c11] at H; exact absurd H (by simp)
                    · rw [if_neg c9] at H; have c9b0 : decide (0 < (x4_2.length : Int)) = false := decide_eq_false c9; have c9b1 : decide (0 < x4_2.length) = false := decide_eq_false (by omega); clear c9; (first | rw [c9b0] | (simp only [i64_w, i32_w]; rw [c9b0]) | rw [c9b1] | skip); have H' := Z2.mk H; clear H; obtain ⟨Ao18, co18, eo18⟩ := Kd.R_slice HO_4.out; subst eo18; go_wp2; go_meet
                      case rel => exact ⟨_, (x4_2), H', ⟨by have := HK1.out; have := HK2.out; first | omega | exact Nat.le_refl _⟩, ⟨by (with_reducible repeat (first | apply Kd.Ze | apply Kd.Zd | apply Kd.Zl)); exact HO_4.out⟩, ⟨by (with_reducible repeat (first | refine Z8 ?_ _ | refine Za ?_ | refine Z9 ?_ _)); exact BK206.out⟩, ⟨by repeat (first | (with_reducible first | exact HB.out | apply Z3 | apply Z0 | apply Z4 | refine Z6 ?_ GE206.out) | exact HB.out)⟩⟩
              case rest =>
                clear HC6; (try clear c1); (try clear q1); (try clear c2); (try clear c2b0); (try clear c2b1); (try clear p2); (try clear q2); (try clear hx2); (try clear c3); (try clear c3b0); (try clear c4); (try clear c4b0); (try clear c5); (try clear c5b0); (try clear p6); (try clear c9); (try clear c9b0); (try clear c9b1); (try clear c11); (try clear c11b0); (try clear c12); (try clear c12b0); (try clear c13); (try clear c13b0); (try clear c13b1); (try clear c14); (try clear c14b0); (try clear c14b1); (try clear q16); (try clear hcz8_0); (try clear hcz8_1); (try clear hcz8_2); (try clear hcz8_3); (try clear hfz8_0); (try clear hfz8_1); (try clear hfz8_2); (try clear hfz8_3); (try clear hx205_0); (try clear hx205_1); (try clear hx205_2); (try clear hx205_3); (try clear hx207_0); (try clear p2); (try clear p205); (try clear p207); (try clear q16); (try clear q2); (try clear q205); (try clear q207); obtain ⟨kq, x4_5, HA, HJ5, HO_4, BK206, HB⟩ := hcut
                cases kq with
                | zero => exact absurd HA.out (by simp [Zk.j2])
                | succ kj5 =>
                  have H := HA.out; clear HA; simp only [Zk.j2] at H; replace H := Option.bind_eq_some_iff.mp H; obtain ⟨t211, A190, H⟩ := H; replace H : (if t211 = true then (if (x4_5.length : Int) > 0 then (if 0 ≤ (wrap64 ((x4_5.length : Int) - 1)) then (if (wrap64 ((x4_5.length : Int) - 1)) < (x4_5.length : Int) then (Zk.j3 kj5 (wrap64 (x3_1 + (((Z5 l0 x14_1).f1).size : Int))) (x4_5.set ((wrap64 ((x4_5.length : Int) - 1)) : Int).toNat (wrap64 ((rd x4_5 (wrap64 ((x4_5.length : Int) - 1))) - 1))) l0 (l0.length : Int) x14_1 ((Z5 l0 x14_1).f0) ((Z5 l0 x14_1).f1) ((Z5 l0 x14_1).f2) ((Z5 l0 x14_1).f3)) else (none)) else (none)) else (Zk.j3 kj5 (wrap64 (x3_1 + (((Z5 l0 x14_1).f1).size : Int))) x4_5 l0 (l0.length : Int) x14_1 ((Z5 l0 x14_1).f0) ((Z5 l0 x14_1).f1) ((Z5 l0 x14_1).f2) ((Z5 l0 x14_1).f3))) else (some false)) = some r := H; have A19 := Z2.mk A190; clear A190
                  by_cases c20 : t211 = true
                  · subst c20
                    have H1 : (if (x4_5.length : Int) > 0 then (if 0 ≤ (wrap64 ((x4_5.length : Int) - 1)) then (if (wrap64 ((x4_5.length : Int) - 1)) < (x4_5.length : Int) then (Zk.j3 kj5 (wrap64 (x3_1 + (((Z5 l0 x14_1).f1).size : Int))) (x4_5.set ((wrap64 ((x4_5.length : Int) - 1)) : Int).toNat (wrap64 ((rd x4_5 (wrap64 ((x4_5.length : Int) - 1))) - 1))) l0 (l0.length : Int) x14_1 ((Z5 l0 x14_1).f0) ((Z5 l0 x14_1).f1) ((Z5 l0 x14_1).f2) ((Z5 l0 x14_1).f3)) else (none)) else (none)) else (Zk.j3 kj5 (wrap64 (x3_1 + (((Z5 l0 x14_1).f1).size : Int))) x4_5 l0 (l0.length : Int) x14_1 ((Z5 l0 x14_1).f0) ((Z5 l0 x14_1).f1) ((Z5 l0 x14_1).f2) ((Z5 l0 x14_1).f3))) = some r := by rw [if_pos rfl] at H; exact H
                    clear H; have H := H1; clear H1; have HC21 := Z2.mk H; clear H; have hcz22_0 : wc.cell? ⟨gb206, 0, none⟩ = some (.int .i64 ((Z5 l0 x14_1).f0)) := (Zb BK206.out 0).trans rfl; have hcz22_1 : wc.cell? ⟨gb206, 1, none⟩ = some (.string ((Z5 l0 x14_1).f1)) := (Zb BK206.out 1).trans rfl; have hcz22_2 : wc.cell? ⟨gb206, 2, none⟩ = some (.int .i64 ((Z5 l0 x14_1).f2)) := (Zb BK206.out 2).trans rfl; have hcz22_3 : wc.cell? ⟨gb206, 3, none⟩ = some (.int .i64 ((Z5 l0 x14_1).f3)) := (Zb BK206.out 3).trans rfl; have hfz22_0 := Z7 BK206.out 0; have hfz22_1 := Z7 BK206.out 1; have hfz22_2 := Z7 BK206.out 2; have hfz22_3 := Z7 BK206.out 3
                    go_upto_if 45 with (first | ((with_reducible refine Zu (f := 46) rfl ?_); refine ZL (some 36) rfl rfl Tryd.func46 (by kernel_rfl) rfl #[.agg #[.int .i64 ((Z5 l0 x14_1).f0), .string ((Z5 l0 x14_1).f1), .int .i64 ((Z5 l0 x14_1).f2), .int .i64 ((Z5 l0 x14_1).f3)]] rfl (by (try simp only [List.map_toArray, List.map_cons, List.map_nil]); first | done | rfl | (simp only [List.length_drop, List.length_take]; rfl)) ?_; (with_reducible refine (ZQ.calls ((Z5 l0 x14_1).f0) ((Z5 l0 x14_1).f1) ((Z5 l0 x14_1).f2) ((Z5 l0 x14_1).f3) true _ (HT.out.here (by repeat (first | (with_reducible first | exact HB.out | apply Z3 | apply Z0 | apply Z4 | refine Z6 ?_ GE206.out) | exact HB.out))) A19.out).mono ?_); rintro e w23 ⟨rfl, hb⟩; refine ⟨_, rfl, ?_⟩; have n0_ := Z2.mk (Kd.R_below (by (with_reducible repeat (first | apply Kd.Ze | apply Kd.Zd | apply Kd.Zl)); exact HO_4.out) hb); have n1_ := Z2.mk (blk_below (g := gb206) (o := .cells #[.int .i64 ((Z5 l0 x14_1).f0), .string ((Z5 l0 x14_1).f1), .int .i64 ((Z5 l0 x14_1).f2), .int .i64 ((Z5 l0 x14_1).f3)] 43 (0, 0)) (by (with_reducible repeat (first | refine Z8 ?_ _ | refine Za ?_ | refine Z9 ?_ _)); exact BK206.out) hb); have n2_ := Z2.mk (Zt (by repeat (first | (with_reducible first | exact HB.out | apply Z3 | apply Z0 | apply Z4 | refine Z6 ?_ GE206.out) | exact HB.out)) hb); clear HO_4; clear BK206; clear HB; have HO_4 := n0_; have BK206 := n1_; have HB := n2_; clear n0_ n1_ n2_; (try clear hb); (try clear hb2); (try clear hk); (try clear hi); have hcz24_0 : w23.cell? ⟨gb206, 0, none⟩ = some (.int .i64 ((Z5 l0 x14_1).f0)) := (Zb BK206.out 0).trans rfl; have hcz24_1 : w23.cell? ⟨gb206, 1, none⟩ = some (.string ((Z5 l0 x14_1).f1)) := (Zb BK206.out 1).trans rfl; have hcz24_2 : w23.cell? ⟨gb206, 2, none⟩ = some (.int .i64 ((Z5 l0 x14_1).f2)) := (Zb BK206.out 2).trans rfl; have hcz24_3 : w23.cell? ⟨gb206, 3, none⟩ = some (.int .i64 ((Z5 l0 x14_1).f3)) := (Zb BK206.out 3).trans rfl; have hfz24_0 := Z7 BK206.out 0; have hfz24_1 := Z7 BK206.out 1; have hfz24_2 := Z7 BK206.out 2; have hfz24_3 := Z7 BK206.out 3; obtain ⟨Ao25, co25, eo25⟩ := Kd.R_slice HO_4.out; subst eo25))
                    (try simp only [Act.put, List.setIfInBounds_toArray, List.set_cons_zero, List.set_cons_succ]); go_cut [] (fun wc => ∃ (kq : Nat) (x4_20 : List Int), Z2 (Zk.j3 kq (wrap64 (x3_1 + (((Z5 l0 x14_1).f1).size : Int))) x4_20 l0 (l0.length : Int) x14_1 ((Z5 l0 x14_1).f0) ((Z5 l0 x14_1).f1) ((Z5 l0 x14_1).f2) ((Z5 l0 x14_1).f3) = some r) ∧ Z2 (kq ≤ kj5) ∧ Z2 (Kd.R (Kd.int .i64) 3 wc w.heap.size (fun _ => True) (.slice Ao25 x4_5.length co25) x4_20) ∧ Z2 (wc.heap[gb206]? = some (.cells #[.int .i64 ((Z5 l0 x14_1).f0), .string ((Z5 l0 x14_1).f1), .int .i64 ((Z5 l0 x14_1).f2), .int .i64 ((Z5 l0 x14_1).f3)] 43 (0, 0))) ∧ Z2 (Below w.heap.size w wc))
                    case first =>
                      have H := HC21.out; clear HC21
                      by_cases c26 : (x4_5.length : Int) > 0
                      · rw [if_pos c26] at H; have c26b0 : decide (0 < (x4_5.length : Int)) = true := decide_eq_true c26; have c26b1 : decide (0 < x4_5.length) = true := decide_eq_true (by omega); clear c26; (first | rw [c26b0] | (simp only [i64_w, i32_w]; rw [c26b0]) | rw [c26b1] | skip); obtain ⟨ji27, hji27⟩ : ∃ j_ : Int, (wrap64 ((x4_5.length : Int) - 1)) = j_ := ⟨_, rfl⟩
                        replace H : (if 0 ≤ (ji27) then (if (ji27) < (x4_5.length : Int) then (Zk.j3 kj5 (wrap64 (x3_1 + (((Z5 l0 x14_1).f1).size : Int))) (x4_5.set ((ji27) : Int).toNat (wrap64 ((rd x4_5 (ji27)) - 1))) l0 (l0.length : Int) x14_1 ((Z5 l0 x14_1).f0) ((Z5 l0 x14_1).f1) ((Z5 l0 x14_1).f2) ((Z5 l0 x14_1).f3)) else (none)) else (none)) = some r := by first | (rw [hji27] at H; exact H) | (simp only [hji27] at H ⊢; exact H)
                        have hji27w : (IntKind.i64.wrap ((x4_5.length : Int) - 1)) = ji27 := (i64_w _).trans hji27
                        by_cases c28 : 0 ≤ (ji27)
                        · rw [if_pos c28] at H; have c28b0 : decide (0 ≤ (ji27)) = true := decide_eq_true c28; clear c28
                          by_cases c29 : (ji27) < (x4_5.length : Int)
                          · rw [if_pos c29] at H; have c29b0 : decide ((ji27) < (x4_5.length : Int)) = true := decide_eq_true c29; clear c29; obtain ⟨y213, hy213⟩ : ∃ y_ : List Int, y_ = (x4_5.set ((ji27) : Int).toNat (wrap64 ((rd x4_5 (ji27)) - 1))) := ⟨_, rfl⟩
                            replace H : (Zk.j3 kj5 (wrap64 (x3_1 + (((Z5 l0 x14_1).f1).size : Int))) y213 l0 (l0.length : Int) x14_1 ((Z5 l0 x14_1).f0) ((Z5 l0 x14_1).f1) ((Z5 l0 x14_1).f2) ((Z5 l0 x14_1).f3)) = some r := by first | (rw [hy213]; with_reducible exact H) | (have H2_ := (Option.bind_some _ _).symm.trans H; rw [hy213]; with_reducible exact H2_) | (have H2_ := (Option.bind_some _ _).symm.trans H; with_reducible exact H2_) | with_reducible exact H | (rw [hy213]; exact H) | exact H
                            have Ny213 := Z2.mk hy213; clear hy213; have H' := Z2.mk H; clear H; have p212 : 0 ≤ ((ji27) : Int) := of_decide_eq_true (by first | (with_reducible assumption) | assumption); have q212 : (ji27) < (x4_5.length : Int) := of_decide_eq_true (by first | (with_reducible assumption) | assumption); obtain ⟨ad212, e212, hx212_0⟩ := Kd.at_int (Kd.R_reads' HO_4.out).2.2 (ji27) p212 q212; cases e212; replace p212 := eq_true p212; replace q212 := eq_true q212; have p30 : 0 ≤ ((ji27) : Int) := of_decide_eq_true (by first | (with_reducible assumption) | assumption); have q30 : ((ji27) : Int) < ((x4_5.length : Int) : Int) := of_decide_eq_true (by first | (with_reducible assumption) | assumption); obtain ⟨go30, co30, eo30, gb30, gl30, cl30, HG30⟩ := Kd.R_form HO_4.out (by omega); (first | cases eo30 | (injection eo30 with ea_ en_ ec_; (first | subst ea_ | (injection ea_ with ea_; subst ea_)); subst ec_; clear en_)); have GB30 := Z2.mk gb30; have GG30 := Z2.mk HG30; clear gb30 gl30 HG30; (first | simp only [ZF] at hx212_0 | skip); obtain ⟨hx30_0, hf30_0⟩ := Kd.R_celln 0 HO_4.out ((ji27) : Int) p30 q30; replace p30 := eq_true p30; replace q30 := eq_true q30; have HP31 := Kd.R_putg HO_4.out ((ji27) : Int) (wrap64 ((rd x4_5 (ji27)) - 1)); go_wp2_with (first | ((with_reducible refine ZJ (t := 3) (p := 53) rfl ?_); refine ZK (t := 3) (p := 53) (v := ?vo_w32) (w1 := (w23.setCell ⟨go30, ((ji27) : Int).toNat, none⟩ (.int .i64 (wrap64 ((rd x4_5 (ji27)) - 1))))) ?hg ?ho ?hn ?hr ?_; (case ho => rfl); (case hg => rfl); (case hn => rfl); (case hr => first | (go_simp; done) | (go_simp; rfl)); intro w32 hw; have hg : w23.grownBy w32 (some go30) := (by rw [hw]; exact HP31.2); have hp_ : Kd.R (Kd.int .i64) 3 w32 w.heap.size (fun _ => True) (.slice (some ⟨go30, 0, none⟩) x4_5.length co25) y213 := (by rw [hw, Ny213.out]; exact HP31.1); clear HP31; have n0_ := Z2.mk (hp_); have n1_ := Z2.mk (ZC (g := gb206) (o := .cells #[.int .i64 ((Z5 l0 x14_1).f0), .string ((Z5 l0 x14_1).f1), .int .i64 ((Z5 l0 x14_1).f2), .int .i64 ((Z5 l0 x14_1).f3)] 43 (0, 0)) (by (with_reducible repeat (first | refine Z8 ?_ _ | refine Za ?_ | refine Z9 ?_ _)); exact BK206.out) hg (Kd.R_ne HO_4.out BK206.out (by decide))); have n2_ := Z2.mk ((by rw [hw]; exact Z6 (HB.out) GB30.out : Below w.heap.size w w32)); clear HO_4; clear BK206; clear HB; have HO_4 := n0_; have BK206 := n1_; have HB := n2_; clear n0_ n1_ n2_; clear hg hw hp_)); go_meet
                            case rel => exact ⟨_, (y213), H', ⟨by have := HK1.out; have := HJ5.out; first | omega | exact Nat.le_refl _⟩, ⟨by (with_reducible repeat (first | apply Kd.Ze | apply Kd.Zd | apply Kd.Zl)); exact HO_4.out⟩, ⟨by (with_reducible repeat (first | refine Z8 ?_ _ | refine Za ?_ | refine Z9 ?_ _)); exact BK206.out⟩, ⟨by repeat (first | (with_reducible first | exact HB.out | apply Z3 | apply Z0 | apply Z4 | refine Z6 ?_ GE206.out) | exact HB.out)⟩⟩
                          · rw [if_neg c29] at H; exact absurd H (by simp)
                        · rw [if_neg c28] at H; exact absurd H (by simp)
                      · rw [if_neg c26] at H; have c26b0 : decide (0 < (x4_5.length : Int)) = false := decide_eq_false c26; have c26b1 : decide (0 < x4_5.length) = false := decide_eq_false (by omega); clear c26; (first | rw [c26b0] | (simp only [i64_w, i32_w]; rw [c26b0]) | rw [c26b1] | skip); have H' := Z2.mk H; clear H; go_wp2; go_meet
                        case rel => exact ⟨_, (x4_5), H', ⟨by have := HK1.out; have := HJ5.out; first | omega | exact Nat.le_refl _⟩, ⟨by (with_reducible repeat (first | apply Kd.Ze | apply Kd.Zd | apply Kd.Zl)); exact HO_4.out⟩, ⟨by (with_reducible repeat (first | refine Z8 ?_ _ | refine Za ?_ | refine Z9 ?_ _)); exact BK206.out⟩, ⟨by repeat (first | (with_reducible first | exact HB.out | apply Z3 | apply Z0 | apply Z4 | refine Z6 ?_ GE206.out) | exact HB.out)⟩⟩
                    case rest =>
                      clear HC21; (try clear c1); (try clear q1); (try clear c2); (try clear c2b0); (try clear c2b1); (try clear p2); (try clear q2); (try clear hx2); (try clear c3); (try clear c3b0); (try clear p3); (try clear q3); (try clear hx3); (try clear hf3); (try clear c4); (try clear c4b0); (try clear c5); (try clear c5b0); (try clear p6); (try clear c9); (try clear c9b0); (try clear c9b1); (try clear c11); (try clear c11b0); (try clear c12); (try clear c12b0); (try clear c13); (try clear c13b0); (try clear c13b1); (try clear c14); (try clear c14b0); (try clear c14b1); (try clear q16); (try clear c20); (try clear p20); (try clear q20); (try clear hx20); (try clear p21); (try clear q21); (try clear hx21); (try clear c25); (try clear c26); (try clear c26b0); (try clear c26b1); (try clear c28); (try clear c28b0); (try clear c29); (try clear c29b0); (try clear p30); (try clear q30); (try clear hx30); (try clear hf30); (try clear hcz22_0); (try clear hcz22_1); (try clear hcz22_2); (try clear hcz22_3); (try clear hcz24_0); (try clear hcz24_1); (try clear hcz24_2); (try clear hcz24_3); (try clear hcz8_0); (try clear hcz8_1); (try clear hcz8_2); (try clear hcz8_3); (try clear hfz22_0); (try clear hfz22_1); (try clear hfz22_2); (try clear hfz22_3); (try clear hfz24_0); (try clear hfz24_1); (try clear hfz24_2); (try clear hfz24_3); (try clear hfz8_0); (try clear hfz8_1); (try clear hfz8_2); (try clear hfz8_3); (try clear hx205_0); (try clear hx205_1); (try clear hx205_2); (try clear hx205_3); (try clear hx207_0); (try clear hx212_0); (try clear hx30_0); (try clear p2); (try clear p205); (try clear p207); (try clear p212); (try clear p30); (try clear p6); (try clear q1); (try clear q16); (try clear q2); (try clear q205); (try clear q207); (try clear q212); (try clear q30); obtain ⟨kq, x4_20, HA, HJ20, HO_4, BK206, HB⟩ := hcut; have hl4_20 := (Kd.R_reads' HO_4.out).1; rw [hl4_20] at HO_4; (try simp only [hl4_20]); (try simp only [hl4_20] at BK206)
                      cases kq with
                      | zero => exact absurd HA.out (by simp [Zk.j3])
                      | succ kj20 =>
                        have H := HA.out; clear HA; simp only [Zk.j3] at H
                        by_cases c33 : ((Z5 l0 x14_1).f0) = 1
                        · rw [if_pos c33] at H; have c33b0 : (((Z5 l0 x14_1).f0) == 1) = true := beq_iff_eq.mpr c33; have c33b1 : (((Z5 l0 x14_1).f0) != 1) = false := bne_eq_false_iff_eq.mpr c33; clear c33
                          by_cases c34 : x4_20.length < 17592186044416
                          · rw [if_pos c34] at H; have LMc34 := Z2.mk c34; clear c34; obtain ⟨y214, hy214⟩ : ∃ y_ : List Int, y_ = (x4_20 ++ [((Z5 l0 x14_1).f2)]) := ⟨_, rfl⟩
                            replace H : (if (y214.length : Int) > 200 then (some false) else (Zk.l0 kj20 (wrap64 (x3_1 + (((Z5 l0 x14_1).f1).size : Int))) y214 l0 (l0.length : Int) (wrap64 (x14_1 + 1)))) = some r := by first | (rw [hy214]; with_reducible exact H) | (have H2_ := (Option.bind_some _ _).symm.trans H; rw [hy214]; with_reducible exact H2_) | (have H2_ := (Option.bind_some _ _).symm.trans H; with_reducible exact H2_) | with_reducible exact H | (rw [hy214]; exact H) | exact H
                            have Ny214 := Z2.mk hy214; clear hy214
                            by_cases c35 : (y214.length : Int) > 200
                            · rw [if_pos c35] at H; have c35b0 : decide (200 < (y214.length : Int)) = true := decide_eq_true c35; have c35b1 : decide (200 < y214.length) = true := decide_eq_true (by omega); clear c35; obtain rfl := Option.some.inj H; have hcz36_0 : wc.cell? ⟨gb206, 0, none⟩ = some (.int .i64 ((Z5 l0 x14_1).f0)) := (Zb BK206.out 0).trans rfl; have hcz36_1 : wc.cell? ⟨gb206, 1, none⟩ = some (.string ((Z5 l0 x14_1).f1)) := (Zb BK206.out 1).trans rfl; have hcz36_2 : wc.cell? ⟨gb206, 2, none⟩ = some (.int .i64 ((Z5 l0 x14_1).f2)) := (Zb BK206.out 2).trans rfl; have hcz36_3 : wc.cell? ⟨gb206, 3, none⟩ = some (.int .i64 ((Z5 l0 x14_1).f3)) := (Zb BK206.out 3).trans rfl; have hfz36_0 := Z7 BK206.out 0; have hfz36_1 := Z7 BK206.out 1; have hfz36_2 := Z7 BK206.out 2; have hfz36_3 := Z7 BK206.out 3; go_wp2_with (first | ((with_reducible refine ZB (b := .append) (xs := #[.tmp 57, .tmp 60]) rfl ?_); (try (refine ZA (by rfl) ?_; dsimp only)); at_builtin; refine Kd.R_append (Kd.int .i64) (w0 := w) w.heap.size rfl (.tmp 57) (.tmp 60) 62 3 (.int .i64 0) 8 rfl Tryd.underlying62 info3 rfl (by decide) (by omega) (.slice Ao25 x4_20.length co25) x4_20 ((Z5 l0 x14_1).f2) [.int .i64 ((Z5 l0 x14_1).f2)] (fun _ => True) (fun _ => False) rfl rfl ?aP (fun _ hk => hk.elim) ?aF ?aO ?aB ?aS ?aL ?_; (case aP => exact rfl); (case aB => exact (by repeat (first | (with_reducible first | exact HB.out | apply Z3 | apply Z0 | apply Z4 | refine Z6 ?_ GE206.out) | exact HB.out))); (case aF => exact (fun _ _ => trivial)); (case aO => exact (by (with_reducible repeat (first | apply Kd.Ze | apply Kd.Zd | apply Kd.Zl)); exact HO_4.out)); (case aS => exact (Zq (by repeat (first | (with_reducible first | exact HB.out | apply Z3 | apply Z0 | apply Z4 | refine Z6 ?_ GE206.out) | exact HB.out)))); (case aL => have := LMc34.out; omega); intro v215 w37 ho hb hg hat; rw [← Ny214.out] at ho; have n0_ := Z2.mk (ZC (g := gb206) (o := .cells #[.int .i64 ((Z5 l0 x14_1).f0), .string ((Z5 l0 x14_1).f1), .int .i64 ((Z5 l0 x14_1).f2), .int .i64 ((Z5 l0 x14_1).f3)] 43 (0, 0)) (by (with_reducible repeat (first | refine Z8 ?_ _ | refine Za ?_ | refine Z9 ?_ _)); exact BK206.out) hg (Kd.R_ne HO_4.out BK206.out (by decide))); have n1_ := Z2.mk (hb); have n2_ := Z2.mk (ho); clear BK206; clear HB; clear HO_4; have BK206 := n0_; have HB := n1_; have HO216 := n2_; clear n0_ n1_ n2_; clear ho hb hg hat; obtain ⟨Ao38, co38, eo38⟩ := Kd.R_slice HO216.out; subst eo38)); go_ret; exact ⟨by first | rfl | (simp [Zj, Zi] <;> rfl) | (simp [*, Zj, Zi] <;> rfl), by repeat (first | (with_reducible first | exact HB.out | apply Z3 | apply Z0 | apply Z4 | refine Z6 ?_ GE206.out) | exact HB.out)⟩
                            · rw [if_neg c35] at H; have c35b0 : decide (200 < (y214.length : Int)) = false := decide_eq_false c35; have c35b1 : decide (200 < y214.length) = false := decide_eq_false (by omega); clear c35; have H' := Z2.mk H; clear H; have hcz39_0 : wc.cell? ⟨gb206, 0, none⟩ = some (.int .i64 ((Z5 l0 x14_1).f0)) := (Zb BK206.out 0).trans rfl; have hcz39_1 : wc.cell? ⟨gb206, 1, none⟩ = some (.string ((Z5 l0 x14_1).f1)) := (Zb BK206.out 1).trans rfl; have hcz39_2 : wc.cell? ⟨gb206, 2, none⟩ = some (.int .i64 ((Z5 l0 x14_1).f2)) := (Zb BK206.out 2).trans rfl; have hcz39_3 : wc.cell? ⟨gb206, 3, none⟩ = some (.int .i64 ((Z5 l0 x14_1).f3)) := (Zb BK206.out 3).trans rfl; have hfz39_0 := Z7 BK206.out 0; have hfz39_1 := Z7 BK206.out 1; have hfz39_2 := Z7 BK206.out 2; have hfz39_3 := Z7 BK206.out 3; go_wp2_with (first | ((with_reducible refine ZB (b := .append) (xs := #[.tmp 57, .tmp 60]) rfl ?_); (try (refine ZA (by rfl) ?_; dsimp only)); at_builtin; refine Kd.R_append (Kd.int .i64) (w0 := w) w.heap.size rfl (.tmp 57) (.tmp 60) 62 3 (.int .i64 0) 8 rfl Tryd.underlying62 info3 rfl (by decide) (by omega) (.slice Ao25 x4_20.length co25) x4_20 ((Z5 l0 x14_1).f2) [.int .i64 ((Z5 l0 x14_1).f2)] (fun _ => True) (fun _ => False) rfl rfl ?aP (fun _ hk => hk.elim) ?aF ?aO ?aB ?aS ?aL ?_; (case aP => exact rfl); (case aB => exact (by repeat (first | (with_reducible first | exact HB.out | apply Z3 | apply Z0 | apply Z4 | refine Z6 ?_ GE206.out) | exact HB.out))); (case aF => exact (fun _ _ => trivial)); (case aO => exact (by (with_reducible repeat (first | apply Kd.Ze | apply Kd.Zd | apply Kd.Zl)); exact HO_4.out)); (case aS => exact (Zq (by repeat (first | (with_reducible first | exact HB.out | apply Z3 | apply Z0 | apply Z4 | refine Z6 ?_ GE206.out) | exact HB.out)))); (case aL => have := LMc34.out; omega); intro v215 w40 ho hb hg hat; rw [← Ny214.out] at ho; have n0_ := Z2.mk (ZC (g := gb206) (o := .cells #[.int .i64 ((Z5 l0 x14_1).f0), .string ((Z5 l0 x14_1).f1), .int .i64 ((Z5 l0 x14_1).f2), .int .i64 ((Z5 l0 x14_1).f3)] 43 (0, 0)) (by (with_reducible repeat (first | refine Z8 ?_ _ | refine Za ?_ | refine Z9 ?_ _)); exact BK206.out) hg (Kd.R_ne HO_4.out BK206.out (by decide))); have n1_ := Z2.mk (hb); have n2_ := Z2.mk (ho); clear BK206; clear HB; clear HO_4; have BK206 := n0_; have HB := n1_; have HO216 := n2_; clear n0_ n1_ n2_; clear ho hb hg hat; obtain ⟨Ao41, co41, eo41⟩ := Kd.R_slice HO216.out; subst eo41)); (try simp only [← hl4_20])
                              go_roundg kj20
                              case measure => have := HK1.out; have := HJ5.out; have := HJ20.out; omega
                              case rel => exact ⟨((wrap64 (x3_1 + (((Z5 l0 x14_1).f1).size : Int)))), (y214), (wrap64 (x14_1 + 1)), (by first | rfl | (simp; done) | (simp [*]; done)), (by first | rfl | (simp; done) | (simp [*]; done)), H', ⟨by have := HK1.out; have := HJ5.out; have := HJ20.out; omega⟩, ⟨by (try simp only [hl4_20]); (with_reducible repeat (first | apply Kd.Ze | apply Kd.Zd | apply Kd.Zl)); exact HO216.out⟩, ⟨by repeat (first | (with_reducible first | exact HB.out | apply Z3 | apply Z0 | apply Z4 | refine Z6 ?_ GE206.out) | exact HB.out)⟩⟩
                          · rw [if_neg c34] at H; exact absurd H (by simp)
                        · rw [if_neg c33] at H; have c33b0 : (((Z5 l0 x14_1).f0) == 1) = false := beq_eq_false_iff_ne.mpr c33; have c33b1 : (((Z5 l0 x14_1).f0) != 1) = true := bne_iff_ne.mpr c33; have H' := Z2.mk H; clear H; have hcz42_0 : wc.cell? ⟨gb206, 0, none⟩ = some (.int .i64 ((Z5 l0 x14_1).f0)) := (Zb BK206.out 0).trans rfl; have hcz42_1 : wc.cell? ⟨gb206, 1, none⟩ = some (.string ((Z5 l0 x14_1).f1)) := (Zb BK206.out 1).trans rfl; have hcz42_2 : wc.cell? ⟨gb206, 2, none⟩ = some (.int .i64 ((Z5 l0 x14_1).f2)) := (Zb BK206.out 2).trans rfl; have hcz42_3 : wc.cell? ⟨gb206, 3, none⟩ = some (.int .i64 ((Z5 l0 x14_1).f3)) := (Zb BK206.out 3).trans rfl; have hfz42_0 := Z7 BK206.out 0; have hfz42_1 := Z7 BK206.out 1; have hfz42_2 := Z7 BK206.out 2; have hfz42_3 := Z7 BK206.out 3; go_wp2; (try simp only [← hl4_20])
                          go_roundg kj20
                          case measure => have := HK1.out; have := HJ5.out; have := HJ20.out; omega
                          case rel => exact ⟨((wrap64 (x3_1 + (((Z5 l0 x14_1).f1).size : Int)))), (x4_20), (wrap64 (x14_1 + 1)), (by first | rfl | (simp; done) | (simp [*]; done)), (by first | rfl | (simp; done) | (simp [*]; done)), H', ⟨by have := HK1.out; have := HJ5.out; have := HJ20.out; omega⟩, ⟨by (try simp only [hl4_20]); (with_reducible repeat (first | apply Kd.Ze | apply Kd.Zd | apply Kd.Zl)); exact HO_4.out⟩, ⟨by repeat (first | (with_reducible first | exact HB.out | apply Z3 | apply Z0 | apply Z4 | refine Z6 ?_ GE206.out) | exact HB.out)⟩⟩
                  · replace c20 := Bool.eq_false_iff.mpr c20; subst c20
                    have H1 : (some false) = some r := by rw [if_neg (show ¬ (false = true) by decide)] at H; exact H
                    clear H; have H := H1; clear H1; obtain rfl := Option.some.inj H; have hcz43_0 : wc.cell? ⟨gb206, 0, none⟩ = some (.int .i64 ((Z5 l0 x14_1).f0)) := (Zb BK206.out 0).trans rfl; have hcz43_1 : wc.cell? ⟨gb206, 1, none⟩ = some (.string ((Z5 l0 x14_1).f1)) := (Zb BK206.out 1).trans rfl; have hcz43_2 : wc.cell? ⟨gb206, 2, none⟩ = some (.int .i64 ((Z5 l0 x14_1).f2)) := (Zb BK206.out 2).trans rfl; have hcz43_3 : wc.cell? ⟨gb206, 3, none⟩ = some (.int .i64 ((Z5 l0 x14_1).f3)) := (Zb BK206.out 3).trans rfl; have hfz43_0 := Z7 BK206.out 0; have hfz43_1 := Z7 BK206.out 1; have hfz43_2 := Z7 BK206.out 2; have hfz43_3 := Z7 BK206.out 3; go_wp2_with (first | ((with_reducible refine Zu (f := 46) rfl ?_); refine ZL (some 36) rfl rfl Tryd.func46 (by kernel_rfl) rfl #[.agg #[.int .i64 ((Z5 l0 x14_1).f0), .string ((Z5 l0 x14_1).f1), .int .i64 ((Z5 l0 x14_1).f2), .int .i64 ((Z5 l0 x14_1).f3)]] rfl (by (try simp only [List.map_toArray, List.map_cons, List.map_nil]); first | done | rfl | (simp only [List.length_drop, List.length_take]; rfl)) ?_; (with_reducible refine (ZQ.calls ((Z5 l0 x14_1).f0) ((Z5 l0 x14_1).f1) ((Z5 l0 x14_1).f2) ((Z5 l0 x14_1).f3) false _ (HT.out.here (by repeat (first | (with_reducible first | exact HB.out | apply Z3 | apply Z0 | apply Z4 | refine Z6 ?_ GE206.out) | exact HB.out))) A19.out).mono ?_); rintro e w44 ⟨rfl, hb⟩; refine ⟨_, rfl, ?_⟩; have n0_ := Z2.mk (Kd.R_below (by (with_reducible repeat (first | apply Kd.Ze | apply Kd.Zd | apply Kd.Zl)); exact HO_4.out) hb); have n1_ := Z2.mk (blk_below (g := gb206) (o := .cells #[.int .i64 ((Z5 l0 x14_1).f0), .string ((Z5 l0 x14_1).f1), .int .i64 ((Z5 l0 x14_1).f2), .int .i64 ((Z5 l0 x14_1).f3)] 43 (0, 0)) (by (with_reducible repeat (first | refine Z8 ?_ _ | refine Za ?_ | refine Z9 ?_ _)); exact BK206.out) hb); have n2_ := Z2.mk (Zt (by repeat (first | (with_reducible first | exact HB.out | apply Z3 | apply Z0 | apply Z4 | refine Z6 ?_ GE206.out) | exact HB.out)) hb); clear HO_4; clear BK206; clear HB; have HO_4 := n0_; have BK206 := n1_; have HB := n2_; clear n0_ n1_ n2_; (try clear hb); (try clear hb2); (try clear hk); (try clear hi))); go_ret; exact ⟨by first | rfl | (simp [Zj, Zi] <;> rfl) | (simp [*, Zj, Zi] <;> rfl), by repeat (first | (with_reducible first | exact HB.out | apply Z3 | apply Z0 | apply Z4 | refine Z6 ?_ GE206.out) | exact HB.out)⟩
            · rw [if_neg c5] at H; exact absurd H (by simp)
          · rw [if_neg c4] at H; exact absurd H (by simp)
        · rw [if_neg c3] at H; have c3b0 : decide (x14_1 < (l0.length : Int)) = false := decide_eq_false c3; clear c3; have H' := Z2.mk H; clear H; obtain ⟨Ao45, co45, eo45⟩ := Kd.R_slice HO_4.out; subst eo45; go_wp2; go_loopg [68] k1 (fun kq v68 w' => ∃ (x68_2 : Int), v68 = .int .i64 x68_2 ∧ Z2 (Zk.l2 kq x3_1 x4_1 (x4_1.length : Int) x68_2 = some r) ∧ Z2 (kq ≤ k1) ∧ Z2 (Kd.R (Kd.int .i64) 3 w' w.heap.size (fun _ => True) (.slice Ao45 x4_1.length co45) x4_1) ∧ Z2 (Below w.heap.size w w'))
          case atStart => exact ⟨(0), (by first | rfl | (simp; done) | (simp [*]; done)), H', ⟨Nat.le_refl _⟩, ⟨by (with_reducible repeat (first | apply Kd.Ze | apply Kd.Zd | apply Kd.Zl)); exact HO_4.out⟩, ⟨by repeat (first | (with_reducible first | exact HB.out | apply Z3 | apply Z0 | apply Z4) | exact HB.out)⟩⟩
          case round =>
            clear H'; (try clear c1); (try clear q1); (try clear c2); (try clear c2b0); (try clear c2b1); (try clear p2); (try clear q2); (try clear hx2); (try clear c3); (try clear c3b0); (try clear p3); (try clear q3); (try clear hx3); (try clear hf3); (try clear c4); (try clear c4b0); (try clear c5); (try clear c5b0); (try clear p6); (try clear c9); (try clear c9b0); (try clear c9b1); (try clear c11); (try clear c11b0); (try clear c12); (try clear c12b0); (try clear c13); (try clear c13b0); (try clear c13b1); (try clear c14); (try clear c14b0); (try clear c14b1); (try clear q16); (try clear c20); (try clear p20); (try clear q20); (try clear hx20); (try clear p21); (try clear q21); (try clear hx21); (try clear c25); (try clear c26); (try clear c26b0); (try clear c26b1); (try clear c28); (try clear c28b0); (try clear c29); (try clear c29b0); (try clear p30); (try clear q30); (try clear hx30); (try clear hf30); (try clear c33); (try clear c33b0); (try clear c33b1); (try clear c34); (try clear c35); (try clear c35b0); (try clear c35b1); (try clear hcz22_0); (try clear hcz22_1); (try clear hcz22_2); (try clear hcz22_3); (try clear hcz24_0); (try clear hcz24_1); (try clear hcz24_2); (try clear hcz24_3); (try clear hcz36_0); (try clear hcz36_1); (try clear hcz36_2); (try clear hcz36_3); (try clear hcz39_0); (try clear hcz39_1); (try clear hcz39_2); (try clear hcz39_3); (try clear hcz42_0); (try clear hcz42_1); (try clear hcz42_2); (try clear hcz42_3); (try clear hcz43_0); (try clear hcz43_1); (try clear hcz43_2); (try clear hcz43_3); (try clear hcz8_0); (try clear hcz8_1); (try clear hcz8_2); (try clear hcz8_3); (try clear hfz22_0); (try clear hfz22_1); (try clear hfz22_2); (try clear hfz22_3); (try clear hfz24_0); (try clear hfz24_1); (try clear hfz24_2); (try clear hfz24_3); (try clear hfz36_0); (try clear hfz36_1); (try clear hfz36_2); (try clear hfz36_3); (try clear hfz39_0); (try clear hfz39_1); (try clear hfz39_2); (try clear hfz39_3); (try clear hfz42_0); (try clear hfz42_1); (try clear hfz42_2); (try clear hfz42_3); (try clear hfz43_0); (try clear hfz43_1); (try clear hfz43_2); (try clear hfz43_3); (try clear hfz8_0); (try clear hfz8_1); (try clear hfz8_2); (try clear hfz8_3); (try clear hx205_0); (try clear hx205_1); (try clear hx205_2); (try clear hx205_3); (try clear hx207_0); (try clear hx212_0); (try clear hx30_0); (try clear p2); (try clear p20); (try clear p205); (try clear p207); (try clear p21); (try clear p212); (try clear p3); (try clear p30); (try clear p6); (try clear q1); (try clear q16); (try clear q2); (try clear q20); (try clear q205); (try clear q207); (try clear q21); (try clear q212); (try clear q3); (try clear q30); obtain ⟨x68_2, rfl, HA, HK2, HO_66, HB⟩ := hrel
            cases gk with
            | zero => exact absurd HA.out (by simp [Zk.l2])
            | succ k2 =>
              have H := HA.out; clear HA; simp only [Zk.l2] at H
              by_cases c46 : x68_2 < (x4_1.length : Int)
              · rw [if_pos c46] at H; have c46b0 : decide (x68_2 < (x4_1.length : Int)) = true := decide_eq_true c46; clear c46
                by_cases c47 : 0 ≤ x68_2
                · rw [if_pos c47] at H; have c47b0 : decide (0 ≤ x68_2) = true := decide_eq_true c47; clear c47
                  by_cases c48 : x68_2 < (x4_1.length : Int)
                  · rw [if_pos c48] at H; have c48b0 : decide (x68_2 < (x4_1.length : Int)) = true := decide_eq_true c48; clear c48
                    by_cases c49 : (rd x4_1 x68_2) > 0
                    · rw [if_pos c49] at H; have c49b0 : decide (0 < (rd x4_1 x68_2)) = true := decide_eq_true c49; clear c49; obtain rfl := Option.some.inj H; have p217 : 0 ≤ (x68_2 : Int) := of_decide_eq_true (by first | (with_reducible assumption) | assumption); have q217 : x68_2 < (x4_1.length : Int) := of_decide_eq_true (by first | (with_reducible assumption) | assumption); obtain ⟨ad217, e217, hx217_0⟩ := Kd.at_int (Kd.R_reads' HO_66.out).2.2 x68_2 p217 q217; cases e217; replace p217 := eq_true p217; replace q217 := eq_true q217; go_wp2; go_ret; exact ⟨by first | rfl | (simp [Zj, Zi] <;> rfl) | (simp [*, Zj, Zi] <;> rfl), by repeat (first | (with_reducible first | exact HB.out | apply Z3 | apply Z0 | apply Z4) | exact HB.out)⟩
                    · rw [if_neg c49] at H; have c49b0 : decide (0 < (rd x4_1 x68_2)) = false := decide_eq_false c49; clear c49; have H' := Z2.mk H; clear H; have p217 : 0 ≤ (x68_2 : Int) := of_decide_eq_true (by first | (with_reducible assumption) | assumption); have q217 : x68_2 < (x4_1.length : Int) := of_decide_eq_true (by first | (with_reducible assumption) | assumption); obtain ⟨ad217, e217, hx217_0⟩ := Kd.at_int (Kd.R_reads' HO_66.out).2.2 x68_2 p217 q217; cases e217; replace p217 := eq_true p217; replace q217 := eq_true q217; go_wp2
                      go_roundg k2
                      case measure => have := HK1.out; have := HK2.out; omega
                      case rel => exact ⟨(wrap64 (x68_2 + 1)), (by first | rfl | (simp; done) | (simp [*]; done)), H', ⟨by have := HK1.out; have := HK2.out; omega⟩, ⟨by (with_reducible repeat (first | apply Kd.Ze | apply Kd.Zd | apply Kd.Zl)); exact HO_66.out⟩, ⟨by repeat (first | (with_reducible first | exact HB.out | apply Z3 | apply Z0 | apply Z4) | exact HB.out)⟩⟩
                  · rw [if_neg c48] at H; exact absurd H (by simp)
                · rw [if_neg c47] at H; exact absurd H (by simp)
              · rw [if_neg c46] at H; have c46b0 : decide (x68_2 < (x4_1.length : Int)) = false := decide_eq_false c46; clear c46; obtain rfl := Option.some.inj H; go_wp2; go_ret; exact ⟨by first | rfl | (simp [Zj, Zi] <;> rfl) | (simp [*, Zj, Zi] <;> rfl), by repeat (first | (with_reducible first | exact HB.out | apply Z3 | apply Z0 | apply Z4) | exact HB.out)⟩
end Go.Proofs.YtbeelgaganbblaaDoor.PFnExactGoodTree
namespace Go.Proofs.YtbeelgaganbblaaDoor.Gp
open Go.RowKit Go.Proofs.YtbeelgaganbblaaDoor Go.Proofs.YtbeelgaganbblaaDoorW.PrintWords Go.Proofs.YtbeelgaganbblaaDoor.By Go.Proofs.YtbeelgaganbblaaDoor.Tok Go.Proofs.YtbeelgaganbblaaDoor.Tree Go.Proofs.YtbeelgaganbblaaDoor.Gn Go.Proofs.YtbeelgaganbblaaDoor.PFnExactGoodTree
set_option linter.unusedVariables false
set_option linter.unusedSimpArgs false
set_option maxRecDepth 100000
def Evt {α : Type} (f : Nat → Option α) (r : α) : Prop := ∃ k0, ∀ k, k0 ≤ k → f k = some r
theorem Evt.pure {α : Type} {f : Nat → Option α} {r : α} (h : ∀ k, f k = some r) : Evt f r := ⟨0, fun k _ => h k⟩
theorem Evt.succ {α : Type} {f g : Nat → Option α} {r : α} (h : ∀ k, f (k + 1) = g k) (hg : Evt g r) : Evt f r := by
  obtain ⟨k0, hk⟩ := hg; refine ⟨k0 + 1, fun k hle => ?_⟩; obtain ⟨j, rfl⟩ : ∃ j, k = j + 1 := ⟨k - 1, by omega⟩; rw [h]; exact hk j (by omega)
theorem Evt.same {α : Type} {f g : Nat → Option α} {r : α} (h : ∀ k, f k = g k) (hg : Evt g r) : Evt f r := by
  obtain ⟨k0, hk⟩ := hg; exact ⟨k0, fun k hle => by rw [h]; exact hk k hle⟩
theorem Evt.bind {α β : Type} {f : Nat → Option α} {g : Nat → α → Option β} {a : α} {r : β} (hf : Evt f a) (hg : Evt (fun k => g k a) r) : Evt (fun k => (f k).bind (g k)) r := by
  obtain ⟨k0, h0⟩ := hf; obtain ⟨k1, h1⟩ := hg; refine ⟨max k0 k1, fun k hle => ?_⟩; show (f k).bind (g k) = some r; rw [h0 k (by omega)]; exact h1 k (by omega)
theorem Evt.get {α : Type} {f : Nat → Option α} {r : α} (h : Evt f r) : ∃ k, f k = some r := by
  obtain ⟨k0, hk⟩ := h; exact ⟨k0, hk k0 (Nat.le_refl _)⟩
theorem Evt.done {α : Type} {f : Nat → Option α} {r : α} (h : ∀ k, f (k + 1) = some r) : Evt f r := Evt.succ (g := fun _ => some r) h (Evt.pure fun _ => rfl)
theorem wrap_ok {z : Int} (h0 : -9223372036854775808 ≤ z) (h1 : z ≤ 9223372036854775807) : wrap64 z = z := by unfold wrap64; omega
theorem digB (c : UInt8) : impl_digitB.f (c.toNat : Int) = some (dig c) := by
  unfold impl_digitB.f dig
  by_cases h : (c.toNat : Int) ≥ 48
  · rw [if_pos h]; congr 1; rw [decide_eq_true (by omega : 48 ≤ c.toNat), Bool.true_and]; exact decide_eq_decide.2 (by omega)
  · rw [if_neg h, decide_eq_false (by omega : ¬ 48 ≤ c.toNat), Bool.false_and]
theorem digS (c : UInt8) : spec_l3Digit.f (c.toNat : Int) = some (dig c) := by
  unfold spec_l3Digit.f dig
  by_cases h : (c.toNat : Int) ≥ 48
  · rw [if_pos h]; congr 1; rw [decide_eq_true (by omega : 48 ≤ c.toNat), Bool.true_and]; exact decide_eq_decide.2 (by omega)
  · rw [if_neg h, decide_eq_false (by omega : ¬ 48 ≤ c.toNat), Bool.false_and]
theorem nameB_of (c : UInt8) : impl_nameB.f (c.toNat : Int) = some (nm c) := by
  have := c.toNat_lt; unfold impl_nameB.f; rw [if_pos (by omega)]; rfl
theorem nameS_of (c : UInt8) : ZR.f (c.toNat : Int) = some (nm c) := by
  have := c.toNat_lt; unfold ZR.f; rw [if_pos (by omega)]; rfl
def plainT (l : List UInt8) : Bool := decide (l ≠ []) && !((l[0]?).any dig) && l.all nm
theorem bare_l0 (s : ByteArray) (hs : s.size ≤ 1048576) : ∀ (d i : Nat), i ≤ s.size → s.size - i = d → Evt (fun k => ZD.l0 k s (s.size : Int) (i : Int)) (((L s).drop i).all nm) := by
  intro d
  induction d with
  | zero =>
    intro i hi hd; rw [drop_all s i (by omega), List.all_nil]; exact Evt.done (fun k => by simp only [ZD.l0]; rw [if_neg (by omega)])
  | succ d ih =>
    intro i hi hd; have hlt : i < s.size := (by omega); have hw1 : wrap64 ((i : Int) + 1) = ((i + 1 : Nat) : Int) := wrap_ok (by omega) (by omega); rw [drop_cons s i hlt, List.all_cons]
    cases hb : nm ((L s)[i]'(by rw [L_length]; exact hlt)) with
    | false => exact Evt.done (fun k => by simp only [ZD.l0]; rw [if_pos (by omega), if_pos (by omega), if_pos (by omega), bt_get s i hlt, nameB_of, hb]; rfl)
    | true => rw [Bool.true_and]; exact Evt.succ (fun k => by simp only [ZD.l0]; rw [if_pos (by omega), if_pos (by omega), if_pos (by omega), bt_get s i hlt, nameB_of, hb, Option.bind_some, if_pos rfl, hw1]) (ih (i + 1) (by omega) (by omega))
theorem first_of (s : ByteArray) (h : 0 < s.size) : ∃ x m, L s = x :: m ∧ bt s 0 = (x.toNat : Int) := by
  have hc := drop_cons s 0 h; rw [List.drop_zero] at hc; obtain ⟨x, m, e⟩ : ∃ x m, L s = x :: m := ⟨_, _, hc⟩; refine ⟨x, m, e, ?_⟩; have := bt_get s 0 h; rw [show ((0 : Nat) : Int) = 0 from rfl] at this; rw [this]; simp only [e]; rfl
theorem bare_is (s : ByteArray) (hs : s.size ≤ 1048576) : Evt (fun k => ZD.f k s) (plainT (L s)) := by
  have jt : Evt (fun k => ZD.j0 k s true) false := Evt.done (fun k => by simp only [ZD.j0]; rw [if_pos trivial]); have jf : Evt (fun k => ZD.j0 k s false) ((L s).all nm) := Evt.succ (fun k => by simp only [ZD.j0]; rw [if_neg (by decide)]; rfl) (bare_l0 s hs _ 0 (by omega) rfl)
  by_cases h0 : s.size = 0
  · rw [List.length_eq_zero_iff.1 ((L_length s).trans h0)]; exact Evt.same (fun k => by unfold ZD.f; rw [if_pos ((nil_iff s).2 h0)]) jt
  · obtain ⟨x, m, e, hx⟩ := first_of s (by omega); rw [e] at jf ⊢; show Evt _ (decide (x :: m ≠ []) && !(Option.any dig (some x)) && (x :: m).all nm); rw [decide_eq_true (by simp), Bool.true_and, Option.any_some]
    cases hd : dig x with
    | true => rw [Bool.not_true, Bool.false_and]; exact Evt.same (fun k => by unfold ZD.f; rw [if_neg (fun h => h0 ((nil_iff s).1 h)), if_pos (by omega), hx, digB, hd, Option.bind_some]) jt
    | false => rw [Bool.not_false, Bool.true_and]; exact Evt.same (fun k => by unfold ZD.f; rw [if_neg (fun h => h0 ((nil_iff s).1 h)), if_pos (by omega), hx, digB, hd, Option.bind_some]) jf
theorem plain_l0 (s : ByteArray) (hs : s.size ≤ 1048576) : ∀ (d i : Nat), i ≤ s.size → s.size - i = d → Evt (fun k => Zx.l0 k s (i : Int)) (((L s).drop i).all nm) := by
  intro d
  induction d with
  | zero =>
    intro i hi hd; rw [drop_all s i (by omega), List.all_nil]; exact Evt.done (fun k => by simp only [Zx.l0]; rw [if_neg (by omega)])
  | succ d ih =>
    intro i hi hd; have hlt : i < s.size := (by omega); have hw1 : wrap64 ((i : Int) + 1) = ((i + 1 : Nat) : Int) := wrap_ok (by omega) (by omega); rw [drop_cons s i hlt, List.all_cons]
    cases hb : nm ((L s)[i]'(by rw [L_length]; exact hlt)) with
    | false => exact Evt.done (fun k => by simp only [Zx.l0]; rw [if_pos (by omega), if_pos (by omega), bt_get s i hlt, nameS_of, hb]; rfl)
    | true => rw [Bool.true_and]; exact Evt.succ (fun k => by simp only [Zx.l0]; rw [if_pos (by omega), if_pos (by omega), bt_get s i hlt, nameS_of, hb, Option.bind_some, if_pos rfl, hw1]) (ih (i + 1) (by omega) (by omega))
theorem plain_is (s : ByteArray) (hs : s.size ≤ 1048576) : Evt (fun k => Zx.f k s) (plainT (L s)) := by
  have jt : Evt (fun k => Zx.j0 k s true) false := Evt.done (fun k => by simp only [Zx.j0]; rw [if_pos trivial]); have jf : Evt (fun k => Zx.j0 k s false) ((L s).all nm) := Evt.succ (fun k => by simp only [Zx.j0]; rw [if_neg (by decide)]; rfl) (plain_l0 s hs _ 0 (by omega) rfl)
  by_cases h0 : s.size = 0
  · rw [List.length_eq_zero_iff.1 ((L_length s).trans h0)]; exact Evt.same (fun k => by unfold Zx.f; rw [if_pos (by omega)]) jt
  · obtain ⟨x, m, e, hx⟩ := first_of s (by omega); rw [e] at jf ⊢; show Evt _ (decide (x :: m ≠ []) && !(Option.any dig (some x)) && (x :: m).all nm); rw [decide_eq_true (by simp), Bool.true_and, Option.any_some]
    cases hd : dig x with
    | true => rw [Bool.not_true, Bool.false_and]; exact Evt.same (fun k => by unfold Zx.f; rw [if_neg (by omega), if_pos (by omega), hx, digS, hd, Option.bind_some]) jt
    | false => rw [Bool.not_false, Bool.true_and]; exact Evt.same (fun k => by unfold Zx.f; rw [if_neg (by omega), if_pos (by omega), hx, digS, hd, Option.bind_some]) jf
theorem L_append (a b : ByteArray) : L (a ++ b) = L a ++ L b := by unfold L; rw [ByteArray.data_append, Array.toList_append]
theorem bars_L (s : ByteArray) : L ((⟨#[124]⟩ : ByteArray) ++ s ++ (⟨#[124]⟩ : ByteArray)) = 124 :: (L s ++ [124]) := by
  rw [L_append, L_append]; rfl
def nd (x : S43) : Nd := ⟨x.f0, L x.f1, x.f2⟩
def nds (l : List S43) : List Nd := l.map nd
theorem leaf_name (n : Int) (l : List UInt8) : leafT ⟨2, l, n⟩ = if plainT l = true then l else 124 :: (l ++ [124]) := by
  unfold leafT plainT; rfl
theorem sym_is (s : ByteArray) (hs : s.size ≤ 1048576) (n : Int) : ∃ r, Evt (fun k => impl_symText.f k s) r ∧ L r = leafT ⟨2, L s, n⟩ := by
  rw [leaf_name]
  cases hp : plainT (L s) with
  | true =>
    refine ⟨s, ?_, rfl⟩; have := bare_is s hs; rw [hp] at this; exact Evt.bind this (Evt.pure fun k => by rw [if_pos rfl])
  | false =>
    refine ⟨(⟨#[124]⟩ : ByteArray) ++ s ++ (⟨#[124]⟩ : ByteArray), ?_, bars_L s⟩; have := bare_is s hs; rw [hp] at this
    have e1 : ((⟨#[124]⟩ : ByteArray) ++ s).size = 1 + s.size := by rw [ByteArray.size_append]; rfl
    exact Evt.bind this (Evt.pure fun k => by rw [if_neg (by decide), if_pos (by omega), if_pos (by omega)])
theorem word_l0 (s : ByteArray) (hs : s.size ≤ 1048576) : ∀ (d i : Nat), i ≤ s.size → s.size - i = d → Evt (fun k => Zr.l0 k s (i : Int)) (((L s).drop i).all inb) := by
  intro d
  induction d with
  | zero =>
    intro i hi hd; rw [drop_all s i (by omega), List.all_nil]; exact Evt.done (fun k => by simp only [Zr.l0]; rw [if_neg (by omega)])
  | succ d ih =>
    intro i hi hd; have hlt : i < s.size := (by omega); have hw1 : wrap64 ((i : Int) + 1) = ((i + 1 : Nat) : Int) := wrap_ok (by omega) (by omega); rw [drop_cons s i hlt, List.all_cons]; have hbt := bt_get s i hlt; generalize hc : (L s)[i]'(by rw [L_length]; exact hlt) = c at hbt ⊢
    cases hb : inb c with
    | false =>
      refine Evt.done (fun k => ?_); simp only [Zr.l0]; rw [if_pos (by omega), if_pos (by omega), hbt, Bool.false_and]
      rcases inb_no hb rfl with h | h | h | h
      · rw [if_pos h]
      · by_cases h1 : (c.toNat : Int) < 32
        · rw [if_pos h1]
        · rw [if_neg h1, if_pos h]
      · rw [if_neg (by omega), if_neg (by omega), if_pos h]
      · rw [if_neg (by omega), if_neg (by omega), if_neg (by omega), if_pos h]
    | true =>
      obtain ⟨h1, h2, h3, h4⟩ := inb_yes hb rfl; rw [Bool.true_and]; exact Evt.succ (fun k => by simp only [Zr.l0]; rw [if_pos (by omega), if_pos (by omega), hbt, if_neg (by omega), if_neg (by omega), if_neg h3, if_neg h4, hw1]) (ih (i + 1) (by omega) (by omega))
theorem inq_yes {c : UInt8} (h : inq c = true) : (c.toNat : Int) = 10 ∨ (¬ (c.toNat : Int) = 10 ∧ 32 ≤ (c.toNat : Int) ∧ (c.toNat : Int) ≤ 126) := by
  rw [← inqI_of] at h; unfold inqI at h; simp only [Bool.or_eq_true, Bool.and_eq_true, decide_eq_true_eq] at h; omega
theorem inq_no {c : UInt8} (h : inq c = false) : ¬ (c.toNat : Int) = 10 ∧ ((c.toNat : Int) < 32 ∨ 126 < (c.toNat : Int)) := by
  rw [← inqI_of] at h; unfold inqI at h; simp only [Bool.or_eq_false_iff, Bool.and_eq_false_iff, decide_eq_false_iff_not] at h; omega
theorem word_l1 (s : ByteArray) (hs : s.size ≤ 1048576) : ∀ (d i : Nat), i ≤ s.size → s.size - i = d → Evt (fun k => Zr.l1 k s (i : Int)) (((L s).drop i).all inq) := by
  intro d
  induction d with
  | zero =>
    intro i hi hd; rw [drop_all s i (by omega), List.all_nil]; exact Evt.done (fun k => by simp only [Zr.l1]; rw [if_neg (by omega)])
  | succ d ih =>
    intro i hi hd; have hlt : i < s.size := (by omega); have hw1 : wrap64 ((i : Int) + 1) = ((i + 1 : Nat) : Int) := wrap_ok (by omega) (by omega); rw [drop_cons s i hlt, List.all_cons]; have hbt := bt_get s i hlt; generalize hc : (L s)[i]'(by rw [L_length]; exact hlt) = c at hbt ⊢
    cases hb : inq c with
    | false =>
      refine Evt.done (fun k => ?_); simp only [Zr.l1]; rw [if_pos (by omega), if_pos (by omega), hbt, Bool.false_and]; obtain ⟨h0, h⟩ := inq_no hb; rw [if_neg h0]
      by_cases h1 : (c.toNat : Int) < 32
      · rw [if_pos h1]
      · rw [if_neg h1, if_pos (by omega)]
    | true =>
      rw [Bool.true_and]
      rcases inq_yes hb with h | ⟨h0, h1, h2⟩
      · exact Evt.succ (fun k => by simp only [Zr.l1]; rw [if_pos (by omega), if_pos (by omega), hbt, if_pos h, hw1]) (ih (i + 1) (by omega) (by omega))
      · exact Evt.succ (fun k => by simp only [Zr.l1]; rw [if_pos (by omega), if_pos (by omega), hbt, if_neg h0, if_neg (by omega), if_neg (by omega), hw1]) (ih (i + 1) (by omega) (by omega))
theorem word_l2 (s : ByteArray) (hs : s.size ≤ 1048576) : ∀ (d i : Nat), i ≤ s.size → s.size - i = d → Evt (fun k => Zr.l2 k s (i : Int)) (((L s).drop i).all nm && decide (0 < s.size)) := by
  intro d
  induction d with
  | zero =>
    intro i hi hd; rw [drop_all s i (by omega), List.all_nil, Bool.true_and]; exact Evt.done (fun k => by simp only [Zr.l2]; rw [if_neg (by omega)]; congr 1; exact decide_eq_decide.2 (by omega))
  | succ d ih =>
    intro i hi hd; have hlt : i < s.size := (by omega); have hw1 : wrap64 ((i : Int) + 1) = ((i + 1 : Nat) : Int) := wrap_ok (by omega) (by omega); rw [drop_cons s i hlt, List.all_cons]; have hbt := bt_get s i hlt; generalize hc : (L s)[i]'(by rw [L_length]; exact hlt) = c at hbt ⊢
    cases hb : nm c with
    | false => exact Evt.done (fun k => by simp only [Zr.l2]; rw [if_pos (by omega), if_pos (by omega), hbt, nameS_of, hb]; rfl)
    | true =>
      rw [Bool.true_and]; exact Evt.succ (fun k => by simp only [Zr.l2]; rw [if_pos (by omega), if_pos (by omega), hbt, nameS_of, hb, Option.bind_some, if_pos rfl, hw1]) (ih (i + 1) (by omega) (by omega))
theorem bin_yes {c : UInt8} (h : bin c = true) : (c.toNat : Int) = 48 ∨ (¬ (c.toNat : Int) = 48 ∧ (c.toNat : Int) = 49) := by
  rw [← binI_of] at h; unfold binI at h; simp only [Bool.or_eq_true, decide_eq_true_eq] at h; omega
theorem bin_no {c : UInt8} (h : bin c = false) : ¬ (c.toNat : Int) = 48 ∧ ¬ (c.toNat : Int) = 49 := by
  rw [← binI_of] at h; unfold binI at h; simp only [Bool.or_eq_false_iff, decide_eq_false_iff_not] at h; exact h
theorem word_l3 (s : ByteArray) (hs : s.size ≤ 1048576) : ∀ (d i : Nat), i ≤ s.size → s.size - i = d → Evt (fun k => Zr.l3 k s (i : Int)) (((L s).drop i).all bin && decide (0 < s.size)) := by
  intro d
  induction d with
  | zero =>
    intro i hi hd; rw [drop_all s i (by omega), List.all_nil, Bool.true_and]; exact Evt.done (fun k => by simp only [Zr.l3]; rw [if_neg (by omega)]; congr 1; exact decide_eq_decide.2 (by omega))
  | succ d ih =>
    intro i hi hd; have hlt : i < s.size := (by omega); have hw1 : wrap64 ((i : Int) + 1) = ((i + 1 : Nat) : Int) := wrap_ok (by omega) (by omega); rw [drop_cons s i hlt, List.all_cons]; have hbt := bt_get s i hlt; generalize hc : (L s)[i]'(by rw [L_length]; exact hlt) = c at hbt ⊢
    cases hb : bin c with
    | false =>
      obtain ⟨h1, h2⟩ := bin_no hb; exact Evt.done (fun k => by simp only [Zr.l3]; rw [if_pos (by omega), if_pos (by omega), hbt, if_neg h1, if_neg h2]; rfl)
    | true =>
      rw [Bool.true_and]
      rcases bin_yes hb with h | ⟨h0, h⟩
      · exact Evt.succ (fun k => by simp only [Zr.l3]; rw [if_pos (by omega), if_pos (by omega), hbt, if_pos h, hw1]) (ih (i + 1) (by omega) (by omega))
      · exact Evt.succ (fun k => by simp only [Zr.l3]; rw [if_pos (by omega), if_pos (by omega), hbt, if_neg h0, if_pos h, hw1]) (ih (i + 1) (by omega) (by omega))
theorem cut_spec {l : List UInt8} (h : (Lib.cut l [46]).2.2 = true) : ∃ a b, l = a ++ 46 :: b ∧ (Lib.cut l [46]).1 = a ∧ (Lib.cut l [46]).2.1 = b := by
  unfold Lib.cut at h ⊢
  by_cases h0 : 0 ≤ Lib.index l [46]
  · rw [if_pos h0]
    rcases Lib.index_spec l [46] with ⟨h1, _⟩ | ⟨i, h1, h2, h3, _⟩
    · omega
    · rw [h1, Int.toNat_natCast]; unfold Lib.occAt at h3; obtain ⟨t, ht⟩ := List.isPrefixOf_iff_prefix.1 h3; have ht2 : l.drop i = 46 :: t := ht.symm
      have e : l.drop (i + ([46] : List UInt8).length) = t := by
        show l.drop (i + 1) = t; rw [← List.drop_drop, ht2]; rfl
      exact ⟨l.take i, t, by rw [← ht2, List.take_append_drop], rfl, e⟩
  · rw [if_neg h0] at h; cases h
theorem index_dig : ∀ (a b : List UInt8), a.all dig = true → Lib.index (a ++ 46 :: b) [46] = (a.length : Nat)
  | [], b, _ => by rw [Lib.index_one]; simp [Lib.indexByte]
  | c :: a, b, h => by
    rw [List.all_cons, Bool.and_eq_true] at h; have ih := index_dig a b h.2; rw [Lib.index_one] at ih ⊢; have e : (c == (46 : UInt8)) = false := beq_eq_false_iff_ne.2 (fun e => by rw [e] at h; exact absurd h.1 (by decide)); rw [List.cons_append]; unfold Lib.indexByte; simp only [e]
    simp [ih]
theorem cut_dig {a b : List UInt8} (h : a.all dig = true) : Lib.cut (a ++ 46 :: b) [46] = (a, b, true) := by
  unfold Lib.cut; rw [index_dig a b h, if_pos (by omega), Int.toNat_natCast, List.take_left]; show (a, (a ++ 46 :: b).drop (a.length + 1), true) = _; rw [← List.drop_drop, List.drop_left]; rfl
theorem all_takeWhile (p : UInt8 → Bool) (l : List UInt8) : (l.takeWhile p).all p = true := by
  induction l with
  | nil => rfl
  | cons c l ih =>
    rw [List.takeWhile_cons]
    split
    · rename_i h; rw [List.all_cons, h, ih]; rfl
    · rfl
theorem head_dropWhile {p : UInt8 → Bool} {l : List UInt8} {c : UInt8} {q : List UInt8} (h : l.dropWhile p = c :: q) : p c = false := by
  induction l with
  | nil => cases h
  | cons a l ih =>
    rw [List.dropWhile_cons] at h
    split at h
    · exact ih h
    · rename_i hn
      obtain ⟨rfl, _⟩ := List.cons.inj h
      simpa using hn
theorem tw_stop {p q : List UInt8} {c : UInt8} (hp : p.all dig = true) (hc : dig c = false) : (p ++ c :: q).takeWhile dig = p := by
  induction p with
  | nil => rw [List.nil_append, List.takeWhile_cons, hc]; rfl
  | cons a p ih =>
    rw [List.all_cons, Bool.and_eq_true] at hp; rw [List.cons_append, List.takeWhile_cons, hp.1, if_pos rfl, ih hp.2]
theorem decT_no {l p q : List UInt8} {c : UInt8} (hp : p.all dig = true) (hl : l = p ++ c :: q) (hc : dig c = false) (h46 : c ≠ 46) : decT l = false := by
  cases hd : decT l with
  | false => rfl
  | true =>
    exfalso
    unfold decT at hd; rw [Bool.and_eq_true, Bool.and_eq_true, Bool.and_eq_true] at hd; obtain ⟨a, b, e1, e2, e3⟩ := cut_spec hd.1.1.1
    have ha : a.all dig = true := by
      have := hd.1.1.2; rw [e2] at this; unfold wholeT at this; rw [Bool.and_eq_true] at this; exact this.2
    rw [hl] at e1; have t1 : (p ++ c :: q).takeWhile dig = p := tw_stop hp hc; have t2 : (a ++ 46 :: b).takeWhile dig = a := tw_stop ha (by decide)
    have : p = a := by rw [← t1, e1, t2]
    subst this; have := List.append_cancel_left e1; exact h46 (List.cons.inj this).1
theorem decT_digs {l : List UInt8} (h : l.all dig = true) : decT l = false := by
  cases hd : decT l with
  | false => rfl
  | true =>
    exfalso
    unfold decT at hd; rw [Bool.and_eq_true, Bool.and_eq_true, Bool.and_eq_true] at hd; obtain ⟨a, b, e1, _⟩ := cut_spec hd.1.1.1; rw [e1, List.all_append, List.all_cons, show dig 46 = false by decide] at h
    simp at h
theorem decT_dot {p q : List UInt8} (hp : p.all dig = true) : decT (p ++ 46 :: q) = (wholeT p && decide (q ≠ []) && q.all dig) := by
  unfold decT; rw [cut_dig hp]; simp
theorem scan_len (p : UInt8 → Bool) (l : List UInt8) : decide (scan p l = l.length) = l.all p := by
  induction l with
  | nil => rfl
  | cons c l ih =>
    cases hc : p c with
    | false => rw [scan_no hc, List.all_cons, hc, Bool.false_and]; simp
    | true => rw [scan_yes hc, List.all_cons, hc, Bool.true_and, ← ih]; exact decide_eq_decide.2 (by rw [List.length_cons]; omega)
theorem num_tok (s : ByteArray) (x : UInt8) (m : List UInt8) (e : L s = x :: m) (hd : dig x = true) :
    ((Tok.tok s 0).1 = 3 ∧ (Tok.tok s 0).2.2 = (s.size : Int) ↔ wholeT (L s) = true) ∧ ((Tok.tok s 0).1 = 4 ∧ (Tok.tok s 0).2.2 = (s.size : Int) ↔ decT (L s) = true) := by
  have hsz : s.size = m.length + 1 := by rw [← L_length, e]; rfl
  have ht : Tok.tok s 0 = numeral s 0 := by
    unfold Tok.tok; rw [e]; show (if x = 34 then _ else if x = 124 then _ else if x = 58 then _ else if x = 35 then _ else if dig x = true then _ else _) = _; rw [if_neg (by intro h; rw [h] at hd; exact absurd hd (by decide)), if_neg (by intro h; rw [h] at hd; exact absurd hd (by decide)), if_neg (by intro h; rw [h] at hd; exact absurd hd (by decide)), if_neg (by intro h; rw [h] at hd; exact absurd hd (by decide)), if_pos hd]
  have hk : 0 + 1 + scan dig ((L s).drop (0 + 1)) = scan dig (L s) := by
    rw [e, scan_yes hd]; show 0 + 1 + scan dig m = _; omega
  have hp := all_takeWhile dig (L s); have hsc : scan dig (L s) = ((L s).takeWhile dig).length := rfl; have hsplit : L s = (L s).takeWhile dig ++ (L s).dropWhile dig := (List.takeWhile_append_dropWhile (p := dig)).symm
  have h1 : 1 ≤ scan dig (L s) := by rw [e, scan_yes hd]; omega
  have h48 : ∀ p r, L s = p ++ r → 1 ≤ p.length → (p[0]? = some 48 ↔ (L s)[0]? = some 48) := by
    intro p r hpr hl; rw [hpr, List.getElem?_append_left (by omega)]
  rw [ht]; unfold numeral; simp only; rw [hk]
  cases hr : (L s).dropWhile dig with
  | nil =>
    rw [hr, List.append_nil] at hsplit
    have hall : (L s).all dig = true := by rw [hsplit]; exact hp
    have hlen : scan dig (L s) = s.size := by rw [hsc, ← hsplit, L_length]
    have hw : wholeT (L s) = !(decide ((L s)[0]? = some 48) && decide (1 < s.size)) := by
      unfold wholeT; rw [hall, Bool.and_true, L_length, decide_eq_true (by rw [e]; simp), Bool.true_and]
    rw [decT_digs hall, hw, hlen]
    by_cases hz : 0 + 1 < s.size ∧ (L s)[0]? = some 48
    · rw [if_pos hz, decide_eq_true hz.2, decide_eq_true (by omega : 1 < s.size)]; exact ⟨⟨fun h => absurd h.1 (by decide), fun h => absurd h (by decide)⟩, ⟨fun h => absurd h.1 (by decide), fun h => absurd h (by decide)⟩⟩
    · rw [if_neg hz, if_neg (by rw [get_end s s.size (Nat.le_refl _)]; intro h; exact absurd h.1 (by simp))]; refine ⟨⟨fun _ => ?_, fun _ => ⟨rfl, rfl⟩⟩, ⟨fun h => absurd (show (3 : Int) = 4 from h.1) (by decide), fun h => absurd h (by decide)⟩⟩; rw [Bool.not_eq_true', Bool.and_eq_false_iff, decide_eq_false_iff_not, decide_eq_false_iff_not]
      by_cases h0 : (L s)[0]? = some 48
      · right; intro h2; exact hz ⟨by omega, h0⟩
      · left; exact h0
  | cons c q =>
    rw [hr] at hsplit; have hcd := head_dropWhile hr; generalize hP : (L s).takeWhile dig = p at hp hsc hsplit
    have hpl : p.length < s.size := by rw [← L_length, hsplit, List.length_append, List.length_cons]; omega
    have hsq : s.size = p.length + 1 + q.length := by rw [← L_length, hsplit, List.length_append, List.length_cons]; omega
    have hw : wholeT (L s) = false := by
      unfold wholeT; rw [hsplit, List.all_append, List.all_cons, hcd]; simp
    have hat : (L s)[scan dig (L s)]? = some c := by
      rw [hsc]; conv => lhs; rw [hsplit]
      rw [List.getElem?_append_right (Nat.le_refl _), Nat.sub_self]; rfl
    rw [hw]
    have n3 : ∀ z : Int, (3 : Int) = 3 ∧ ((scan dig (L s) : Nat) : Int) = (s.size : Int) ↔ false = true := fun _ => ⟨fun h => by have := h.2; rw [hsc] at this; omega, fun h => by cases h⟩
    by_cases h46 : c = 46
    · subst h46
      have hd2 : decT (L s) = (wholeT p && decide (q ≠ []) && q.all dig) := by rw [hsplit]; exact decT_dot hp
      have hnext : (L s)[scan dig (L s) + 1]? = q[0]? := by
        rw [hsc]; conv => lhs; rw [hsplit]
        rw [List.getElem?_append_right (by omega), show p.length + 1 - p.length = 1 by omega]; rfl
      have hdrop : (L s).drop (scan dig (L s) + 1) = q := by
        rw [hsc]; conv => lhs; rw [hsplit]
        rw [← List.drop_drop, List.drop_left]; rfl
      have hwp : wholeT p = !(decide ((L s)[0]? = some 48) && decide (1 < p.length)) := by
        unfold wholeT
        have hpn : p ≠ [] := fun h => by rw [h] at hsc; simp at hsc; omega
        rw [hp, Bool.and_true, decide_eq_true hpn, Bool.true_and, decide_eq_decide.2 (h48 p _ hsplit (by omega))]
      rw [hd2, hwp]
      by_cases hz : 0 + 1 < scan dig (L s) ∧ (L s)[0]? = some 48
      · rw [if_pos hz, decide_eq_true hz.2, decide_eq_true (by omega : 1 < p.length)]; exact ⟨⟨fun h => absurd h.1 (by decide), fun h => by cases h⟩, ⟨fun h => absurd h.1 (by decide), fun h => by simp at h⟩⟩
      · rw [if_neg hz]
        have hz2 : (!(decide ((L s)[0]? = some 48) && decide (1 < p.length))) = true := by
          rw [Bool.not_eq_true', Bool.and_eq_false_iff, decide_eq_false_iff_not, decide_eq_false_iff_not]
          by_cases h0 : (L s)[0]? = some 48
          · right; intro h2; exact hz ⟨by omega, h0⟩
          · left; exact h0
        rw [hz2, Bool.true_and, hat, hnext]
        cases q with
        | nil =>
          rw [if_neg (by intro h; exact absurd h.2 (by simp))]; exact ⟨n3 0, ⟨fun h => absurd (show (3 : Int) = 4 from h.1) (by decide), fun h => by simp at h⟩⟩
        | cons y q =>
          cases hy : dig y with
          | false =>
            rw [if_neg (by intro h; have := h.2; simp [hy] at this)]; exact ⟨n3 0, ⟨fun h => absurd (show (3 : Int) = 4 from h.1) (by decide), fun h => by simp [hy] at h⟩⟩
          | true =>
            rw [if_pos ⟨rfl, by simp [hy]⟩, hdrop]; refine ⟨⟨fun h => absurd (show (4 : Int) = 3 from h.1) (by decide), fun h => by cases h⟩, ?_⟩; rw [decide_eq_true (by simp : y :: q ≠ []), Bool.true_and, ← scan_len, decide_eq_true_eq]; rw [List.length_cons] at hsq
            constructor
            · rintro ⟨_, h⟩; have h' : ((scan dig (L s) + 1 + scan dig (y :: q) : Nat) : Int) = (s.size : Int) := h; rw [List.length_cons]; omega
            · intro h; rw [List.length_cons] at h; refine ⟨rfl, ?_⟩; show ((scan dig (L s) + 1 + scan dig (y :: q) : Nat) : Int) = (s.size : Int); omega
    · rw [decT_no hp hsplit hcd h46]
      by_cases hz : 0 + 1 < scan dig (L s) ∧ (L s)[0]? = some 48
      · rw [if_pos hz]; exact ⟨⟨fun h => absurd h.1 (by decide), fun h => by cases h⟩, ⟨fun h => absurd h.1 (by decide), fun h => by cases h⟩⟩
      · rw [if_neg hz, hat, if_neg (by intro h; exact h46 (Option.some.inj h.1))]; exact ⟨n3 0, ⟨fun h => absurd (show (3 : Int) = 4 from h.1) (by decide), fun h => by cases h⟩⟩
theorem ne_size (s : ByteArray) : decide (L s ≠ []) = decide (0 < s.size) := by
  refine decide_eq_decide.2 ?_; rw [← L_length]
  constructor
  · intro h; exact List.length_pos_iff.2 h
  · intro h e; rw [e] at h; exact absurd h (by decide)
theorem word_is (f0 f2 f3 : Int) (s : ByteArray) (hs : s.size ≤ 1048576) : Evt (fun k => Zr.f k f0 s f2 f3) (word f0 (L s)) := by
  unfold word
  by_cases h1 : f0 = 1
  · rw [if_pos h1]; refine Evt.pure (fun k => ?_); unfold Zr.f; rw [if_pos h1]
    congr 1
    rw [Bool.eq_iff_iff, beq_iff_eq, decide_eq_true_eq, toList_L]
  rw [if_neg h1]
  by_cases h2 : f0 = 2
  · rw [if_pos h2]; exact Evt.same (fun k => by unfold Zr.f; rw [if_neg h1, if_pos h2]; rfl) (word_l0 s hs _ 0 (by omega) rfl)
  rw [if_neg h2]
  have num : ∀ b : Bool, b = true → (f0 = 3 ∨ f0 = 4) → Evt (fun k => Zr.j4 k s b f0 s f2 f3) (if f0 = 3 then wholeT (L s) else decT (L s)) := by
    intro b hb hf; subst hb
    by_cases h0 : s.size = 0
    · have e : (if f0 = 3 then wholeT (L s) else decT (L s)) = false := by
        rw [List.length_eq_zero_iff.1 ((L_length s).trans h0)]
        split <;> rfl
      rw [e]; exact Evt.done (fun k => by simp only [Zr.j4]; rw [if_pos trivial, if_pos (by omega)])
    · obtain ⟨x, m, e, hx⟩ := first_of s (by omega)
      cases hd : dig x with
      | false =>
        have e2 : (if f0 = 3 then wholeT (L s) else decT (L s)) = false := by
          split
          · unfold wholeT; rw [e, List.all_cons, hd]; simp
          · by_cases h46 : x = 46
            · subst h46; have : decT ([] ++ 46 :: m) = _ := decT_dot (p := []) (q := m) rfl; rw [e]; rw [List.nil_append] at this; rw [this]; rfl
            · exact decT_no (p := []) rfl e hd h46
        rw [e2]; exact Evt.done (fun k => by simp only [Zr.j4]; rw [if_pos trivial, if_neg (by omega), if_pos (by omega), hx, digS, hd, Option.bind_some, if_neg (by decide)])
      | true =>
        obtain ⟨t3, t4⟩ := num_tok s x m e hd
        have ht : spec_l3Token.f s 0 = some (Tok.tok s 0) := by
          unfold spec_l3Token.f tokF; rw [if_pos ⟨by omega, by omega, by omega⟩]; rfl
        refine Evt.done (fun k => ?_); simp only [Zr.j4]; rw [if_pos trivial, if_neg (by omega), if_pos (by omega), hx, digS, hd, Option.bind_some, if_pos rfl, ht, Option.bind_some]
        have fin : ∀ (K : Int) (b : Bool), ((Tok.tok s 0).1 = K ∧ (Tok.tok s 0).2.2 = (s.size : Int) ↔ b = true) → (if (Tok.tok s 0).1 = K then some ((Tok.tok s 0).2.2 == (s.size : Int)) else some false) = some b := by
          intro K b hb
          by_cases hk : (Tok.tok s 0).1 = K
          · rw [if_pos hk]
            congr 1
            rw [Bool.eq_iff_iff, beq_iff_eq, ← hb]; exact ⟨fun h => ⟨hk, h⟩, fun h => h.2⟩
          · rw [if_neg hk]
            cases b with
            | false => rfl
            | true => exact absurd (hb.2 rfl).1 hk
        rcases hf with h | h
        · rw [if_pos h, h]; exact fin 3 _ t3
        · subst h; rw [if_neg (show ¬ (4 : Int) = 3 by decide)]; exact fin 4 _ t4
  by_cases h3 : f0 = 3
  · have := num (f0 == 3) (beq_iff_eq.2 h3) (.inl h3); rw [if_pos h3] at this ⊢; exact Evt.same (fun k => by unfold Zr.f; rw [if_neg h1, if_neg h2, if_neg (by omega), if_neg (by omega), if_neg (by omega), if_pos h3]) this
  rw [if_neg h3]
  by_cases h4 : f0 = 4
  · have := num (f0 == 4) (beq_iff_eq.2 h4) (.inr h4); rw [if_neg h3] at this; rw [if_pos h4]; exact Evt.same (fun k => by unfold Zr.f; rw [if_neg h1, if_neg h2, if_neg (by omega), if_neg (by omega), if_neg (by omega), if_neg h3]) this
  rw [if_neg h4]
  by_cases h5 : f0 = 5
  · rw [if_pos h5, ne_size, Bool.and_comm]; exact Evt.same (fun k => by unfold Zr.f; rw [if_neg h1, if_neg h2, if_neg (by omega), if_neg (by omega), if_pos h5]; rfl) (word_l3 s hs _ 0 (by omega) rfl)
  rw [if_neg h5]
  by_cases h6 : f0 = 6
  · rw [if_pos h6]; exact Evt.same (fun k => by unfold Zr.f; rw [if_neg h1, if_neg h2, if_pos h6]; rfl) (word_l1 s hs _ 0 (by omega) rfl)
  rw [if_neg h6]
  by_cases h7 : f0 = 7
  · rw [if_pos h7, ne_size, Bool.and_comm]; exact Evt.same (fun k => by unfold Zr.f; rw [if_neg h1, if_neg h2, if_neg (by omega), if_pos h7]; rfl) (word_l2 s hs _ 0 (by omega) rfl)
  rw [if_neg h7]
  have hf : Evt (fun k => Zr.j4 k s (f0 == 4) f0 s f2 f3) false := by
    rw [show (f0 == 4) = false from beq_eq_false_iff_ne.2 h4]; exact Evt.done (fun k => by simp only [Zr.j4]; rw [if_neg (by decide)])
  exact Evt.same (fun k => by unfold Zr.f; rw [if_neg h1, if_neg h2, if_neg h6, if_neg h7, if_neg h5, if_neg h3]) hf
theorem top_idx (a : Int) (st : List Int) (h : st.length ≤ 1000000) : wrap64 ((((a :: st).reverse).length : Int) - 1) = (st.length : Int) := by
  rw [List.length_reverse, List.length_cons]; unfold wrap64; omega
theorem rd_top (a : Int) (st : List Int) : rd (a :: st).reverse (st.length : Int) = a := by
  unfold rd; rw [Int.toNat_natCast, List.reverse_cons, List.getD_eq_getElem?_getD, List.getElem?_append_right (by simp)]; simp
theorem take_top (a : Int) (st : List Int) : (a :: st).reverse.take ((st.length : Int)).toNat = st.reverse := by
  rw [Int.toNat_natCast, List.reverse_cons, List.take_left' (by simp)]
theorem set_top (a v : Int) (st : List Int) : (a :: st).reverse.set ((st.length : Int)).toNat v = (v :: st).reverse := by
  rw [Int.toNat_natCast, List.reverse_cons, List.reverse_cons, List.set_append_right _ _ (by simp)]; simp
theorem len_rev (a : Int) (st : List Int) : (((a :: st).reverse).length : Int) = (st.length : Int) + 1 := by rw [List.length_reverse, List.length_cons]; omega
def Bn (st : List Int) : Prop := ∀ a ∈ st, a ≤ 9223372036854775807
theorem popZ_bn : ∀ {st : List Int}, Bn st → Bn (popZ st)
  | [], _ => fun a h => by cases h
  | a :: st, h => by
    unfold popZ
    split
    · exact popZ_bn fun b hb => h b (List.mem_cons_of_mem _ hb)
    · exact h
theorem popZ_len : ∀ (st : List Int), (popZ st).length ≤ st.length
  | [] => Nat.le_refl _
  | a :: st => by
    unfold popZ
    split
    · have := popZ_len st; rw [List.length_cons]; omega
    · exact Nat.le_refl _
theorem dec_len (st : List Int) : (dec1 st).length = st.length := by cases st <;> rfl
theorem dec_bn {st : List Int} (h : Bn st) : Bn (dec1 st) := by
  cases st with
  | nil => exact h
  | cons a s =>
    intro b hb
    rcases List.mem_cons.1 hb with rfl | hb
    · have := h a (List.mem_cons_self ..); omega
    · exact h b (List.mem_cons_of_mem _ hb)
theorem elem_at {l : List S43} {i : Nat} {x : S43} {r : List S43} (h : l.drop i = x :: r) : i < l.length ∧ Z5 l (i : Int) = x ∧ x ∈ l ∧ l.drop (i + 1) = r := by
  have h1 : (l.drop i).length = r.length + 1 := by rw [h]; rfl
  rw [List.length_drop] at h1; have hj : i < l.length := (by omega)
  have hg : l[i]? = some x := by
    have := congrArg (fun l => l[0]?) h
    simpa using this
  have hx : l[i] = x := by rw [List.getElem?_eq_getElem hj] at hg; exact Option.some.inj hg
  refine ⟨hj, ?_, by rw [← hx]; exact List.getElem_mem hj, by rw [← List.drop_drop, h]; rfl⟩; unfold Z5; rw [Int.toNat_natCast, List.getD_eq_getElem?_getD, hg]; rfl
section
variable {l : List S43}
theorem right_l1 {r : Bool} (m len i f0 f2 f3 : Int) (f1 : ByteArray) : ∀ (st : List Int), st.length ≤ 1000000 → Evt (fun k => Zk.j2 k m (popZ st).reverse l len i f0 f1 f2 f3) r → Evt (fun k => Zk.l1 k m st.reverse l len i f0 f1 f2 f3) r
  | [], _, h => Evt.succ (fun k => by simp only [Zk.l1]; rw [if_neg (by simp)]; rfl) h
  | a :: st, hs, h => by
    rw [List.length_cons] at hs; have h1 := top_idx a st (by omega); have h2 := len_rev a st; unfold popZ at h
    by_cases ha : a = 0
    · rw [if_pos ha] at h; exact Evt.succ (fun k => by simp only [Zk.l1]; rw [if_pos (by omega), h1, if_pos (by omega), if_pos (by omega), rd_top, if_pos ha, if_pos (by omega), take_top]) (right_l1 m len i f0 f2 f3 f1 st (by omega) h)
    · rw [if_neg ha] at h; exact Evt.succ (fun k => by simp only [Zk.l1]; rw [if_pos (by omega), h1, if_pos (by omega), if_pos (by omega), rd_top, if_neg ha]) h
theorem all_pos (X : List Int) (m : Int) : ∀ (d i : Nat), i ≤ X.length → X.length - i = d → X.length ≤ 1000000 → Evt (fun k => Zk.l2 k m X (X.length : Int) (i : Int)) ((X.drop i).all (fun a => decide (a ≤ 0)) && decide (m ≤ 20000)) := by
  intro d
  induction d with
  | zero =>
    intro i hi hd hX; rw [List.drop_eq_nil_of_le (by omega), List.all_nil, Bool.true_and]; exact Evt.done (fun k => by simp only [Zk.l2]; rw [if_neg (by omega)])
  | succ d ih =>
    intro i hi hd hX; have hlt : i < X.length := (by omega); have hw1 : wrap64 ((i : Int) + 1) = ((i + 1 : Nat) : Int) := wrap_ok (by omega) (by omega)
    have hrd : rd X (i : Int) = X[i] := by unfold rd; rw [Int.toNat_natCast, List.getD_eq_getElem?_getD, List.getElem?_eq_getElem hlt]; rfl
    rw [List.drop_eq_getElem_cons hlt, List.all_cons]
    by_cases hz : X[i] > 0
    · rw [decide_eq_false (by omega : ¬ X[i] ≤ 0), Bool.false_and, Bool.false_and]; exact Evt.done (fun k => by simp only [Zk.l2]; rw [if_pos (by omega), if_pos (by omega), if_pos (by omega), hrd, if_pos hz])
    · rw [decide_eq_true (by omega : X[i] ≤ 0), Bool.true_and]; exact Evt.succ (fun k => by simp only [Zk.l2]; rw [if_pos (by omega), if_pos (by omega), if_pos (by omega), hrd, if_neg hz, hw1]) (ih (i + 1) (by omega) (by omega) hX)
theorem right_l0 (hl : l.length ≤ 8000) (hB : ∀ x ∈ l, x.f1.size ≤ 1048576 ∧ x.f2 ≤ 9223372036854775807) : ∀ (rest : List S43) (i : Nat) (st : List Int) (m : Nat), l.drop i = rest → i ≤ l.length → Nn st → Bn st → st.length ≤ 200 → m ≤ i * 1048576 →
    Evt (fun k => Zk.l0 k (m : Int) st.reverse l (l.length : Int) (i : Int)) (implR (nds rest) st m)
  | [], i, st, m, hd, hi, hn, hb, hs, hm => by
    have hil : i = l.length := by
      have := congrArg List.length hd; rw [List.length_drop] at this; simp at this; omega
    have hall := all_pos st.reverse (m : Int) _ 0 (by omega) rfl (by rw [List.length_reverse]; omega); rw [List.drop_zero, List.all_reverse] at hall; show Evt _ (st.all (fun a => decide (a ≤ 0)) && decide (m ≤ 20000)); rw [show decide (m ≤ 20000) = decide ((m : Int) ≤ 20000) from decide_eq_decide.2 (by omega)]; exact Evt.succ (fun k => by simp only [Zk.l0]; rw [if_neg (by omega)]; rfl) hall
  | x :: rest, i, st, m, hd, hi, hn, hb, hs, hm => by
    obtain ⟨hlt, hx, hmem, hd2⟩ := elem_at hd; obtain ⟨hx1, hx2⟩ := hB x hmem; have hw1 : wrap64 ((i : Int) + 1) = ((i + 1 : Nat) : Int) := wrap_ok (by omega) (by omega)
    have hwm : wrap64 ((m : Int) + (x.f1.size : Int)) = ((m + x.f1.size : Nat) : Int) := by rw [wrap_ok (by omega) (by omega)]; omega
    have hpl := popZ_len st; have hdn := dec_nn hn; have hdb := dec_bn (popZ_bn hb); have hdl := dec_len (popZ st); obtain ⟨hpn, hp1⟩ := popZ_nn hn; have hpb := popZ_bn hb; refine Evt.succ (g := fun k => Zk.l1 k (m : Int) st.reverse l (l.length : Int) (i : Int) x.f0 x.f1 x.f2 x.f3) (fun k => by simp only [Zk.l0]; rw [if_pos (by omega), if_pos (by omega), if_pos (by omega), hx]) ?_; refine right_l1 _ _ _ _ _ _ _ st (by omega) ?_; show Evt _ (implR (nd x :: nds rest) st m); unfold implR
    have hgf : ZQ.f x.f0 x.f1 x.f2 x.f3 = some (goodN (nd x)) := by unfold ZQ.f; rw [if_pos hx1]; rfl
    cases hg : goodN (nd x) with
    | false =>
      rw [if_pos rfl]; exact Evt.done (fun k => by simp only [Zk.j2]; rw [hgf, hg, Option.bind_some, if_neg (by decide)])
    | true =>
      rw [if_neg (by decide)]
      have hf2 : 0 ≤ x.f2 := by
        unfold goodN at hg; simp only [Bool.and_eq_true, decide_eq_true_eq] at hg; exact hg.1.1
      have hlen : (nd x).t.length = x.f1.size := L_length x.f1; rw [hlen]
   
      have fin : Evt (fun k => Zk.j3 k ((m + x.f1.size : Nat) : Int) (dec1 (popZ st)).reverse l (l.length : Int) (i : Int) x.f0 x.f1 x.f2 x.f3)
          (if (nd x).k = 1 then (if 200 < (dec1 (popZ st)).length + 1 then false else implR (nds rest) ((nd x).n :: dec1 (popZ st)) (m + x.f1.size)) else implR (nds rest) (dec1 (popZ st)) (m + x.f1.size)) := by
        by_cases hk : x.f0 = 1
        · rw [if_pos (show (nd x).k = 1 from hk)]
          have hpush : (dec1 (popZ st)).reverse ++ [x.f2] = (x.f2 :: dec1 (popZ st)).reverse := by rw [List.reverse_cons]
          by_cases h2 : 200 < (dec1 (popZ st)).length + 1
          · rw [if_pos h2]; exact Evt.done (fun k => by simp only [Zk.j3]; rw [if_pos hk, if_pos (by rw [List.length_reverse]; omega), Option.bind_some, hpush, if_pos (by rw [len_rev]; omega)])
          · rw [if_neg h2]
            refine Evt.succ (fun k => by simp only [Zk.j3]; rw [if_pos hk, if_pos (by rw [List.length_reverse]; omega), Option.bind_some, hpush, if_neg (by rw [len_rev]; omega), hw1])
              (right_l0 hl hB rest (i + 1) (x.f2 :: dec1 (popZ st)) (m + x.f1.size) hd2 (by omega) ?_ ?_ (by rw [List.length_cons]; omega) (by omega))
            · intro a ha
              rcases List.mem_cons.1 ha with rfl | ha
              · exact hf2
              · exact hdn a ha
            · intro a ha
              rcases List.mem_cons.1 ha with rfl | ha
              · exact hx2
              · exact hdb a ha
        · rw [if_neg (show ¬ (nd x).k = 1 from hk)]
          exact Evt.succ (fun k => by simp only [Zk.j3]; rw [if_neg hk, hw1])
            (right_l0 hl hB rest (i + 1) (dec1 (popZ st)) (m + x.f1.size) hd2 (by omega) hdn hdb (by omega) (by omega))
      cases hp : popZ st with
      | nil =>
        rw [hp] at fin; exact Evt.succ (fun k => by simp only [Zk.j2]; rw [hgf, hg, Option.bind_some, if_pos rfl, if_neg (by simp), hwm]; rfl) fin
      | cons a s =>
        rw [hp] at fin hpl hpb; rw [List.length_cons] at hpl; have ha := hp1 a s hp; have hab := hpb a (List.mem_cons_self ..); have hwa : wrap64 (a - 1) = a - 1 := wrap_ok (by omega) (by omega); have h1 := top_idx a s (by omega); have h2 := len_rev a s; exact Evt.succ (fun k => by simp only [Zk.j2]; rw [hgf, hg, Option.bind_some, if_pos rfl, if_pos (by omega), h1, if_pos (by omega), if_pos (by omega), rd_top, hwa, set_top, hwm]; rfl) fin
theorem right_is (hB : ∀ x ∈ l, x.f1.size ≤ 1048576 ∧ x.f2 ≤ 9223372036854775807) : Evt (fun k => Zk.f k l) (decide (l.length ≤ 8000) && implR (nds l) [] 0) := by
  by_cases hl : l.length ≤ 8000
  · rw [decide_eq_true hl, Bool.true_and]; have := right_l0 hl hB l 0 [] 0 rfl (by omega) (fun a h => by cases h) (fun a h => by cases h) (by simp) (by omega); exact Evt.same (fun k => by unfold Zk.f; rw [if_neg (by omega)]; rfl) this
  · rw [decide_eq_false hl, Bool.false_and]; exact Evt.pure (fun k => by unfold Zk.f; rw [if_pos (by omega)])
end
section
variable {l : List S43}
theorem form_l1 {r : Bool} (m len i : Int) : ∀ (st : List Int), st.length ≤ 1000000 → Evt (fun k => Zp.l0 k (popZ st).reverse m l len (wrap64 (i + 1))) r → Evt (fun k => Zp.l1 k st.reverse m l len i) r
  | [], _, h => Evt.succ (fun k => by simp only [Zp.l1]; rw [if_neg (by simp)]; rfl) h
  | a :: st, hs, h => by
    rw [List.length_cons] at hs; have h1 := top_idx a st (by omega); have h2 := len_rev a st; unfold popZ at h
    by_cases ha : a = 0
    · rw [if_pos ha] at h; exact Evt.succ (fun k => by simp only [Zp.l1]; rw [if_pos (by omega), h1, if_pos (by omega), if_pos (by omega), rd_top, if_pos ha, if_pos (by omega), take_top]) (form_l1 m len i st (by omega) h)
    · rw [if_neg ha] at h; exact Evt.succ (fun k => by simp only [Zp.l1]; rw [if_pos (by omega), h1, if_pos (by omega), if_pos (by omega), rd_top, if_neg ha]) h
theorem form_l0 (hl : l.length ≤ 8000) (hB : ∀ x ∈ l, x.f1.size ≤ 1048576 ∧ x.f2 ≤ 9223372036854775807) : ∀ (rest : List S43) (i : Nat) (st : List Int) (m : Nat), l.drop i = rest → i ≤ l.length → Nn st → Bn st → st.length ≤ 200 → m ≤ 20000 →
    Evt (fun k => Zp.l0 k (popZ st).reverse (m : Int) l (l.length : Int) (i : Int)) (specF (nds rest) (popZ st) m)
  | [], i, st, m, hd, hi, hn, hb, hs, hm => by
    have hil : i = l.length := by
      have := congrArg List.length hd; rw [List.length_drop] at this; simp at this; omega
    show Evt _ (decide (popZ st = [])); refine Evt.done (fun k => ?_); simp only [Zp.l0]; rw [if_neg (by omega)]
    congr 1
    rw [Bool.eq_iff_iff, beq_iff_eq, decide_eq_true_eq, List.length_reverse]
    constructor
    · intro h; exact List.length_eq_zero_iff.1 (by omega)
    · intro h; rw [h]; rfl
  | x :: rest, i, st, m, hd, hi, hn, hb, hs, hm => by
    obtain ⟨hlt, hx, hmem, hd2⟩ := elem_at hd; obtain ⟨hx1, hx2⟩ := hB x hmem; have hw1 : wrap64 ((i : Int) + 1) = ((i + 1 : Nat) : Int) := wrap_ok (by omega) (by omega)
    have hwm : wrap64 ((m : Int) + (x.f1.size : Int)) = ((m + x.f1.size : Nat) : Int) := by rw [wrap_ok (by omega) (by omega)]; omega
    have hpl := popZ_len st; have hdn := dec_nn hn; have hdb := dec_bn (popZ_bn hb); have hdl := dec_len (popZ st); obtain ⟨hpn, hp1⟩ := popZ_nn hn; have hpb := popZ_bn hb; show Evt _ (specF (nd x :: nds rest) (popZ st) m); unfold specF; have hlen : (nd x).t.length = x.f1.size := L_length x.f1; rw [hlen]; have no : Evt (fun k => Zp.j1 k (popZ st).reverse ((m + x.f1.size : Nat) : Int) l (l.length : Int) (i : Int) true x.f0 x.f1 x.f2 x.f3) false := Evt.done (fun k => by simp only [Zp.j1]; rw [if_pos trivial])
    by_cases hbig : 20000 < m + x.f1.size
    · rw [if_pos (.inl hbig)]; exact Evt.succ (fun k => by simp only [Zp.l0]; rw [if_pos (by omega), if_pos (by omega), if_pos (by omega), hx, hwm, if_pos (by omega)]) no
    have hw := word_is x.f0 x.f2 x.f3 x.f1 hx1
 
    have step : ∀ b r, Evt (fun k => Zp.j1 k (popZ st).reverse ((m + x.f1.size : Nat) : Int) l (l.length : Int) (i : Int) b x.f0 x.f1 x.f2 x.f3) r → b = !goodN (nd x) → Evt (fun k => Zp.l0 k (popZ st).reverse (m : Int) l (l.length : Int) (i : Int)) r := by
      intro b r hj hbv
      refine Evt.succ (g := fun k => (Zr.f k x.f0 x.f1 x.f2 x.f3).bind fun t => if t = true then (if x.f2 < 0 then (Zp.j1 k (popZ st).reverse ((m + x.f1.size : Nat) : Int) l (l.length : Int) (i : Int) true x.f0 x.f1 x.f2 x.f3) else (if x.f0 = 1 then (Zp.j1 k (popZ st).reverse ((m + x.f1.size : Nat) : Int) l (l.length : Int) (i : Int) false x.f0 x.f1 x.f2 x.f3) else (Zp.j1 k (popZ st).reverse ((m + x.f1.size : Nat) : Int) l (l.length : Int) (i : Int) (x.f2 != 0) x.f0 x.f1 x.f2 x.f3))) else (Zp.j1 k (popZ st).reverse ((m + x.f1.size : Nat) : Int) l (l.length : Int) (i : Int) true x.f0 x.f1 x.f2 x.f3))
        (fun k => by simp only [Zp.l0]; rw [if_pos (by omega), if_pos (by omega), if_pos (by omega), hx, hwm, if_neg (by omega)]) ?_
      refine Evt.bind hw ?_; have hgd : goodN (nd x) = (decide (0 ≤ x.f2) && (decide (x.f0 = 1) || decide (x.f2 = 0)) && word x.f0 (L x.f1)) := rfl
      cases hwv : word x.f0 (L x.f1) with
      | false =>
        rw [hwv, Bool.and_false] at hgd; rw [hgd] at hbv; subst hbv; exact Evt.same (fun k => by rw [if_neg (by decide)]; rfl) hj
      | true =>
        rw [hwv, Bool.and_true] at hgd
        by_cases h0 : x.f2 < 0
        · rw [decide_eq_false (by omega : ¬ 0 ≤ x.f2), Bool.false_and] at hgd; rw [hgd] at hbv; subst hbv; exact Evt.same (fun k => by rw [if_pos rfl, if_pos h0]; rfl) hj
        · rw [decide_eq_true (by omega : 0 ≤ x.f2), Bool.true_and] at hgd
          by_cases hk : x.f0 = 1
          · rw [decide_eq_true hk, Bool.true_or] at hgd; rw [hgd] at hbv; subst hbv; exact Evt.same (fun k => by rw [if_pos rfl, if_neg h0, if_pos hk]; rfl) hj
          · rw [decide_eq_false hk, Bool.false_or] at hgd
            have : b = (x.f2 != 0) := by
              rw [hbv, hgd]
              by_cases hz : x.f2 = 0
              · rw [hz]; rfl
              · rw [decide_eq_false hz, bne_iff_ne.2 hz]; rfl
            subst this; exact Evt.same (fun k => by rw [if_pos rfl, if_neg h0, if_neg hk]) hj
    cases hg : goodN (nd x) with
    | false =>
      rw [if_pos (.inr rfl)]; rw [hg] at step; exact step true false no rfl
    | true =>
      rw [if_neg (by rintro (h | h); exact hbig h; cases h)]
      have hf2 : 0 ≤ x.f2 := by
        unfold goodN at hg; simp only [Bool.and_eq_true, decide_eq_true_eq] at hg; exact hg.1.1
      rw [hg] at step; refine step false _ ?_ rfl
      have fin : Evt (fun k => Zp.j2 k (dec1 (popZ st)).reverse ((m + x.f1.size : Nat) : Int) l (l.length : Int) (i : Int) x.f0 x.f1 x.f2 x.f3)
          (if (nd x).k = 1 then (if 200 < (dec1 (popZ st)).length + 1 then false else specF (nds rest) (popZ ((nd x).n :: dec1 (popZ st))) (m + x.f1.size)) else specF (nds rest) (popZ (dec1 (popZ st))) (m + x.f1.size)) := by
        by_cases hk : x.f0 = 1
        · rw [if_pos (show (nd x).k = 1 from hk)]
          have hpush : (dec1 (popZ st)).reverse ++ [x.f2] = (x.f2 :: dec1 (popZ st)).reverse := by rw [List.reverse_cons]
          by_cases h2 : 200 < (dec1 (popZ st)).length + 1
          · rw [if_pos h2]; exact Evt.done (fun k => by simp only [Zp.j2]; rw [if_pos hk, if_pos (by rw [List.length_reverse]; omega), Option.bind_some, hpush, if_pos (by rw [len_rev]; omega)])
          · rw [if_neg h2]; refine Evt.succ (fun k => by simp only [Zp.j2]; rw [if_pos hk, if_pos (by rw [List.length_reverse]; omega), Option.bind_some, hpush, if_neg (by rw [len_rev]; omega)]) ?_; refine Evt.succ (fun k => by simp only [Zp.j3]; rfl) ?_; refine form_l1 _ _ _ (x.f2 :: dec1 (popZ st)) (by rw [List.length_cons]; omega) ?_; rw [hw1]; refine form_l0 hl hB rest (i + 1) (x.f2 :: dec1 (popZ st)) (m + x.f1.size) hd2 (by omega) ?_ ?_ (by rw [List.length_cons]; omega) (by omega)
            · intro a ha
              rcases List.mem_cons.1 ha with rfl | ha
              · exact hf2
              · exact hdn a ha
            · intro a ha
              rcases List.mem_cons.1 ha with rfl | ha
              · exact hx2
              · exact hdb a ha
        · rw [if_neg (show ¬ (nd x).k = 1 from hk)]; refine Evt.succ (fun k => by simp only [Zp.j2]; rw [if_neg hk]) ?_; refine Evt.succ (fun k => by simp only [Zp.j3]; rfl) ?_; refine form_l1 _ _ _ (dec1 (popZ st)) (by omega) ?_; rw [hw1]; exact form_l0 hl hB rest (i + 1) (dec1 (popZ st)) (m + x.f1.size) hd2 (by omega) hdn hdb (by omega) (by omega)
      cases hp : popZ st with
      | nil =>
        rw [hp] at fin; exact Evt.succ (fun k => by simp only [Zp.j1]; rw [if_neg (by decide), if_neg (by simp)]; rfl) fin
      | cons a s =>
        rw [hp] at fin hpl hpb; rw [List.length_cons] at hpl; have ha := hp1 a s hp; have hab := hpb a (List.mem_cons_self ..); have hwa : wrap64 (a - 1) = a - 1 := wrap_ok (by omega) (by omega); have h1 := top_idx a s (by omega); have h2 := len_rev a s; exact Evt.succ (fun k => by simp only [Zp.j1]; rw [if_neg (by decide), if_pos (by omega), h1, if_pos (by omega), if_pos (by omega), rd_top, hwa, set_top]; rfl) fin
theorem form_is (hB : ∀ x ∈ l, x.f1.size ≤ 1048576 ∧ x.f2 ≤ 9223372036854775807) : Evt (fun k => Zp.f k l) (decide (l.length ≤ 8000) && specF (nds l) [] 0) := by
  by_cases hl : l.length ≤ 8000
  · rw [decide_eq_true hl, Bool.true_and]; have := form_l0 hl hB l 0 [] 0 rfl (by omega) (fun a h => by cases h) (fun a h => by cases h) (by simp) (by omega); exact Evt.same (fun k => by unfold Zp.f; rw [if_neg (by omega)]; rfl) this
  · rw [decide_eq_false hl, Bool.false_and]; exact Evt.pure (fun k => by unfold Zp.f; rw [if_pos (by omega)])
theorem form_right (N : List Nd) : specF N [] 0 = implR N [] 0 := spec_impl N [] 0 (fun a h => by cases h) (by omega)
end
theorem leaf_le (x : Nd) : (leafT x).length ≤ 2 * x.t.length + 2 := by
  have := quote_len x.t; unfold leafT; generalize x.t.flatMap (fun c => if c = 34 then [34, 34] else [c]) = q at this
  repeat' split
  all_goals (try rw [List.length_cons])
  all_goals (try rw [List.length_cons])
  all_goals (try rw [List.length_append, show ([124] : List UInt8).length = 1 from rfl])
  all_goals (try rw [List.length_append, show ([34] : List UInt8).length = 1 from rfl])
  all_goals omega
theorem ints_app (a b : List UInt8) : ints (a ++ b) = ints a ++ ints b := by unfold ints; rw [List.map_append]
theorem written_l0 (s : ByteArray) (hs : s.size ≤ 1048576) (f0 f2 f3 : Int) : ∀ (d i : Nat) (acc : List UInt8), i ≤ s.size → s.size - i = d → acc.length ≤ 2 * i + 1 →
    Evt (fun k => Zy.l0 k (ints acc) (i : Int) f0 s f2 f3) (strOfNums (ints (acc ++ ((L s).drop i).flatMap (fun c => if c = 34 then [34, 34] else [c]) ++ [34]))) := by
  intro d
  induction d with
  | zero =>
    intro i acc hi hd ha; rw [drop_all s i (by omega), List.flatMap_nil, List.append_nil]; refine Evt.done (fun k => ?_); simp only [Zy.l0]; rw [if_neg (by omega), if_pos (by rw [ints_len]; omega), ints_app]; rfl
  | succ d ih =>
    intro i acc hi hd ha; have hlt : i < s.size := (by omega); have hw1 : wrap64 ((i : Int) + 1) = ((i + 1 : Nat) : Int) := wrap_ok (by omega) (by omega); rw [drop_cons s i hlt, List.flatMap_cons]; have hbt := bt_get s i hlt; generalize hc : (L s)[i]'(by rw [L_length]; exact hlt) = c at hbt ⊢; have h34 : (c.toNat : Int) = 34 ↔ c = 34 := u8_eq (c := c) 34 (by decide)
    by_cases hq : c = 34
    · have hq2 := h34.2 hq
      have e : ints acc ++ [34] ++ [bt s (i : Int)] = ints (acc ++ [34, 34]) := by rw [hbt, hq2, ints_app, List.append_assoc]; rfl
      have := ih (i + 1) (acc ++ [34, 34]) (by omega) (by omega) (by rw [List.length_append]; simp; omega); rw [if_pos hq, ← List.append_assoc]; refine Evt.succ (fun k => ?_) this; simp only [Zy.l0]; rw [if_pos (by omega), if_pos (by omega), hbt, if_pos hq2, if_pos (by rw [ints_len]; omega), Option.bind_some, if_pos (by rw [List.length_append, ints_len]; simp; omega), hw1, ← hbt, e]
    · have hq2 : ¬ (c.toNat : Int) = 34 := fun h => hq (h34.1 h)
      have e : ints acc ++ [bt s (i : Int)] = ints (acc ++ [c]) := by rw [hbt, ints_app]; rfl
      have := ih (i + 1) (acc ++ [c]) (by omega) (by omega) (by rw [List.length_append]; simp; omega); rw [if_neg hq, ← List.append_assoc]; refine Evt.succ (fun k => ?_) this; simp only [Zy.l0]; rw [if_pos (by omega), if_pos (by omega), hbt, if_neg hq2, if_pos (by rw [ints_len]; omega), hw1, ← hbt, e]
theorem written_is (x : S43) (hs : x.f1.size ≤ 1048576) (hk : x.f0 ≠ 1) (hg : goodN (nd x) = true) : ∃ r, Evt (fun k => Zy.f k x.f0 x.f1 x.f2 x.f3) r ∧ L r = leafT (nd x) := by
  have hw : word x.f0 (L x.f1) = true := by
    unfold goodN at hg; rw [Bool.and_eq_true] at hg; exact hg.2
  have hleaf : leafT (nd x) = leafT ⟨x.f0, L x.f1, x.f2⟩ := rfl; rw [hleaf]
  by_cases h2 : x.f0 = 2
  · rw [show leafT ⟨x.f0, L x.f1, x.f2⟩ = leafT ⟨2, L x.f1, x.f2⟩ by rw [h2], leaf_name]
    cases hp : plainT (L x.f1) with
    | true =>
      refine ⟨x.f1, ?_, rfl⟩; have := plain_is x.f1 hs; rw [hp] at this; refine Evt.same (g := fun k => (Zx.f k x.f1).bind _) (fun k => by unfold Zy.f; rw [if_pos h2]) (Evt.bind this (Evt.pure fun k => by rw [if_pos rfl]))
    | false =>
      refine ⟨(⟨#[124]⟩ : ByteArray) ++ x.f1 ++ (⟨#[124]⟩ : ByteArray), ?_, bars_L x.f1⟩; have := plain_is x.f1 hs; rw [hp] at this
      have e1 : ((⟨#[124]⟩ : ByteArray) ++ x.f1).size = 1 + x.f1.size := by rw [ByteArray.size_append]; rfl
      refine Evt.same (g := fun k => (Zx.f k x.f1).bind _) (fun k => by unfold Zy.f; rw [if_pos h2]) (Evt.bind this (Evt.pure fun k => by rw [if_neg (by decide), if_pos (by omega), if_pos (by omega)]))
  by_cases h6 : x.f0 = 6
  · have := written_l0 x.f1 hs x.f0 x.f2 x.f3 _ 0 [34] (by omega) rfl (by simp); rw [List.drop_zero, str_ints] at this; refine ⟨_, Evt.same (fun k => by unfold Zy.f; rw [if_neg h2, if_pos h6]; rfl) this, ?_⟩; rw [L_mk, h6]; unfold leafT; rfl
  by_cases h7 : x.f0 = 7
  · refine ⟨(⟨#[58]⟩ : ByteArray) ++ x.f1, Evt.pure (fun k => by unfold Zy.f; rw [if_neg h2, if_neg h6, if_pos h7, if_pos (by omega)]), ?_⟩; rw [L_append, h7]; unfold leafT; rfl
  by_cases h5 : x.f0 = 5
  · refine ⟨(⟨#[35, 98]⟩ : ByteArray) ++ x.f1, Evt.pure (fun k => by unfold Zy.f; rw [if_neg h2, if_neg h6, if_neg h7, if_pos h5, if_pos (by omega)]), ?_⟩; rw [L_append, h5]; unfold leafT; rfl
  · refine ⟨x.f1, Evt.pure (fun k => by unfold Zy.f; rw [if_neg h2, if_neg h6, if_neg h7, if_neg h5]), ?_⟩; unfold leafT; simp only; rw [if_neg h2, if_neg h6, if_neg h7, if_neg h5]
theorem bytesOf_ints (r : ByteArray) : bytesOf r = ints (L r) := rfl
theorem normW_spec : ∀ (st : List Int) (out : List UInt8), Nn st → (normW st out).1.length ≤ st.length ∧ (normW st out).2.length + (normW st out).1.length = out.length + st.length ∧ Nn (normW st out).1 ∧ (∀ a s, (normW st out).1 = a :: s → 1 ≤ a) ∧ (out ≠ [] → (normW st out).2 ≠ [])
  | [], out, _ => ⟨Nat.le_refl _, rfl, (fun a h => by cases h), (fun a s h => by cases h), fun h => h⟩
  | a :: st, out, hn => by
    have hn2 : Nn st := fun b hb => hn b (List.mem_cons_of_mem _ hb)
    unfold normW
    split
    · obtain ⟨h1, h2, h3, h4, h5⟩ := normW_spec st (out ++ [41]) hn2; refine ⟨by rw [List.length_cons]; omega, ?_, h3, h4, fun _ => h5 (by simp)⟩; rw [h2, List.length_append, List.length_cons]; simp; omega
    · rename_i hne
      refine ⟨Nat.le_refl _, rfl, hn, fun b s e => ?_, fun h => h⟩; obtain ⟨rfl, _⟩ := List.cons.inj e; have := hn a (List.mem_cons_self ..); omega
theorem normW_bn : ∀ (st : List Int) (out : List UInt8), Bn st → Bn (normW st out).1
  | [], out, _ => fun a h => by cases h
  | a :: st, out, hn => by
    unfold normW
    split
    · exact normW_bn st _ (fun b hb => hn b (List.mem_cons_of_mem _ hb))
    · exact hn
section
variable {l : List S43}
theorem write_l1 {r : ByteArray} (len i : Int) : ∀ (st : List Int) (out : List UInt8), st.length ≤ 1000000 → out.length + st.length ≤ 1000000000 →
    Evt (fun k => Zo.l0 k (ints (nlT (normW st out)).2) (nlT (normW st out)).1.reverse l len (wrap64 (i + 1))) r → Evt (fun k => Zo.l1 k (ints out) st.reverse l len i) r
  | [], out, hs, ho, h => by
    rw [List.length_nil] at ho
    have e : ints out ++ [10] = ints (out ++ [10]) := by rw [ints_app]; rfl
    refine Evt.succ (fun k => ?_) h; simp only [Zo.l1]; rw [if_neg (by simp), if_pos (by simp), if_pos (by rw [ints_len]; omega), e]; rfl
  | a :: st, out, hs, ho, h => by
    rw [List.length_cons] at hs ho; have h1 := top_idx a st (by omega); have h2 := len_rev a st; unfold normW at h
    by_cases ha : a = 0
    · rw [if_pos ha] at h
      have e : ints out ++ [41] = ints (out ++ [41]) := by rw [ints_app]; rfl
      exact Evt.succ (fun k => by simp only [Zo.l1]; rw [if_pos (by omega), h1, if_pos (by omega), if_pos (by omega), rd_top, if_pos ha, if_pos (by rw [ints_len]; omega), if_pos (by omega), take_top, e]) (write_l1 len i st (out ++ [41]) (by omega) (by rw [List.length_append]; simp; omega) h)
    · rw [if_neg ha, show nlT (a :: st, out) = (a :: st, out) by unfold nlT; simp] at h; exact Evt.succ (fun k => by simp only [Zo.l1]; rw [if_pos (by omega), h1, if_pos (by omega), if_pos (by omega), rd_top, if_neg ha, if_neg (by omega)]) h
theorem rd_last (out : List UInt8) (c : UInt8) (hc : out.getLast? = some c) : rd (ints out) ((out.length : Int) - 1) = (c.toNat : Int) := by
  obtain ⟨o, rfl⟩ : ∃ o, out = o ++ [c] := by
    rcases List.eq_nil_or_concat out with h | ⟨o, d, h⟩
    · rw [h] at hc; cases hc
    · rw [List.concat_eq_append] at h; rw [h, List.getLast?_concat] at hc; exact ⟨o, by rw [h, Option.some.inj hc]⟩
  unfold rd; rw [show (((o ++ [c]).length : Int) - 1).toNat = o.length by rw [List.length_append]; simp, ints_app, List.getD_eq_getElem?_getD, List.getElem?_append_right (by rw [ints_len]; omega), ints_len, Nat.sub_self]; rfl
theorem write_l0 (hl : l.length ≤ 8000) (hB : ∀ x ∈ l, x.f1.size ≤ 1048576 ∧ x.f2 ≤ 9223372036854775807) (hG : ∀ x ∈ l, goodN (nd x) = true) : ∀ (rest : List S43) (i : Nat) (st : List Int) (out : List UInt8), l.drop i = rest → i ≤ l.length → Nn st → Bn st → (∀ a s, st = a :: s → 1 ≤ a) → st.length ≤ i →
    (st ≠ [] → out ≠ []) → out.length + st.length + cost (nds rest) ≤ 900000000 →
    Evt (fun k => Zo.l0 k (ints out) st.reverse l (l.length : Int) (i : Int)) (⟨(specW (nds rest) st out).toArray⟩ : ByteArray)
  | [], i, st, out, hd, hi, hn, hb, h1, hs, hne, hc => by
    have hil : i = l.length := by
      have := congrArg List.length hd; rw [List.length_drop] at this; simp at this; omega
    exact Evt.done (fun k => by simp only [Zo.l0]; rw [if_neg (by omega), str_ints]; rfl)
  | x :: rest, i, st, out, hd, hi, hn, hb, h1, hs, hne, hc => by
    obtain ⟨hlt, hx, hmem, hd2⟩ := elem_at hd; obtain ⟨hx1, hx2⟩ := hB x hmem; have hg := hG x hmem; have hw1 : wrap64 ((i : Int) + 1) = ((i + 1 : Nat) : Int) := wrap_ok (by omega) (by omega)
    have hcc : cost (nds (x :: rest)) = 2 * x.f1.size + 8 + cost (nds rest) := by
      show cost (nd x :: nds rest) = _; rw [cost_cons, show (nd x).t.length = x.f1.size from L_length x.f1]
    rw [hcc] at hc
    have hf2 : 0 ≤ x.f2 := by
      unfold goodN at hg; simp only [Bool.and_eq_true, decide_eq_true_eq] at hg; exact hg.1.1
    have hdl := dec_len st; have hdb := dec_bn hb
    have hdn : Nn (dec1 st) := by
      cases st with
      | nil => intro a h; cases h
      | cons a s =>
        have := h1 a s rfl; intro b hbm
        rcases List.mem_cons.1 hbm with rfl | hbm
        · omega
        · exact hn b (List.mem_cons_of_mem _ hbm)
    have hsep : (sepT st out).length ≤ out.length + 1 := by
      unfold sepT; split
      · rw [List.length_append]; simp
      · omega
 
    have fin : Evt (fun k => Zo.j1 k (ints (sepT st out)) (dec1 st).reverse l (l.length : Int) (i : Int) x.f0 x.f1 x.f2 x.f3) (⟨(specW (nds (x :: rest)) st out).toArray⟩ : ByteArray) := by
      by_cases hk : x.f0 = 1
      · have e1 : ints (sepT st out) ++ [40] = ints (sepT st out ++ [40]) := by rw [ints_app]; rfl
        have hpush : (dec1 st).reverse ++ [x.f2] = (x.f2 :: dec1 st).reverse := by rw [List.reverse_cons]
        have hspec : specW (nds (x :: rest)) st out = specW (nds rest) (nlT (normW (x.f2 :: dec1 st) (sepT st out ++ [40]))).1 (nlT (normW (x.f2 :: dec1 st) (sepT st out ++ [40]))).2 := by
          have e : specW (nd x :: nds rest) st out = specW (nds rest) (nlT (if (nd x).k = 1 then normW ((nd x).n :: dec1 st) (sepT st out ++ [40]) else normW (dec1 st) (sepT st out ++ leafT (nd x)))).1
            (nlT (if (nd x).k = 1 then normW ((nd x).n :: dec1 st) (sepT st out ++ [40]) else normW (dec1 st) (sepT st out ++ leafT (nd x)))).2 := rfl
          rw [if_pos (show (nd x).k = 1 from hk)] at e; exact e
        rw [hspec]
        have hN : Nn (x.f2 :: dec1 st) := by
          intro a ha
          rcases List.mem_cons.1 ha with rfl | ha
          · exact hf2
          · exact hdn a ha
        have hBB : Bn (x.f2 :: dec1 st) := by
          intro a ha
          rcases List.mem_cons.1 ha with rfl | ha
          · exact hx2
          · exact hdb a ha
        obtain ⟨n1, n2, n3, n4, n5⟩ := normW_spec (x.f2 :: dec1 st) (sepT st out ++ [40]) hN; have n6 := normW_bn (x.f2 :: dec1 st) (sepT st out ++ [40]) hBB; rw [List.length_append, List.length_cons] at n2; rw [List.length_cons] at n1; simp only [List.length_cons, List.length_nil] at n2; refine Evt.succ (g := fun k => Zo.j2 k (ints (sepT st out ++ [40])) (x.f2 :: dec1 st).reverse l (l.length : Int) (i : Int)) (fun k => by simp only [Zo.j1]; rw [if_pos hk, if_pos (by rw [ints_len]; omega), if_pos (by rw [List.length_reverse]; omega), e1, hpush]) ?_; refine Evt.succ (g := fun k => Zo.l1 k (ints (sepT st out ++ [40])) (x.f2 :: dec1 st).reverse l (l.length : Int) (i : Int)) (fun k => by simp only [Zo.j2]) ?_; refine write_l1 _ _ _ _ (by rw [List.length_cons]; omega) (by rw [List.length_append, List.length_cons]; simp; omega) ?_; rw [hw1]; refine write_l0 hl hB hG rest (i + 1) _ _ hd2 (by omega) n3 n6 n4 (by show (normW _ _).1.length ≤ _; omega) ?_ ?_
        · intro hne2; show (if (normW _ _).1 = [] then _ else _) ≠ []
          split
          · simp
          · exact n5 (by simp)
        · show (if (normW _ _).1 = [] then _ else _ : List UInt8).length + (normW _ _).1.length + _ ≤ _
          split
          · rw [List.length_append]; simp; omega
          · omega
      · obtain ⟨r, hr, hrL⟩ := written_is x hx1 hk hg; have hrl := leaf_le (nd x); rw [show (nd x).t.length = x.f1.size from L_length x.f1] at hrl
        have hrs : r.size = (leafT (nd x)).length := by rw [← hrL, L_length]
        have e1 : ints (sepT st out) ++ bytesOf r = ints (sepT st out ++ leafT (nd x)) := by rw [bytesOf_ints, hrL, ints_app]
        have hspec : specW (nds (x :: rest)) st out = specW (nds rest) (nlT (normW (dec1 st) (sepT st out ++ leafT (nd x)))).1 (nlT (normW (dec1 st) (sepT st out ++ leafT (nd x)))).2 := by
          have e : specW (nd x :: nds rest) st out = specW (nds rest) (nlT (if (nd x).k = 1 then normW ((nd x).n :: dec1 st) (sepT st out ++ [40]) else normW (dec1 st) (sepT st out ++ leafT (nd x)))).1
            (nlT (if (nd x).k = 1 then normW ((nd x).n :: dec1 st) (sepT st out ++ [40]) else normW (dec1 st) (sepT st out ++ leafT (nd x)))).2 := rfl
          rw [if_neg (show ¬ (nd x).k = 1 from hk)] at e; exact e
        rw [hspec]; obtain ⟨n1, n2, n3, n4, n5⟩ := normW_spec (dec1 st) (sepT st out ++ leafT (nd x)) hdn; have n6 := normW_bn (dec1 st) (sepT st out ++ leafT (nd x)) hdb; rw [List.length_append] at n2; have hln := (good_last (x := nd x) hk hg).1; refine Evt.succ (g := fun k => (Zy.f k x.f0 x.f1 x.f2 x.f3).bind fun t => if (ints (sepT st out)).length + t.size < 140737488355328 then Zo.j2 k (ints (sepT st out) ++ bytesOf t) (dec1 st).reverse l (l.length : Int) (i : Int) else none) (fun k => by simp only [Zo.j1]; rw [if_neg hk]) ?_; refine Evt.bind hr ?_; refine Evt.same (fun k => by rw [if_pos (by rw [ints_len]; omega), e1]) ?_; refine Evt.succ (g := fun k => Zo.l1 k (ints (sepT st out ++ leafT (nd x))) (dec1 st).reverse l (l.length : Int) (i : Int)) (fun k => by simp only [Zo.j2]) ?_; refine write_l1 _ _ _ _ (by omega) (by rw [List.length_append]; omega) ?_; rw [hw1]; refine write_l0 hl hB hG rest (i + 1) _ _ hd2 (by omega) n3 n6 n4 (by show (normW _ _).1.length ≤ _; omega) ?_ ?_
        · intro hne2; show (if (normW _ _).1 = [] then _ else _) ≠ []
          split
          · simp
          · exact n5 (by intro h; exact hln (List.append_eq_nil_iff.1 h).2)
        · show (if (normW _ _).1 = [] then _ else _ : List UInt8).length + (normW _ _).1.length + _ ≤ _
          split
          · rw [List.length_append]; simp; omega
          · omega
    cases hst : st with
    | nil =>
      rw [hst] at fin; refine Evt.succ (fun k => ?_) fin; simp only [Zo.l0]; rw [if_pos (by omega), if_pos (by omega), if_pos (by omega), hx, if_neg (by simp)]; rfl
    | cons a s =>
      have ho : out ≠ [] := hne (by rw [hst]; simp)
      obtain ⟨c, hcl⟩ : ∃ c, out.getLast? = some c := by
        cases h : out.getLast? with
        | none => exact absurd (List.getLast?_eq_none_iff.1 h) ho
        | some c => exact ⟨c, rfl⟩
      have hol : 1 ≤ out.length := List.length_pos_iff.2 ho; have ha := h1 a s hst; have hab := hb a (by rw [hst]; exact List.mem_cons_self ..); have hwa : wrap64 (a - 1) = a - 1 := wrap_ok (by omega) (by omega)
      have hsl : s.length + 1 ≤ i := by rw [hst, List.length_cons] at hs; exact hs
      have g1 := top_idx a s (by omega); have g2 := len_rev a s; have hw3 : wrap64 ((out.length : Int) - 1) = (out.length : Int) - 1 := wrap_ok (by omega) (by omega); have hlast := rd_last out c hcl; have h40 : (c.toNat : Int) = 40 ↔ c = 40 := u8_eq (c := c) 40 (by decide); have hdec : dec1 (a :: s) = (a - 1) :: s := rfl; rw [hst] at fin; rw [hdec] at fin; refine Evt.succ (fun k => ?_) fin; simp only [Zo.l0]; rw [if_pos (by omega), if_pos (by omega), if_pos (by omega), hx, if_pos (by omega), g1, if_pos (by omega), if_pos (by omega), rd_top, hwa, set_top, Option.bind_some, ints_len, hw3, if_pos (by omega), if_pos (by omega), hlast]
      by_cases hc40 : c = 40
      · rw [if_pos (h40.2 hc40)]
        have : sepT (a :: s) out = out := by unfold sepT; rw [if_neg (by rintro ⟨_, h⟩; exact h (by rw [hcl, hc40]))]
        rw [this]
      · rw [if_neg (fun h => hc40 (h40.1 h)), if_pos (by omega)]
        have : sepT (a :: s) out = out ++ [32] := by unfold sepT; rw [if_pos ⟨by simp, by rw [hcl]; intro h; exact hc40 (Option.some.inj h)⟩]
        rw [this, ints_app]; rfl
theorem form_good : ∀ (N : List Nd) (st : List Int) (m : Nat), specF N st m = true → ∀ x ∈ N, goodN x = true
  | [], _, _, _, x, hx => by cases hx
  | y :: N, st, m, h, x, hx => by
    unfold specF at h
    split at h
    · cases h
    rename_i hy
    have hg : goodN y = true := by
      cases hb : goodN y with
      | true => rfl
      | false => exact absurd (.inr hb) hy
    have tl : ∀ x ∈ N, goodN x = true := by
      split at h
      · split at h
        · cases h
        · exact form_good N _ _ h
      · exact form_good N _ _ h
    rcases List.mem_cons.1 hx with rfl | hx
    · exact hg
    · exact tl x hx
theorem write_is (hl : l.length ≤ 8000) (hB : ∀ x ∈ l, x.f1.size ≤ 1048576 ∧ x.f2 ≤ 9223372036854775807) (hF : specF (nds l) [] 0 = true) (hc : cost (nds l) ≤ 900000000) : Evt (fun k => Zo.f k l) (⟨(specW (nds l) [] []).toArray⟩ : ByteArray) := by
  have := write_l0 hl hB (fun x hx => form_good (nds l) [] 0 hF (nd x) (List.mem_map_of_mem hx)) l 0 [] [] rfl (by omega) (fun a h => by cases h) (fun a h => by cases h) (fun a s h => by cases h) (by simp) (fun h => absurd rfl h) (by simp; exact hc); exact Evt.same (fun k => by unfold Zo.f; rfl) this
end
theorem form_total : ∀ (N : List Nd) (st : List Int) (m : Nat), m ≤ 20000 → specF N st m = true → 2 * m + cost N ≤ 40000 + 8 * N.length
  | [], _, m, hm, _ => by show 2 * m + 0 ≤ _; simp; omega
  | y :: N, st, m, hm, h => by
    rw [cost_cons, List.length_cons]; unfold specF at h
    split at h
    · cases h
    rename_i hy
    have hb : m + y.t.length ≤ 20000 := by
      by_cases hh : 20000 < m + y.t.length
      · exact absurd (.inl hh) hy
      · omega
    split at h
    · split at h
      · cases h
      · have := form_total N _ _ hb h; omega
    · have := form_total N _ _ hb h; omega
def treeText (N : List Nd) : List UInt8 := if (decide (N.length ≤ 8000) && implR N [] 0) = true then specW N [] [] else []
end Go.Proofs.YtbeelgaganbblaaDoor.Gp

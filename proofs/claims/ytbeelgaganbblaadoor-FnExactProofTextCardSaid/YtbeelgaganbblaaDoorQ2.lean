/- Parts of the proof, cut to what it uses: Pimp, Ppl, Phand, PFnExactProofTextx1, PFnExactProofTextx5. -/
import Derived.Deep.CutBlock
import Derived.Deep.CutRange
import Derived.Test.YtbeelgaganbblaaDoorQ0
import Derived.Test.YtbeelgaganbblaaDoorQ1
namespace Go.Proofs.YtbeelgaganbblaaDoor.Pi
open Go.RowKit Go.Proofs.YtbeelgaganbblaaDoor Go.Proofs.YtbeelgaganbblaaDoorW.PrintWords Go.Proofs.YtbeelgaganbblaaDoorW.PrintLast Go.Proofs.YtbeelgaganbblaaDoor.By Go.Proofs.YtbeelgaganbblaaDoor.Pw Go.Proofs.YtbeelgaganbblaaDoor.Limb Go.Proofs.YtbeelgaganbblaaDoor.PFnExactProofText
set_option linter.unusedVariables false
set_option linter.unusedSimpArgs false
set_option maxRecDepth 100000
/-- bounds on what is written -/
structure Bd (l : S71) : Prop where
  j1 : (Lib.join ((l.f1.map litB).map L) [32]).length ≤ 1000000000000
  j2 : (Lib.join ((l.f2.map sg).map L) [32]).length ≤ 1000000000000
  j3 : LemOk l → (Lib.join ((l.f3.map nodeB).map L) [32]).length ≤ 1000000000000
  s : ∀ n ∈ l.f3, NodeOk n → (Lib.join ((parts n).map L) [32]).length ≤ 1000000000000
set_option maxHeartbeats 4000000 in
theorem imp_any (A0 : Option Addr) (c0 : Nat) (p : List S71) (w : World) (hr0 : Kd.C k71 w A0 p.length p) (hc0 : p.length ≤ c0) (hT : Tb w) (hok : OkP p) (hbd : ∀ l ∈ p, Bd l) :
    Calls Tryd.prog 17 #[.slice A0 p.length c0] w fun e w' => e = .returned (.string (impT p [])) ∧ Below w.heap.size w w' := by
  obtain ⟨i0, hif, hz0, hz1, hz2⟩ := info_parts (show (Tryd.prog.info? 9).map (fun i => (i.zero, i.size, i.bytes)) = some (some (.string ⟨#[]⟩), 1, 16) from by kernel_rfl)
  have HI : Hid (Tryd.prog.info? 9 = some i0 ∧ i0.zero = some (.string ⟨#[]⟩) ∧ i0.size = 1 ∧ i0.bytes = 16) := ⟨hif, hz0, hz1, hz2⟩
  clear hif hz0 hz1 hz2
  have HR0 := Lib.hid hr0
  have HTB := Lib.hid hT
  have HOK := Lib.hid hok
  have HBD := Lib.hid hbd
  have hn := hok.n
  have HS0 := Lib.hid (Im.start w)
  clear hr0 hT hok hbd
  go_enter Tryd.func17, Tryd.ntmps17
  go_wp2_with (fail)
  go_loopw [22] (fun v wr => ∃ (i : Nat) (out : List UInt8), i ≤ p.length ∧ v = .int .i64 i ∧ out.length ≤ 20000 ∧ Hid (Im w out wr) ∧ Hid (impT (p.drop i) out = impT p [])) (fun v _ => p.length - (intOf v).toNat)
  case atStart => exact ⟨0, [], by omega, by first | rfl | go_num, by simp, HS0.out, by show _ = _; rfl⟩
  case round =>
    obtain ⟨i, out, hi, rfl, hout, HWr, HT⟩ := hrel
    clear HS0
    by_cases hlt : i < p.length
    · obtain ⟨l, hl⟩ : ∃ l, p[i]? = some l := ⟨_, List.getElem?_eq_getElem hlt⟩
      have hol := HOK.out.l l (List.mem_of_getElem? hl)
      have hBd := HBD.out l (List.mem_of_getElem? hl)
      have HOL := Lib.hid hol
      have HBL := Lib.hid hBd
      have hn1 := hol.n1
      have hn2 := hol.n2
      have hn3 := hol.n3
      obtain ⟨ad, A1, c1, A2, c2, A3, c3, e1, hx0, hx1, hx2, hx3, hl1, hC1, hl2, hC2, hl3, hC3⟩ := at_T71 HR0.out (i : Int) (by omega) (by omega)
      cases e1
      have hrd : rd_T71 p (i : Int) = l := by unfold rd_T71; simp [hl]
      rw [hrd] at hx0 hx1 hx2 hx3 hl1 hC1 hl2 hC2 hl3 hC3
      rw [show ((i : Int)).toNat = i from rfl] at hx0 hx1 hx2 hx3
      have hy0 : wr.cell? (ad.add (i * 4)) = some (.int .i64 l.f0) := by rw [HWr.out.bel.cell (World.block_lt_of_cell? w _ hx0)]; exact hx0
      have hy1 : wr.cell? ⟨(ad.add (i * 4)).block, (ad.add (i * 4)).off + 1, none⟩ = some (.slice A1 l.f1.length c1) := by rw [HWr.out.bel.cell (World.block_lt_of_cell? w _ hx1)]; exact hx1
      have hy2 : wr.cell? ⟨(ad.add (i * 4)).block, (ad.add (i * 4)).off + 2, none⟩ = some (.slice A2 l.f2.length c2) := by rw [HWr.out.bel.cell (World.block_lt_of_cell? w _ hx2)]; exact hx2
      have hy3 : wr.cell? ⟨(ad.add (i * 4)).block, (ad.add (i * 4)).off + 3, none⟩ = some (.slice A3 l.f3.length c3) := by rw [HWr.out.bel.cell (World.block_lt_of_cell? w _ hx3)]; exact hx3
      have HT2 : Hid (impT p [] = @ite _ (LemOk l) (Classical.propDecidable _) (if 20000 < (out ++ L (lemB l)).length then ⟨#[]⟩ else impT (p.drop (i + 1)) (out ++ L (lemB l))) ⟨#[]⟩) := by
        show _ = _
        rw [← HT.out, show p.drop i = l :: p.drop (i + 1) from by rw [List.drop_eq_getElem_cons hlt]; congr 1; exact Option.some.inj ((List.getElem?_eq_getElem hlt).symm.trans hl), impT]
      have HNO : Hid (¬ LemOk l → Ending.returned (.string ⟨#[]⟩) = Ending.returned (.string (impT p []))) := by
        intro h; rw [HT2.out, if_neg h]
      obtain ⟨Lc, hLc⟩ : ∃ Lc, L4 l A1 A2 A3 c1 c2 c3 = Lc := ⟨_, rfl⟩
      have HLC := Lib.hid hLc
      have hlw : Lw w out wr.heap.size Lc (wr.alloc (.cells (L4 l A1 A2 A3 c1 c2 c3) 71)) := ⟨HWr.out.below (below_alloc (Below.refl _ _) _), by rw [hLc]; exact heap_new _ _, HWr.out.sz⟩
      unfold L4 at hlw
      have HC1 := Lib.hid hC1
      have HC2 := Lib.hid hC2
      have HC3 := Lib.hid hC3
      clear hx0 hx1 hx2 hx3 hC1 hC2 hC3 hol hBd hrd HT hLc HR0 HOK HBD
      go_upto_region 6 with (fail)
      obtain ⟨q, hq⟩ : ∃ q, wr.heap.size = q := ⟨_, rfl⟩
      obtain ⟨wl, hwl⟩ : ∃ wl, (wr.alloc (.cells #[.int .i64 l.f0, .slice A1 l.f1.length c1, .slice A2 l.f2.length c2, .slice A3 l.f3.length c3] 71)) = wl := ⟨_, rfl⟩
      rw [hwl, hq] at hlw ⊢
      obtain ⟨q0, q1, q2, q3⟩ := L4_cells' HLC.out hlw.blk
      have HLW := Lib.hid hlw
      have HTL : Hid (Tb wl) := HTB.out.below hlw.im.bel
      clear hy0 hy1 hy2 hy3 hlw hwl HWr hq
      by_cases k1 : l.f0 < 1
      · have k1' : decide (l.f0 < 1) = true := decide_eq_true k1
        have HN : Hid (¬ LemOk l) := fun h => by have := h.k.1; omega
        clear k1
        go_wp2_with (fail)
        go_ret
        exact ⟨HNO.out HN.out, HLW.out.im.bel⟩
      have k1' : decide (l.f0 < 1) = false := decide_eq_false k1
      by_cases k3 : 3 < l.f0
      · have k3' : decide (3 < l.f0) = true := decide_eq_true k3
        have HN : Hid (¬ LemOk l) := fun h => by have := h.k.2; omega
        clear k1 k3
        go_wp2_with (fail)
        go_ret
        exact ⟨HNO.out HN.out, HLW.out.im.bel⟩
      have k3' : decide (3 < l.f0) = false := decide_eq_false k3
      have HK : Hid (1 ≤ l.f0 ∧ l.f0 ≤ 3) := ⟨by omega, by omega⟩
      clear k1 k3
      go_wp2_with (fail)
      have HRn : Hid (RowS wl wl.heap.size (.slice none 0 0) []) := RowS.nil _ _
      go_loopw [7, 37] (fun v7 v37 wr => ∃ j : Nat, j ≤ l.f1.length ∧ v37 = .int .i64 j ∧ Hid (RowS wr wl.heap.size v7 ((l.f1.take j).map litB)) ∧ Hid (Below wl.heap.size wl wr) ∧ wl.heap.size ≤ wr.heap.size ∧ Hid (∀ x ∈ l.f1.take j, x ≠ 0)) (fun _ v37 _ => l.f1.length - (intOf v37).toNat)
      case atStart => exact ⟨0, by omega, by first | rfl | go_num, HRn.out, Below.refl _ _, Nat.le_refl _, fun x hx => by simp at hx⟩
      case round =>
        obtain ⟨j, hj, rfl, HO, HBW, hsz, HZ⟩ := hrel
        clear HRn
        by_cases hlj : j < l.f1.length
        · obtain ⟨x, hx⟩ : ∃ x, l.f1[j]? = some x := ⟨_, List.getElem?_eq_getElem hlj⟩
          have hz := HOL.out.i1 x (List.mem_of_getElem? hx)
          have hxm : x ∈ l.f1 := List.mem_of_getElem? hx
          have HX : Hid (l.f1.take (j + 1) = l.f1.take j ++ [x]) := by show _ = _; rw [List.take_add_one, hx]; rfl
          obtain ⟨ad1, e1, hcell⟩ := Kd.at_int HC1.out (j : Int) (by omega) (by omega)
          cases e1
          rw [rd_get hx, show ((j : Int)).toNat = j from rfl] at hcell
          have hbw : Below w.heap.size w wr := HLW.out.im.bel.trans (HBW.out.mono HLW.out.im.bel.size)
          have hcell1 : wr.cell? (ad1.add j) = some (.int .i64 x) := by rw [hbw.cell (World.block_lt_of_cell? w _ hcell)]; exact hcell
          have HTw : Hid (Tb wr) := HTB.out.below hbw
          have hz1 := hz.1
          have hz2 := hz.2
          have HBw := Lib.hid hbw
          clear hx hcell hz hbw
          by_cases hb0 : x = 0
          · have hb1 : (x == 0) = true := beq_iff_eq.2 hb0
            have HN : Hid (¬ LemOk l) := fun h => absurd hb0 (h.z x hxm)
            clear hb0
            go_wp2_with (fail)
            go_ret
            exact ⟨HNO.out HN.out, HBw.out⟩
          · have hb1 : (x == 0) = false := beq_eq_false_iff_ne.2 hb0
            have HZ2 : Hid (∀ y ∈ l.f1.take (j + 1), y ≠ 0) := by
              intro y hy
              rw [HX.out] at hy
              rcases List.mem_append.1 hy with h | h
              · exact HZ.out y h
              · rw [List.mem_singleton] at h; subst h; exact hb0
            clear hb0 HZ hxm
            go_wp2_with (fail)
            refine (itoa_call x hz1 hz2 _ HTw.out).mono ?_
            rintro e w4 ⟨rfl, hb4⟩
            go_wp2_with (fail)
            refine (signed_call (sg x) (by have := sg_size x hz1 hz2; omega) _).mono ?_
            rintro e w5 ⟨rfl, hb5⟩
            have hbb : Below wr.heap.size wr w5 := hb4.trans (hb5.mono hb4.size)
            have HO5 := Lib.hid (HO.out.below hbb)
            have HB5 := Lib.hid (HBW.out.trans (hbb.mono hsz))
            have hsz5 : wl.heap.size ≤ w5.heap.size := Nat.le_trans hsz hbb.size
            clear hb4 hb5 hbb HO HBW
            go_wp2_with (first | (at_builtin; refine wpList_append_own _ rfl _ _ 74 rfl wl.heap.size 9 i0 (.string ⟨#[]⟩) 1 16 Tryd.underlying74 HI.out.1 HI.out.2.1 HI.out.2.2.1 HI.out.2.2.2 rfl (by decide) _ _ _ rfl (World.ownsRow.alloc HO5.out _) ⟨w5.heap.size, 0, none⟩ 1 1 [_] rfl rfl (cell_one_new _ _ _) (by simp [Value.oneCell']) (by rw [List.length_map, List.length_take]; unfold maxLen; omega) (by rw [List.length_map, List.length_take]; omega) (by first | (simp; done) | (simp; omega)) ?_; intro v' w9 hown' hgrow' _) | fail)
            obtain ⟨ha, hb9, hc9⟩ := rowS_step HO5.out HB5.out hsz5 hown' hgrow'
            have HA : Hid (RowS w9 wl.heap.size v' ((l.f1.take (j + 1)).map litB)) := by show RowS _ _ _ _; rw [HX.out, List.map_append]; exact ha
            have HB9 := Lib.hid hb9
            clear ha hb9 hown' hgrow' HO5 HB5
            go_wp2_with (fail)
            go_round
            case rel => exact ⟨j + 1, by omega, by go_num, HA.out, HB9.out, hc9, HZ2.out⟩
            case measure => simp [intOf]; omega
        · have hin : j = l.f1.length := by omega
          subst hin
          have hrow : RowS wr wl.heap.size u7 (l.f1.map litB) := by have := HO.out; rw [List.take_length] at this; exact this
          have hzz : ∀ x ∈ l.f1, x ≠ 0 := by have := HZ.out; rw [List.take_length] at this; exact this
          clear HO HZ hj hlj
          obtain ⟨wm, rfl⟩ : ∃ wm : World, wm = wr := ⟨_, rfl⟩
          have HLwm : Hid (Lw w out q Lc wm) := HLW.out.below HBW.out
          have HR1 := Lib.hid hrow
          have HZ1 := Lib.hid hzz
          clear q0 q1 q2 q3
          obtain ⟨q0, q1, q2, q3⟩ := L4_cells' HLC.out HLwm.out.blk
          clear hrow hzz HBW hsz HLW
          go_wp2_with (fail)
          have HRn : Hid (RowS wm wm.heap.size (.slice none 0 0) []) := RowS.nil _ _
          go_loopw [8, 53] (fun v8 v53 wr => ∃ j : Nat, j ≤ l.f2.length ∧ v53 = .int .i64 j ∧ Hid (RowS wr wm.heap.size v8 ((l.f2.take j).map sg)) ∧ Hid (Below wm.heap.size wm wr) ∧ wm.heap.size ≤ wr.heap.size ∧ Hid (∀ x ∈ l.f2.take j, 0 ≤ x)) (fun _ v53 _ => l.f2.length - (intOf v53).toNat)
          case atStart => exact ⟨0, by omega, by first | rfl | go_num, HRn.out, Below.refl _ _, Nat.le_refl _, fun x hx => by simp at hx⟩
          case round =>
            obtain ⟨j, hj, rfl, HO, HBW, hsz, HZ⟩ := hrel
            clear HRn
            by_cases hlj : j < l.f2.length
            · obtain ⟨x, hx⟩ : ∃ x, l.f2[j]? = some x := ⟨_, List.getElem?_eq_getElem hlj⟩
              have hz := HOL.out.i2 x (List.mem_of_getElem? hx)
              have hxm : x ∈ l.f2 := List.mem_of_getElem? hx
              have HX : Hid (l.f2.take (j + 1) = l.f2.take j ++ [x]) := by show _ = _; rw [List.take_add_one, hx]; rfl
              obtain ⟨ad1, e1, hcell⟩ := Kd.at_int HC2.out (j : Int) (by omega) (by omega)
              cases e1
              rw [rd_get hx, show ((j : Int)).toNat = j from rfl] at hcell
              have hbw : Below w.heap.size w wr := HLwm.out.im.bel.trans (HBW.out.mono HLwm.out.im.bel.size)
              have hcell1 : wr.cell? (ad1.add j) = some (.int .i64 x) := by rw [hbw.cell (World.block_lt_of_cell? w _ hcell)]; exact hcell
              have HTw : Hid (Tb wr) := HTB.out.below hbw
              have hz1 := hz.1
              have hz2 := hz.2
              have HBw := Lib.hid hbw
              clear hx hcell hz hbw
              by_cases hb0 : x < 0
              · have hb1 : decide (x < 0) = true := decide_eq_true hb0
                have HN : Hid (¬ LemOk l) := fun h => absurd (h.n x hxm) (by omega)
                clear hb0
                go_wp2_with (fail)
                go_ret
                exact ⟨HNO.out HN.out, HBw.out⟩
              · have hb1 : decide (x < 0) = false := decide_eq_false hb0
                have HZ2 : Hid (∀ y ∈ l.f2.take (j + 1), 0 ≤ y) := by
                  intro y hy
                  rw [HX.out] at hy
                  rcases List.mem_append.1 hy with h | h
                  · exact HZ.out y h
                  · rw [List.mem_singleton] at h; subst h; omega
                clear hb0 HZ hxm
                go_wp2_with (fail)
                refine (itoa_call x hz1 hz2 _ HTw.out).mono ?_
                rintro e w5 ⟨rfl, hb5⟩
                have HO5 := Lib.hid (HO.out.below hb5)
                have HB5 := Lib.hid (HBW.out.trans (hb5.mono hsz))
                have hsz5 : wm.heap.size ≤ w5.heap.size := Nat.le_trans hsz hb5.size
                clear hb5 HO HBW
                go_wp2_with (first | (at_builtin; refine wpList_append_own _ rfl _ _ 74 rfl wm.heap.size 9 i0 (.string ⟨#[]⟩) 1 16 Tryd.underlying74 HI.out.1 HI.out.2.1 HI.out.2.2.1 HI.out.2.2.2 rfl (by decide) _ _ _ rfl (World.ownsRow.alloc HO5.out _) ⟨w5.heap.size, 0, none⟩ 1 1 [_] rfl rfl (cell_one_new _ _ _) (by simp [Value.oneCell']) (by rw [List.length_map, List.length_take]; unfold maxLen; omega) (by rw [List.length_map, List.length_take]; omega) (by first | (simp; done) | (simp; omega)) ?_; intro v' w9 hown' hgrow' _) | fail)
                obtain ⟨ha, hb9, hc9⟩ := rowS_step HO5.out HB5.out hsz5 hown' hgrow'
                have HA : Hid (RowS w9 wm.heap.size v' ((l.f2.take (j + 1)).map sg)) := by show RowS _ _ _ _; rw [HX.out, List.map_append]; exact ha
                have HB9 := Lib.hid hb9
                clear ha hb9 hown' hgrow' HO5 HB5
                go_wp2_with (fail)
                go_round
                case rel => exact ⟨j + 1, by omega, by go_num, HA.out, HB9.out, hc9, HZ2.out⟩
                case measure => simp [intOf]; omega
            · have hin : j = l.f2.length := by omega
              subst hin
              have hrow : RowS wr wm.heap.size u8 (l.f2.map sg) := by have := HO.out; rw [List.take_length] at this; exact this
              have hzz : ∀ x ∈ l.f2, 0 ≤ x := by have := HZ.out; rw [List.take_length] at this; exact this
              clear HO HZ hj hlj
              clear q0 q1 q2 q3
              obtain ⟨wn, rfl⟩ : ∃ wn : World, wn = wr := ⟨_, rfl⟩
              have HLwn : Hid (Lw w out q Lc wn) := HLwm.out.below HBW.out
              have HR2 := Lib.hid hrow
              have HR1n := Lib.hid (HR1.out.below HBW.out)
              have HZ2 := Lib.hid hzz
              obtain ⟨q0, q1, q2, q3⟩ := L4_cells' HLC.out HLwn.out.blk
              clear hrow hzz HBW hsz HLwm HR1
              go_wp2_with (fail)
              have HRn : Hid (RowS wn wn.heap.size (.slice none 0 0) []) := RowS.nil _ _
              clear q0 q1 q2 q3
              go_loopw [9, 68] (fun v9 v68 wr => ∃ j : Nat, j ≤ l.f3.length ∧ v68 = .int .i64 j ∧ Hid (RowS wr wn.heap.size v9 ((l.f3.take j).map nodeB)) ∧ Hid (Below wn.heap.size wn wr) ∧ wn.heap.size ≤ wr.heap.size ∧ Hid (∀ x ∈ l.f3.take j, NodeOk x)) (fun _ v68 _ => l.f3.length - (intOf v68).toNat)
              case atStart => exact ⟨0, by omega, by first | rfl | go_num, HRn.out, Below.refl _ _, Nat.le_refl _, fun x hx => by simp at hx⟩
              case round =>
                obtain ⟨j, hj, rfl, HO, HBW, hsz, HZ⟩ := hrel
                clear HRn
                by_cases hlj : j < l.f3.length
                · obtain ⟨n, hn0⟩ : ∃ n, l.f3[j]? = some n := ⟨_, List.getElem?_eq_getElem hlj⟩
                  have hon := HOL.out.i3 n (List.mem_of_getElem? hn0)
                  have hmem : n ∈ l.f3 := List.mem_of_getElem? hn0
                  have HX : Hid (l.f3.take (j + 1) = l.f3.take j ++ [n]) := by show _ = _; rw [List.take_add_one, hn0]; rfl
                  obtain ⟨ad3, B2, d2, e1, hx0, hx1, hx2, hl2n, hCn⟩ := at_T77 HC3.out (j : Int) (by omega) (by omega)
                  cases e1
                  have hrd : rd_T77 l.f3 (j : Int) = n := by unfold rd_T77; simp [hn0]
                  rw [hrd] at hx0 hx1 hx2 hl2n hCn
                  rw [show ((j : Int)).toNat = j from rfl] at hx0 hx1 hx2
                  have hbw : Below w.heap.size w wr := HLwn.out.im.bel.trans (HBW.out.mono HLwn.out.im.bel.size)
                  have hy0 : wr.cell? (ad3.add (j * 3)) = some (.int .i64 n.f0) := by rw [hbw.cell (World.block_lt_of_cell? w _ hx0)]; exact hx0
                  have hy1 : wr.cell? ⟨(ad3.add (j * 3)).block, (ad3.add (j * 3)).off + 1, none⟩ = some (.string n.f1) := by rw [hbw.cell (World.block_lt_of_cell? w _ hx1)]; exact hx1
                  have hy2 : wr.cell? ⟨(ad3.add (j * 3)).block, (ad3.add (j * 3)).off + 2, none⟩ = some (.slice B2 n.f2.length d2) := by rw [hbw.cell (World.block_lt_of_cell? w _ hx2)]; exact hx2
                  have HCn := Lib.hid hCn
                  have HON := Lib.hid hon
                  have hlen : (n.f2.length : Int) ≤ 1048576 := by have := hon.len; omega
                  clear hx0 hx1 hx2 hCn hn0 hrd hon
                  go_upto_block 8 with (fail)
                  obtain ⟨qn, hqn⟩ : ∃ qn, wr.heap.size = qn := ⟨_, rfl⟩
                  obtain ⟨Nc, hNc⟩ : ∃ Nc : Array Value, (#[.int .i64 n.f0, .string n.f1, .slice B2 n.f2.length d2] : Array Value) = Nc := ⟨_, rfl⟩
                  have HNC := Lib.hid hNc
                  have hbk := heap_new wr (.cells Nc 77)
                  have hbA : Below wr.heap.size wr (wr.alloc (.cells Nc 77)) := below_alloc (Below.refl _ _) _
                  obtain ⟨w3, hw3⟩ : ∃ w3, (wr.alloc (.cells Nc 77)) = w3 := ⟨_, rfl⟩
                  rw [hNc, hw3, hqn]
                  rw [hw3, hqn] at hbk
                  rw [hw3] at hbA
                  have HO3 := Lib.hid (HO.out.below hbA)
                  have HB3 := Lib.hid (HBW.out.trans (hbA.mono hsz))
                  have hsz3 : wn.heap.size ≤ w3.heap.size := Nat.le_trans hsz hbA.size
                  have HT3 : Hid (Tb w3) := HTB.out.below (hbw.trans (hbA.mono hbw.size))
                  have HBK := Lib.hid hbk
                  have HBELW3 := Lib.hid (hbw.trans (hbA.mono hbw.size))
                  clear hy0 hy1 hy2 hNc hw3 hbk hbA hbw HO HBW hsz hqn
                  go_cut [16] from 72 to 123 (fun v16 wc => NodeOk n ∧ Hid (RowS wc w3.heap.size v16 (parts n)) ∧ Hid (Below w3.heap.size w3 wc) ∧ w3.heap.size ≤ wc.heap.size)
                  case first =>
                    clear HO3 HB3
                    by_cases hleaf : n.f0 = -1 ∧ n.f1.size = 0
                    · have b1 : (n.f0 == -1) = true := beq_iff_eq.2 hleaf.1
                      have b2 : (n.f1.toList == []) = true := by rw [beq_iff_eq]; exact (nil_iff n.f1).2 hleaf.2
                      have HPA : Hid (parts n = leafB :: n.f2.map sk) := by show _ = _; unfold parts; rw [if_pos hleaf]
                      have HNK : Hid (NodeOk n = ∀ m ∈ n.f2, intText 2500 (L m) = true) := by show _ = _; unfold NodeOk; rw [if_pos hleaf]
                      obtain ⟨r0, r1, r2⟩ := N3_cells HNC.out HBK.out
                      have HO5 : Hid (RowS w3 w3.heap.size (.slice none 0 0) []) := RowS.nil _ _
                      have hsz5 : w3.heap.size ≤ w3.heap.size := Nat.le_refl _
                      clear hleaf
                      go_upto_region 30 with (first | (at_builtin; refine wpList_append_own _ rfl _ _ 74 rfl w3.heap.size 9 i0 (.string ⟨#[]⟩) 1 16 Tryd.underlying74 HI.out.1 HI.out.2.1 HI.out.2.2.1 HI.out.2.2.2 rfl (by decide) _ _ _ rfl (World.ownsRow.alloc HO5.out _) ⟨w3.heap.size, 0, none⟩ 1 1 [_] rfl rfl (cell_one_new _ _ _) (by simp [Value.oneCell']) (by first | (unfold maxLen; simp only [List.length_cons, List.length_nil, List.length_map, List.length_take]; omega) | (unfold maxLen; omega) | decide) (by first | (simp only [List.length_cons, List.length_nil, List.length_map, List.length_take]; omega) | omega | decide) (by first | (simp; done) | (simp; omega)) ?_; intro v' w9 hown' hgrow' _) | fail)
                      obtain ⟨ha, hb9, hc9⟩ := rowS_step HO5.out (Below.refl _ _) (Nat.le_refl _) hown' hgrow'
                      have HA : Hid (RowS w9 w3.heap.size v' (leafB :: (n.f2.take 0).map sk)) := ha
                      have HB9 := Lib.hid hb9
                      obtain ⟨s0, s1, s2⟩ := N3_cells HNC.out (by rw [hb9.block _ (blk_lt HBK.out)]; exact HBK.out)
                      clear ha hb9 hown' hgrow' HO5 r0 r1 r2
                      go_wp2_with (fail)
                      go_loopw [16, 87] (fun v16 v87 wr => ∃ jj : Nat, jj ≤ n.f2.length ∧ v87 = .int .i64 jj ∧ Hid (RowS wr w3.heap.size v16 (leafB :: (n.f2.take jj).map sk)) ∧ Hid (Below w3.heap.size w3 wr) ∧ w3.heap.size ≤ wr.heap.size ∧ Hid (∀ m ∈ n.f2.take jj, intText 2500 (L m) = true)) (fun _ v87 _ => n.f2.length - (intOf v87).toNat)
                      case atStart => exact ⟨0, by omega, by first | rfl | go_num, HA.out, HB9.out, hc9, fun m hm => by simp at hm⟩
                      case round =>
                        obtain ⟨jj, hjj, rfl, HO, HBW, hsz, HZ⟩ := hrel
                        clear HA HB9 hc9 s0 s1 s2
                        by_cases hlm : jj < n.f2.length
                        · obtain ⟨x, hx⟩ : ∃ x, n.f2[jj]? = some x := ⟨_, List.getElem?_eq_getElem hlm⟩
                          have hxs := HON.out.mu x (List.mem_of_getElem? hx)
                          have hxm : x ∈ n.f2 := List.mem_of_getElem? hx
                          have HX2 : Hid (n.f2.take (jj + 1) = n.f2.take jj ++ [x]) := by show _ = _; rw [List.take_add_one, hx]; rfl
                          obtain ⟨ad4, e4, hcell⟩ := Kd.at_string HCn.out (jj : Int) (by omega) (by omega)
                          cases e4
                          have hrd2 : rdOf ByteArray.empty n.f2 (jj : Int) = x := by unfold rdOf; simp [hx]
                          rw [hrd2, show ((jj : Int)).toNat = jj from rfl] at hcell
                          have hbw3 : Below w.heap.size w wr := HBELW3.out.trans (HBW.out.mono HBELW3.out.size)
                          have hcell1 : wr.cell? (ad4.add jj) = some (.string x) := by rw [hbw3.cell (World.block_lt_of_cell? w _ hcell)]; exact hcell
                          have HBw := Lib.hid hbw3
                          clear hx hcell hbw3 hrd2
                          go_wp2_with (fail)
                          refine (isInt_call x hxs _).mono ?_
                          rintro e w4 ⟨rfl, hb4⟩
                          have HO4 := Lib.hid (HO.out.below hb4)
                          have HB4 := Lib.hid (HBW.out.trans (hb4.mono hsz))
                          have hsz4 : w3.heap.size ≤ w4.heap.size := Nat.le_trans hsz hb4.size
                          have HBw4 := Lib.hid (HBw.out.trans (hb4.mono HBw.out.size))
                          clear hb4 HO HBW HBw
                          cases hI : intText 2500 (L x)
                          · have HN : Hid (¬ LemOk l) := fun h => by have h2 := h.t n hmem; rw [HNK.out] at h2; exact absurd (h2 x hxm) (by rw [hI]; decide)
                            clear hI
                            go_wp2_with (fail)
                            go_ret
                            exact ⟨HNO.out HN.out, HBw4.out⟩
                          · have HZ2 : Hid (∀ y ∈ n.f2.take (jj + 1), intText 2500 (L y) = true) := by
                              intro y hy
                              rw [HX2.out] at hy
                              rcases List.mem_append.1 hy with h | h
                              · exact HZ.out y h
                              · rw [List.mem_singleton] at h; subst h; exact hI
                            clear HZ hxm hI
                            go_wp2_with (fail)
                            refine (signed_call x hxs _).mono ?_
                            rintro e w5 ⟨rfl, hb5⟩
                            have HO5 := Lib.hid (HO4.out.below hb5)
                            have HB5 := Lib.hid (HB4.out.trans (hb5.mono hsz4))
                            have hsz5 : w3.heap.size ≤ w5.heap.size := Nat.le_trans hsz4 hb5.size
                            clear hb5 HO4 HB4
                            go_wp2_with (first | (at_builtin; refine wpList_append_own _ rfl _ _ 74 rfl w3.heap.size 9 i0 (.string ⟨#[]⟩) 1 16 Tryd.underlying74 HI.out.1 HI.out.2.1 HI.out.2.2.1 HI.out.2.2.2 rfl (by decide) _ _ _ rfl (World.ownsRow.alloc HO5.out _) ⟨w5.heap.size, 0, none⟩ 1 1 [_] rfl rfl (cell_one_new _ _ _) (by simp [Value.oneCell']) (by first | (unfold maxLen; simp only [List.length_cons, List.length_nil, List.length_map, List.length_take]; omega) | (unfold maxLen; omega) | decide) (by first | (simp only [List.length_cons, List.length_nil, List.length_map, List.length_take]; omega) | omega | decide) (by first | (simp; done) | (simp; omega)) ?_; intro v' w9 hown' hgrow' _) | fail)
                            obtain ⟨ha, hb9, hc9⟩ := rowS_step HO5.out HB5.out hsz5 hown' hgrow'
                            have HA : Hid (RowS w9 w3.heap.size v' (leafB :: (n.f2.take (jj + 1)).map sk)) := by show RowS _ _ _ _; rw [HX2.out, List.map_append]; exact ha
                            have HB9 := Lib.hid hb9
                            clear ha hb9 hown' hgrow' HO5 HB5
                            go_wp2_with (fail)
                            go_round
                            case rel => exact ⟨jj + 1, by omega, by go_num, HA.out, HB9.out, hc9, HZ2.out⟩
                            case measure => simp [intOf]; omega
                        · have hin : jj = n.f2.length := by omega
                          subst hin
                          have HOk : Hid (NodeOk n) := by show NodeOk n; rw [HNK.out]; have := HZ.out; rw [List.take_length] at this; exact this
                          have HRo : Hid (RowS wr w3.heap.size u16 (parts n)) := by show RowS _ _ _ _; rw [HPA.out]; have := HO.out; rw [List.take_length] at this; exact this
                          clear HO HZ
                          go_wp2_with (fail)
                          go_meet
                          case rel => exact ⟨HOk.out, HRo.out, HBW.out, hsz⟩
                    · have HPA : Hid (parts n = [branchB, sg n.f0, sk n.f1]) := by show _ = _; unfold parts; rw [if_neg hleaf]
                      have HNK : Hid (NodeOk n = (0 ≤ n.f0 ∧ intText 2500 (L n.f1) = true ∧ n.f2.length = 0)) := by show _ = _; unfold NodeOk; rw [if_neg hleaf]
                      have hz1 := HON.out.lo
                      have hz2 := HON.out.hi
                      have hat := HON.out.at_
                      go_upto_region 28 with (fail)
                      obtain ⟨r0, r1, r2⟩ := N3_cells HNC.out HBK.out
                      go_cut [72] from 73 to 80 (fun v72 wc => v72 = .bool false ∧ wc = w3)
                      case first =>
                        by_cases b1 : n.f0 = -1
                        · have b1' : (n.f0 == -1) = true := beq_iff_eq.2 b1
                          have b2 : (n.f1.toList == []) = false := by rw [beq_eq_false_iff_ne]; exact fun h => hleaf ⟨b1, (nil_iff n.f1).1 h⟩
                          clear b1 hleaf
                          go_wp2_with (fail)
                          go_meet
                          case rel => exact ⟨rfl, rfl⟩
                        · have b1' : (n.f0 == -1) = false := beq_eq_false_iff_ne.2 b1
                          clear b1 hleaf
                          go_wp2_with (fail)
                          go_meet
                          case rel => exact ⟨rfl, rfl⟩
                      case rest =>
                      obtain ⟨rfl, hwc⟩ := hcut
                      rw [hwc]; clear hwc hleaf
                      by_cases g1 : 0 ≤ n.f0
                      · have g1' : decide (0 ≤ n.f0) = true := decide_eq_true g1
                        go_wp2_with (fail)
                        refine (isInt_call n.f1 hat _).mono ?_
                        rintro e w4 ⟨rfl, hb4⟩
                        have HB4 := Lib.hid hb4
                        have hsz4 : w3.heap.size ≤ w4.heap.size := hb4.size
                        have r0' : w4.cell? ⟨qn, 0, none⟩ = some (.int .i64 n.f0) := by rw [hb4.cell (World.block_lt_of_cell? w3 _ r0)]; exact r0
                        have r1' : w4.cell? ⟨qn, 1, none⟩ = some (.string n.f1) := by rw [hb4.cell (World.block_lt_of_cell? w3 _ r1)]; exact r1
                        have r2' : w4.cell? ⟨qn, 2, none⟩ = some (.slice B2 n.f2.length d2) := by rw [hb4.cell (World.block_lt_of_cell? w3 _ r2)]; exact r2
                        have HBw4 := Lib.hid (HBELW3.out.trans (hb4.mono HBELW3.out.size))
                        clear hb4
                        cases hI : intText 2500 (L n.f1)
                        · have HN : Hid (¬ LemOk l) := fun h => by have h2 := h.t n hmem; rw [HNK.out] at h2; exact absurd h2.2.1 (by rw [hI]; decide)
                          clear hI g1
                          go_wp2_with (fail)
                          go_ret
                          exact ⟨HNO.out HN.out, HBw4.out⟩
                        · by_cases g2 : n.f2.length = 0
                          · have g2' : ((n.f2.length : Int) == 0) = true := beq_iff_eq.2 (by omega)
                            have HOk : Hid (NodeOk n) := by show NodeOk n; rw [HNK.out]; exact ⟨g1, hI, g2⟩
                            clear hI g1 g2
                            go_wp2_with (fail)
                            have HKS : Hid (∀ w', Below w4.heap.size w4 w' → w'.cell? ⟨qn, 0, none⟩ = some (.int .i64 n.f0) ∧ w'.cell? ⟨qn, 1, none⟩ = some (.string n.f1)) := fun w' h => ⟨(h.cell (World.block_lt_of_cell? w4 _ r0')).trans r0', (h.cell (World.block_lt_of_cell? w4 _ r1')).trans r1'⟩
                            have HTW : Hid (∀ w', Below w4.heap.size w4 w' → Tb w') := fun w' h => (HT3.out.below HB4.out).below h
                            have HBW := Lib.hid (Below.refl w4.heap.size w4)
                            clear r0 r1 r2 r2'
                            go_region_held3 (fun w' => w'.cell? ⟨qn, 0, none⟩ = some (.int .i64 n.f0) ∧ w'.cell? ⟨qn, 1, none⟩ = some (.string n.f1))
                              (first | (refine HKS.out _ ?_; repeat (with_reducible first | exact HBW.out | apply below_alloc | apply pw_below_drewN | apply below_drew1)) | go_keep)
                              (first
                                | (go_at_call 37; refine (itoa_call n.f0 hz1 hz2 _ (HTW.out _ (by repeat (with_reducible first | exact HBW.out | apply below_alloc | apply pw_below_drewN | apply below_drew1)))).mono ?_; rintro e w5 ⟨rfl, hb5⟩; have n0_ := Lib.hid (below_step (by repeat (with_reducible first | exact HBW.out | apply below_alloc | apply pw_below_drewN | apply below_drew1)) hb5); clear HBW; have HBW := n0_; clear n0_ hb5)
                                | (go_at_call 36; refine (signed_call n.f1 hat _).mono ?_; rintro e w6 ⟨rfl, hb6⟩; have n0_ := Lib.hid (below_step (by repeat (with_reducible first | exact HBW.out | apply below_alloc | apply pw_below_drewN | apply below_drew1)) hb6); clear HBW; have HBW := n0_; clear n0_ hb6)
                                | ((refine step_append_lies _ (by rfl) _ _ _ (by rfl) w3.heap.size 9 i0 (.string ⟨#[]⟩) 1 16 Tryd.underlying74 HI.out.1 HI.out.2.1 HI.out.2.2.1 HI.out.2.2.2 rfl (by decide) (.slice none 0 0) 0 [] (by rfl) ⟨rfl, .inl ⟨rfl, rfl⟩⟩ ⟨w6.heap.size, 0, none⟩ 3 3 [.string branchB, .string (sg n.f0), .string (sk n.f1)] (by rfl) (by rfl) (World.news_of_block (cs := #[.string branchB, .string (sg n.f0), .string (sk n.f1)]) (t := 9) (fr := (0, 0)) (heap_alloc_new w6 _)) (by simp [Value.oneCell']) (by omega) (by unfold maxLen; omega) (by omega) (by have := HBW.out.size; simp; omega) (w6.heap.size + 1) (by simp) ?_; intro g9 cap9 w9 hown9 hgrow9 hat9 hlt9; have n0_ := Lib.hid (Below.grown (show Below w4.heap.size w4 _ from by repeat (with_reducible first | exact HBW.out | apply below_alloc | apply pw_below_drewN | apply below_drew1)) hgrow9 (by have := HBW.out.size; simp; omega) (fun k_ hk_ => by simp [Value.ownBlock] at hk_)); clear HBW; have HBW := n0_; clear n0_)))
                            go_wp2_with (fail)
                            go_meet
                            case rel => exact ⟨HOk.out, by show RowS _ _ _ _; rw [HPA.out]; exact hown9, HB4.out.trans (HBW.out.mono hsz4), Nat.le_trans hsz4 HBW.out.size⟩
                          · have g2' : ((n.f2.length : Int) == 0) = false := beq_eq_false_iff_ne.2 (by omega)
                            have HN : Hid (¬ LemOk l) := fun h => by have h2 := h.t n hmem; rw [HNK.out] at h2; exact absurd h2.2.2 g2
                            clear hI g1 g2
                            go_wp2_with (fail)
                            go_ret
                            exact ⟨HNO.out HN.out, HBw4.out⟩
                      · have g1' : decide (0 ≤ n.f0) = false := decide_eq_false g1
                        have HN : Hid (¬ LemOk l) := fun h => by have h2 := h.t n hmem; rw [HNK.out] at h2; exact absurd h2.1 g1
                        clear g1
                        go_wp2_with (fail)
                        go_ret
                        exact ⟨HNO.out HN.out, HBELW3.out⟩
                  case rest =>
                    obtain ⟨hNok, HOs, HBs, hszs⟩ := hcut
                    have hJs : (joinB (parts n)).size ≤ 1000000000000 := by have := HBL.out.s n hmem hNok; unfold joinB; rw [show (⟨(Lib.join ((parts n).map L) [32]).toArray⟩ : ByteArray).size = (Lib.join ((parts n).map L) [32]).length from by show (List.toArray _).size = _; simp]; exact this
                    have HZ2 : Hid (∀ y ∈ l.f3.take (j + 1), NodeOk y) := by
                      intro y hy
                      rw [HX.out] at hy
                      rcases List.mem_append.1 hy with h | h
                      · exact HZ.out y h
                      · rw [List.mem_singleton] at h; subst h; exact hNok
                    have hjl := HBL.out.s n hmem hNok
                    have hpl : (parts n).length ≤ 10000000 := by have := HON.out.len; unfold parts; split <;> simp <;> omega
                    go_wp2_with (fail)
                    refine (join_call HOs.out hpl (by omega)).mono ?_
                    rintro e w5 ⟨rfl, hb5⟩
                    have hbb : Below w3.heap.size w3 w5 := HBs.out.trans (hb5.mono hszs)
                    have HO5 := Lib.hid (HO3.out.below hbb)
                    have HB5 := Lib.hid (HB3.out.trans (hbb.mono hsz3))
                    have hsz5 : wn.heap.size ≤ w5.heap.size := Nat.le_trans hsz3 hbb.size
                    obtain ⟨J, hJ⟩ : ∃ J, joinB (parts n) = J := ⟨_, rfl⟩
                    have HJ : Hid (nodeB n = (⟨#[40]⟩ : ByteArray) ++ J ++ (⟨#[41]⟩ : ByteArray)) := by show _ = _; unfold nodeB; rw [hJ]
                    rw [hJ] at hJs ⊢
                    have f1 : (9223372036854775807 < 1 + J.size) = False := eq_false (by omega)
                    have f2 : (9223372036854775807 < 1 + J.size + 1) = False := eq_false (by omega)
                    clear hb5 hbb hJ HOs HBs HO3 HB3 HZ hNok hjl hpl
                    go_wp2_with (first | (at_builtin; refine wpList_append_own _ rfl _ _ 74 rfl wn.heap.size 9 i0 (.string ⟨#[]⟩) 1 16 Tryd.underlying74 HI.out.1 HI.out.2.1 HI.out.2.2.1 HI.out.2.2.2 rfl (by decide) _ _ _ rfl (World.ownsRow.alloc HO5.out _) ⟨w5.heap.size, 0, none⟩ 1 1 [_] rfl rfl (cell_one_new _ _ _) (by simp [Value.oneCell']) (by rw [List.length_map, List.length_take]; unfold maxLen; omega) (by rw [List.length_map, List.length_take]; omega) (by first | (simp; done) | (simp; omega)) ?_; intro v' w9 hown' hgrow' _) | fail)
                    obtain ⟨ha, hb9, hc9⟩ := rowS_step HO5.out HB5.out hsz5 hown' hgrow'
                    have HA : Hid (RowS w9 wn.heap.size v' ((l.f3.take (j + 1)).map nodeB)) := by show RowS _ _ _ _; rw [HX.out, List.map_append]; show RowS _ _ _ (_ ++ [nodeB n]); rw [HJ.out]; exact ha
                    have HB9 := Lib.hid hb9
                    clear ha hb9 hown' hgrow' HO5 HB5
                    go_wp2_with (fail)
                    go_round
                    case rel => exact ⟨j + 1, by omega, by go_num, HA.out, HB9.out, hc9, HZ2.out⟩
                    case measure => simp [intOf]; omega
                · have hin : j = l.f3.length := by omega
                  subst hin
                  have hrow : RowS wr wn.heap.size u9 (l.f3.map nodeB) := by have := HO.out; rw [List.take_length] at this; exact this
                  have hzz : ∀ x ∈ l.f3, NodeOk x := by have := HZ.out; rw [List.take_length] at this; exact this
                  clear HO HZ hj hlj
                  obtain ⟨wk, rfl⟩ : ∃ wk : World, wk = wr := ⟨_, rfl⟩
                  have HOk : Hid (LemOk l) := ⟨HK.out, HZ1.out, HZ2.out, hzz⟩
                  have IMW : Hid (∀ W', Below wk.heap.size wk W' → Lw w out q Lc W') := fun W' h => (HLwn.out.below HBW.out).below h
                  have HBK := Lib.hid (Below.refl wk.heap.size wk)
                  have HBw := Lib.hid (HLwn.out.im.bel.trans (HBW.out.mono HLwn.out.im.bel.size))
                  obtain ⟨J1, hJ1⟩ : ∃ J, joinB (l.f1.map litB) = J := ⟨_, rfl⟩
                  have hs1 : J1.size ≤ 1000000000000 := by rw [← hJ1, joinB_size]; exact HBL.out.j1
                  have C1 : Hid (∀ W, Below wk.heap.size wk W → Calls Tryd.prog 39 #[u7, .string ⟨#[32]⟩] W fun e w' => e = .returned (.string J1) ∧ Below W.heap.size W w') := by
                    intro W hW
                    rw [← hJ1]
                    exact join_call (RowS.below (HR1n.out.below HBW.out) hW) (by rw [List.length_map]; omega) (Nat.le_trans (HBL.out.j1) (by omega))
                  obtain ⟨J2, hJ2⟩ : ∃ J, joinB (l.f2.map sg) = J := ⟨_, rfl⟩
                  have hs2 : J2.size ≤ 1000000000000 := by rw [← hJ2, joinB_size]; exact HBL.out.j2
                  have C2 : Hid (∀ W, Below wk.heap.size wk W → Calls Tryd.prog 39 #[u8, .string ⟨#[32]⟩] W fun e w' => e = .returned (.string J2) ∧ Below W.heap.size W w') := by
                    intro W hW
                    rw [← hJ2]
                    exact join_call (RowS.below (HR2.out.below HBW.out) hW) (by rw [List.length_map]; omega) (Nat.le_trans (HBL.out.j2) (by omega))
                  obtain ⟨J3, hJ3⟩ : ∃ J, joinB (l.f3.map nodeB) = J := ⟨_, rfl⟩
                  have hs3 : J3.size ≤ 1000000000000 := by rw [← hJ3, joinB_size]; exact HBL.out.j3 HOk.out
                  have C3 : Hid (∀ W, Below wk.heap.size wk W → Calls Tryd.prog 39 #[u9, .string ⟨#[32]⟩] W fun e w' => e = .returned (.string J3) ∧ Below W.heap.size W w') := by
                    intro W hW
                    rw [← hJ3]
                    exact join_call (RowS.below hrow hW) (by rw [List.length_map]; omega) (Nat.le_trans (HBL.out.j3 HOk.out) (by omega))
                  obtain ⟨k, hk⟩ : ∃ k : Nat, l.f0 = k := ⟨l.f0.toNat, by have := HK.out.1; omega⟩
                  have hkk := HK.out
                  rw [hk] at hkk
                  obtain ⟨nm, hnm⟩ : ∃ nm, nameB l.f0 = nm := ⟨_, rfl⟩
                  have hnms : nm.size ≤ 3000 := by rw [← hnm]; exact name_size _
                  have HKS : Hid (∀ W', Below wk.heap.size wk W' → W'.cell? ⟨q, 0, none⟩ = some (.int .i64 (k : Int)) ∧ W'.cell? ⟨w.heap.size, k, none⟩ = some (.string nm)) := by
                    intro W' h
                    have h1 := IMW.out W' h
                    refine ⟨?_, ?_⟩
                    · rw [(L4_cells' HLC.out h1.blk).1, hk]
                    · rw [h1.im.name k (by omega) (by omega), ← hnm, hk]
                  have HLB : Hid (lemB l = sumB nm J1 J2 J3) := by show _ = _; unfold lemB; rw [hnm, hJ1, hJ2, hJ3]
                  have hk0 : (0 : Int) ≤ (k : Int) := by omega
                  have hk1 : (k : Int) < 4 := by omega
                  have f1 : (9223372036854775807 < 1 + nm.size) = False := eq_false (by omega)
                  have f2 : (9223372036854775807 < 1 + nm.size + 2) = False := eq_false (by omega)
                  have f3 : (9223372036854775807 < 1 + nm.size + 2 + J1.size) = False := eq_false (by omega)
                  have f4 : (9223372036854775807 < 1 + nm.size + 2 + J1.size + 3) = False := eq_false (by omega)
                  have f5 : (9223372036854775807 < 1 + nm.size + 2 + J1.size + 3 + J2.size) = False := eq_false (by omega)
                  have f6 : (9223372036854775807 < 1 + nm.size + 2 + J1.size + 3 + J2.size + 3) = False := eq_false (by omega)
                  have f7 : (9223372036854775807 < 1 + nm.size + 2 + J1.size + 3 + J2.size + 3 + J3.size) = False := eq_false (by omega)
                  have f8 : (9223372036854775807 < 1 + nm.size + 2 + J1.size + 3 + J2.size + 3 + J3.size + 3) = False := eq_false (by omega)
                  have hsum : (sumB nm J1 J2 J3).size ≤ 4000000000000 := by
                    unfold sumB
                    simp only [ByteArray.size_append]
                    rw [show (⟨#[40]⟩ : ByteArray).size = 1 from rfl, show (⟨#[32, 40]⟩ : ByteArray).size = 2 from rfl, show (⟨#[41, 32, 40]⟩ : ByteArray).size = 3 from rfl, show (⟨#[41, 41, 10]⟩ : ByteArray).size = 3 from rfl]
                    omega
                  have HNM : Hid (nameB (k : Int) = nm) := by show _ = _; rw [← hnm, hk]
                  clear hJ1 hJ2 hJ3 hnm hrow hzz HBW HR1n HR2 HLwn HZ1 HZ2
                  go_wp2_with (fail)
                  go_region_held3 (fun w' => w'.cell? ⟨q, 0, none⟩ = some (.int .i64 (k : Int)) ∧ w'.cell? ⟨w.heap.size, k, none⟩ = some (.string nm))
                    (first | exact ⟨ks8a, ks8b⟩ | (refine HKS.out _ ?_; repeat (with_reducible first | exact HBK.out | apply below_alloc | apply pw_below_drewN | apply below_drew1)))
                    (first
                      | (go_at_call 39; with_reducible refine (C1.out _ (by repeat (with_reducible first | exact HBK.out | apply below_alloc | apply pw_below_drewN | apply below_drew1))).mono ?_; rintro e w5 ⟨rfl, hb_⟩; have n0_ := Lib.hid (below_step (by repeat (with_reducible first | exact HBK.out | apply below_alloc | apply pw_below_drewN | apply below_drew1)) hb_); clear HBK; have HBK := n0_; clear n0_ hb_)
                      | (go_at_call 39; with_reducible refine (C2.out _ (by repeat (with_reducible first | exact HBK.out | apply below_alloc | apply pw_below_drewN | apply below_drew1))).mono ?_; rintro e w6 ⟨rfl, hb_⟩; have n0_ := Lib.hid (below_step (by repeat (with_reducible first | exact HBK.out | apply below_alloc | apply pw_below_drewN | apply below_drew1)) hb_); clear HBK; have HBK := n0_; clear n0_ hb_)
                      | (go_at_call 39; with_reducible refine (C3.out _ (by repeat (with_reducible first | exact HBK.out | apply below_alloc | apply pw_below_drewN | apply below_drew1))).mono ?_; rintro e w7 ⟨rfl, hb_⟩; have n0_ := Lib.hid (below_step (by repeat (with_reducible first | exact HBK.out | apply below_alloc | apply pw_below_drewN | apply below_drew1)) hb_); clear HBK; have HBK := n0_; clear n0_ hb_)
                      | (go_at_call 29; refine (Tryd.Builder_WriteString_k (w.heap.size + 1) (w.heap.size + 1) (Lib.byteCells out) (sumB nm J1 J2 J3) _ (IMW.out _ (by repeat (with_reducible first | exact HBK.out | apply below_alloc | apply pw_below_drewN | apply below_drew1))).im.bu (by rw [byte_len]; omega) (by have h8_ := (IMW.out _ (by repeat (with_reducible first | exact HBK.out | apply below_alloc | apply pw_below_drewN | apply below_drew1))).im.sz; omega)).mono ?_; rintro e w8 ⟨rfl, hbu, hbe, hok⟩; have hIm := Lib.hid (Im.wrote (IMW.out _ (by repeat (with_reducible first | exact HBK.out | apply below_alloc | apply pw_below_drewN | apply below_drew1))).im hbu hbe (cells_str _ _)); have hbq := Lw.other (IMW.out _ (by repeat (with_reducible first | exact HBK.out | apply below_alloc | apply pw_below_drewN | apply below_drew1))) hok; have KS8 : (w8.cell? ⟨q, 0, none⟩ = some (.int .i64 (k : Int)) ∧ w8.cell? ⟨w.heap.size, k, none⟩ = some (.string nm)) := ⟨by rw [(L4_cells' HLC.out hbq).1, hk], (hIm.out.name k (by omega) (by omega)).trans (by rw [HNM.out])⟩; have ks8a := KS8.1; have ks8b := KS8.2; clear KS8 hbu hbe hok hbq))
                  have hL8 : Hid (out ++ L (sumB nm J1 J2 J3) = out ++ L (lemB l)) := by show _ = _; rw [HLB.out]
                  have HIM : Hid (Im w (out ++ L (lemB l)) w8) := by show Im _ _ _; rw [← hL8.out]; exact hIm.out
                  clear hIm ks8a ks8b HKS HBK IMW C1 C2 C3
                  go_wp2_with (fail)
                  refine (Tryd.Builder_Len_f (w.heap.size + 1) (w.heap.size + 1) (Lib.byteCells (out ++ L (lemB l))) w8 HIM.out.bu).mono ?_
                  rintro e w9 ⟨rfl, rfl⟩
                  rw [byte_len]
                  obtain ⟨o2, ho2⟩ : ∃ o2, out ++ L (lemB l) = o2 := ⟨_, rfl⟩
                  have HT3 : Hid (impT p [] = if 20000 < o2.length then ⟨#[]⟩ else impT (p.drop (i + 1)) o2) := by show _ = _; rw [HT2.out, if_pos HOk.out, ho2]
                  rw [ho2] at HIM ⊢
                  have hol2 : o2.length ≤ 4000000100000 := by rw [← ho2, List.length_append, HLB.out, L_length]; omega
                  clear ho2 HT2
                  by_cases hbig : 20000 < o2.length
                  · have hg : decide ((20000 : Int) < (o2.length : Int)) = true := decide_eq_true (by omega)
                    have HF : Hid (impT p [] = ⟨#[]⟩) := by show _ = _; rw [HT3.out, if_pos hbig]
                    clear hbig
                    go_wp2_with (fail)
                    go_ret
                    exact ⟨by first | (rw [HF.out]; done) | (rw [HF.out]; rfl), HIM.out.bel⟩
                  · have hg : decide ((20000 : Int) < (o2.length : Int)) = false := decide_eq_false (by omega)
                    have HF : Hid (impT (p.drop (i + 1)) o2 = impT p []) := by show _ = _; rw [HT3.out, if_neg hbig]
                    have ho3 : o2.length ≤ 20000 := by omega
                    clear hbig
                    go_wp2_with (fail)
                    go_round
                    case rel => exact ⟨i + 1, o2, by omega, by go_num, ho3, HIM.out, HF.out⟩
                    case measure => simp [intOf]; omega
    · have hin : i = p.length := by omega
      subst hin
      have HF : Hid (impT p [] = ⟨out.toArray⟩) := by show _ = _; rw [← HT.out, List.drop_length, impT]
      clear HT
      go_wp2_with (fail)
      refine (Tryd.Builder_String_any_k (w.heap.size + 1) (w.heap.size + 1) out wr HWr.out.bu (by have := HWr.out.sz; omega)).mono ?_
      rintro e w2 ⟨rfl, hb2, hbe, hok2⟩
      have HB2 := Lib.hid (HWr.out.bel.trans (hbe.mono (by omega)))
      clear hb2 hbe hok2
      go_wp2_with (fail)
      go_ret
      exact ⟨by rw [HF.out]; rfl, HB2.out⟩
end Go.Proofs.YtbeelgaganbblaaDoor.Pi
namespace Go.Proofs.YtbeelgaganbblaaDoor.Pl
open Go.RowKit Go.Proofs.YtbeelgaganbblaaDoor Go.Proofs.YtbeelgaganbblaaDoorW.PrintWords Go.Proofs.YtbeelgaganbblaaDoor.By Go.Proofs.YtbeelgaganbblaaDoor.Tok Go.Proofs.YtbeelgaganbblaaDoor.Tree Go.Proofs.YtbeelgaganbblaaDoor.Gp Go.Proofs.YtbeelgaganbblaaDoor.Pw Go.Proofs.YtbeelgaganbblaaDoor.Limb Go.Proofs.YtbeelgaganbblaaDoor.PFnExactProofText Go.Proofs.YtbeelgaganbblaaDoor.Pi
open Go.Proofs.YtbeelgaganbblaaDoor.PFnExactGoodTree (S43)
set_option linter.unusedVariables false
set_option linter.unusedSimpArgs false
set_option maxRecDepth 100000
theorem dg8_dig (d : Nat) (h : d < 10) : dig (Dig.dg8 d) = true := by
  have e : (Dig.dg8 d).toNat = 48 + d := by
    unfold Dig.dg8; rw [UInt8.toNat_ofNat']; exact Nat.mod_eq_of_lt (by omega)
  unfold dig; rw [e]; simp; omega
theorem dec_text (n : Nat) : Lib.decDigits n ≠ [] ∧ (Lib.decDigits n).all dig = true ∧ (0 < n → (Lib.decDigits n)[0]? ≠ some 48) := by
  induction n using Nat.strongRecOn with
  | ind n ih =>
    by_cases h : n < 10
    · rw [Lib.decDigits_one h]
      refine ⟨by simp, ?_, fun h0 => ?_⟩
      · have := dg8_dig n h
        unfold Dig.dg8 at this
        simpa using this
      · intro e
        have e2 : UInt8.ofNat (48 + n) = 48 := by simpa using e
        have e3 := congrArg UInt8.toNat e2
        rw [UInt8.toNat_ofNat', Nat.mod_eq_of_lt (by omega)] at e3
        simp at e3; omega
    · obtain ⟨h1, h2, h3⟩ := ih (n / 10) (by omega)
      rw [Dig.dec_step (by omega)]
      refine ⟨by simp, ?_, fun _ => ?_⟩
      · rw [List.all_append, h2]; simp [dg8_dig (n % 10) (by omega)]
      · have := h3 (by omega)
        cases hd : Lib.decDigits (n / 10) with
        | nil => exact absurd hd h1
        | cons x m => rw [hd] at this; simpa using this
theorem nat_dec (n : Nat) (h : n < 10 ^ 19) : natText 2500 (Lib.decDigits n) = true := by
  obtain ⟨h1, h2, h3⟩ := dec_text n
  have hl := Pw.dec_len 19 n h
  unfold natText
  have h0 : (Lib.decDigits n).length ≠ 0 := fun e => h1 (List.length_eq_zero_iff.1 e)
  rw [decide_eq_true h0, decide_eq_true (by omega : (Lib.decDigits n).length ≤ 2500), show digs (Lib.decDigits n) = true from h2]
  by_cases hn : 0 < n
  · rw [decide_eq_false (h3 hn)]; simp
  · have : n = 0 := by omega
    subst this
    rw [Lib.decDigits_one (by decide)]; rfl
theorem dec_minus (n : Nat) : (Lib.decDigits n)[0]? ≠ some 45 := by
  obtain ⟨h1, h2, _⟩ := dec_text n
  cases hd : Lib.decDigits n with
  | nil => exact absurd hd h1
  | cons x m =>
    rw [hd] at h2
    simp only [List.all_cons, Bool.and_eq_true] at h2
    intro e
    have : x = 45 := by simpa using e
    rw [this] at h2
    exact absurd h2.1 (by decide)
theorem int_sgn (x : Int) (h0 : -9223372036854775808 ≤ x) (h1 : x ≤ 9223372036854775807) : intText 2500 (sgnT x) = true := by
  have hn : x.natAbs < 10 ^ 19 := Nat.lt_of_lt_of_le (show x.natAbs < 9223372036854775809 by omega) (by decide)
  have hd := nat_dec x.natAbs hn
  unfold sgnT
  by_cases hx : x < 0
  · rw [if_pos hx]
    unfold intText
    rw [if_pos (by rfl)]
    show (if Lib.decDigits x.natAbs = [48] then false else natText 2500 (Lib.decDigits x.natAbs)) = true
    have hne : ¬ Lib.decDigits x.natAbs = [48] := fun e => by
      have := (dec_text x.natAbs).2.2 (by omega)
      rw [e] at this; exact this rfl
    rw [if_neg hne]; exact hd
  · rw [if_neg hx, List.nil_append]
    unfold intText
    rw [if_neg (dec_minus _)]
    exact hd
theorem int_sg (x : Int) (h0 : -9223372036854775808 ≤ x) (h1 : x ≤ 9223372036854775807) : intText 2500 (L (sg x)) = true := int_sgn x h0 h1
theorem signK_nat {l : List UInt8} (h : l[0]? ≠ some 45) : signK l = l := by unfold signK; rw [if_neg h]
theorem sk_nat (x : Int) (h : 0 ≤ x) : signK (sgnT x) = sgnT x := by
  apply signK_nat
  unfold sgnT
  rw [if_neg (by omega), List.nil_append]
  exact dec_minus _
theorem kids_trans : ∀ {n l r ts}, Tree.Kids n l r ts → ∀ {m q us}, Tree.Kids m r q us → Tree.Kids (n + m) l q (ts ++ us) := by
  intro n l r ts h
  induction h with
  | nil l => intro m q us h2; rw [Nat.zero_add]; exact h2
  | @leaf n x l r ts hk hg h ih =>
    intro m q us h2
    rw [show n + 1 + m = (n + m) + 1 by omega]
    exact .leaf hk hg (ih h2)
  | @list n x l r1 r ts1 ts hk hg h1 h ih1 ih =>
    intro m q us h2
    rw [show n + 1 + m = (n + m) + 1 by omega]
    exact .list hk hg h1 (ih h2)
theorem kids_app : ∀ {n l r ts}, Tree.Kids n l r ts → ∀ b, Tree.Kids n (l ++ b) (r ++ b) ts := by
  intro n l r ts h
  induction h with
  | nil l => intro b; exact .nil _
  | leaf hk hg h ih => intro b; exact .leaf hk hg (ih b)
  | list hk hg h1 h ih1 ih => intro b; exact .list hk hg (ih1 b) (ih b)
def lens (ts : List (List UInt8)) : Nat := (ts.map List.length).sum
theorem lens_app (a b : List (List UInt8)) : lens (a ++ b) = lens a + lens b := by unfold lens; rw [List.map_append, List.sum_append]
theorem lens_cons (t : List UInt8) (ts : List (List UInt8)) : lens (t :: ts) = t.length + lens ts := by unfold lens; simp
theorem lens_flat : ∀ ts : List (List UInt8), lens ts ≤ (ts.flatMap fun u => 32 :: u).length
  | [] => Nat.le_refl _
  | t :: ts => by rw [lens_cons, List.flatMap_cons, List.length_append, List.length_cons]; have := lens_flat ts; omega
theorem lens_join (ts : List (List UInt8)) : lens ts ≤ (joinS ts).length := by
  cases ts with
  | nil => exact Nat.le_refl _
  | cons t ts => rw [lens_cons]; show _ ≤ (t ++ ts.flatMap fun u => 32 :: u).length; rw [List.length_append]; have := lens_flat ts; omega
theorem join_flat (r : List (List UInt8)) : Lib.joinTail [32] r = r.flatMap (fun u => 32 :: u) := by
  induction r with
  | nil => rfl
  | cons x r ih => rw [List.flatMap_cons, ← ih]; unfold Lib.joinTail; simp
theorem join_joinS (ts : List (List UInt8)) : Lib.join ts [32] = joinS ts := by
  cases ts with
  | nil => rfl
  | cons t ts => rw [Lib.join_cons, join_flat]; rfl
theorem L_join (xs : List ByteArray) : L (joinB xs) = joinS (xs.map L) := by unfold joinB; rw [L_of, join_joinS]
def br (ts : List (List UInt8)) : List UInt8 := 40 :: (joinS ts ++ [41])
theorem br_len (ts : List (List UInt8)) : (br ts).length = (joinS ts).length + 2 := by unfold br; simp
/-- a piece of the writer's work that goes well: it lays n trees, whose texts are ts -/
def Put (f : Wr → Wr) (n : Nat) (ts : List (List UInt8)) : Prop :=
  ∃ (a : List S43) (k : Nat), (∀ s, f s = ⟨s.N ++ a, s.bad, s.size + k⟩) ∧ (∀ b, Tree.Kids n (nds a ++ b) b ts) ∧ k ≤ lens ts
theorem nds_app (a b : List S43) : nds (a ++ b) = nds a ++ nds b := by unfold nds; rw [List.map_append]
theorem Put.none : Put (fun s => s) 0 [] := ⟨[], 0, fun s => by cases s; simp, fun b => .nil b, Nat.le_refl _⟩
theorem Put.comp {f g : Wr → Wr} {n m : Nat} {ts us : List (List UInt8)} (hf : Put f n ts) (hg : Put g m us) : Put (fun s => g (f s)) (n + m) (ts ++ us) := by
  obtain ⟨a, k, h1, h2, h3⟩ := hf
  obtain ⟨c, j, g1, g2, g3⟩ := hg
  refine ⟨a ++ c, k + j, fun s => ?_, fun b => ?_, ?_⟩
  · show g (f s) = _
    rw [h1, g1, List.append_assoc, Nat.add_assoc]
  · rw [nds_app, List.append_assoc]
    exact kids_trans (h2 _) (g2 b)
  · rw [lens_app]; omega
theorem Put.same {f g : Wr → Wr} {n : Nat} {ts : List (List UInt8)} (hf : Put f n ts) (h : ∀ s, g s = f s) : Put g n ts := by
  obtain ⟨a, k, h1, h2, h3⟩ := hf
  exact ⟨a, k, fun s => by rw [h, h1], h2, h3⟩
theorem Put.leaf (k : Int) (t : ByteArray) (hk : k ≠ 1) (hg : goodN ⟨k, L t, 0⟩ = true) (ht : leafT ⟨k, L t, 0⟩ = L t) : Put (fun s => s.leaf k t) 1 [L t] := by
  refine ⟨[⟨k, t, 0, 0⟩], t.size, fun s => rfl, fun b => ?_, ?_⟩
  · have := Tree.Kids.leaf (x := (⟨k, L t, 0⟩ : Nd)) hk hg (Tree.Kids.nil b)
    rw [ht] at this
    exact this
  · rw [lens_cons, L_length]; exact Nat.le_add_right _ _
theorem Put.list {f : Wr → Wr} {n : Nat} {z : Int} {ts : List (List UInt8)} (hf : Put f n ts) (hz : z = (n : Int)) : Put (fun s => f (s.list z)) 1 [br ts] := by
  subst hz
  obtain ⟨a, k, h1, h2, h3⟩ := hf
  refine ⟨⟨1, ⟨#[]⟩, n, 0⟩ :: a, k + 2, fun s => ?_, fun b => ?_, ?_⟩
  · show f (s.list n) = _
    rw [h1]
    show (⟨(s.N ++ [_]) ++ a, s.bad, s.size + 2 + k⟩ : Wr) = _
    rw [List.append_assoc, Nat.add_assoc, Nat.add_comm 2 k]; rfl
  · exact Tree.Kids.list (x := (⟨1, [], n⟩ : Nd)) rfl (good_list n (by omega)) (h2 b) (.nil b)
  · rw [lens_cons, br_len]; have := lens_join ts; omega
theorem Put.nat (t : ByteArray) (h : natText 2500 (L t) = true) : Put (fun s => s.leaf 3 t) 1 [L t] := Put.leaf 3 t (by decide) (good_nat h) rfl
theorem Put.name (t : ByteArray) (hp : plainT (L t) = true) (hi : (L t).all inb = true) : Put (fun s => s.leaf 2 t) 1 [L t] := by
  exact Put.leaf 2 t (by decide) (good_name hi) (by rw [leaf_name, if_pos hp])
theorem Put.int (t : ByteArray) (h : intText 2500 (L t) = true) : Put (Wr.int t) 1 [signK (L t)] := by
  unfold signK
  by_cases hm : (L t)[0]? = some 45
  · rw [if_pos hm]
    have hn : natText 2500 (L (t.extract 1 t.size)) = true := by
      rw [L_extract_end]
      unfold intText at h
      rw [if_pos hm] at h
      split at h
      · cases h
      · exact h
    have h1 := Put.list (z := 2) ((Put.name ⟨#[45]⟩ (by decide) (by decide)).comp (Put.nat _ hn)) rfl
    have e : br ([L ⟨#[45]⟩] ++ [L (t.extract 1 t.size)]) = [40, 45, 32] ++ (L t).drop 1 ++ [41] := by
      rw [L_extract_end]; unfold br joinS; simp [L]
    rw [e] at h1
    refine h1.same fun s => ?_
    unfold Wr.int
    rw [if_pos h, if_pos hm]
  · rw [if_neg hm]
    have hn : natText 2500 (L t) = true := by unfold intText at h; rw [if_neg hm] at h; exact h
    refine (Put.nat t hn).same fun s => ?_
    unfold Wr.int
    rw [if_pos h, if_neg hm]
theorem Put.fold {α : Type} {f : Wr → α → Wr} {g : α → List UInt8} : ∀ (xs : List α), (∀ x ∈ xs, Put (fun s => f s x) 1 [g x]) → Put (fun s => xs.foldl f s) xs.length (xs.map g)
  | [], _ => Put.none
  | x :: xs, h => by
    have h1 := (h x (List.mem_cons_self ..)).comp (Put.fold xs fun y hy => h y (List.mem_cons_of_mem _ hy))
    rw [List.length_cons, Nat.add_comm, List.map_cons]
    exact h1.same fun s => rfl
theorem Put.lit (x : Int) (h : x ≠ 0) (h0 : -9223372036854775808 ≤ x) (h1 : x ≤ 9223372036854775807) : Put (fun s => s.lit x) 1 [L (litB x)] :=
  (Put.int (sg x) (int_sg x h0 h1)).same fun s => by unfold Wr.lit; rw [if_neg h]
theorem Put.num (x : Int) (h : 0 ≤ x) (h1 : x ≤ 9223372036854775807) : Put (fun s => s.num x) 1 [L (sg x)] := by
  have := Put.int (sg x) (int_sg x (by omega) h1)
  rw [show signK (L (sg x)) = L (sg x) from sk_nat x h] at this
  exact this.same fun s => by unfold Wr.num; rw [if_neg (by omega)]
theorem Put.node (n : S77) (h : NodeOk n) (ho : OkN n) : Put (fun s => s.node n) 1 [L (nodeB n)] := by
  have e : L (nodeB n) = br ((parts n).map L) := by
    unfold nodeB br; rw [L_app, L_app, L_join]; rfl
  rw [e]
  unfold NodeOk at h
  by_cases hl : n.f0 = -1 ∧ n.f1.size = 0
  · rw [if_pos hl] at h
    have h1 := Put.list (z := 1 + n.f2.length) ((Put.name leafB (by decide) (by decide)).comp (Put.fold (f := Wr.put) (g := fun m => L (sk m)) n.f2 fun x hx => Put.int x (h x hx))) (by omega)
    have e2 : (parts n).map L = [L leafB] ++ n.f2.map (fun m => L (sk m)) := by
      unfold parts; rw [if_pos hl, List.map_cons, List.map_map]; rfl
    rw [e2]
    exact h1.same fun s => by show Wr.node n s = _; unfold Wr.node; rw [if_pos hl]
  · rw [if_neg hl] at h
    have h0 := Put.int (sg n.f0) (int_sg n.f0 ho.lo ho.hi)
    rw [show signK (L (sg n.f0)) = L (sg n.f0) from sk_nat n.f0 h.1] at h0
    have h1 := Put.list (z := 3) (((Put.name branchB (by decide) (by decide)).comp h0).comp (Put.int n.f1 h.2.1)) rfl
    have e2 : (parts n).map L = [L branchB] ++ [L (sg n.f0)] ++ [signK (L n.f1)] := by
      unfold parts; rw [if_neg hl]; rfl
    rw [e2]
    exact h1.same fun s => by show Wr.node n s = _; unfold Wr.node; rw [if_neg hl, if_neg (by have := h.1; have := h.2.2; omega)]
def treeA (ns : List S77) (s : Wr) : Wr := ns.foldl (fun s n => s.node n) s
def lemmaH (l : S71) (s : Wr) : Wr :=
  (l.f2.foldl Wr.num ((l.f1.foldl Wr.lit (((((if l.f0 = 1 ∨ l.f0 = 2 ∨ l.f0 = 3 then s else s.spoil).list 4).leaf 2 (nameB l.f0)).list l.f1.length))).list l.f2.length)).list l.f3.length
def lemmaA (l : S71) (s : Wr) : Wr := treeA l.f3 (lemmaH l s)
theorem tree_cut : ∀ (ns : List S77) (s : Wr), Wr.tree ns s = treeA ns s ∨ 20000 < (Wr.tree ns s).size
  | [], s => .inl rfl
  | n :: r, s => by
    show Wr.tree (n :: r) s = treeA r (s.node n) ∨ _
    unfold Wr.tree
    split
    · next h => exact .inr h
    · exact tree_cut r _
theorem tree_le : ∀ (ns : List S77) (s : Wr), (∀ n ∈ ns, NodeOk n ∧ OkN n) → (Wr.tree ns s).size ≤ (treeA ns s).size
  | [], s, _ => Nat.le_refl _
  | n :: r, s, h => by
    unfold Wr.tree
    split
    · obtain ⟨a, k, h1, _, _⟩ := Put.fold (f := fun s n => s.node n) (g := fun n => L (nodeB n)) (n :: r) fun x hx => Put.node x (h x hx).1 (h x hx).2
      have e := congrArg Wr.size (h1 s)
      show s.size ≤ (List.foldl (fun s n => s.node n) s (n :: r)).size
      exact Nat.le_trans (Nat.le_add_right s.size k) (Nat.le_of_eq e.symm)
    · exact tree_le r _ fun x hx => h x (List.mem_cons_of_mem _ hx)
def textL (l : S71) : List UInt8 := br [L (nameB l.f0), br (l.f1.map fun x => L (litB x)), br (l.f2.map fun x => L (sg x)), br (l.f3.map fun n => L (nodeB n))]
theorem L_lem (l : S71) : L (lemB l) = textL l ++ [10] := by
  unfold lemB sumB textL br
  simp only [L_app, L_join, List.map_map]
  unfold joinS
  simp [L, List.flatMap_cons, Function.comp_def]
theorem name_plain (k : Int) : plainT (L (nameB k)) = true := by
  unfold nameB; split
  · decide
  · split <;> decide
theorem Put.lemma (l : S71) (h : LemOk l) (ho : OkL l) : Put (lemmaA l) 1 [textL l] := by
  have t1 := Put.list (Put.fold (f := Wr.lit) (g := fun x => L (litB x)) l.f1 fun x hx => Put.lit x (h.z x hx) (ho.i1 x hx).1 (ho.i1 x hx).2) rfl
  have t2 := Put.list (Put.fold (f := Wr.num) (g := fun x => L (sg x)) l.f2 fun x hx => Put.num x (h.n x hx) (ho.i2 x hx).2) rfl
  have t3 := Put.list (Put.fold (f := fun s n => s.node n) (g := fun n => L (nodeB n)) l.f3 fun x hx => Put.node x (h.t x hx) (ho.i3 x hx)) rfl
  have t := Put.list (z := 4) ((((Put.name (nameB l.f0) (name_plain _) (name_inb _).1).comp t1).comp t2).comp t3) rfl
  refine Put.same (ts := [textL l]) t fun s => ?_
  unfold lemmaA lemmaH treeA
  rw [if_pos (by have := h.k; omega)]
theorem bad_int (t : ByteArray) (s : Wr) (h : (s.int t).bad = false) : s.bad = false ∧ intText 2500 (L t) = true := by
  unfold Wr.int at h
  split at h
  · next hi => refine ⟨?_, hi⟩; split at h <;> exact h
  · cases h
theorem bad_lit (s : Wr) (x : Int) (h : (s.lit x).bad = false) : s.bad = false ∧ x ≠ 0 := by
  have := (bad_int _ _ h).1
  split at this
  · cases this
  · next hx => exact ⟨this, hx⟩
theorem bad_num (s : Wr) (x : Int) (h : (s.num x).bad = false) : s.bad = false ∧ 0 ≤ x := by
  have := (bad_int _ _ h).1
  split at this
  · cases this
  · next hx => exact ⟨this, by omega⟩
theorem bad_fold {α : Type} {f : Wr → α → Wr} {P : α → Prop} (hf : ∀ s x, (f s x).bad = false → s.bad = false ∧ P x) : ∀ (xs : List α) (s : Wr), (xs.foldl f s).bad = false → s.bad = false ∧ ∀ x ∈ xs, P x
  | [], s, h => ⟨h, fun x hx => by cases hx⟩
  | x :: xs, s, h => by
    obtain ⟨h1, h2⟩ := bad_fold hf xs (f s x) h
    obtain ⟨h3, h4⟩ := hf s x h1
    refine ⟨h3, fun y hy => ?_⟩
    rcases List.mem_cons.1 hy with rfl | hy
    · exact h4
    · exact h2 y hy
theorem bad_node (s : Wr) (n : S77) (h : (s.node n).bad = false) : s.bad = false ∧ NodeOk n := by
  unfold Wr.node at h
  unfold NodeOk
  by_cases hl : n.f0 = -1 ∧ n.f1.size = 0
  · rw [if_pos hl] at h ⊢
    have h1 := bad_fold (f := Wr.put) (P := fun m => intText 2500 (L m) = true) (fun s x h => bad_int x s h) n.f2 _ h
    exact ⟨h1.1, h1.2⟩
  · rw [if_neg hl] at h ⊢
    obtain ⟨h1, h2⟩ := bad_int _ _ h
    have h3 := (bad_int _ _ h1).1
    have h4 : (if n.f0 < 0 ∨ 0 < n.f2.length then s.spoil else s).bad = false := h3
    split at h4
    · cases h4
    · next hx => exact ⟨h4, by omega, h2, by omega⟩
theorem bad_lemma (s : Wr) (l : S71) (h : (lemmaA l s).bad = false) : s.bad = false ∧ LemOk l := by
  obtain ⟨h1, ht⟩ := bad_fold (f := fun s n => s.node n) bad_node l.f3 _ h
  obtain ⟨h2, hn⟩ := bad_fold (f := Wr.num) bad_num l.f2 _ (show _ = false from h1)
  obtain ⟨h3, hz⟩ := bad_fold (f := Wr.lit) bad_lit l.f1 _ (show _ = false from h2)
  have h4 : (if l.f0 = 1 ∨ l.f0 = 2 ∨ l.f0 = 3 then s else s.spoil).bad = false := h3
  split at h4
  · next hk => exact ⟨h4, ⟨by omega, hz, hn, ht⟩⟩
  · cases h4
def res (o : Option Wr) : ByteArray :=
  match o with
  | none => ⟨#[]⟩
  | some s => fin (specW (nds s.N) [] [])
theorem spec_res (p : List S71) : specT p = res (all p w0) := rfl
open Classical in
theorem same_all : ∀ (p : List S71), (∀ l ∈ p, OkL l) → ∀ (s : Wr) (n : Nat) (ts : List (List UInt8)), s.bad = false → Tree.Kids n (nds s.N) [] ts → s.size ≤ (ts.flatMap fun t => t ++ [10]).length →
    res (all p s) = if 20000 < (ts.flatMap fun t => t ++ [10]).length then ⟨#[]⟩ else impT p (ts.flatMap fun t => t ++ [10])
  | [], _, s, n, ts, hb, hK, hz => by
    show fin (specW (nds s.N) [] []) = _
    rw [spec_whole hK]
    unfold fin impT
    by_cases h : 20000 < (ts.flatMap fun t => t ++ [10]).length
    · rw [if_neg (by omega), if_pos h]
    · rw [if_pos (by omega), if_neg h]
  | l :: r, ho, s, n, ts, hb, hK, hz => by
    have hol := ho l (List.mem_cons_self ..)
    have hor : ∀ x ∈ r, OkL x := fun x hx => ho x (List.mem_cons_of_mem _ hx)
    have hcut : (s.lemma l) = lemmaA l s ∨ 20000 < (s.lemma l).size := tree_cut l.f3 (lemmaH l s)
    unfold all impT
    by_cases hl : LemOk l
    · rw [if_pos hl]
      have hle : (s.lemma l).size ≤ (lemmaA l s).size := tree_le l.f3 _ fun x hx => ⟨hl.t x hx, hol.i3 x hx⟩
      obtain ⟨a, k, h1, h2, h3⟩ := Put.lemma l hl hol
      rw [h1 s] at hle hcut
      have hK2 : Tree.Kids (n + 1) (nds (s.N ++ a)) [] (ts ++ [textL l]) := by
        have q := h2 []
        rw [List.append_nil] at q
        have := kids_trans (kids_app hK (nds a)) (show Tree.Kids 1 ([] ++ nds a) [] _ from q)
        rw [nds_app]; exact this
      have hout : (ts ++ [textL l]).flatMap (fun t => t ++ [10]) = (ts.flatMap fun t => t ++ [10]) ++ L (lemB l) := by
        rw [List.flatMap_append, L_lem]; simp
      have hlen : s.size + k ≤ ((ts ++ [textL l]).flatMap (fun t => t ++ [10])).length := by
        rw [hout, List.length_append, L_lem, List.length_append]
        have : lens [textL l] = (textL l).length := by rw [lens_cons]; rfl
        omega
      have hle2 : (s.lemma l).size ≤ s.size + k := hle
      by_cases hbig : 20000 < (s.lemma l).size
      · rw [if_pos (.inr hbig), ← hout]
        show (⟨#[]⟩ : ByteArray) = _
        split
        · rfl
        · rw [if_pos (by omega)]
      · have he : s.lemma l = ⟨s.N ++ a, s.bad, s.size + k⟩ := hcut.resolve_right hbig
        rw [he] at hbig ⊢
        rw [if_neg (by rw [hb]; show ¬ (false = true ∨ 20000 < s.size + k); have : ¬ 20000 < s.size + k := hbig; simp; omega)]
        rw [same_all r hor ⟨s.N ++ a, s.bad, s.size + k⟩ (n + 1) _ hb hK2 hlen, ← hout]
        by_cases hb1 : 20000 < (ts.flatMap fun t => t ++ [10]).length
        · rw [if_pos hb1, if_pos (by rw [hout, List.length_append]; omega)]
        · rw [if_neg hb1]
    · rw [if_neg hl]
      have hno : (s.lemma l).bad = true ∨ 20000 < (s.lemma l).size := by
        rcases hcut with h | h
        · left
          rw [h]
          cases hbb : (lemmaA l s).bad with
          | true => rfl
          | false => exact absurd (bad_lemma s l hbb).2 hl
        · exact .inr h
      rw [if_pos hno]
      show (⟨#[]⟩ : ByteArray) = _
      split <;> rfl
theorem same (p : List S71) (ho : ∀ l ∈ p, OkL l) : specT p = impT p [] := by
  rw [spec_res, same_all p ho w0 0 [] rfl (Tree.Kids.nil []) (Nat.zero_le _)]
  rfl
end Go.Proofs.YtbeelgaganbblaaDoor.Pl
namespace Go.Proofs.YtbeelgaganbblaaDoor.PFnExactProofText
open Go.RowKit Go.Proofs.YtbeelgaganbblaaDoor Go.Proofs.YtbeelgaganbblaaDoorW.PrintWords Go.Proofs.YtbeelgaganbblaaDoor.By Go.Proofs.YtbeelgaganbblaaDoor.Tree Go.Proofs.YtbeelgaganbblaaDoor.Pw Go.Proofs.YtbeelgaganbblaaDoor.Limb Go.Proofs.YtbeelgaganbblaaDoor.Pi Go.Proofs.YtbeelgaganbblaaDoor.Pl
set_option linter.unusedVariables false
set_option linter.unusedSimpArgs false
theorem sumL_le {α : Type} (f : α → List UInt8) (g : α → Nat) : ∀ (xs : List α), (∀ x ∈ xs, (f x).length + 1 ≤ g x) → sumL (xs.map f) ≤ (xs.map g).sum
  | [], _ => Nat.le_refl _
  | x :: xs, h => by
    rw [List.map_cons, sumL_cons, List.map_cons, List.sum_cons]
    have h1 := h x (List.mem_cons_self ..)
    have h2 := sumL_le f g xs fun y hy => h y (List.mem_cons_of_mem _ hy)
    omega
theorem sum_const {α : Type} (c : Nat) : ∀ (xs : List α), (xs.map fun _ => c).sum = c * xs.length
  | [] => rfl
  | x :: xs => by rw [List.map_cons, List.sum_cons, sum_const c xs, List.length_cons, Nat.mul_succ]; omega
theorem sum_mul {α : Type} (c : Nat) (g : α → Nat) : ∀ (xs : List α), (xs.map fun x => c * g x).sum = c * (xs.map g).sum
  | [] => rfl
  | x :: xs => by rw [List.map_cons, List.sum_cons, sum_mul c g xs, List.map_cons, List.sum_cons, Nat.mul_add]
theorem join_bound (xs : List ByteArray) : (Lib.join (xs.map L) [32]).length ≤ sumL (xs.map L) := by rw [join_joinS]; exact join_len _
theorem signK_len (l : List UInt8) : (signK l).length ≤ l.length + 4 := by unfold signK; split <;> simp <;> omega
theorem sk_len (t : ByteArray) : (L (sk t)).length ≤ t.size + 4 := by
  have := signK_len (L t)
  rw [L_length] at this
  exact this
theorem parts_len (n : S77) (h : NodeOk n) (ho : OkN n) : (Lib.join ((parts n).map L) [32]).length ≤ 6000 + 3000 * n.f2.length := by
  refine Nat.le_trans (join_bound _) ?_
  unfold NodeOk at h
  unfold parts
  split at h
  · next hl =>
    rw [if_pos hl, List.map_cons, sumL_cons, List.map_map]
    have h1 := sumL_le (fun m => L (sk m)) (fun _ => 3000) n.f2 fun m hm => by
      have := sk_len m
      have := (intText_len (h m hm)).2.1
      show (L (sk m)).length + 1 ≤ 3000
      omega
    rw [sum_const] at h1
    have : sumL (n.f2.map (L ∘ sk)) ≤ 3000 * n.f2.length := h1
    have : (L leafB).length = 4 := rfl
    omega
  · next hl =>
    rw [if_neg hl]
    have h1 := sg_size n.f0 ho.lo ho.hi
    have h2 := sk_len n.f1
    have h3 := (intText_len h.2.1).2.1
    have h4 : (L (sg n.f0)).length = (sg n.f0).size := L_length _
    have h5 : (L branchB).length = 6 := rfl
    simp only [List.map_cons, List.map_nil, sumL_cons]
    have : sumL [] = 0 := rfl
    omega
theorem node_len (n : S77) (h : NodeOk n) (ho : OkN n) : (L (nodeB n)).length + 1 ≤ 3000 * nodeW n := by
  have h1 := parts_len n h ho
  have e : L (nodeB n) = 40 :: (L (joinB (parts n)) ++ [41]) := by unfold nodeB; rw [L_app, L_app]; rfl
  have e2 : (L (joinB (parts n))).length = (Lib.join ((parts n).map L) [32]).length := by rw [L_length, joinB_size]
  rw [e, List.length_cons, List.length_append, List.length_cons, List.length_nil, e2]
  unfold nodeW
  omega
theorem OkP.bd {p : List S71} (h : OkP p) : ∀ l ∈ p, Bd l := by
  intro l hl
  have ho := h.l l hl
  have hw : lemW l ≤ 99000000 := by
    have : lemW l ≤ (p.map lemW).sum := by
      obtain ⟨a, b, rfl⟩ := List.append_of_mem hl
      rw [List.map_append, List.sum_append, List.map_cons, List.sum_cons]; omega
    have := h.z
    omega
  unfold lemW at hw
  have n1 := ho.n1
  have n2 := ho.n2
  refine ⟨?_, ?_, fun hok => ?_, fun n hn hok => ?_⟩
  · refine Nat.le_trans (join_bound _) ?_
    rw [List.map_map]
    have h1 := sumL_le (L ∘ litB) (fun _ => 4000) l.f1 fun x hx => by
      have h2 := sk_len (sg x)
      have h3 := sg_size x (ho.i1 x hx).1 (ho.i1 x hx).2
      show (L (litB x)).length + 1 ≤ 4000
      unfold litB
      omega
    rw [sum_const] at h1
    omega
  · refine Nat.le_trans (join_bound _) ?_
    rw [List.map_map]
    have h1 := sumL_le (L ∘ sg) (fun _ => 4000) l.f2 fun x hx => by
      have h3 := sg_size x (ho.i2 x hx).1 (ho.i2 x hx).2
      have h4 : (L (sg x)).length = (sg x).size := L_length _
      show (L (sg x)).length + 1 ≤ 4000
      omega
    rw [sum_const] at h1
    omega
  · refine Nat.le_trans (join_bound _) ?_
    rw [List.map_map]
    have h1 := sumL_le (L ∘ nodeB) (fun n => 3000 * nodeW n) l.f3 fun x hx => node_len x (hok.t x hx) (ho.i3 x hx)
    rw [sum_mul] at h1
    omega
  · have h1 := parts_len n hok (ho.i3 n hn)
    have h2 := (ho.i3 n hn).len
    omega
open Classical in
noncomputable def impl_ProofText.f (p : List S71) : Option ByteArray := if OkP p then some (impT p []) else none
theorem impl_ProofText.calls (A0 : Option Addr) (c0 : Nat) (p : List S71) (r : ByteArray) (w : World) (hT : Tb w) (hr0 : Kd.C k71 w A0 p.length p) (hc0 : p.length ≤ c0) (h : impl_ProofText.f p = some r) :
    Calls Tryd.prog 17 #[.slice A0 p.length c0] w fun e w' => e = .returned (.string r) ∧ Below w.heap.size w w' := by
  unfold impl_ProofText.f at h
  split at h
  · next hok =>
    obtain rfl := Option.some.inj h
    exact imp_any A0 c0 p w hr0 hc0 hT hok hok.bd
  · cases h
theorem _root_.Go.Proofs.YtbeelgaganbblaaDoor.Pi.Tb.here {w w' : World} (h : Tb w) (hb : Below w.heap.size w w') : Tb w' := h.below hb
end Go.Proofs.YtbeelgaganbblaaDoor.PFnExactProofText
namespace Go.Proofs.YtbeelgaganbblaaDoor.PFnExactProofText
open Go.RowKit Go.Proofs.YtbeelgaganbblaaDoorW.PrintWords Go.Proofs.YtbeelgaganbblaaDoorW.PrintLast Go.Proofs.YtbeelgaganbblaaDoorW.PrintMore
attribute [local go_sem] max2_int min2_int max_two min_two max_three min_three max_four min_four   -- for this text's walks alone
set_option linter.unusedVariables false
set_option linter.unusedSimpArgs false
def laws_szIntS.f (l0 : List Int) (a1 : Int) : Option (Int) := if (wrap64 (a1 - (l0.length : Int))) < 0 then (some (-1)) else (some (wrap64 (a1 - (l0.length : Int))))
set_option maxHeartbeats 8000000 in
set_option maxRecDepth 100000 in
theorem laws_szIntS.calls (A0 : Option Addr) (c0 : Nat) (l0 : List Int) (a1 : Int) (r : Int) (w : World) (hr0 : Kd.C (Kd.int .i64) w A0 l0.length l0) (hc0 : l0.length ≤ c0) (h : laws_szIntS.f l0 a1 = some r) :
    Calls Tryd.prog 50 #[.slice A0 l0.length c0, .int .i64 a1] w fun e w' => e = .returned (.int .i64 r) ∧ Drawn0 w w' := by
  have HR0 := Aside0.mk hr0
  have HC0 := Aside0.mk hc0
  clear hr0 hc0
  have H : (if (wrap64 (a1 - (l0.length : Int))) < 0 then (some (-1)) else (some (wrap64 (a1 - (l0.length : Int))))) = some r := h
  clear h
  by_cases c3 : (wrap64 (a1 - (l0.length : Int))) < 0
  · rw [if_pos c3] at H
    have c3b0 : decide ((wrap64 (a1 - (l0.length : Int))) < 0) = true := decide_eq_true c3
    clear c3
    obtain rfl := Option.some.inj H
    go_enter Tryd.func50, Tryd.ntmps50
    go_wp2
    go_ret
    exact ⟨by first | rfl | (simp; done) | (simp [*]; done), by repeat (first | exact Drawn0.refl _ | apply Drawn0.step)⟩
  · rw [if_neg c3] at H
    have c3b0 : decide ((wrap64 (a1 - (l0.length : Int))) < 0) = false := decide_eq_false c3
    clear c3
    obtain rfl := Option.some.inj H
    go_enter Tryd.func50, Tryd.ntmps50
    go_wp2
    go_ret
    exact ⟨by first | rfl | (simp; done) | (simp [*]; done), by repeat (first | exact Drawn0.refl _ | apply Drawn0.step)⟩
def laws_szStringS.l0 : Nat → List ByteArray → Int → Int → Option (Int)
  | 0, _, _, _ => none
  | k + 1, x0, x1, x5 => if x5 < (x0.length : Int) then (if 0 ≤ x5 then (if (wrap64 (x1 - ((rdOf ByteArray.empty x0 x5).size : Int))) < 0 then (some (-1)) else (laws_szStringS.l0 k x0 (wrap64 (x1 - ((rdOf ByteArray.empty x0 x5).size : Int))) (wrap64 (x5 + 1)))) else (none)) else (some x1)
def laws_szStringS.f (k : Nat) (l0 : List ByteArray) (a1 : Int) : Option (Int) := if (wrap64 (a1 - (l0.length : Int))) < 0 then (some (-1)) else (laws_szStringS.l0 k l0 (wrap64 (a1 - (l0.length : Int))) 0)
set_option maxHeartbeats 8000000 in
set_option maxRecDepth 100000 in
theorem laws_szStringS.calls (k : Nat) (A0 : Option Addr) (c0 : Nat) (l0 : List ByteArray) (a1 : Int) (r : Int) (w : World) (hr0 : Kd.C Kd.string w A0 l0.length l0) (hc0 : l0.length ≤ c0) (h : laws_szStringS.f k l0 a1 = some r) :
    Calls Tryd.prog 106 #[.slice A0 l0.length c0, .int .i64 a1] w fun e w' => e = .returned (.int .i64 r) ∧ Drawn0 w w' := by
  have HR0 := Aside0.mk hr0
  have HC0 := Aside0.mk hc0
  clear hr0 hc0
  have H : (if (wrap64 (a1 - (l0.length : Int))) < 0 then (some (-1)) else (laws_szStringS.l0 k l0 (wrap64 (a1 - (l0.length : Int))) 0)) = some r := h
  clear h
  by_cases c3 : (wrap64 (a1 - (l0.length : Int))) < 0
  · rw [if_pos c3] at H
    have c3b0 : decide ((wrap64 (a1 - (l0.length : Int))) < 0) = true := decide_eq_true c3
    clear c3
    obtain rfl := Option.some.inj H
    go_enter Tryd.func106, Tryd.ntmps106
    go_wp2
    go_ret
    exact ⟨by first | rfl | (simp; done) | (simp [*]; done), by repeat (first | exact Drawn0.refl _ | apply Drawn0.step)⟩
  · rw [if_neg c3] at H
    have c3b0 : decide ((wrap64 (a1 - (l0.length : Int))) < 0) = false := decide_eq_false c3
    clear c3
    have H' := Aside0.mk H
    clear H
    go_enter Tryd.func106, Tryd.ntmps106
    go_wp2
    go_loopg [1, 5] k (fun kq v1 v5 w' => ∃ (x1_1 : Int) (x5_1 : Int), v1 = .int .i64 x1_1 ∧ v5 = .int .i64 x5_1 ∧ Aside0 (laws_szStringS.l0 kq l0 x1_1 x5_1 = some r) ∧ Aside0 (kq ≤ k) ∧ Drawn0 w w')
    case atStart => exact ⟨(wrap64 (a1 - (l0.length : Int))), (0), (by first | rfl | (simp; done) | (simp [*]; done)), (by first | rfl | (simp; done) | (simp [*]; done)), H', ⟨Nat.le_refl _⟩, by repeat (first | exact Drawn0.refl _ | apply Drawn0.step)⟩
    case round =>
      clear H'
      try clear c1
      try clear p2
      try clear c3
      try clear c3b0
      obtain ⟨x1_1, x5_1, rfl, rfl, HA, HK1, ⟨m1, rfl⟩⟩ := hrel
      cases gk with
      | zero => exact absurd HA.out (by simp [laws_szStringS.l0])
      | succ k1 =>
        have H := HA.out
        clear HA
        simp only [laws_szStringS.l0] at H
        by_cases c4 : x5_1 < (l0.length : Int)
        · rw [if_pos c4] at H
          have c4b0 : decide (x5_1 < (l0.length : Int)) = true := decide_eq_true c4
          clear c4
          by_cases c5 : 0 ≤ x5_1
          · rw [if_pos c5] at H
            have c5b0 : decide (0 ≤ x5_1) = true := decide_eq_true c5
            clear c5
            by_cases c6 : (wrap64 (x1_1 - ((rdOf ByteArray.empty l0 x5_1).size : Int))) < 0
            · rw [if_pos c6] at H
              have c6b0 : decide ((wrap64 (x1_1 - ((rdOf ByteArray.empty l0 x5_1).size : Int))) < 0) = true := decide_eq_true c6
              clear c6
              obtain rfl := Option.some.inj H
              have p101 : 0 ≤ (x5_1 : Int) := of_decide_eq_true (by first | (with_reducible assumption) | assumption)
              have q101 : x5_1 < (l0.length : Int) := of_decide_eq_true (by first | (with_reducible assumption) | assumption)
              obtain ⟨ad101, e101, hx101_0⟩ := Kd.at_string HR0.out x5_1 p101 q101
              cases e101
              replace p101 := eq_true p101
              replace q101 := eq_true q101
              go_wp2
              go_ret
              exact ⟨by first | rfl | (simp; done) | (simp [*]; done), by repeat (first | exact Drawn0.refl _ | apply Drawn0.step)⟩
            · rw [if_neg c6] at H
              have c6b0 : decide ((wrap64 (x1_1 - ((rdOf ByteArray.empty l0 x5_1).size : Int))) < 0) = false := decide_eq_false c6
              clear c6
              have H' := Aside0.mk H
              clear H
              have p101 : 0 ≤ (x5_1 : Int) := of_decide_eq_true (by first | (with_reducible assumption) | assumption)
              have q101 : x5_1 < (l0.length : Int) := of_decide_eq_true (by first | (with_reducible assumption) | assumption)
              obtain ⟨ad101, e101, hx101_0⟩ := Kd.at_string HR0.out x5_1 p101 q101
              cases e101
              replace p101 := eq_true p101
              replace q101 := eq_true q101
              go_wp2
              go_roundg k1
              case measure => have := HK1.out; omega
              case rel => exact ⟨(wrap64 (x1_1 - ((rdOf ByteArray.empty l0 x5_1).size : Int))), (wrap64 (x5_1 + 1)), (by first | rfl | (simp; done) | (simp [*]; done)), (by first | rfl | (simp; done) | (simp [*]; done)), H', ⟨by have := HK1.out; omega⟩, by repeat (first | exact Drawn0.refl _ | apply Drawn0.step)⟩
          · rw [if_neg c5] at H
            exact absurd H (by simp)
        · rw [if_neg c4] at H
          have c4b0 : decide (x5_1 < (l0.length : Int)) = false := decide_eq_false c4
          clear c4
          obtain rfl := Option.some.inj H
          go_wp2
          go_ret
          exact ⟨by first | rfl | (simp; done) | (simp [*]; done), by repeat (first | exact Drawn0.refl _ | apply Drawn0.step)⟩
def laws_szTreeNode.f (k : Nat) (a0_0 : Int) (a0_1 : ByteArray) (l0_2 : List ByteArray) (a1 : Int) : Option (Int) := if (wrap64 (a1 - (a0_1.size : Int))) < 0 then (some (-1)) else ((laws_szStringS.f k l0_2 (wrap64 (a1 - (a0_1.size : Int)))).bind fun t103 => (if t103 < 0 then (some (-1)) else (some t103)))
set_option maxHeartbeats 8000000 in
set_option maxRecDepth 100000 in
theorem laws_szTreeNode.calls (k : Nat) (a0_0 : Int) (a0_1 : ByteArray) (A0_2 : Option Addr) (c0_2 : Nat) (l0_2 : List ByteArray) (a1 : Int) (r : Int) (w : World) (hr0_2 : Kd.C Kd.string w A0_2 l0_2.length l0_2) (hc0_2 : l0_2.length ≤ c0_2) (h : laws_szTreeNode.f k a0_0 a0_1 l0_2 a1 = some r) :
    Calls Tryd.prog 88 #[.agg #[.int .i64 a0_0, .string a0_1, .slice A0_2 l0_2.length c0_2], .int .i64 a1] w fun e w' => e = .returned (.int .i64 r) ∧ Below w.heap.size w w' := by
  have hu122 := Tryd.underlying122
  have HR0_2 := Aside0.mk hr0_2
  have HC0_2 := Aside0.mk hc0_2
  clear hr0_2 hc0_2
  have HB := Aside0.mk (Below.refl w.heap.size w)
  have H : (if (wrap64 (a1 - (a0_1.size : Int))) < 0 then (some (-1)) else ((laws_szStringS.f k l0_2 (wrap64 (a1 - (a0_1.size : Int)))).bind fun t103 => (if t103 < 0 then (some (-1)) else (some t103)))) = some r := h
  clear h
  by_cases c3 : (wrap64 (a1 - (a0_1.size : Int))) < 0
  · rw [if_pos c3] at H
    have c3b0 : decide ((wrap64 (a1 - (a0_1.size : Int))) < 0) = true := decide_eq_true c3
    clear c3
    obtain rfl := Option.some.inj H
    go_enter Tryd.func88, Tryd.ntmps88
    go_wp2_with (first | ((with_reducible refine gate_dst (N := 2) rfl ?_); refine box_event ?hg (N := 2) ?hd (cs := #[.int .i64 a0_0, .string a0_1, .slice A0_2 l0_2.length c0_2]) (t := 122) ?hr ?_; (case hd => rfl); (case hg => rfl); (case hr => first | (go_simp; done) | (go_simp; rfl)); intro gb102 hg w4 hbox hb; have n0_ := Aside0.mk (below_step (by repeat (first | (with_reducible first | exact HB.out | apply below_alloc | apply pw_below_drewN | apply below_drew1) | exact HB.out)) hb); have n1_ := Aside0.mk (hbox); have n2_ := Aside0.mk ((by rw [hg]; exact (below_size (by repeat (first | (with_reducible first | exact HB.out | apply below_alloc | apply pw_below_drewN | apply below_drew1) | exact HB.out))) : w.heap.size ≤ gb102)); have n3_ := Aside0.mk ((by rw [hg]; exact (below_size (by repeat (first | (with_reducible first | exact HB.out | apply below_alloc | apply pw_below_drewN | apply below_drew1) | exact HB.out))) : w.heap.size ≤ gb102)); clear HB; have HB := n0_; have BK102 := n1_; have GW102 := n2_; have GE102 := n3_; clear n0_ n1_ n2_ n3_; clear hb hbox hg; have hcz5_0 : w4.cell? ⟨gb102, 0, none⟩ = some (.int .i64 a0_0) := (blk_cell BK102.out 0).trans rfl; have hcz5_1 : w4.cell? ⟨gb102, 1, none⟩ = some (.string a0_1) := (blk_cell BK102.out 1).trans rfl; have hcz5_2 : w4.cell? ⟨gb102, 2, none⟩ = some (.slice A0_2 l0_2.length c0_2) := (blk_cell BK102.out 2).trans rfl; have hfz5_0 := blk_frozen BK102.out 0; have hfz5_1 := blk_frozen BK102.out 1; have hfz5_2 := blk_frozen BK102.out 2))
    go_ret
    exact ⟨by first | rfl | (simp [errW_none, errW_some] <;> rfl) | (simp [*, errW_none, errW_some] <;> rfl), by repeat (first | (with_reducible first | exact HB.out | apply below_alloc | apply pw_below_drewN | apply below_drew1 | refine below_set ?_ GE102.out) | exact HB.out)⟩
  · rw [if_neg c3] at H
    have c3b0 : decide ((wrap64 (a1 - (a0_1.size : Int))) < 0) = false := decide_eq_false c3
    clear c3
    replace H := Option.bind_eq_some_iff.mp H
    obtain ⟨t103, A60, H⟩ := H
    replace H : (if t103 < 0 then (some (-1)) else (some t103)) = some r := H
    have A6 := Aside0.mk A60
    clear A60
    by_cases c7 : t103 < 0
    · rw [if_pos c7] at H
      have c7b0 : decide (t103 < 0) = true := decide_eq_true c7
      clear c7
      obtain rfl := Option.some.inj H
      go_enter Tryd.func88, Tryd.ntmps88
      go_wp2_with (first | ((with_reducible refine gate_dst (N := 2) rfl ?_); refine box_event ?hg (N := 2) ?hd (cs := #[.int .i64 a0_0, .string a0_1, .slice A0_2 l0_2.length c0_2]) (t := 122) ?hr ?_; (case hd => rfl); (case hg => rfl); (case hr => first | (go_simp; done) | (go_simp; rfl)); intro gb102 hg w8 hbox hb; have n0_ := Aside0.mk (below_step (by repeat (first | (with_reducible first | exact HB.out | apply below_alloc | apply pw_below_drewN | apply below_drew1) | exact HB.out)) hb); have n1_ := Aside0.mk (hbox); have n2_ := Aside0.mk ((by rw [hg]; exact (below_size (by repeat (first | (with_reducible first | exact HB.out | apply below_alloc | apply pw_below_drewN | apply below_drew1) | exact HB.out))) : w.heap.size ≤ gb102)); have n3_ := Aside0.mk ((by rw [hg]; exact (below_size (by repeat (first | (with_reducible first | exact HB.out | apply below_alloc | apply pw_below_drewN | apply below_drew1) | exact HB.out))) : w.heap.size ≤ gb102)); clear HB; have HB := n0_; have BK102 := n1_; have GW102 := n2_; have GE102 := n3_; clear n0_ n1_ n2_ n3_; clear hb hbox hg; have hcz9_0 : w8.cell? ⟨gb102, 0, none⟩ = some (.int .i64 a0_0) := (blk_cell BK102.out 0).trans rfl; have hcz9_1 : w8.cell? ⟨gb102, 1, none⟩ = some (.string a0_1) := (blk_cell BK102.out 1).trans rfl; have hcz9_2 : w8.cell? ⟨gb102, 2, none⟩ = some (.slice A0_2 l0_2.length c0_2) := (blk_cell BK102.out 2).trans rfl; have hfz9_0 := blk_frozen BK102.out 0; have hfz9_1 := blk_frozen BK102.out 1; have hfz9_2 := blk_frozen BK102.out 2) | ((with_reducible refine gate_callee (f := 106) rfl ?_); refine goesL_ (some 15) rfl rfl Tryd.func106 (by kernel_rfl) rfl #[.slice A0_2 l0_2.length c0_2, .int .i64 (wrap64 (a1 - (a0_1.size : Int)))] rfl (by (try simp only [List.map_toArray, List.map_cons, List.map_nil]); first | done | rfl | (simp only [List.length_drop, List.length_take]; rfl)) ?_; (with_reducible refine (laws_szStringS.calls k _ _ l0_2 (wrap64 (a1 - (a0_1.size : Int))) t103 _ ?side1 ?side2 A6.out).mono ?_); (case side1 => repeat (first | exact (Kd.C_below HR0_2.out HB.out) | (with_reducible refine Kd.C_alloc ?_ _) | (with_reducible refine Kd.C_drewN ?_ _) | (with_reducible refine Kd.C_drew ?_))); (case side2 => exact HC0_2.out); rintro e w' ⟨rfl, ⟨nd, rfl⟩⟩; refine ⟨_, rfl, ?_⟩))
      go_ret
      exact ⟨by first | rfl | (simp [errW_none, errW_some] <;> rfl) | (simp [*, errW_none, errW_some] <;> rfl), by repeat (first | (with_reducible first | exact HB.out | apply below_alloc | apply pw_below_drewN | apply below_drew1 | refine below_set ?_ GE102.out) | exact HB.out)⟩
    · rw [if_neg c7] at H
      have c7b0 : decide (t103 < 0) = false := decide_eq_false c7
      clear c7
      obtain rfl := Option.some.inj H
      go_enter Tryd.func88, Tryd.ntmps88
      go_wp2_with (first | ((with_reducible refine gate_dst (N := 2) rfl ?_); refine box_event ?hg (N := 2) ?hd (cs := #[.int .i64 a0_0, .string a0_1, .slice A0_2 l0_2.length c0_2]) (t := 122) ?hr ?_; (case hd => rfl); (case hg => rfl); (case hr => first | (go_simp; done) | (go_simp; rfl)); intro gb102 hg w10 hbox hb; have n0_ := Aside0.mk (below_step (by repeat (first | (with_reducible first | exact HB.out | apply below_alloc | apply pw_below_drewN | apply below_drew1) | exact HB.out)) hb); have n1_ := Aside0.mk (hbox); have n2_ := Aside0.mk ((by rw [hg]; exact (below_size (by repeat (first | (with_reducible first | exact HB.out | apply below_alloc | apply pw_below_drewN | apply below_drew1) | exact HB.out))) : w.heap.size ≤ gb102)); have n3_ := Aside0.mk ((by rw [hg]; exact (below_size (by repeat (first | (with_reducible first | exact HB.out | apply below_alloc | apply pw_below_drewN | apply below_drew1) | exact HB.out))) : w.heap.size ≤ gb102)); clear HB; have HB := n0_; have BK102 := n1_; have GW102 := n2_; have GE102 := n3_; clear n0_ n1_ n2_ n3_; clear hb hbox hg; have hcz11_0 : w10.cell? ⟨gb102, 0, none⟩ = some (.int .i64 a0_0) := (blk_cell BK102.out 0).trans rfl; have hcz11_1 : w10.cell? ⟨gb102, 1, none⟩ = some (.string a0_1) := (blk_cell BK102.out 1).trans rfl; have hcz11_2 : w10.cell? ⟨gb102, 2, none⟩ = some (.slice A0_2 l0_2.length c0_2) := (blk_cell BK102.out 2).trans rfl; have hfz11_0 := blk_frozen BK102.out 0; have hfz11_1 := blk_frozen BK102.out 1; have hfz11_2 := blk_frozen BK102.out 2) | ((with_reducible refine gate_callee (f := 106) rfl ?_); refine goesL_ (some 15) rfl rfl Tryd.func106 (by kernel_rfl) rfl #[.slice A0_2 l0_2.length c0_2, .int .i64 (wrap64 (a1 - (a0_1.size : Int)))] rfl (by (try simp only [List.map_toArray, List.map_cons, List.map_nil]); first | done | rfl | (simp only [List.length_drop, List.length_take]; rfl)) ?_; (with_reducible refine (laws_szStringS.calls k _ _ l0_2 (wrap64 (a1 - (a0_1.size : Int))) t103 _ ?side1 ?side2 A6.out).mono ?_); (case side1 => repeat (first | exact (Kd.C_below HR0_2.out HB.out) | (with_reducible refine Kd.C_alloc ?_ _) | (with_reducible refine Kd.C_drewN ?_ _) | (with_reducible refine Kd.C_drew ?_))); (case side2 => exact HC0_2.out); rintro e w' ⟨rfl, ⟨nd, rfl⟩⟩; refine ⟨_, rfl, ?_⟩))
      go_ret
      exact ⟨by first | rfl | (simp [errW_none, errW_some] <;> rfl) | (simp [*, errW_none, errW_some] <;> rfl), by repeat (first | (with_reducible first | exact HB.out | apply below_alloc | apply pw_below_drewN | apply below_drew1 | refine below_set ?_ GE102.out) | exact HB.out)⟩
def laws_szTreeNodeS.l0 : Nat → List (S122) → Int → Int → Option (Int)
  | 0, _, _, _ => none
  | k + 1, x0, x1, x5 => if x5 < (x0.length : Int) then (if 0 ≤ x5 then ((laws_szTreeNode.f k ((rd_T122 x0 x5).f0) ((rd_T122 x0 x5).f1) ((rd_T122 x0 x5).f2) x1).bind fun t105 => (if t105 < 0 then (some (-1)) else (laws_szTreeNodeS.l0 k x0 t105 (wrap64 (x5 + 1))))) else (none)) else (some x1)
def laws_szTreeNodeS.f (k : Nat) (l0 : List (S122)) (a1 : Int) : Option (Int) := if (wrap64 (a1 - (l0.length : Int))) < 0 then (some (-1)) else (laws_szTreeNodeS.l0 k l0 (wrap64 (a1 - (l0.length : Int))) 0)
set_option maxHeartbeats 8000000 in
set_option maxRecDepth 100000 in
theorem laws_szTreeNodeS.calls (k : Nat) (A0 : Option Addr) (c0 : Nat) (l0 : List (S122)) (a1 : Int) (r : Int) (w : World) (hr0 : Kd.C k122 w A0 l0.length l0) (hc0 : l0.length ≤ c0) (h : laws_szTreeNodeS.f k l0 a1 = some r) :
    Calls Tryd.prog 51 #[.slice A0 l0.length c0, .int .i64 a1] w fun e w' => e = .returned (.int .i64 r) ∧ Below w.heap.size w w' := by
  have hu122 := Tryd.underlying122
  have HR0 := Aside0.mk hr0
  have HC0 := Aside0.mk hc0
  clear hr0 hc0
  have HB := Aside0.mk (Below.refl w.heap.size w)
  have H : (if (wrap64 (a1 - (l0.length : Int))) < 0 then (some (-1)) else (laws_szTreeNodeS.l0 k l0 (wrap64 (a1 - (l0.length : Int))) 0)) = some r := h
  clear h
  by_cases c3 : (wrap64 (a1 - (l0.length : Int))) < 0
  · rw [if_pos c3] at H
    have c3b0 : decide ((wrap64 (a1 - (l0.length : Int))) < 0) = true := decide_eq_true c3
    clear c3
    obtain rfl := Option.some.inj H
    go_enter Tryd.func51, Tryd.ntmps51
    go_wp2
    go_ret
    exact ⟨by first | rfl | (simp [errW_none, errW_some] <;> rfl) | (simp [*, errW_none, errW_some] <;> rfl), by repeat (first | (with_reducible first | exact HB.out | apply below_alloc | apply pw_below_drewN | apply below_drew1) | exact HB.out)⟩
  · rw [if_neg c3] at H
    have c3b0 : decide ((wrap64 (a1 - (l0.length : Int))) < 0) = false := decide_eq_false c3
    clear c3
    have H' := Aside0.mk H
    clear H
    go_enter Tryd.func51, Tryd.ntmps51
    go_wp2
    go_loopg [1, 5] k (fun kq v1 v5 w' => ∃ (x1_1 : Int) (x5_1 : Int), v1 = .int .i64 x1_1 ∧ v5 = .int .i64 x5_1 ∧ Aside0 (laws_szTreeNodeS.l0 kq l0 x1_1 x5_1 = some r) ∧ Aside0 (kq ≤ k) ∧ Aside0 (Below w.heap.size w w'))
    case atStart => exact ⟨(wrap64 (a1 - (l0.length : Int))), (0), (by first | rfl | (simp; done) | (simp [*]; done)), (by first | rfl | (simp; done) | (simp [*]; done)), H', ⟨Nat.le_refl _⟩, ⟨by repeat (first | (with_reducible first | exact HB.out | apply below_alloc | apply pw_below_drewN | apply below_drew1) | exact HB.out)⟩⟩
    case round =>
      clear H'
      try clear p2
      try clear c3
      try clear c3b0
      obtain ⟨x1_1, x5_1, rfl, rfl, HA, HK1, HB⟩ := hrel
      cases gk with
      | zero => exact absurd HA.out (by simp [laws_szTreeNodeS.l0])
      | succ k1 =>
        have H := HA.out
        clear HA
        simp only [laws_szTreeNodeS.l0] at H
        by_cases c4 : x5_1 < (l0.length : Int)
        · rw [if_pos c4] at H
          have c4b0 : decide (x5_1 < (l0.length : Int)) = true := decide_eq_true c4
          clear c4
          by_cases c5 : 0 ≤ x5_1
          · rw [if_pos c5] at H
            have c5b0 : decide (0 ≤ x5_1) = true := decide_eq_true c5
            clear c5
            replace H := Option.bind_eq_some_iff.mp H
            obtain ⟨t105, A60, H⟩ := H
            replace H : (if t105 < 0 then (some (-1)) else (laws_szTreeNodeS.l0 k1 l0 t105 (wrap64 (x5_1 + 1)))) = some r := H
            have A6 := Aside0.mk A60
            clear A60
            by_cases c7 : t105 < 0
            · rw [if_pos c7] at H
              have c7b0 : decide (t105 < 0) = true := decide_eq_true c7
              clear c7
              obtain rfl := Option.some.inj H
              have p104 : 0 ≤ (x5_1 : Int) := of_decide_eq_true (by first | (with_reducible assumption) | assumption)
              have q104 : x5_1 < (l0.length : Int) := of_decide_eq_true (by first | (with_reducible assumption) | assumption)
              obtain ⟨ad104, A104_2, c104_2, e104, hx104_0, hx104_1, hx104_2, hl104_2, hi104_2⟩ := at_T122 HR0.out x5_1 p104 q104
              cases e104
              replace hx104_0 := (HB.out.cell (World.block_lt_of_cell? w _ hx104_0)).trans hx104_0
              replace hx104_1 := (HB.out.cell (World.block_lt_of_cell? w _ hx104_1)).trans hx104_1
              replace hx104_2 := (HB.out.cell (World.block_lt_of_cell? w _ hx104_2)).trans hx104_2
              have HR104_2 := Aside0.mk hi104_2
              have HC104_2 := Aside0.mk hl104_2
              clear hi104_2 hl104_2
              replace p104 := eq_true p104
              replace q104 := eq_true q104
              go_wp2_with (first | ((with_reducible refine gate_callee (f := 88) rfl ?_); refine goesL_ (some 23) rfl rfl Tryd.func88 (by kernel_rfl) rfl #[.agg #[.int .i64 ((rd_T122 l0 x5_1).f0), .string ((rd_T122 l0 x5_1).f1), .slice A104_2 ((rd_T122 l0 x5_1).f2).length c104_2], .int .i64 x1_1] rfl (by (try simp only [List.map_toArray, List.map_cons, List.map_nil]); first | done | rfl | (simp only [List.length_drop, List.length_take]; rfl)) ?_; (with_reducible refine (laws_szTreeNode.calls k1 ((rd_T122 l0 x5_1).f0) ((rd_T122 l0 x5_1).f1) _ _ ((rd_T122 l0 x5_1).f2) x1_1 t105 _ ?side1 ?side2 A6.out).mono ?_); (case side1 => repeat (first | exact (Kd.C_below HR104_2.out HB.out) | (with_reducible refine Kd.C_alloc ?_ _) | (with_reducible refine Kd.C_drewN ?_ _) | (with_reducible refine Kd.C_drew ?_))); (case side2 => exact HC104_2.out); rintro e w8 ⟨rfl, hb⟩; refine ⟨_, rfl, ?_⟩; have n0_ := Aside0.mk (below_step (by repeat (first | (with_reducible first | exact HB.out | apply below_alloc | apply pw_below_drewN | apply below_drew1) | exact HB.out)) hb); clear HB; have HB := n0_; clear n0_; (try clear hb); (try clear hb2); (try clear hk); (try clear hi)))
              go_ret
              exact ⟨by first | rfl | (simp [errW_none, errW_some] <;> rfl) | (simp [*, errW_none, errW_some] <;> rfl), by repeat (first | (with_reducible first | exact HB.out | apply below_alloc | apply pw_below_drewN | apply below_drew1) | exact HB.out)⟩
            · rw [if_neg c7] at H
              have c7b0 : decide (t105 < 0) = false := decide_eq_false c7
              clear c7
              have H' := Aside0.mk H
              clear H
              have p104 : 0 ≤ (x5_1 : Int) := of_decide_eq_true (by first | (with_reducible assumption) | assumption)
              have q104 : x5_1 < (l0.length : Int) := of_decide_eq_true (by first | (with_reducible assumption) | assumption)
              obtain ⟨ad104, A104_2, c104_2, e104, hx104_0, hx104_1, hx104_2, hl104_2, hi104_2⟩ := at_T122 HR0.out x5_1 p104 q104
              cases e104
              replace hx104_0 := (HB.out.cell (World.block_lt_of_cell? w _ hx104_0)).trans hx104_0
              replace hx104_1 := (HB.out.cell (World.block_lt_of_cell? w _ hx104_1)).trans hx104_1
              replace hx104_2 := (HB.out.cell (World.block_lt_of_cell? w _ hx104_2)).trans hx104_2
              have HR104_2 := Aside0.mk hi104_2
              have HC104_2 := Aside0.mk hl104_2
              clear hi104_2 hl104_2
              replace p104 := eq_true p104
              replace q104 := eq_true q104
              go_wp2_with (first | ((with_reducible refine gate_callee (f := 88) rfl ?_); refine goesL_ (some 23) rfl rfl Tryd.func88 (by kernel_rfl) rfl #[.agg #[.int .i64 ((rd_T122 l0 x5_1).f0), .string ((rd_T122 l0 x5_1).f1), .slice A104_2 ((rd_T122 l0 x5_1).f2).length c104_2], .int .i64 x1_1] rfl (by (try simp only [List.map_toArray, List.map_cons, List.map_nil]); first | done | rfl | (simp only [List.length_drop, List.length_take]; rfl)) ?_; (with_reducible refine (laws_szTreeNode.calls k1 ((rd_T122 l0 x5_1).f0) ((rd_T122 l0 x5_1).f1) _ _ ((rd_T122 l0 x5_1).f2) x1_1 t105 _ ?side1 ?side2 A6.out).mono ?_); (case side1 => repeat (first | exact (Kd.C_below HR104_2.out HB.out) | (with_reducible refine Kd.C_alloc ?_ _) | (with_reducible refine Kd.C_drewN ?_ _) | (with_reducible refine Kd.C_drew ?_))); (case side2 => exact HC104_2.out); rintro e w9 ⟨rfl, hb⟩; refine ⟨_, rfl, ?_⟩; have n0_ := Aside0.mk (below_step (by repeat (first | (with_reducible first | exact HB.out | apply below_alloc | apply pw_below_drewN | apply below_drew1) | exact HB.out)) hb); clear HB; have HB := n0_; clear n0_; (try clear hb); (try clear hb2); (try clear hk); (try clear hi)))
              go_roundg k1
              case measure => have := HK1.out; omega
              case rel => exact ⟨(t105), (wrap64 (x5_1 + 1)), (by first | rfl | (simp; done) | (simp [*]; done)), (by first | rfl | (simp; done) | (simp [*]; done)), H', ⟨by have := HK1.out; omega⟩, ⟨by repeat (first | (with_reducible first | exact HB.out | apply below_alloc | apply pw_below_drewN | apply below_drew1) | exact HB.out)⟩⟩
          · rw [if_neg c5] at H
            exact absurd H (by simp)
        · rw [if_neg c4] at H
          have c4b0 : decide (x5_1 < (l0.length : Int)) = false := decide_eq_false c4
          clear c4
          obtain rfl := Option.some.inj H
          go_wp2
          go_ret
          exact ⟨by first | rfl | (simp [errW_none, errW_some] <;> rfl) | (simp [*, errW_none, errW_some] <;> rfl), by repeat (first | (with_reducible first | exact HB.out | apply below_alloc | apply pw_below_drewN | apply below_drew1) | exact HB.out)⟩
def laws_szLemma.f (k : Nat) (a0_0 : Int) (l0_1 : List Int) (l0_2 : List Int) (l0_3 : List (S122)) (a1 : Int) : Option (Int) := (laws_szIntS.f l0_1 a1).bind fun t107 => (if t107 < 0 then (some (-1)) else ((laws_szIntS.f l0_2 t107).bind fun t108 => (if t108 < 0 then (some (-1)) else ((laws_szTreeNodeS.f k l0_3 t108).bind fun t109 => (if t109 < 0 then (some (-1)) else (some t109))))))
set_option maxHeartbeats 8000000 in
set_option maxRecDepth 100000 in
theorem laws_szLemma.calls (k : Nat) (a0_0 : Int) (A0_1 : Option Addr) (c0_1 : Nat) (l0_1 : List Int) (A0_2 : Option Addr) (c0_2 : Nat) (l0_2 : List Int) (A0_3 : Option Addr) (c0_3 : Nat) (l0_3 : List (S122)) (a1 : Int) (r : Int) (w : World) (hr0_1 : Kd.C (Kd.int .i64) w A0_1 l0_1.length l0_1) (hc0_1 : l0_1.length ≤ c0_1) (hr0_2 : Kd.C (Kd.int .i64) w A0_2 l0_2.length l0_2) (hc0_2 : l0_2.length ≤ c0_2) (hr0_3 : Kd.C k122 w A0_3 l0_3.length l0_3) (hc0_3 : l0_3.length ≤ c0_3) (h : laws_szLemma.f k a0_0 l0_1 l0_2 l0_3 a1 = some r) :
    Calls Tryd.prog 33 #[.agg #[.int .i64 a0_0, .slice A0_1 l0_1.length c0_1, .slice A0_2 l0_2.length c0_2, .slice A0_3 l0_3.length c0_3], .int .i64 a1] w fun e w' => e = .returned (.int .i64 r) ∧ Below w.heap.size w w' := by
  have hu65 := Tryd.underlying65
  have HR0_1 := Aside0.mk hr0_1
  have HC0_1 := Aside0.mk hc0_1
  clear hr0_1 hc0_1
  have HR0_2 := Aside0.mk hr0_2
  have HC0_2 := Aside0.mk hc0_2
  clear hr0_2 hc0_2
  have HR0_3 := Aside0.mk hr0_3
  have HC0_3 := Aside0.mk hc0_3
  clear hr0_3 hc0_3
  have HB := Aside0.mk (Below.refl w.heap.size w)
  have H : ((laws_szIntS.f l0_1 a1).bind fun t107 => (if t107 < 0 then (some (-1)) else ((laws_szIntS.f l0_2 t107).bind fun t108 => (if t108 < 0 then (some (-1)) else ((laws_szTreeNodeS.f k l0_3 t108).bind fun t109 => (if t109 < 0 then (some (-1)) else (some t109))))))) = some r := h
  clear h
  replace H := Option.bind_eq_some_iff.mp H
  obtain ⟨t107, A30, H⟩ := H
  replace H : (if t107 < 0 then (some (-1)) else ((laws_szIntS.f l0_2 t107).bind fun t108 => (if t108 < 0 then (some (-1)) else ((laws_szTreeNodeS.f k l0_3 t108).bind fun t109 => (if t109 < 0 then (some (-1)) else (some t109)))))) = some r := H
  have A3 := Aside0.mk A30
  clear A30
  by_cases c4 : t107 < 0
  · rw [if_pos c4] at H
    have c4b0 : decide (t107 < 0) = true := decide_eq_true c4
    clear c4
    obtain rfl := Option.some.inj H
    go_enter Tryd.func33, Tryd.ntmps33
    go_wp2_with (first | ((with_reducible refine gate_dst (N := 2) rfl ?_); refine box_event ?hg (N := 2) ?hd (cs := #[.int .i64 a0_0, .slice A0_1 l0_1.length c0_1, .slice A0_2 l0_2.length c0_2, .slice A0_3 l0_3.length c0_3]) (t := 65) ?hr ?_; (case hd => rfl); (case hg => rfl); (case hr => first | (go_simp; done) | (go_simp; rfl)); intro gb106 hg w5 hbox hb; have n0_ := Aside0.mk (below_step (by repeat (first | (with_reducible first | exact HB.out | apply below_alloc | apply pw_below_drewN | apply below_drew1) | exact HB.out)) hb); have n1_ := Aside0.mk (hbox); have n2_ := Aside0.mk ((by rw [hg]; exact (below_size (by repeat (first | (with_reducible first | exact HB.out | apply below_alloc | apply pw_below_drewN | apply below_drew1) | exact HB.out))) : w.heap.size ≤ gb106)); have n3_ := Aside0.mk ((by rw [hg]; exact (below_size (by repeat (first | (with_reducible first | exact HB.out | apply below_alloc | apply pw_below_drewN | apply below_drew1) | exact HB.out))) : w.heap.size ≤ gb106)); clear HB; have HB := n0_; have BK106 := n1_; have GW106 := n2_; have GE106 := n3_; clear n0_ n1_ n2_ n3_; clear hb hbox hg; have hcz6_0 : w5.cell? ⟨gb106, 0, none⟩ = some (.int .i64 a0_0) := (blk_cell BK106.out 0).trans rfl; have hcz6_1 : w5.cell? ⟨gb106, 1, none⟩ = some (.slice A0_1 l0_1.length c0_1) := (blk_cell BK106.out 1).trans rfl; have hcz6_2 : w5.cell? ⟨gb106, 2, none⟩ = some (.slice A0_2 l0_2.length c0_2) := (blk_cell BK106.out 2).trans rfl; have hcz6_3 : w5.cell? ⟨gb106, 3, none⟩ = some (.slice A0_3 l0_3.length c0_3) := (blk_cell BK106.out 3).trans rfl; have hfz6_0 := blk_frozen BK106.out 0; have hfz6_1 := blk_frozen BK106.out 1; have hfz6_2 := blk_frozen BK106.out 2; have hfz6_3 := blk_frozen BK106.out 3) | ((with_reducible refine gate_callee (f := 50) rfl ?_); refine goesL_ (some 8) rfl rfl Tryd.func50 (by kernel_rfl) rfl #[.slice A0_1 l0_1.length c0_1, .int .i64 a1] rfl (by (try simp only [List.map_toArray, List.map_cons, List.map_nil]); first | done | rfl | (simp only [List.length_drop, List.length_take]; rfl)) ?_; (with_reducible refine (laws_szIntS.calls _ _ l0_1 a1 t107 _ ?side1 ?side2 A3.out).mono ?_); (case side1 => repeat (first | exact (Kd.C_below HR0_1.out HB.out) | (with_reducible refine Kd.C_alloc ?_ _) | (with_reducible refine Kd.C_drewN ?_ _) | (with_reducible refine Kd.C_drew ?_))); (case side2 => exact HC0_1.out); rintro e w' ⟨rfl, ⟨nd, rfl⟩⟩; refine ⟨_, rfl, ?_⟩))
    go_ret
    exact ⟨by first | rfl | (simp [errW_none, errW_some] <;> rfl) | (simp [*, errW_none, errW_some] <;> rfl), by repeat (first | (with_reducible first | exact HB.out | apply below_alloc | apply pw_below_drewN | apply below_drew1 | refine below_set ?_ GE106.out) | exact HB.out)⟩
  · rw [if_neg c4] at H
    have c4b0 : decide (t107 < 0) = false := decide_eq_false c4
    clear c4
    replace H := Option.bind_eq_some_iff.mp H
    obtain ⟨t108, A70, H⟩ := H
    replace H : (if t108 < 0 then (some (-1)) else ((laws_szTreeNodeS.f k l0_3 t108).bind fun t109 => (if t109 < 0 then (some (-1)) else (some t109)))) = some r := H
    have A7 := Aside0.mk A70
    clear A70
    by_cases c8 : t108 < 0
    · rw [if_pos c8] at H
      have c8b0 : decide (t108 < 0) = true := decide_eq_true c8
      clear c8
      obtain rfl := Option.some.inj H
      go_enter Tryd.func33, Tryd.ntmps33
      go_wp2_with (first | ((with_reducible refine gate_dst (N := 2) rfl ?_); refine box_event ?hg (N := 2) ?hd (cs := #[.int .i64 a0_0, .slice A0_1 l0_1.length c0_1, .slice A0_2 l0_2.length c0_2, .slice A0_3 l0_3.length c0_3]) (t := 65) ?hr ?_; (case hd => rfl); (case hg => rfl); (case hr => first | (go_simp; done) | (go_simp; rfl)); intro gb106 hg w9 hbox hb; have n0_ := Aside0.mk (below_step (by repeat (first | (with_reducible first | exact HB.out | apply below_alloc | apply pw_below_drewN | apply below_drew1) | exact HB.out)) hb); have n1_ := Aside0.mk (hbox); have n2_ := Aside0.mk ((by rw [hg]; exact (below_size (by repeat (first | (with_reducible first | exact HB.out | apply below_alloc | apply pw_below_drewN | apply below_drew1) | exact HB.out))) : w.heap.size ≤ gb106)); have n3_ := Aside0.mk ((by rw [hg]; exact (below_size (by repeat (first | (with_reducible first | exact HB.out | apply below_alloc | apply pw_below_drewN | apply below_drew1) | exact HB.out))) : w.heap.size ≤ gb106)); clear HB; have HB := n0_; have BK106 := n1_; have GW106 := n2_; have GE106 := n3_; clear n0_ n1_ n2_ n3_; clear hb hbox hg; have hcz10_0 : w9.cell? ⟨gb106, 0, none⟩ = some (.int .i64 a0_0) := (blk_cell BK106.out 0).trans rfl; have hcz10_1 : w9.cell? ⟨gb106, 1, none⟩ = some (.slice A0_1 l0_1.length c0_1) := (blk_cell BK106.out 1).trans rfl; have hcz10_2 : w9.cell? ⟨gb106, 2, none⟩ = some (.slice A0_2 l0_2.length c0_2) := (blk_cell BK106.out 2).trans rfl; have hcz10_3 : w9.cell? ⟨gb106, 3, none⟩ = some (.slice A0_3 l0_3.length c0_3) := (blk_cell BK106.out 3).trans rfl; have hfz10_0 := blk_frozen BK106.out 0; have hfz10_1 := blk_frozen BK106.out 1; have hfz10_2 := blk_frozen BK106.out 2; have hfz10_3 := blk_frozen BK106.out 3) | ((with_reducible refine gate_callee (f := 50) rfl ?_); refine goesL_ (some 8) rfl rfl Tryd.func50 (by kernel_rfl) rfl #[.slice A0_1 l0_1.length c0_1, .int .i64 a1] rfl (by (try simp only [List.map_toArray, List.map_cons, List.map_nil]); first | done | rfl | (simp only [List.length_drop, List.length_take]; rfl)) ?_; (with_reducible refine (laws_szIntS.calls _ _ l0_1 a1 t107 _ ?side1 ?side2 A3.out).mono ?_); (case side1 => repeat (first | exact (Kd.C_below HR0_1.out HB.out) | (with_reducible refine Kd.C_alloc ?_ _) | (with_reducible refine Kd.C_drewN ?_ _) | (with_reducible refine Kd.C_drew ?_))); (case side2 => exact HC0_1.out); rintro e w' ⟨rfl, ⟨nd, rfl⟩⟩; refine ⟨_, rfl, ?_⟩) | ((with_reducible refine gate_callee (f := 50) rfl ?_); refine goesL_ (some 14) rfl rfl Tryd.func50 (by kernel_rfl) rfl #[.slice A0_2 l0_2.length c0_2, .int .i64 t107] rfl (by (try simp only [List.map_toArray, List.map_cons, List.map_nil]); first | done | rfl | (simp only [List.length_drop, List.length_take]; rfl)) ?_; (with_reducible refine (laws_szIntS.calls _ _ l0_2 t107 t108 _ ?side1 ?side2 A7.out).mono ?_); (case side1 => repeat (first | exact (Kd.C_below HR0_2.out (by repeat (first | (with_reducible first | exact HB.out | apply below_alloc | apply pw_below_drewN | apply below_drew1 | refine below_set ?_ GE106.out) | exact HB.out))) | (with_reducible refine Kd.C_alloc ?_ _) | (with_reducible refine Kd.C_drewN ?_ _) | (with_reducible refine Kd.C_drew ?_))); (case side2 => exact HC0_2.out); rintro e w' ⟨rfl, ⟨nd, rfl⟩⟩; refine ⟨_, rfl, ?_⟩))
      go_ret
      exact ⟨by first | rfl | (simp [errW_none, errW_some] <;> rfl) | (simp [*, errW_none, errW_some] <;> rfl), by repeat (first | (with_reducible first | exact HB.out | apply below_alloc | apply pw_below_drewN | apply below_drew1 | refine below_set ?_ GE106.out) | exact HB.out)⟩
    · rw [if_neg c8] at H
      have c8b0 : decide (t108 < 0) = false := decide_eq_false c8
      clear c8
      replace H := Option.bind_eq_some_iff.mp H
      obtain ⟨t109, A110, H⟩ := H
      replace H : (if t109 < 0 then (some (-1)) else (some t109)) = some r := H
      have A11 := Aside0.mk A110
      clear A110
      by_cases c12 : t109 < 0
      · rw [if_pos c12] at H
        have c12b0 : decide (t109 < 0) = true := decide_eq_true c12
        clear c12
        obtain rfl := Option.some.inj H
        go_enter Tryd.func33, Tryd.ntmps33
        go_wp2_with (first | ((with_reducible refine gate_dst (N := 2) rfl ?_); refine box_event ?hg (N := 2) ?hd (cs := #[.int .i64 a0_0, .slice A0_1 l0_1.length c0_1, .slice A0_2 l0_2.length c0_2, .slice A0_3 l0_3.length c0_3]) (t := 65) ?hr ?_; (case hd => rfl); (case hg => rfl); (case hr => first | (go_simp; done) | (go_simp; rfl)); intro gb106 hg w13 hbox hb; have n0_ := Aside0.mk (below_step (by repeat (first | (with_reducible first | exact HB.out | apply below_alloc | apply pw_below_drewN | apply below_drew1) | exact HB.out)) hb); have n1_ := Aside0.mk (hbox); have n2_ := Aside0.mk ((by rw [hg]; exact (below_size (by repeat (first | (with_reducible first | exact HB.out | apply below_alloc | apply pw_below_drewN | apply below_drew1) | exact HB.out))) : w.heap.size ≤ gb106)); have n3_ := Aside0.mk ((by rw [hg]; exact (below_size (by repeat (first | (with_reducible first | exact HB.out | apply below_alloc | apply pw_below_drewN | apply below_drew1) | exact HB.out))) : w.heap.size ≤ gb106)); clear HB; have HB := n0_; have BK106 := n1_; have GW106 := n2_; have GE106 := n3_; clear n0_ n1_ n2_ n3_; clear hb hbox hg; have hcz14_0 : w13.cell? ⟨gb106, 0, none⟩ = some (.int .i64 a0_0) := (blk_cell BK106.out 0).trans rfl; have hcz14_1 : w13.cell? ⟨gb106, 1, none⟩ = some (.slice A0_1 l0_1.length c0_1) := (blk_cell BK106.out 1).trans rfl; have hcz14_2 : w13.cell? ⟨gb106, 2, none⟩ = some (.slice A0_2 l0_2.length c0_2) := (blk_cell BK106.out 2).trans rfl; have hcz14_3 : w13.cell? ⟨gb106, 3, none⟩ = some (.slice A0_3 l0_3.length c0_3) := (blk_cell BK106.out 3).trans rfl; have hfz14_0 := blk_frozen BK106.out 0; have hfz14_1 := blk_frozen BK106.out 1; have hfz14_2 := blk_frozen BK106.out 2; have hfz14_3 := blk_frozen BK106.out 3) | ((with_reducible refine gate_callee (f := 50) rfl ?_); refine goesL_ (some 8) rfl rfl Tryd.func50 (by kernel_rfl) rfl #[.slice A0_1 l0_1.length c0_1, .int .i64 a1] rfl (by (try simp only [List.map_toArray, List.map_cons, List.map_nil]); first | done | rfl | (simp only [List.length_drop, List.length_take]; rfl)) ?_; (with_reducible refine (laws_szIntS.calls _ _ l0_1 a1 t107 _ ?side1 ?side2 A3.out).mono ?_); (case side1 => repeat (first | exact (Kd.C_below HR0_1.out HB.out) | (with_reducible refine Kd.C_alloc ?_ _) | (with_reducible refine Kd.C_drewN ?_ _) | (with_reducible refine Kd.C_drew ?_))); (case side2 => exact HC0_1.out); rintro e w' ⟨rfl, ⟨nd, rfl⟩⟩; refine ⟨_, rfl, ?_⟩) | ((with_reducible refine gate_callee (f := 50) rfl ?_); refine goesL_ (some 14) rfl rfl Tryd.func50 (by kernel_rfl) rfl #[.slice A0_2 l0_2.length c0_2, .int .i64 t107] rfl (by (try simp only [List.map_toArray, List.map_cons, List.map_nil]); first | done | rfl | (simp only [List.length_drop, List.length_take]; rfl)) ?_; (with_reducible refine (laws_szIntS.calls _ _ l0_2 t107 t108 _ ?side1 ?side2 A7.out).mono ?_); (case side1 => repeat (first | exact (Kd.C_below HR0_2.out (by repeat (first | (with_reducible first | exact HB.out | apply below_alloc | apply pw_below_drewN | apply below_drew1 | refine below_set ?_ GE106.out) | exact HB.out))) | (with_reducible refine Kd.C_alloc ?_ _) | (with_reducible refine Kd.C_drewN ?_ _) | (with_reducible refine Kd.C_drew ?_))); (case side2 => exact HC0_2.out); rintro e w' ⟨rfl, ⟨nd, rfl⟩⟩; refine ⟨_, rfl, ?_⟩) | ((with_reducible refine gate_callee (f := 51) rfl ?_); refine goesL_ (some 20) rfl rfl Tryd.func51 (by kernel_rfl) rfl #[.slice A0_3 l0_3.length c0_3, .int .i64 t108] rfl (by (try simp only [List.map_toArray, List.map_cons, List.map_nil]); first | done | rfl | (simp only [List.length_drop, List.length_take]; rfl)) ?_; (with_reducible refine (laws_szTreeNodeS.calls k _ _ l0_3 t108 t109 _ ?side1 ?side2 A11.out).mono ?_); (case side1 => repeat (first | exact (Kd.C_below HR0_3.out (by repeat (first | (with_reducible first | exact HB.out | apply below_alloc | apply pw_below_drewN | apply below_drew1 | refine below_set ?_ GE106.out) | exact HB.out))) | (with_reducible refine Kd.C_alloc ?_ _) | (with_reducible refine Kd.C_drewN ?_ _) | (with_reducible refine Kd.C_drew ?_))); (case side2 => exact HC0_3.out); rintro e w15 ⟨rfl, hb⟩; refine ⟨_, rfl, ?_⟩; have n0_ := Aside0.mk (blk_below (g := gb106) (o := .cells #[.int .i64 a0_0, .slice A0_1 l0_1.length c0_1, .slice A0_2 l0_2.length c0_2, .slice A0_3 l0_3.length c0_3] 65 (0, 0)) (by (with_reducible repeat (first | refine blk_drewN ?_ _ | refine blk_drew ?_ | refine blk_alloc ?_ _)); exact BK106.out) hb); have n1_ := Aside0.mk (below_step (by repeat (first | (with_reducible first | exact HB.out | apply below_alloc | apply pw_below_drewN | apply below_drew1 | refine below_set ?_ GE106.out) | exact HB.out)) hb); clear BK106; clear HB; have BK106 := n0_; have HB := n1_; clear n0_ n1_; (try clear hb); (try clear hb2); (try clear hk); (try clear hi)))
        go_ret
        exact ⟨by first | rfl | (simp [errW_none, errW_some] <;> rfl) | (simp [*, errW_none, errW_some] <;> rfl), by repeat (first | (with_reducible first | exact HB.out | apply below_alloc | apply pw_below_drewN | apply below_drew1 | refine below_set ?_ GE106.out) | exact HB.out)⟩
      · rw [if_neg c12] at H
        have c12b0 : decide (t109 < 0) = false := decide_eq_false c12
        clear c12
        obtain rfl := Option.some.inj H
        go_enter Tryd.func33, Tryd.ntmps33
        go_wp2_with (first | ((with_reducible refine gate_dst (N := 2) rfl ?_); refine box_event ?hg (N := 2) ?hd (cs := #[.int .i64 a0_0, .slice A0_1 l0_1.length c0_1, .slice A0_2 l0_2.length c0_2, .slice A0_3 l0_3.length c0_3]) (t := 65) ?hr ?_; (case hd => rfl); (case hg => rfl); (case hr => first | (go_simp; done) | (go_simp; rfl)); intro gb106 hg w16 hbox hb; have n0_ := Aside0.mk (below_step (by repeat (first | (with_reducible first | exact HB.out | apply below_alloc | apply pw_below_drewN | apply below_drew1) | exact HB.out)) hb); have n1_ := Aside0.mk (hbox); have n2_ := Aside0.mk ((by rw [hg]; exact (below_size (by repeat (first | (with_reducible first | exact HB.out | apply below_alloc | apply pw_below_drewN | apply below_drew1) | exact HB.out))) : w.heap.size ≤ gb106)); have n3_ := Aside0.mk ((by rw [hg]; exact (below_size (by repeat (first | (with_reducible first | exact HB.out | apply below_alloc | apply pw_below_drewN | apply below_drew1) | exact HB.out))) : w.heap.size ≤ gb106)); clear HB; have HB := n0_; have BK106 := n1_; have GW106 := n2_; have GE106 := n3_; clear n0_ n1_ n2_ n3_; clear hb hbox hg; have hcz17_0 : w16.cell? ⟨gb106, 0, none⟩ = some (.int .i64 a0_0) := (blk_cell BK106.out 0).trans rfl; have hcz17_1 : w16.cell? ⟨gb106, 1, none⟩ = some (.slice A0_1 l0_1.length c0_1) := (blk_cell BK106.out 1).trans rfl; have hcz17_2 : w16.cell? ⟨gb106, 2, none⟩ = some (.slice A0_2 l0_2.length c0_2) := (blk_cell BK106.out 2).trans rfl; have hcz17_3 : w16.cell? ⟨gb106, 3, none⟩ = some (.slice A0_3 l0_3.length c0_3) := (blk_cell BK106.out 3).trans rfl; have hfz17_0 := blk_frozen BK106.out 0; have hfz17_1 := blk_frozen BK106.out 1; have hfz17_2 := blk_frozen BK106.out 2; have hfz17_3 := blk_frozen BK106.out 3) | ((with_reducible refine gate_callee (f := 50) rfl ?_); refine goesL_ (some 8) rfl rfl Tryd.func50 (by kernel_rfl) rfl #[.slice A0_1 l0_1.length c0_1, .int .i64 a1] rfl (by (try simp only [List.map_toArray, List.map_cons, List.map_nil]); first | done | rfl | (simp only [List.length_drop, List.length_take]; rfl)) ?_; (with_reducible refine (laws_szIntS.calls _ _ l0_1 a1 t107 _ ?side1 ?side2 A3.out).mono ?_); (case side1 => repeat (first | exact (Kd.C_below HR0_1.out HB.out) | (with_reducible refine Kd.C_alloc ?_ _) | (with_reducible refine Kd.C_drewN ?_ _) | (with_reducible refine Kd.C_drew ?_))); (case side2 => exact HC0_1.out); rintro e w' ⟨rfl, ⟨nd, rfl⟩⟩; refine ⟨_, rfl, ?_⟩) | ((with_reducible refine gate_callee (f := 50) rfl ?_); refine goesL_ (some 14) rfl rfl Tryd.func50 (by kernel_rfl) rfl #[.slice A0_2 l0_2.length c0_2, .int .i64 t107] rfl (by (try simp only [List.map_toArray, List.map_cons, List.map_nil]); first | done | rfl | (simp only [List.length_drop, List.length_take]; rfl)) ?_; (with_reducible refine (laws_szIntS.calls _ _ l0_2 t107 t108 _ ?side1 ?side2 A7.out).mono ?_); (case side1 => repeat (first | exact (Kd.C_below HR0_2.out (by repeat (first | (with_reducible first | exact HB.out | apply below_alloc | apply pw_below_drewN | apply below_drew1 | refine below_set ?_ GE106.out) | exact HB.out))) | (with_reducible refine Kd.C_alloc ?_ _) | (with_reducible refine Kd.C_drewN ?_ _) | (with_reducible refine Kd.C_drew ?_))); (case side2 => exact HC0_2.out); rintro e w' ⟨rfl, ⟨nd, rfl⟩⟩; refine ⟨_, rfl, ?_⟩) | ((with_reducible refine gate_callee (f := 51) rfl ?_); refine goesL_ (some 20) rfl rfl Tryd.func51 (by kernel_rfl) rfl #[.slice A0_3 l0_3.length c0_3, .int .i64 t108] rfl (by (try simp only [List.map_toArray, List.map_cons, List.map_nil]); first | done | rfl | (simp only [List.length_drop, List.length_take]; rfl)) ?_; (with_reducible refine (laws_szTreeNodeS.calls k _ _ l0_3 t108 t109 _ ?side1 ?side2 A11.out).mono ?_); (case side1 => repeat (first | exact (Kd.C_below HR0_3.out (by repeat (first | (with_reducible first | exact HB.out | apply below_alloc | apply pw_below_drewN | apply below_drew1 | refine below_set ?_ GE106.out) | exact HB.out))) | (with_reducible refine Kd.C_alloc ?_ _) | (with_reducible refine Kd.C_drewN ?_ _) | (with_reducible refine Kd.C_drew ?_))); (case side2 => exact HC0_3.out); rintro e w18 ⟨rfl, hb⟩; refine ⟨_, rfl, ?_⟩; have n0_ := Aside0.mk (blk_below (g := gb106) (o := .cells #[.int .i64 a0_0, .slice A0_1 l0_1.length c0_1, .slice A0_2 l0_2.length c0_2, .slice A0_3 l0_3.length c0_3] 65 (0, 0)) (by (with_reducible repeat (first | refine blk_drewN ?_ _ | refine blk_drew ?_ | refine blk_alloc ?_ _)); exact BK106.out) hb); have n1_ := Aside0.mk (below_step (by repeat (first | (with_reducible first | exact HB.out | apply below_alloc | apply pw_below_drewN | apply below_drew1 | refine below_set ?_ GE106.out) | exact HB.out)) hb); clear BK106; clear HB; have BK106 := n0_; have HB := n1_; clear n0_ n1_; (try clear hb); (try clear hb2); (try clear hk); (try clear hi)))
        go_ret
        exact ⟨by first | rfl | (simp [errW_none, errW_some] <;> rfl) | (simp [*, errW_none, errW_some] <;> rfl), by repeat (first | (with_reducible first | exact HB.out | apply below_alloc | apply pw_below_drewN | apply below_drew1 | refine below_set ?_ GE106.out) | exact HB.out)⟩
def laws_szLemmaS.l0 : Nat → List (S65) → Int → Int → Option (Int)
  | 0, _, _, _ => none
  | k + 1, x0, x1, x5 => if x5 < (x0.length : Int) then (if 0 ≤ x5 then ((laws_szLemma.f k ((rd_T65 x0 x5).f0) ((rd_T65 x0 x5).f1) ((rd_T65 x0 x5).f2) ((rd_T65 x0 x5).f3) x1).bind fun t111 => (if t111 < 0 then (some (-1)) else (laws_szLemmaS.l0 k x0 t111 (wrap64 (x5 + 1))))) else (none)) else (some x1)
def laws_szLemmaS.f (k : Nat) (l0 : List (S65)) (a1 : Int) : Option (Int) := if (wrap64 (a1 - (l0.length : Int))) < 0 then (some (-1)) else (laws_szLemmaS.l0 k l0 (wrap64 (a1 - (l0.length : Int))) 0)
set_option maxHeartbeats 8000000 in
set_option maxRecDepth 100000 in
theorem laws_szLemmaS.calls (k : Nat) (A0 : Option Addr) (c0 : Nat) (l0 : List (S65)) (a1 : Int) (r : Int) (w : World) (hr0 : Kd.C k65 w A0 l0.length l0) (hc0 : l0.length ≤ c0) (h : laws_szLemmaS.f k l0 a1 = some r) :
    Calls Tryd.prog 14 #[.slice A0 l0.length c0, .int .i64 a1] w fun e w' => e = .returned (.int .i64 r) ∧ Below w.heap.size w w' := by
  have hu65 := Tryd.underlying65
  have HR0 := Aside0.mk hr0
  have HC0 := Aside0.mk hc0
  clear hr0 hc0
  have HB := Aside0.mk (Below.refl w.heap.size w)
  have H : (if (wrap64 (a1 - (l0.length : Int))) < 0 then (some (-1)) else (laws_szLemmaS.l0 k l0 (wrap64 (a1 - (l0.length : Int))) 0)) = some r := h
  clear h
  by_cases c3 : (wrap64 (a1 - (l0.length : Int))) < 0
  · rw [if_pos c3] at H
    have c3b0 : decide ((wrap64 (a1 - (l0.length : Int))) < 0) = true := decide_eq_true c3
    clear c3
    obtain rfl := Option.some.inj H
    go_enter Tryd.func14, Tryd.ntmps14
    go_wp2
    go_ret
    exact ⟨by first | rfl | (simp [errW_none, errW_some] <;> rfl) | (simp [*, errW_none, errW_some] <;> rfl), by repeat (first | (with_reducible first | exact HB.out | apply below_alloc | apply pw_below_drewN | apply below_drew1) | exact HB.out)⟩
  · rw [if_neg c3] at H
    have c3b0 : decide ((wrap64 (a1 - (l0.length : Int))) < 0) = false := decide_eq_false c3
    clear c3
    have H' := Aside0.mk H
    clear H
    go_enter Tryd.func14, Tryd.ntmps14
    go_wp2
    go_loopg [1, 5] k (fun kq v1 v5 w' => ∃ (x1_1 : Int) (x5_1 : Int), v1 = .int .i64 x1_1 ∧ v5 = .int .i64 x5_1 ∧ Aside0 (laws_szLemmaS.l0 kq l0 x1_1 x5_1 = some r) ∧ Aside0 (kq ≤ k) ∧ Aside0 (Below w.heap.size w w'))
    case atStart => exact ⟨(wrap64 (a1 - (l0.length : Int))), (0), (by first | rfl | (simp; done) | (simp [*]; done)), (by first | rfl | (simp; done) | (simp [*]; done)), H', ⟨Nat.le_refl _⟩, ⟨by repeat (first | (with_reducible first | exact HB.out | apply below_alloc | apply pw_below_drewN | apply below_drew1) | exact HB.out)⟩⟩
    case round =>
      clear H'
      try clear c1
      try clear p2
      try clear c3
      try clear c3b0
      obtain ⟨x1_1, x5_1, rfl, rfl, HA, HK1, HB⟩ := hrel
      cases gk with
      | zero => exact absurd HA.out (by simp [laws_szLemmaS.l0])
      | succ k1 =>
        have H := HA.out
        clear HA
        simp only [laws_szLemmaS.l0] at H
        by_cases c4 : x5_1 < (l0.length : Int)
        · rw [if_pos c4] at H
          have c4b0 : decide (x5_1 < (l0.length : Int)) = true := decide_eq_true c4
          clear c4
          by_cases c5 : 0 ≤ x5_1
          · rw [if_pos c5] at H
            have c5b0 : decide (0 ≤ x5_1) = true := decide_eq_true c5
            clear c5
            replace H := Option.bind_eq_some_iff.mp H
            obtain ⟨t111, A60, H⟩ := H
            replace H : (if t111 < 0 then (some (-1)) else (laws_szLemmaS.l0 k1 l0 t111 (wrap64 (x5_1 + 1)))) = some r := H
            have A6 := Aside0.mk A60
            clear A60
            by_cases c7 : t111 < 0
            · rw [if_pos c7] at H
              have c7b0 : decide (t111 < 0) = true := decide_eq_true c7
              clear c7
              obtain rfl := Option.some.inj H
              have p110 : 0 ≤ (x5_1 : Int) := of_decide_eq_true (by first | (with_reducible assumption) | assumption)
              have q110 : x5_1 < (l0.length : Int) := of_decide_eq_true (by first | (with_reducible assumption) | assumption)
              obtain ⟨ad110, A110_1, c110_1, A110_2, c110_2, A110_3, c110_3, e110, hx110_0, hx110_1, hx110_2, hx110_3, hl110_1, hi110_1, hl110_2, hi110_2, hl110_3, hi110_3⟩ := at_T65 HR0.out x5_1 p110 q110
              cases e110
              replace hx110_0 := (HB.out.cell (World.block_lt_of_cell? w _ hx110_0)).trans hx110_0
              replace hx110_1 := (HB.out.cell (World.block_lt_of_cell? w _ hx110_1)).trans hx110_1
              replace hx110_2 := (HB.out.cell (World.block_lt_of_cell? w _ hx110_2)).trans hx110_2
              replace hx110_3 := (HB.out.cell (World.block_lt_of_cell? w _ hx110_3)).trans hx110_3
              have HR110_1 := Aside0.mk hi110_1
              have HC110_1 := Aside0.mk hl110_1
              clear hi110_1 hl110_1
              have HR110_2 := Aside0.mk hi110_2
              have HC110_2 := Aside0.mk hl110_2
              clear hi110_2 hl110_2
              have HR110_3 := Aside0.mk hi110_3
              have HC110_3 := Aside0.mk hl110_3
              clear hi110_3 hl110_3
              replace p110 := eq_true p110
              replace q110 := eq_true q110
              go_wp2_with (first | ((with_reducible refine gate_callee (f := 33) rfl ?_); refine goesL_ (some 23) rfl rfl Tryd.func33 (by kernel_rfl) rfl #[.agg #[.int .i64 ((rd_T65 l0 x5_1).f0), .slice A110_1 ((rd_T65 l0 x5_1).f1).length c110_1, .slice A110_2 ((rd_T65 l0 x5_1).f2).length c110_2, .slice A110_3 ((rd_T65 l0 x5_1).f3).length c110_3], .int .i64 x1_1] rfl (by (try simp only [List.map_toArray, List.map_cons, List.map_nil]); first | done | rfl | (simp only [List.length_drop, List.length_take]; rfl)) ?_; (with_reducible refine (laws_szLemma.calls k1 ((rd_T65 l0 x5_1).f0) _ _ ((rd_T65 l0 x5_1).f1) _ _ ((rd_T65 l0 x5_1).f2) _ _ ((rd_T65 l0 x5_1).f3) x1_1 t111 _ ?side1 ?side2 ?side3 ?side4 ?side5 ?side6 A6.out).mono ?_); (case side1 => repeat (first | exact (Kd.C_below HR110_1.out HB.out) | (with_reducible refine Kd.C_alloc ?_ _) | (with_reducible refine Kd.C_drewN ?_ _) | (with_reducible refine Kd.C_drew ?_))); (case side2 => exact HC110_1.out); (case side3 => repeat (first | exact (Kd.C_below HR110_2.out HB.out) | (with_reducible refine Kd.C_alloc ?_ _) | (with_reducible refine Kd.C_drewN ?_ _) | (with_reducible refine Kd.C_drew ?_))); (case side4 => exact HC110_2.out); (case side5 => repeat (first | exact (Kd.C_below HR110_3.out HB.out) | (with_reducible refine Kd.C_alloc ?_ _) | (with_reducible refine Kd.C_drewN ?_ _) | (with_reducible refine Kd.C_drew ?_))); (case side6 => exact HC110_3.out); rintro e w8 ⟨rfl, hb⟩; refine ⟨_, rfl, ?_⟩; have n0_ := Aside0.mk (below_step (by repeat (first | (with_reducible first | exact HB.out | apply below_alloc | apply pw_below_drewN | apply below_drew1) | exact HB.out)) hb); clear HB; have HB := n0_; clear n0_; (try clear hb); (try clear hb2); (try clear hk); (try clear hi)))
              go_ret
              exact ⟨by first | rfl | (simp [errW_none, errW_some] <;> rfl) | (simp [*, errW_none, errW_some] <;> rfl), by repeat (first | (with_reducible first | exact HB.out | apply below_alloc | apply pw_below_drewN | apply below_drew1) | exact HB.out)⟩
            · rw [if_neg c7] at H
              have c7b0 : decide (t111 < 0) = false := decide_eq_false c7
              clear c7
              have H' := Aside0.mk H
              clear H
              have p110 : 0 ≤ (x5_1 : Int) := of_decide_eq_true (by first | (with_reducible assumption) | assumption)
              have q110 : x5_1 < (l0.length : Int) := of_decide_eq_true (by first | (with_reducible assumption) | assumption)
              obtain ⟨ad110, A110_1, c110_1, A110_2, c110_2, A110_3, c110_3, e110, hx110_0, hx110_1, hx110_2, hx110_3, hl110_1, hi110_1, hl110_2, hi110_2, hl110_3, hi110_3⟩ := at_T65 HR0.out x5_1 p110 q110
              cases e110
              replace hx110_0 := (HB.out.cell (World.block_lt_of_cell? w _ hx110_0)).trans hx110_0
              replace hx110_1 := (HB.out.cell (World.block_lt_of_cell? w _ hx110_1)).trans hx110_1
              replace hx110_2 := (HB.out.cell (World.block_lt_of_cell? w _ hx110_2)).trans hx110_2
              replace hx110_3 := (HB.out.cell (World.block_lt_of_cell? w _ hx110_3)).trans hx110_3
              have HR110_1 := Aside0.mk hi110_1
              have HC110_1 := Aside0.mk hl110_1
              clear hi110_1 hl110_1
              have HR110_2 := Aside0.mk hi110_2
              have HC110_2 := Aside0.mk hl110_2
              clear hi110_2 hl110_2
              have HR110_3 := Aside0.mk hi110_3
              have HC110_3 := Aside0.mk hl110_3
              clear hi110_3 hl110_3
              replace p110 := eq_true p110
              replace q110 := eq_true q110
              go_wp2_with (first | ((with_reducible refine gate_callee (f := 33) rfl ?_); refine goesL_ (some 23) rfl rfl Tryd.func33 (by kernel_rfl) rfl #[.agg #[.int .i64 ((rd_T65 l0 x5_1).f0), .slice A110_1 ((rd_T65 l0 x5_1).f1).length c110_1, .slice A110_2 ((rd_T65 l0 x5_1).f2).length c110_2, .slice A110_3 ((rd_T65 l0 x5_1).f3).length c110_3], .int .i64 x1_1] rfl (by (try simp only [List.map_toArray, List.map_cons, List.map_nil]); first | done | rfl | (simp only [List.length_drop, List.length_take]; rfl)) ?_; (with_reducible refine (laws_szLemma.calls k1 ((rd_T65 l0 x5_1).f0) _ _ ((rd_T65 l0 x5_1).f1) _ _ ((rd_T65 l0 x5_1).f2) _ _ ((rd_T65 l0 x5_1).f3) x1_1 t111 _ ?side1 ?side2 ?side3 ?side4 ?side5 ?side6 A6.out).mono ?_); (case side1 => repeat (first | exact (Kd.C_below HR110_1.out HB.out) | (with_reducible refine Kd.C_alloc ?_ _) | (with_reducible refine Kd.C_drewN ?_ _) | (with_reducible refine Kd.C_drew ?_))); (case side2 => exact HC110_1.out); (case side3 => repeat (first | exact (Kd.C_below HR110_2.out HB.out) | (with_reducible refine Kd.C_alloc ?_ _) | (with_reducible refine Kd.C_drewN ?_ _) | (with_reducible refine Kd.C_drew ?_))); (case side4 => exact HC110_2.out); (case side5 => repeat (first | exact (Kd.C_below HR110_3.out HB.out) | (with_reducible refine Kd.C_alloc ?_ _) | (with_reducible refine Kd.C_drewN ?_ _) | (with_reducible refine Kd.C_drew ?_))); (case side6 => exact HC110_3.out); rintro e w9 ⟨rfl, hb⟩; refine ⟨_, rfl, ?_⟩; have n0_ := Aside0.mk (below_step (by repeat (first | (with_reducible first | exact HB.out | apply below_alloc | apply pw_below_drewN | apply below_drew1) | exact HB.out)) hb); clear HB; have HB := n0_; clear n0_; (try clear hb); (try clear hb2); (try clear hk); (try clear hi)))
              go_roundg k1
              case measure => have := HK1.out; omega
              case rel => exact ⟨(t111), (wrap64 (x5_1 + 1)), (by first | rfl | (simp; done) | (simp [*]; done)), (by first | rfl | (simp; done) | (simp [*]; done)), H', ⟨by have := HK1.out; omega⟩, ⟨by repeat (first | (with_reducible first | exact HB.out | apply below_alloc | apply pw_below_drewN | apply below_drew1) | exact HB.out)⟩⟩
          · rw [if_neg c5] at H
            exact absurd H (by simp)
        · rw [if_neg c4] at H
          have c4b0 : decide (x5_1 < (l0.length : Int)) = false := decide_eq_false c4
          clear c4
          obtain rfl := Option.some.inj H
          go_wp2
          go_ret
          exact ⟨by first | rfl | (simp [errW_none, errW_some] <;> rfl) | (simp [*, errW_none, errW_some] <;> rfl), by repeat (first | (with_reducible first | exact HB.out | apply below_alloc | apply pw_below_drewN | apply below_drew1) | exact HB.out)⟩
end Go.Proofs.YtbeelgaganbblaaDoor.PFnExactProofText
namespace Go.Proofs.YtbeelgaganbblaaDoor.PFnExactProofText
open Go.RowKit Go.Proofs.YtbeelgaganbblaaDoorW.PrintWords Go.Proofs.YtbeelgaganbblaaDoorW.PrintLast Go.Proofs.YtbeelgaganbblaaDoorW.PrintMore
attribute [local go_sem] max2_int min2_int max_two min_two max_three min_three max_four min_four   -- for this text's walks alone
set_option linter.unusedVariables false
set_option linter.unusedSimpArgs false
def laws_eqTreeNode.f (k : Nat) (a0_0 : Int) (a0_1 : ByteArray) (l0_2 : List ByteArray) (a1_0 : Int) (a1_1 : ByteArray) (l1_2 : List ByteArray) : Option (Bool) := if a0_0 = a1_0 then (if a0_1.toList = a1_1.toList then ((laws_eqStringS.f k l0_2 l1_2).bind fun t194 => (if t194 = true then (some true) else (some false))) else (some false)) else (some false)
set_option maxHeartbeats 8000000 in
set_option maxRecDepth 100000 in
theorem laws_eqTreeNode.calls (k : Nat) (a0_0 : Int) (a0_1 : ByteArray) (A0_2 : Option Addr) (c0_2 : Nat) (l0_2 : List ByteArray) (a1_0 : Int) (a1_1 : ByteArray) (A1_2 : Option Addr) (c1_2 : Nat) (l1_2 : List ByteArray) (r : Bool) (w : World) (hr0_2 : Kd.C Kd.string w A0_2 l0_2.length l0_2) (hc0_2 : l0_2.length ≤ c0_2) (hr1_2 : Kd.C Kd.string w A1_2 l1_2.length l1_2) (hc1_2 : l1_2.length ≤ c1_2) (h : laws_eqTreeNode.f k a0_0 a0_1 l0_2 a1_0 a1_1 l1_2 = some r) :
    Calls Tryd.prog 96 #[.agg #[.int .i64 a0_0, .string a0_1, .slice A0_2 l0_2.length c0_2], .agg #[.int .i64 a1_0, .string a1_1, .slice A1_2 l1_2.length c1_2]] w fun e w' => e = .returned (.bool r) ∧ Below w.heap.size w w' := by
  have hu77 := Tryd.underlying77
  have HR0_2 := Aside0.mk hr0_2
  have HC0_2 := Aside0.mk hc0_2
  clear hr0_2 hc0_2
  have HR1_2 := Aside0.mk hr1_2
  have HC1_2 := Aside0.mk hc1_2
  clear hr1_2 hc1_2
  have HB := Aside0.mk (Below.refl w.heap.size w)
  have H : (if a0_0 = a1_0 then (if a0_1.toList = a1_1.toList then ((laws_eqStringS.f k l0_2 l1_2).bind fun t194 => (if t194 = true then (some true) else (some false))) else (some false)) else (some false)) = some r := h
  clear h
  by_cases c3 : a0_0 = a1_0
  · rw [if_pos c3] at H
    have c3b0 : (a0_0 == a1_0) = true := beq_iff_eq.mpr c3
    have c3b1 : (a0_0 != a1_0) = false := bne_eq_false_iff_eq.mpr c3
    clear c3
    by_cases c4 : a0_1.toList = a1_1.toList
    · rw [if_pos c4] at H
      have c4b0 : (a0_1.toList == a1_1.toList) = true := beq_iff_eq.mpr c4
      have c4b1 : (a0_1.toList != a1_1.toList) = false := bne_eq_false_iff_eq.mpr c4
      clear c4
      replace H := Option.bind_eq_some_iff.mp H
      obtain ⟨t194, A50, H⟩ := H
      replace H : (if t194 = true then (some true) else (some false)) = some r := H
      have A5 := Aside0.mk A50
      clear A50
      by_cases c6 : t194 = true
      · subst c6
        have H1 : (some true) = some r := by rw [if_pos rfl] at H; exact H
        clear H
        have H := H1
        clear H1
        obtain rfl := Option.some.inj H
        go_enter Tryd.func96, Tryd.ntmps96
        go_wp2_with (first | ((with_reducible refine gate_dst (N := 2) rfl ?_); refine box_event ?hg (N := 2) ?hd (cs := #[.int .i64 a0_0, .string a0_1, .slice A0_2 l0_2.length c0_2]) (t := 77) ?hr ?_; (case hd => rfl); (case hg => rfl); (case hr => first | (go_simp; done) | (go_simp; rfl)); intro gb192 hg w7 hbox hb; have n0_ := Aside0.mk (below_step (by repeat (first | (with_reducible first | exact HB.out | apply below_alloc | apply pw_below_drewN | apply below_drew1) | exact HB.out)) hb); have n1_ := Aside0.mk (hbox); have n2_ := Aside0.mk ((by rw [hg]; exact (below_size (by repeat (first | (with_reducible first | exact HB.out | apply below_alloc | apply pw_below_drewN | apply below_drew1) | exact HB.out))) : w.heap.size ≤ gb192)); have n3_ := Aside0.mk ((by rw [hg]; exact (below_size (by repeat (first | (with_reducible first | exact HB.out | apply below_alloc | apply pw_below_drewN | apply below_drew1) | exact HB.out))) : w.heap.size ≤ gb192)); clear HB; have HB := n0_; have BK192 := n1_; have GW192 := n2_; have GE192 := n3_; clear n0_ n1_ n2_ n3_; clear hb hbox hg) | ((with_reducible refine gate_dst (N := 3) rfl ?_); refine box_event ?hg (N := 3) ?hd (cs := #[.int .i64 a1_0, .string a1_1, .slice A1_2 l1_2.length c1_2]) (t := 77) ?hr ?_; (case hd => rfl); (case hg => rfl); (case hr => first | (go_simp; done) | (go_simp; rfl)); intro gb193 hg w8 hbox hb; have n0_ := Aside0.mk (blk_below (g := gb192) (o := .cells #[.int .i64 a0_0, .string a0_1, .slice A0_2 l0_2.length c0_2] 77 (0, 0)) (by (with_reducible repeat (first | refine blk_drewN ?_ _ | refine blk_drew ?_ | refine blk_alloc ?_ _)); exact BK192.out) hb); have n1_ := Aside0.mk (below_step (by repeat (first | (with_reducible first | exact HB.out | apply below_alloc | apply pw_below_drewN | apply below_drew1 | refine below_set ?_ GE192.out) | exact HB.out)) hb); have n2_ := Aside0.mk (hbox); have n3_ := Aside0.mk ((by rw [hg]; exact (below_size (by repeat (first | (with_reducible first | exact HB.out | apply below_alloc | apply pw_below_drewN | apply below_drew1 | refine below_set ?_ GE192.out) | exact HB.out))) : w.heap.size ≤ gb193)); have n4_ := Aside0.mk ((by rw [hg]; exact (below_size (by repeat (first | (with_reducible first | exact HB.out | apply below_alloc | apply pw_below_drewN | apply below_drew1 | refine below_set ?_ GE192.out) | exact HB.out))) : w.heap.size ≤ gb193)); have n5_ := Aside0.mk ((by rw [hg]; exact Nat.ne_of_lt (blk_lt (g := gb192) (o := .cells #[.int .i64 a0_0, .string a0_1, .slice A0_2 l0_2.length c0_2] 77 (0, 0)) (by (with_reducible repeat (first | refine blk_drewN ?_ _ | refine blk_drew ?_ | refine blk_alloc ?_ _)); exact BK192.out)) : gb192 ≠ gb193)); have n6_ := Aside0.mk ((by rw [hg]; exact Nat.ne_of_gt (blk_lt (g := gb192) (o := .cells #[.int .i64 a0_0, .string a0_1, .slice A0_2 l0_2.length c0_2] 77 (0, 0)) (by (with_reducible repeat (first | refine blk_drewN ?_ _ | refine blk_drew ?_ | refine blk_alloc ?_ _)); exact BK192.out)) : gb193 ≠ gb192)); clear BK192; clear HB; have BK192 := n0_; have HB := n1_; have BK193 := n2_; have GW193 := n3_; have GE193 := n4_; have NB192_193 := n5_; have NB193_192 := n6_; clear n0_ n1_ n2_ n3_ n4_ n5_ n6_; clear hb hbox hg; have hnb9 := NB192_193.out; have hnc9 := NB193_192.out; have hcz10_0 : w8.cell? ⟨gb192, 0, none⟩ = some (.int .i64 a0_0) := (blk_cell BK192.out 0).trans rfl; have hcz10_1 : w8.cell? ⟨gb192, 1, none⟩ = some (.string a0_1) := (blk_cell BK192.out 1).trans rfl; have hcz10_2 : w8.cell? ⟨gb192, 2, none⟩ = some (.slice A0_2 l0_2.length c0_2) := (blk_cell BK192.out 2).trans rfl; have hfz10_0 := blk_frozen BK192.out 0; have hfz10_1 := blk_frozen BK192.out 1; have hfz10_2 := blk_frozen BK192.out 2; have hcz11_0 : w8.cell? ⟨gb193, 0, none⟩ = some (.int .i64 a1_0) := (blk_cell BK193.out 0).trans rfl; have hcz11_1 : w8.cell? ⟨gb193, 1, none⟩ = some (.string a1_1) := (blk_cell BK193.out 1).trans rfl; have hcz11_2 : w8.cell? ⟨gb193, 2, none⟩ = some (.slice A1_2 l1_2.length c1_2) := (blk_cell BK193.out 2).trans rfl; have hfz11_0 := blk_frozen BK193.out 0; have hfz11_1 := blk_frozen BK193.out 1; have hfz11_2 := blk_frozen BK193.out 2) | ((with_reducible refine gate_callee (f := 115) rfl ?_); refine goesL_ (some 19) rfl rfl Tryd.func115 (by kernel_rfl) rfl #[.slice A0_2 l0_2.length c0_2, .slice A1_2 l1_2.length c1_2] rfl (by (try simp only [List.map_toArray, List.map_cons, List.map_nil]); first | done | rfl | (simp only [List.length_drop, List.length_take]; rfl)) ?_; (with_reducible refine (laws_eqStringS.calls k _ _ l0_2 _ _ l1_2 true _ ?side1 ?side2 ?side3 ?side4 A5.out).mono ?_); (case side1 => repeat (first | exact (Kd.C_below HR0_2.out HB.out) | (with_reducible refine Kd.C_alloc ?_ _) | (with_reducible refine Kd.C_drewN ?_ _) | (with_reducible refine Kd.C_drew ?_))); (case side2 => exact HC0_2.out); (case side3 => repeat (first | exact (Kd.C_below HR1_2.out HB.out) | (with_reducible refine Kd.C_alloc ?_ _) | (with_reducible refine Kd.C_drewN ?_ _) | (with_reducible refine Kd.C_drew ?_))); (case side4 => exact HC1_2.out); rintro e w' ⟨rfl, ⟨nd, rfl⟩⟩; refine ⟨_, rfl, ?_⟩))
        go_ret
        exact ⟨by first | rfl | (simp [errW_none, errW_some] <;> rfl) | (simp [*, errW_none, errW_some] <;> rfl), by repeat (first | (with_reducible first | exact HB.out | apply below_alloc | apply pw_below_drewN | apply below_drew1 | refine below_set ?_ GE192.out | refine below_set ?_ GE193.out) | exact HB.out)⟩
      · replace c6 := Bool.eq_false_iff.mpr c6
        subst c6
        have H1 : (some false) = some r := by rw [if_neg (show ¬ (false = true) by decide)] at H; exact H
        clear H
        have H := H1
        clear H1
        obtain rfl := Option.some.inj H
        go_enter Tryd.func96, Tryd.ntmps96
        go_wp2_with (first | ((with_reducible refine gate_dst (N := 2) rfl ?_); refine box_event ?hg (N := 2) ?hd (cs := #[.int .i64 a0_0, .string a0_1, .slice A0_2 l0_2.length c0_2]) (t := 77) ?hr ?_; (case hd => rfl); (case hg => rfl); (case hr => first | (go_simp; done) | (go_simp; rfl)); intro gb192 hg w12 hbox hb; have n0_ := Aside0.mk (below_step (by repeat (first | (with_reducible first | exact HB.out | apply below_alloc | apply pw_below_drewN | apply below_drew1) | exact HB.out)) hb); have n1_ := Aside0.mk (hbox); have n2_ := Aside0.mk ((by rw [hg]; exact (below_size (by repeat (first | (with_reducible first | exact HB.out | apply below_alloc | apply pw_below_drewN | apply below_drew1) | exact HB.out))) : w.heap.size ≤ gb192)); have n3_ := Aside0.mk ((by rw [hg]; exact (below_size (by repeat (first | (with_reducible first | exact HB.out | apply below_alloc | apply pw_below_drewN | apply below_drew1) | exact HB.out))) : w.heap.size ≤ gb192)); clear HB; have HB := n0_; have BK192 := n1_; have GW192 := n2_; have GE192 := n3_; clear n0_ n1_ n2_ n3_; clear hb hbox hg) | ((with_reducible refine gate_dst (N := 3) rfl ?_); refine box_event ?hg (N := 3) ?hd (cs := #[.int .i64 a1_0, .string a1_1, .slice A1_2 l1_2.length c1_2]) (t := 77) ?hr ?_; (case hd => rfl); (case hg => rfl); (case hr => first | (go_simp; done) | (go_simp; rfl)); intro gb193 hg w13 hbox hb; have n0_ := Aside0.mk (blk_below (g := gb192) (o := .cells #[.int .i64 a0_0, .string a0_1, .slice A0_2 l0_2.length c0_2] 77 (0, 0)) (by (with_reducible repeat (first | refine blk_drewN ?_ _ | refine blk_drew ?_ | refine blk_alloc ?_ _)); exact BK192.out) hb); have n1_ := Aside0.mk (below_step (by repeat (first | (with_reducible first | exact HB.out | apply below_alloc | apply pw_below_drewN | apply below_drew1 | refine below_set ?_ GE192.out) | exact HB.out)) hb); have n2_ := Aside0.mk (hbox); have n3_ := Aside0.mk ((by rw [hg]; exact (below_size (by repeat (first | (with_reducible first | exact HB.out | apply below_alloc | apply pw_below_drewN | apply below_drew1 | refine below_set ?_ GE192.out) | exact HB.out))) : w.heap.size ≤ gb193)); have n4_ := Aside0.mk ((by rw [hg]; exact (below_size (by repeat (first | (with_reducible first | exact HB.out | apply below_alloc | apply pw_below_drewN | apply below_drew1 | refine below_set ?_ GE192.out) | exact HB.out))) : w.heap.size ≤ gb193)); have n5_ := Aside0.mk ((by rw [hg]; exact Nat.ne_of_lt (blk_lt (g := gb192) (o := .cells #[.int .i64 a0_0, .string a0_1, .slice A0_2 l0_2.length c0_2] 77 (0, 0)) (by (with_reducible repeat (first | refine blk_drewN ?_ _ | refine blk_drew ?_ | refine blk_alloc ?_ _)); exact BK192.out)) : gb192 ≠ gb193)); have n6_ := Aside0.mk ((by rw [hg]; exact Nat.ne_of_gt (blk_lt (g := gb192) (o := .cells #[.int .i64 a0_0, .string a0_1, .slice A0_2 l0_2.length c0_2] 77 (0, 0)) (by (with_reducible repeat (first | refine blk_drewN ?_ _ | refine blk_drew ?_ | refine blk_alloc ?_ _)); exact BK192.out)) : gb193 ≠ gb192)); clear BK192; clear HB; have BK192 := n0_; have HB := n1_; have BK193 := n2_; have GW193 := n3_; have GE193 := n4_; have NB192_193 := n5_; have NB193_192 := n6_; clear n0_ n1_ n2_ n3_ n4_ n5_ n6_; clear hb hbox hg; have hnb14 := NB192_193.out; have hnc14 := NB193_192.out; have hcz15_0 : w13.cell? ⟨gb192, 0, none⟩ = some (.int .i64 a0_0) := (blk_cell BK192.out 0).trans rfl; have hcz15_1 : w13.cell? ⟨gb192, 1, none⟩ = some (.string a0_1) := (blk_cell BK192.out 1).trans rfl; have hcz15_2 : w13.cell? ⟨gb192, 2, none⟩ = some (.slice A0_2 l0_2.length c0_2) := (blk_cell BK192.out 2).trans rfl; have hfz15_0 := blk_frozen BK192.out 0; have hfz15_1 := blk_frozen BK192.out 1; have hfz15_2 := blk_frozen BK192.out 2; have hcz16_0 : w13.cell? ⟨gb193, 0, none⟩ = some (.int .i64 a1_0) := (blk_cell BK193.out 0).trans rfl; have hcz16_1 : w13.cell? ⟨gb193, 1, none⟩ = some (.string a1_1) := (blk_cell BK193.out 1).trans rfl; have hcz16_2 : w13.cell? ⟨gb193, 2, none⟩ = some (.slice A1_2 l1_2.length c1_2) := (blk_cell BK193.out 2).trans rfl; have hfz16_0 := blk_frozen BK193.out 0; have hfz16_1 := blk_frozen BK193.out 1; have hfz16_2 := blk_frozen BK193.out 2) | ((with_reducible refine gate_callee (f := 115) rfl ?_); refine goesL_ (some 19) rfl rfl Tryd.func115 (by kernel_rfl) rfl #[.slice A0_2 l0_2.length c0_2, .slice A1_2 l1_2.length c1_2] rfl (by (try simp only [List.map_toArray, List.map_cons, List.map_nil]); first | done | rfl | (simp only [List.length_drop, List.length_take]; rfl)) ?_; (with_reducible refine (laws_eqStringS.calls k _ _ l0_2 _ _ l1_2 false _ ?side1 ?side2 ?side3 ?side4 A5.out).mono ?_); (case side1 => repeat (first | exact (Kd.C_below HR0_2.out HB.out) | (with_reducible refine Kd.C_alloc ?_ _) | (with_reducible refine Kd.C_drewN ?_ _) | (with_reducible refine Kd.C_drew ?_))); (case side2 => exact HC0_2.out); (case side3 => repeat (first | exact (Kd.C_below HR1_2.out HB.out) | (with_reducible refine Kd.C_alloc ?_ _) | (with_reducible refine Kd.C_drewN ?_ _) | (with_reducible refine Kd.C_drew ?_))); (case side4 => exact HC1_2.out); rintro e w' ⟨rfl, ⟨nd, rfl⟩⟩; refine ⟨_, rfl, ?_⟩))
        go_ret
        exact ⟨by first | rfl | (simp [errW_none, errW_some] <;> rfl) | (simp [*, errW_none, errW_some] <;> rfl), by repeat (first | (with_reducible first | exact HB.out | apply below_alloc | apply pw_below_drewN | apply below_drew1 | refine below_set ?_ GE192.out | refine below_set ?_ GE193.out) | exact HB.out)⟩
    · rw [if_neg c4] at H
      have c4b0 : (a0_1.toList == a1_1.toList) = false := beq_eq_false_iff_ne.mpr c4
      have c4b1 : (a0_1.toList != a1_1.toList) = true := bne_iff_ne.mpr c4
      obtain rfl := Option.some.inj H
      go_enter Tryd.func96, Tryd.ntmps96
      go_wp2_with (first | ((with_reducible refine gate_dst (N := 2) rfl ?_); refine box_event ?hg (N := 2) ?hd (cs := #[.int .i64 a0_0, .string a0_1, .slice A0_2 l0_2.length c0_2]) (t := 77) ?hr ?_; (case hd => rfl); (case hg => rfl); (case hr => first | (go_simp; done) | (go_simp; rfl)); intro gb192 hg w17 hbox hb; have n0_ := Aside0.mk (below_step (by repeat (first | (with_reducible first | exact HB.out | apply below_alloc | apply pw_below_drewN | apply below_drew1) | exact HB.out)) hb); have n1_ := Aside0.mk (hbox); have n2_ := Aside0.mk ((by rw [hg]; exact (below_size (by repeat (first | (with_reducible first | exact HB.out | apply below_alloc | apply pw_below_drewN | apply below_drew1) | exact HB.out))) : w.heap.size ≤ gb192)); have n3_ := Aside0.mk ((by rw [hg]; exact (below_size (by repeat (first | (with_reducible first | exact HB.out | apply below_alloc | apply pw_below_drewN | apply below_drew1) | exact HB.out))) : w.heap.size ≤ gb192)); clear HB; have HB := n0_; have BK192 := n1_; have GW192 := n2_; have GE192 := n3_; clear n0_ n1_ n2_ n3_; clear hb hbox hg) | ((with_reducible refine gate_dst (N := 3) rfl ?_); refine box_event ?hg (N := 3) ?hd (cs := #[.int .i64 a1_0, .string a1_1, .slice A1_2 l1_2.length c1_2]) (t := 77) ?hr ?_; (case hd => rfl); (case hg => rfl); (case hr => first | (go_simp; done) | (go_simp; rfl)); intro gb193 hg w18 hbox hb; have n0_ := Aside0.mk (blk_below (g := gb192) (o := .cells #[.int .i64 a0_0, .string a0_1, .slice A0_2 l0_2.length c0_2] 77 (0, 0)) (by (with_reducible repeat (first | refine blk_drewN ?_ _ | refine blk_drew ?_ | refine blk_alloc ?_ _)); exact BK192.out) hb); have n1_ := Aside0.mk (below_step (by repeat (first | (with_reducible first | exact HB.out | apply below_alloc | apply pw_below_drewN | apply below_drew1 | refine below_set ?_ GE192.out) | exact HB.out)) hb); have n2_ := Aside0.mk (hbox); have n3_ := Aside0.mk ((by rw [hg]; exact (below_size (by repeat (first | (with_reducible first | exact HB.out | apply below_alloc | apply pw_below_drewN | apply below_drew1 | refine below_set ?_ GE192.out) | exact HB.out))) : w.heap.size ≤ gb193)); have n4_ := Aside0.mk ((by rw [hg]; exact (below_size (by repeat (first | (with_reducible first | exact HB.out | apply below_alloc | apply pw_below_drewN | apply below_drew1 | refine below_set ?_ GE192.out) | exact HB.out))) : w.heap.size ≤ gb193)); have n5_ := Aside0.mk ((by rw [hg]; exact Nat.ne_of_lt (blk_lt (g := gb192) (o := .cells #[.int .i64 a0_0, .string a0_1, .slice A0_2 l0_2.length c0_2] 77 (0, 0)) (by (with_reducible repeat (first | refine blk_drewN ?_ _ | refine blk_drew ?_ | refine blk_alloc ?_ _)); exact BK192.out)) : gb192 ≠ gb193)); have n6_ := Aside0.mk ((by rw [hg]; exact Nat.ne_of_gt (blk_lt (g := gb192) (o := .cells #[.int .i64 a0_0, .string a0_1, .slice A0_2 l0_2.length c0_2] 77 (0, 0)) (by (with_reducible repeat (first | refine blk_drewN ?_ _ | refine blk_drew ?_ | refine blk_alloc ?_ _)); exact BK192.out)) : gb193 ≠ gb192)); clear BK192; clear HB; have BK192 := n0_; have HB := n1_; have BK193 := n2_; have GW193 := n3_; have GE193 := n4_; have NB192_193 := n5_; have NB193_192 := n6_; clear n0_ n1_ n2_ n3_ n4_ n5_ n6_; clear hb hbox hg; have hnb19 := NB192_193.out; have hnc19 := NB193_192.out; have hcz20_0 : w18.cell? ⟨gb192, 0, none⟩ = some (.int .i64 a0_0) := (blk_cell BK192.out 0).trans rfl; have hcz20_1 : w18.cell? ⟨gb192, 1, none⟩ = some (.string a0_1) := (blk_cell BK192.out 1).trans rfl; have hcz20_2 : w18.cell? ⟨gb192, 2, none⟩ = some (.slice A0_2 l0_2.length c0_2) := (blk_cell BK192.out 2).trans rfl; have hfz20_0 := blk_frozen BK192.out 0; have hfz20_1 := blk_frozen BK192.out 1; have hfz20_2 := blk_frozen BK192.out 2; have hcz21_0 : w18.cell? ⟨gb193, 0, none⟩ = some (.int .i64 a1_0) := (blk_cell BK193.out 0).trans rfl; have hcz21_1 : w18.cell? ⟨gb193, 1, none⟩ = some (.string a1_1) := (blk_cell BK193.out 1).trans rfl; have hcz21_2 : w18.cell? ⟨gb193, 2, none⟩ = some (.slice A1_2 l1_2.length c1_2) := (blk_cell BK193.out 2).trans rfl; have hfz21_0 := blk_frozen BK193.out 0; have hfz21_1 := blk_frozen BK193.out 1; have hfz21_2 := blk_frozen BK193.out 2))
      go_ret
      exact ⟨by first | rfl | (simp [errW_none, errW_some] <;> rfl) | (simp [*, errW_none, errW_some] <;> rfl), by repeat (first | (with_reducible first | exact HB.out | apply below_alloc | apply pw_below_drewN | apply below_drew1 | refine below_set ?_ GE192.out | refine below_set ?_ GE193.out) | exact HB.out)⟩
  · rw [if_neg c3] at H
    have c3b0 : (a0_0 == a1_0) = false := beq_eq_false_iff_ne.mpr c3
    have c3b1 : (a0_0 != a1_0) = true := bne_iff_ne.mpr c3
    obtain rfl := Option.some.inj H
    go_enter Tryd.func96, Tryd.ntmps96
    go_wp2_with (first | ((with_reducible refine gate_dst (N := 2) rfl ?_); refine box_event ?hg (N := 2) ?hd (cs := #[.int .i64 a0_0, .string a0_1, .slice A0_2 l0_2.length c0_2]) (t := 77) ?hr ?_; (case hd => rfl); (case hg => rfl); (case hr => first | (go_simp; done) | (go_simp; rfl)); intro gb192 hg w22 hbox hb; have n0_ := Aside0.mk (below_step (by repeat (first | (with_reducible first | exact HB.out | apply below_alloc | apply pw_below_drewN | apply below_drew1) | exact HB.out)) hb); have n1_ := Aside0.mk (hbox); have n2_ := Aside0.mk ((by rw [hg]; exact (below_size (by repeat (first | (with_reducible first | exact HB.out | apply below_alloc | apply pw_below_drewN | apply below_drew1) | exact HB.out))) : w.heap.size ≤ gb192)); have n3_ := Aside0.mk ((by rw [hg]; exact (below_size (by repeat (first | (with_reducible first | exact HB.out | apply below_alloc | apply pw_below_drewN | apply below_drew1) | exact HB.out))) : w.heap.size ≤ gb192)); clear HB; have HB := n0_; have BK192 := n1_; have GW192 := n2_; have GE192 := n3_; clear n0_ n1_ n2_ n3_; clear hb hbox hg) | ((with_reducible refine gate_dst (N := 3) rfl ?_); refine box_event ?hg (N := 3) ?hd (cs := #[.int .i64 a1_0, .string a1_1, .slice A1_2 l1_2.length c1_2]) (t := 77) ?hr ?_; (case hd => rfl); (case hg => rfl); (case hr => first | (go_simp; done) | (go_simp; rfl)); intro gb193 hg w23 hbox hb; have n0_ := Aside0.mk (blk_below (g := gb192) (o := .cells #[.int .i64 a0_0, .string a0_1, .slice A0_2 l0_2.length c0_2] 77 (0, 0)) (by (with_reducible repeat (first | refine blk_drewN ?_ _ | refine blk_drew ?_ | refine blk_alloc ?_ _)); exact BK192.out) hb); have n1_ := Aside0.mk (below_step (by repeat (first | (with_reducible first | exact HB.out | apply below_alloc | apply pw_below_drewN | apply below_drew1 | refine below_set ?_ GE192.out) | exact HB.out)) hb); have n2_ := Aside0.mk (hbox); have n3_ := Aside0.mk ((by rw [hg]; exact (below_size (by repeat (first | (with_reducible first | exact HB.out | apply below_alloc | apply pw_below_drewN | apply below_drew1 | refine below_set ?_ GE192.out) | exact HB.out))) : w.heap.size ≤ gb193)); have n4_ := Aside0.mk ((by rw [hg]; exact (below_size (by repeat (first | (with_reducible first | exact HB.out | apply below_alloc | apply pw_below_drewN | apply below_drew1 | refine below_set ?_ GE192.out) | exact HB.out))) : w.heap.size ≤ gb193)); have n5_ := Aside0.mk ((by rw [hg]; exact Nat.ne_of_lt (blk_lt (g := gb192) (o := .cells #[.int .i64 a0_0, .string a0_1, .slice A0_2 l0_2.length c0_2] 77 (0, 0)) (by (with_reducible repeat (first | refine blk_drewN ?_ _ | refine blk_drew ?_ | refine blk_alloc ?_ _)); exact BK192.out)) : gb192 ≠ gb193)); have n6_ := Aside0.mk ((by rw [hg]; exact Nat.ne_of_gt (blk_lt (g := gb192) (o := .cells #[.int .i64 a0_0, .string a0_1, .slice A0_2 l0_2.length c0_2] 77 (0, 0)) (by (with_reducible repeat (first | refine blk_drewN ?_ _ | refine blk_drew ?_ | refine blk_alloc ?_ _)); exact BK192.out)) : gb193 ≠ gb192)); clear BK192; clear HB; have BK192 := n0_; have HB := n1_; have BK193 := n2_; have GW193 := n3_; have GE193 := n4_; have NB192_193 := n5_; have NB193_192 := n6_; clear n0_ n1_ n2_ n3_ n4_ n5_ n6_; clear hb hbox hg; have hnb24 := NB192_193.out; have hnc24 := NB193_192.out; have hcz25_0 : w23.cell? ⟨gb192, 0, none⟩ = some (.int .i64 a0_0) := (blk_cell BK192.out 0).trans rfl; have hcz25_1 : w23.cell? ⟨gb192, 1, none⟩ = some (.string a0_1) := (blk_cell BK192.out 1).trans rfl; have hcz25_2 : w23.cell? ⟨gb192, 2, none⟩ = some (.slice A0_2 l0_2.length c0_2) := (blk_cell BK192.out 2).trans rfl; have hfz25_0 := blk_frozen BK192.out 0; have hfz25_1 := blk_frozen BK192.out 1; have hfz25_2 := blk_frozen BK192.out 2; have hcz26_0 : w23.cell? ⟨gb193, 0, none⟩ = some (.int .i64 a1_0) := (blk_cell BK193.out 0).trans rfl; have hcz26_1 : w23.cell? ⟨gb193, 1, none⟩ = some (.string a1_1) := (blk_cell BK193.out 1).trans rfl; have hcz26_2 : w23.cell? ⟨gb193, 2, none⟩ = some (.slice A1_2 l1_2.length c1_2) := (blk_cell BK193.out 2).trans rfl; have hfz26_0 := blk_frozen BK193.out 0; have hfz26_1 := blk_frozen BK193.out 1; have hfz26_2 := blk_frozen BK193.out 2))
    go_ret
    exact ⟨by first | rfl | (simp [errW_none, errW_some] <;> rfl) | (simp [*, errW_none, errW_some] <;> rfl), by repeat (first | (with_reducible first | exact HB.out | apply below_alloc | apply pw_below_drewN | apply below_drew1 | refine below_set ?_ GE192.out | refine below_set ?_ GE193.out) | exact HB.out)⟩
def laws_eqTreeNodeS.l0 : Nat → List (S77) → List (S77) → Int → Option (Bool)
  | 0, _, _, _ => none
  | k + 1, x0, x1, x5 => if x5 < (x0.length : Int) then (if 0 ≤ x5 then (if x5 < (x1.length : Int) then ((laws_eqTreeNode.f k ((rd_T77 x0 x5).f0) ((rd_T77 x0 x5).f1) ((rd_T77 x0 x5).f2) ((rd_T77 x1 x5).f0) ((rd_T77 x1 x5).f1) ((rd_T77 x1 x5).f2)).bind fun t197 => (if t197 = true then (laws_eqTreeNodeS.l0 k x0 x1 (wrap64 (x5 + 1))) else (some false))) else (none)) else (none)) else (some true)
def laws_eqTreeNodeS.f (k : Nat) (l0 : List (S77)) (l1 : List (S77)) : Option (Bool) := if (l0.length : Int) = (l1.length : Int) then (laws_eqTreeNodeS.l0 k l0 l1 0) else (some false)
def laws_eqTreeNodeS.T6 : Bool × List (List Nat × List Nat) := (true, [([], []), ([], []), ([0, 1], [0, 1]), ([2], [2]), ([], []), ([], []), ([4, 5], [4, 5]), ([6], [6]), ([3, 7], [3, 7]), ([8], [8])])
def laws_eqTreeNodeS.B6 : List Nat := [0, 0, 3, 7, 0, 0, 48, 112, 255, 511]
theorem laws_eqTreeNodeS.tab6 : rtab .any (opsOf Tryd.f63 6) = laws_eqTreeNodeS.T6 := by kernel_rfl
theorem laws_eqTreeNodeS.bits6 : waitsOk laws_eqTreeNodeS.T6.2 laws_eqTreeNodeS.B6 = true := by kernel_rfl
set_option maxHeartbeats 8000000 in
set_option maxRecDepth 100000 in
theorem laws_eqTreeNodeS.calls (k : Nat) (A0 : Option Addr) (c0 : Nat) (l0 : List (S77)) (A1 : Option Addr) (c1 : Nat) (l1 : List (S77)) (r : Bool) (w : World) (hr0 : Kd.C k77 w A0 l0.length l0) (hc0 : l0.length ≤ c0) (hr1 : Kd.C k77 w A1 l1.length l1) (hc1 : l1.length ≤ c1) (h : laws_eqTreeNodeS.f k l0 l1 = some r) :
    Calls Tryd.prog 63 #[.slice A0 l0.length c0, .slice A1 l1.length c1] w fun e w' => e = .returned (.bool r) ∧ Below w.heap.size w w' := by
  have hu77 := Tryd.underlying77
  have HR0 := Aside0.mk hr0
  have HC0 := Aside0.mk hc0
  clear hr0 hc0
  have HR1 := Aside0.mk hr1
  have HC1 := Aside0.mk hc1
  clear hr1 hc1
  have HB := Aside0.mk (Below.refl w.heap.size w)
  have H : (if (l0.length : Int) = (l1.length : Int) then (laws_eqTreeNodeS.l0 k l0 l1 0) else (some false)) = some r := h
  clear h
  by_cases c3 : (l0.length : Int) = (l1.length : Int)
  · rw [if_pos c3] at H
    have c3b0 : ((l0.length : Int) == (l1.length : Int)) = true := beq_iff_eq.mpr c3
    have c3b1 : ((l0.length : Int) != (l1.length : Int)) = false := bne_eq_false_iff_eq.mpr c3
    have c3b2 : (l0.length == l1.length) = true := by first | simpa using c3 | (simp at c3 ⊢; omega)
    clear c3
    have H' := Aside0.mk H
    clear H
    go_enter Tryd.func63, Tryd.ntmps63
    go_wp2
    go_loopg [5] k (fun kq v5 w' => ∃ (x5_1 : Int), v5 = .int .i64 x5_1 ∧ Aside0 (laws_eqTreeNodeS.l0 kq l0 l1 x5_1 = some r) ∧ Aside0 (kq ≤ k) ∧ Aside0 (Below w.heap.size w w'))
    case atStart => exact ⟨(0), (by first | rfl | (simp; done) | (simp [*]; done)), H', ⟨Nat.le_refl _⟩, ⟨by repeat (first | (with_reducible first | exact HB.out | apply below_alloc | apply pw_below_drewN | apply below_drew1) | exact HB.out)⟩⟩
    case round =>
      clear H'
      try clear c1
      try clear p2
      try clear c3
      try clear c3b0
      try clear c3b1
      try clear c3b2
      obtain ⟨x5_1, rfl, HA, HK1, HB⟩ := hrel
      cases gk with
      | zero => exact absurd HA.out (by simp [laws_eqTreeNodeS.l0])
      | succ k1 =>
        have H := HA.out
        clear HA
        simp only [laws_eqTreeNodeS.l0] at H
        by_cases c4 : x5_1 < (l0.length : Int)
        · rw [if_pos c4] at H
          have c4b0 : decide (x5_1 < (l0.length : Int)) = true := decide_eq_true c4
          clear c4
          by_cases c5 : 0 ≤ x5_1
          · rw [if_pos c5] at H
            have c5b0 : decide (0 ≤ x5_1) = true := decide_eq_true c5
            clear c5
            by_cases c6 : x5_1 < (l1.length : Int)
            · rw [if_pos c6] at H
              have c6b0 : decide (x5_1 < (l1.length : Int)) = true := decide_eq_true c6
              clear c6
              replace H := Option.bind_eq_some_iff.mp H
              obtain ⟨t197, A70, H⟩ := H
              replace H : (if t197 = true then (laws_eqTreeNodeS.l0 k1 l0 l1 (wrap64 (x5_1 + 1))) else (some false)) = some r := H
              have A7 := Aside0.mk A70
              clear A70
              by_cases c8 : t197 = true
              · subst c8
                have H1 : (laws_eqTreeNodeS.l0 k1 l0 l1 (wrap64 (x5_1 + 1))) = some r := by rw [if_pos rfl] at H; exact H
                clear H
                have H := H1
                clear H1
                have H' := Aside0.mk H
                clear H
                try go_wp2
                have n0_ := Aside0.mk (below_drew1 HB.out)
                clear HB
                have HB := n0_
                clear n0_
                have p195 : 0 ≤ (x5_1 : Int) := of_decide_eq_true (by first | (with_reducible assumption) | assumption)
                have q195 : x5_1 < (l0.length : Int) := of_decide_eq_true (by first | (with_reducible assumption) | assumption)
                obtain ⟨ad195, A195_2, c195_2, e195, hx195_0, hx195_1, hx195_2, hl195_2, hi195_2⟩ := at_T77 HR0.out x5_1 p195 q195
                have hw195_2 := hx195_2
                have hw195_1 := hx195_1
                have hw195_0 := hx195_0
                cases e195
                replace hx195_0 := (HB.out.cell (World.block_lt_of_cell? w _ hx195_0)).trans hx195_0
                replace hx195_1 := (HB.out.cell (World.block_lt_of_cell? w _ hx195_1)).trans hx195_1
                replace hx195_2 := (HB.out.cell (World.block_lt_of_cell? w _ hx195_2)).trans hx195_2
                have HR195_2 := Aside0.mk hi195_2
                have HC195_2 := Aside0.mk hl195_2
                clear hi195_2 hl195_2
                replace p195 := eq_true p195
                replace q195 := eq_true q195
                have p196 : 0 ≤ (x5_1 : Int) := of_decide_eq_true (by first | (with_reducible assumption) | assumption)
                have q196 : x5_1 < (l1.length : Int) := of_decide_eq_true (by first | (with_reducible assumption) | assumption)
                obtain ⟨ad196, A196_2, c196_2, e196, hx196_0, hx196_1, hx196_2, hl196_2, hi196_2⟩ := at_T77 HR1.out x5_1 p196 q196
                have hw196_2 := hx196_2
                have hw196_1 := hx196_1
                have hw196_0 := hx196_0
                cases e196
                replace hx196_0 := (HB.out.cell (World.block_lt_of_cell? w _ hx196_0)).trans hx196_0
                replace hx196_1 := (HB.out.cell (World.block_lt_of_cell? w _ hx196_1)).trans hx196_1
                replace hx196_2 := (HB.out.cell (World.block_lt_of_cell? w _ hx196_2)).trans hx196_2
                have HR196_2 := Aside0.mk hi196_2
                have HC196_2 := Aside0.mk hl196_2
                clear hi196_2 hl196_2
                replace p196 := eq_true p196
                replace q196 := eq_true q196
                refine start_ (n := 10) (S := fun w' => w'.cell? (ad195.add ((x5_1).toNat * 3)) = some (.int .i64 ((rd_T77 l0 x5_1).f0)) ∧ w'.cell? ⟨(ad195.add ((x5_1).toNat * 3)).block, (ad195.add ((x5_1).toNat * 3)).off + 1, none⟩ = some (.string ((rd_T77 l0 x5_1).f1)) ∧ w'.cell? ⟨(ad195.add ((x5_1).toNat * 3)).block, (ad195.add ((x5_1).toNat * 3)).off + 2, none⟩ = some (.slice A195_2 ((rd_T77 l0 x5_1).f2).length c195_2) ∧ w'.cell? (ad196.add ((x5_1).toNat * 3)) = some (.int .i64 ((rd_T77 l1 x5_1).f0)) ∧ w'.cell? ⟨(ad196.add ((x5_1).toNat * 3)).block, (ad196.add ((x5_1).toNat * 3)).off + 1, none⟩ = some (.string ((rd_T77 l1 x5_1).f1)) ∧ w'.cell? ⟨(ad196.add ((x5_1).toNat * 3)).block, (ad196.add ((x5_1).toNat * 3)).off + 2, none⟩ = some (.slice A196_2 ((rd_T77 l1 x5_1).f2).length c196_2)) (ds := []) #[false, false, false, false, false, false, false, false, false, false] (by kernel_rfl) rfl rfl ⟨((HB.out.cell (World.block_lt_of_cell? w _ hw195_0)).trans hw195_0), ((HB.out.cell (World.block_lt_of_cell? w _ hw195_1)).trans hw195_1), ((HB.out.cell (World.block_lt_of_cell? w _ hw195_2)).trans hw195_2), ((HB.out.cell (World.block_lt_of_cell? w _ hw196_0)).trans hw196_0), ((HB.out.cell (World.block_lt_of_cell? w _ hw196_1)).trans hw196_1), ((HB.out.cell (World.block_lt_of_cell? w _ hw196_2)).trans hw196_2)⟩ (fun hHeld => ?_); refine with_tabW laws_eqTreeNodeS.tab6 laws_eqTreeNodeS.bits6 (fun HT_ HW_ => ?_)
                generalize wr.drew = w9 at HB HR195_2 HR196_2 hx195_0 hx195_1 hx195_2 hx196_0 hx196_1 hx196_2 hHeld ⊢
                refine pure_ (i := 0) (N := some 17) (v := ?_) (a' := ?_) #[true, false, false, false, false, false, false, false, false, false] rfl rfl (any_of HT_.out (by kernel_rfl)) (fun _ _ _ h => h) (Or.inl ⟨by rfl, ?_⟩) ?_ ?_
                rotate_left
                · intro w'
                  go_simp
                  with_reducible rfl
                rotate_left
                · simp only [Act.put, List.setIfInBounds_toArray, List.set_cons_zero, List.set_cons_succ, i64_w, i32_w]
                  rfl
                refine pure_ (i := 1) (N := some 18) (v := ?_) (a' := ?_) #[true, true, false, false, false, false, false, false, false, false] rfl rfl (any_of HT_.out (by kernel_rfl)) (fun _ _ _ h => h) (Or.inl ⟨by rfl, ?_⟩) ?_ ?_
                rotate_left
                · intro w'
                  go_simp
                  with_reducible rfl
                rotate_left
                · simp only [Act.put, List.setIfInBounds_toArray, List.set_cons_zero, List.set_cons_succ, i64_w, i32_w]
                  rfl
                refine pure_ (i := 2) (N := some 19) (v := ?_) (a' := ?_) #[true, true, true, false, false, false, false, false, false, false] rfl rfl (any_of HT_.out (by kernel_rfl)) (fun _ _ _ h => h) (Or.inl ⟨by rfl, ?_⟩) ?_ ?_
                rotate_left
                · intro w'
                  go_simp
                  with_reducible rfl
                rotate_left
                · simp only [Act.put, List.setIfInBounds_toArray, List.set_cons_zero, List.set_cons_succ, i64_w, i32_w]
                  rfl
                refine pure_ (i := 4) (N := some 21) (v := ?_) (a' := ?_) #[true, true, true, false, true, false, false, false, false, false] rfl rfl (any_of HT_.out (by kernel_rfl)) (fun _ _ _ h => h) (Or.inl ⟨by rfl, ?_⟩) ?_ ?_
                rotate_left
                · intro w'
                  go_simp
                  with_reducible rfl
                rotate_left
                · simp only [Act.put, List.setIfInBounds_toArray, List.set_cons_zero, List.set_cons_succ, i64_w, i32_w]
                  rfl
                refine pure_ (i := 5) (N := some 22) (v := ?_) (a' := ?_) #[true, true, true, false, true, true, false, false, false, false] rfl rfl (any_of HT_.out (by kernel_rfl)) (fun _ _ _ h => h) (Or.inl ⟨by rfl, ?_⟩) ?_ ?_
                rotate_left
                · intro w'
                  go_simp
                  with_reducible rfl
                rotate_left
                · simp only [Act.put, List.setIfInBounds_toArray, List.set_cons_zero, List.set_cons_succ, i64_w, i32_w]
                  rfl
                refine pure_ (i := 6) (N := some 23) (v := ?_) (a' := ?_) #[true, true, true, false, true, true, true, false, false, false] rfl rfl (any_of HT_.out (by kernel_rfl)) (fun _ _ _ h => h) (Or.inl ⟨by rfl, ?_⟩) ?_ ?_
                rotate_left
                · intro w'
                  go_simp
                  with_reducible rfl
                rotate_left
                · simp only [Act.put, List.setIfInBounds_toArray, List.set_cons_zero, List.set_cons_succ, i64_w, i32_w]
                  rfl
                refine take_ (i := 3) (N := some 20) (v := ?_) (a' := ?_) #[true, true, true, true, true, true, true, false, false, false] rfl rfl (take_ofW HT_.out HW_.out (by kernel_rfl)) (fun _ _ _ h => h) (Or.inl ⟨by rfl, ?_⟩) hHeld ?_ ?_
                rotate_left
                · rintro w' ⟨s0, s1, s2, s3, s4, s5⟩
                  go_simp
                  with_reducible rfl
                rotate_left
                · simp only [Act.put, List.setIfInBounds_toArray, List.set_cons_zero, List.set_cons_succ, i64_w, i32_w]
                  rfl
                refine take_ (i := 7) (N := some 24) (v := ?_) (a' := ?_) #[true, true, true, true, true, true, true, true, false, false] rfl rfl (take_ofW HT_.out HW_.out (by kernel_rfl)) (fun _ _ _ h => h) (Or.inl ⟨by rfl, ?_⟩) hHeld ?_ ?_
                rotate_left
                · rintro w' ⟨s0, s1, s2, s3, s4, s5⟩
                  go_simp
                  with_reducible rfl
                rotate_left
                · simp only [Act.put, List.setIfInBounds_toArray, List.set_cons_zero, List.set_cons_succ, i64_w, i32_w]
                  rfl
                refine one_ (i := 8) (N := some 25) #[true, true, true, true, true, true, true, true, true, false] rfl rfl (one_of HT_.out (by kernel_rfl)) (by decide) (fun K hK => ?_)
                refine goes_ Tryd.func96 (by kernel_rfl) rfl #[.agg #[.int .i64 ((rd_T77 l0 x5_1).f0), .string ((rd_T77 l0 x5_1).f1), .slice A195_2 ((rd_T77 l0 x5_1).f2).length c195_2], .agg #[.int .i64 ((rd_T77 l1 x5_1).f0), .string ((rd_T77 l1 x5_1).f1), .slice A196_2 ((rd_T77 l1 x5_1).f2).length c196_2]] (by rfl) rfl rfl (by (try simp only [List.map_toArray, List.map_cons, List.map_nil]); first | done | rfl | (simp only [List.length_drop, List.length_take]; rfl)) ?_
                with_reducible refine (laws_eqTreeNode.calls k1 ((rd_T77 l0 x5_1).f0) ((rd_T77 l0 x5_1).f1) _ _ ((rd_T77 l0 x5_1).f2) ((rd_T77 l1 x5_1).f0) ((rd_T77 l1 x5_1).f1) _ _ ((rd_T77 l1 x5_1).f2) true _ ?side1 ?side2 ?side3 ?side4 A7.out).mono ?_
                (case side1 => repeat (first | exact (Kd.C_below HR195_2.out HB.out) | (with_reducible refine Kd.C_alloc ?_ _) | (with_reducible refine Kd.C_drewN ?_ _) | (with_reducible refine Kd.C_drew ?_)))
                (case side2 => exact HC195_2.out)
                (case side3 => repeat (first | exact (Kd.C_below HR196_2.out HB.out) | (with_reducible refine Kd.C_alloc ?_ _) | (with_reducible refine Kd.C_drewN ?_ _) | (with_reducible refine Kd.C_drew ?_)))
                (case side4 => exact HC196_2.out)
                rintro e w10 ⟨rfl, hb⟩
                refine ⟨_, rfl, ?_⟩
                have n0_ := Aside0.mk (below_step (by repeat (first | (with_reducible first | exact HB.out | apply below_alloc | apply pw_below_drewN | apply below_drew1) | exact HB.out)) hb)
                clear HB
                have HB := n0_
                clear n0_
                (try clear hb)
                (try clear hb2)
                (try clear hk)
                (try clear hi)
                refine hK.out _ _ ⟨((HB.out.cell (World.block_lt_of_cell? w _ hw195_0)).trans hw195_0), ((HB.out.cell (World.block_lt_of_cell? w _ hw195_1)).trans hw195_1), ((HB.out.cell (World.block_lt_of_cell? w _ hw195_2)).trans hw195_2), ((HB.out.cell (World.block_lt_of_cell? w _ hw196_0)).trans hw196_0), ((HB.out.cell (World.block_lt_of_cell? w _ hw196_1)).trans hw196_1), ((HB.out.cell (World.block_lt_of_cell? w _ hw196_2)).trans hw196_2)⟩ (fun hHeld => ?_)
                clear hK K
                refine norm_ (a' := ?_) ?_ ?_
                rotate_left
                · show Act.put _ (some 25) _ = _
                  simp only [Act.put, List.setIfInBounds_toArray, List.set_cons_zero, List.set_cons_succ, i64_w, i32_w]
                  rfl
                refine pure_ (i := 9) (N := some 26) (v := ?_) (a' := ?_) #[true, true, true, true, true, true, true, true, true, true] rfl rfl (any_of HT_.out (by kernel_rfl)) (fun _ _ _ h => h) (Or.inl ⟨by rfl, ?_⟩) ?_ ?_
                rotate_left
                · intro w'
                  go_simp
                  with_reducible rfl
                rotate_left
                · simp only [Act.put, List.setIfInBounds_toArray, List.set_cons_zero, List.set_cons_succ, i64_w, i32_w]
                  rfl
                refine done_ (done_of HT_.out (by kernel_rfl)) ?_
                try go_wp2
                go_roundg k1
                case measure => have := HK1.out; omega
                case rel => exact ⟨(wrap64 (x5_1 + 1)), (by first | rfl | (simp; done) | (simp [*]; done)), H', ⟨by have := HK1.out; omega⟩, ⟨by repeat (first | (with_reducible first | exact HB.out | apply below_alloc | apply pw_below_drewN | apply below_drew1) | exact HB.out)⟩⟩
              · replace c8 := Bool.eq_false_iff.mpr c8
                subst c8
                have H1 : (some false) = some r := by rw [if_neg (show ¬ (false = true) by decide)] at H; exact H
                clear H
                have H := H1
                clear H1
                obtain rfl := Option.some.inj H
                try go_wp2
                have n0_ := Aside0.mk (below_drew1 HB.out)
                clear HB
                have HB := n0_
                clear n0_
                have p195 : 0 ≤ (x5_1 : Int) := of_decide_eq_true (by first | (with_reducible assumption) | assumption)
                have q195 : x5_1 < (l0.length : Int) := of_decide_eq_true (by first | (with_reducible assumption) | assumption)
                obtain ⟨ad195, A195_2, c195_2, e195, hx195_0, hx195_1, hx195_2, hl195_2, hi195_2⟩ := at_T77 HR0.out x5_1 p195 q195
                have hw195_2 := hx195_2
                have hw195_1 := hx195_1
                have hw195_0 := hx195_0
                cases e195
                replace hx195_0 := (HB.out.cell (World.block_lt_of_cell? w _ hx195_0)).trans hx195_0
                replace hx195_1 := (HB.out.cell (World.block_lt_of_cell? w _ hx195_1)).trans hx195_1
                replace hx195_2 := (HB.out.cell (World.block_lt_of_cell? w _ hx195_2)).trans hx195_2
                have HR195_2 := Aside0.mk hi195_2
                have HC195_2 := Aside0.mk hl195_2
                clear hi195_2 hl195_2
                replace p195 := eq_true p195
                replace q195 := eq_true q195
                have p196 : 0 ≤ (x5_1 : Int) := of_decide_eq_true (by first | (with_reducible assumption) | assumption)
                have q196 : x5_1 < (l1.length : Int) := of_decide_eq_true (by first | (with_reducible assumption) | assumption)
                obtain ⟨ad196, A196_2, c196_2, e196, hx196_0, hx196_1, hx196_2, hl196_2, hi196_2⟩ := at_T77 HR1.out x5_1 p196 q196
                have hw196_2 := hx196_2
                have hw196_1 := hx196_1
                have hw196_0 := hx196_0
                cases e196
                replace hx196_0 := (HB.out.cell (World.block_lt_of_cell? w _ hx196_0)).trans hx196_0
                replace hx196_1 := (HB.out.cell (World.block_lt_of_cell? w _ hx196_1)).trans hx196_1
                replace hx196_2 := (HB.out.cell (World.block_lt_of_cell? w _ hx196_2)).trans hx196_2
                have HR196_2 := Aside0.mk hi196_2
                have HC196_2 := Aside0.mk hl196_2
                clear hi196_2 hl196_2
                replace p196 := eq_true p196
                replace q196 := eq_true q196
                refine start_ (n := 10) (S := fun w' => w'.cell? (ad195.add ((x5_1).toNat * 3)) = some (.int .i64 ((rd_T77 l0 x5_1).f0)) ∧ w'.cell? ⟨(ad195.add ((x5_1).toNat * 3)).block, (ad195.add ((x5_1).toNat * 3)).off + 1, none⟩ = some (.string ((rd_T77 l0 x5_1).f1)) ∧ w'.cell? ⟨(ad195.add ((x5_1).toNat * 3)).block, (ad195.add ((x5_1).toNat * 3)).off + 2, none⟩ = some (.slice A195_2 ((rd_T77 l0 x5_1).f2).length c195_2) ∧ w'.cell? (ad196.add ((x5_1).toNat * 3)) = some (.int .i64 ((rd_T77 l1 x5_1).f0)) ∧ w'.cell? ⟨(ad196.add ((x5_1).toNat * 3)).block, (ad196.add ((x5_1).toNat * 3)).off + 1, none⟩ = some (.string ((rd_T77 l1 x5_1).f1)) ∧ w'.cell? ⟨(ad196.add ((x5_1).toNat * 3)).block, (ad196.add ((x5_1).toNat * 3)).off + 2, none⟩ = some (.slice A196_2 ((rd_T77 l1 x5_1).f2).length c196_2)) (ds := []) #[false, false, false, false, false, false, false, false, false, false] (by kernel_rfl) rfl rfl ⟨((HB.out.cell (World.block_lt_of_cell? w _ hw195_0)).trans hw195_0), ((HB.out.cell (World.block_lt_of_cell? w _ hw195_1)).trans hw195_1), ((HB.out.cell (World.block_lt_of_cell? w _ hw195_2)).trans hw195_2), ((HB.out.cell (World.block_lt_of_cell? w _ hw196_0)).trans hw196_0), ((HB.out.cell (World.block_lt_of_cell? w _ hw196_1)).trans hw196_1), ((HB.out.cell (World.block_lt_of_cell? w _ hw196_2)).trans hw196_2)⟩ (fun hHeld => ?_); refine with_tabW laws_eqTreeNodeS.tab6 laws_eqTreeNodeS.bits6 (fun HT_ HW_ => ?_)
                generalize wr.drew = w11 at HB HR195_2 HR196_2 hx195_0 hx195_1 hx195_2 hx196_0 hx196_1 hx196_2 hHeld ⊢
                refine pure_ (i := 0) (N := some 17) (v := ?_) (a' := ?_) #[true, false, false, false, false, false, false, false, false, false] rfl rfl (any_of HT_.out (by kernel_rfl)) (fun _ _ _ h => h) (Or.inl ⟨by rfl, ?_⟩) ?_ ?_
                rotate_left
                · intro w'
                  go_simp
                  with_reducible rfl
                rotate_left
                · simp only [Act.put, List.setIfInBounds_toArray, List.set_cons_zero, List.set_cons_succ, i64_w, i32_w]
                  rfl
                refine pure_ (i := 1) (N := some 18) (v := ?_) (a' := ?_) #[true, true, false, false, false, false, false, false, false, false] rfl rfl (any_of HT_.out (by kernel_rfl)) (fun _ _ _ h => h) (Or.inl ⟨by rfl, ?_⟩) ?_ ?_
                rotate_left
                · intro w'
                  go_simp
                  with_reducible rfl
                rotate_left
                · simp only [Act.put, List.setIfInBounds_toArray, List.set_cons_zero, List.set_cons_succ, i64_w, i32_w]
                  rfl
                refine pure_ (i := 2) (N := some 19) (v := ?_) (a' := ?_) #[true, true, true, false, false, false, false, false, false, false] rfl rfl (any_of HT_.out (by kernel_rfl)) (fun _ _ _ h => h) (Or.inl ⟨by rfl, ?_⟩) ?_ ?_
                rotate_left
                · intro w'
                  go_simp
                  with_reducible rfl
                rotate_left
                · simp only [Act.put, List.setIfInBounds_toArray, List.set_cons_zero, List.set_cons_succ, i64_w, i32_w]
                  rfl
                refine pure_ (i := 4) (N := some 21) (v := ?_) (a' := ?_) #[true, true, true, false, true, false, false, false, false, false] rfl rfl (any_of HT_.out (by kernel_rfl)) (fun _ _ _ h => h) (Or.inl ⟨by rfl, ?_⟩) ?_ ?_
                rotate_left
                · intro w'
                  go_simp
                  with_reducible rfl
                rotate_left
                · simp only [Act.put, List.setIfInBounds_toArray, List.set_cons_zero, List.set_cons_succ, i64_w, i32_w]
                  rfl
                refine pure_ (i := 5) (N := some 22) (v := ?_) (a' := ?_) #[true, true, true, false, true, true, false, false, false, false] rfl rfl (any_of HT_.out (by kernel_rfl)) (fun _ _ _ h => h) (Or.inl ⟨by rfl, ?_⟩) ?_ ?_
                rotate_left
                · intro w'
                  go_simp
                  with_reducible rfl
                rotate_left
                · simp only [Act.put, List.setIfInBounds_toArray, List.set_cons_zero, List.set_cons_succ, i64_w, i32_w]
                  rfl
                refine pure_ (i := 6) (N := some 23) (v := ?_) (a' := ?_) #[true, true, true, false, true, true, true, false, false, false] rfl rfl (any_of HT_.out (by kernel_rfl)) (fun _ _ _ h => h) (Or.inl ⟨by rfl, ?_⟩) ?_ ?_
                rotate_left
                · intro w'
                  go_simp
                  with_reducible rfl
                rotate_left
                · simp only [Act.put, List.setIfInBounds_toArray, List.set_cons_zero, List.set_cons_succ, i64_w, i32_w]
                  rfl
                refine take_ (i := 3) (N := some 20) (v := ?_) (a' := ?_) #[true, true, true, true, true, true, true, false, false, false] rfl rfl (take_ofW HT_.out HW_.out (by kernel_rfl)) (fun _ _ _ h => h) (Or.inl ⟨by rfl, ?_⟩) hHeld ?_ ?_
                rotate_left
                · rintro w' ⟨s0, s1, s2, s3, s4, s5⟩
                  go_simp
                  with_reducible rfl
                rotate_left
                · simp only [Act.put, List.setIfInBounds_toArray, List.set_cons_zero, List.set_cons_succ, i64_w, i32_w]
                  rfl
                refine take_ (i := 7) (N := some 24) (v := ?_) (a' := ?_) #[true, true, true, true, true, true, true, true, false, false] rfl rfl (take_ofW HT_.out HW_.out (by kernel_rfl)) (fun _ _ _ h => h) (Or.inl ⟨by rfl, ?_⟩) hHeld ?_ ?_
                rotate_left
                · rintro w' ⟨s0, s1, s2, s3, s4, s5⟩
                  go_simp
                  with_reducible rfl
                rotate_left
                · simp only [Act.put, List.setIfInBounds_toArray, List.set_cons_zero, List.set_cons_succ, i64_w, i32_w]
                  rfl
                refine one_ (i := 8) (N := some 25) #[true, true, true, true, true, true, true, true, true, false] rfl rfl (one_of HT_.out (by kernel_rfl)) (by decide) (fun K hK => ?_)
                refine goes_ Tryd.func96 (by kernel_rfl) rfl #[.agg #[.int .i64 ((rd_T77 l0 x5_1).f0), .string ((rd_T77 l0 x5_1).f1), .slice A195_2 ((rd_T77 l0 x5_1).f2).length c195_2], .agg #[.int .i64 ((rd_T77 l1 x5_1).f0), .string ((rd_T77 l1 x5_1).f1), .slice A196_2 ((rd_T77 l1 x5_1).f2).length c196_2]] (by rfl) rfl rfl (by (try simp only [List.map_toArray, List.map_cons, List.map_nil]); first | done | rfl | (simp only [List.length_drop, List.length_take]; rfl)) ?_
                with_reducible refine (laws_eqTreeNode.calls k1 ((rd_T77 l0 x5_1).f0) ((rd_T77 l0 x5_1).f1) _ _ ((rd_T77 l0 x5_1).f2) ((rd_T77 l1 x5_1).f0) ((rd_T77 l1 x5_1).f1) _ _ ((rd_T77 l1 x5_1).f2) false _ ?side1 ?side2 ?side3 ?side4 A7.out).mono ?_
                (case side1 => repeat (first | exact (Kd.C_below HR195_2.out HB.out) | (with_reducible refine Kd.C_alloc ?_ _) | (with_reducible refine Kd.C_drewN ?_ _) | (with_reducible refine Kd.C_drew ?_)))
                (case side2 => exact HC195_2.out)
                (case side3 => repeat (first | exact (Kd.C_below HR196_2.out HB.out) | (with_reducible refine Kd.C_alloc ?_ _) | (with_reducible refine Kd.C_drewN ?_ _) | (with_reducible refine Kd.C_drew ?_)))
                (case side4 => exact HC196_2.out)
                rintro e w12 ⟨rfl, hb⟩
                refine ⟨_, rfl, ?_⟩
                have n0_ := Aside0.mk (below_step (by repeat (first | (with_reducible first | exact HB.out | apply below_alloc | apply pw_below_drewN | apply below_drew1) | exact HB.out)) hb)
                clear HB
                have HB := n0_
                clear n0_
                (try clear hb)
                (try clear hb2)
                (try clear hk)
                (try clear hi)
                refine hK.out _ _ ⟨((HB.out.cell (World.block_lt_of_cell? w _ hw195_0)).trans hw195_0), ((HB.out.cell (World.block_lt_of_cell? w _ hw195_1)).trans hw195_1), ((HB.out.cell (World.block_lt_of_cell? w _ hw195_2)).trans hw195_2), ((HB.out.cell (World.block_lt_of_cell? w _ hw196_0)).trans hw196_0), ((HB.out.cell (World.block_lt_of_cell? w _ hw196_1)).trans hw196_1), ((HB.out.cell (World.block_lt_of_cell? w _ hw196_2)).trans hw196_2)⟩ (fun hHeld => ?_)
                clear hK K
                refine norm_ (a' := ?_) ?_ ?_
                rotate_left
                · show Act.put _ (some 25) _ = _
                  simp only [Act.put, List.setIfInBounds_toArray, List.set_cons_zero, List.set_cons_succ, i64_w, i32_w]
                  rfl
                refine pure_ (i := 9) (N := some 26) (v := ?_) (a' := ?_) #[true, true, true, true, true, true, true, true, true, true] rfl rfl (any_of HT_.out (by kernel_rfl)) (fun _ _ _ h => h) (Or.inl ⟨by rfl, ?_⟩) ?_ ?_
                rotate_left
                · intro w'
                  go_simp
                  with_reducible rfl
                rotate_left
                · simp only [Act.put, List.setIfInBounds_toArray, List.set_cons_zero, List.set_cons_succ, i64_w, i32_w]
                  rfl
                refine done_ (done_of HT_.out (by kernel_rfl)) ?_
                try go_wp2
                go_ret
                exact ⟨by first | rfl | (simp [errW_none, errW_some] <;> rfl) | (simp [*, errW_none, errW_some] <;> rfl), by repeat (first | (with_reducible first | exact HB.out | apply below_alloc | apply pw_below_drewN | apply below_drew1) | exact HB.out)⟩
            · rw [if_neg c6] at H
              exact absurd H (by simp)
          · rw [if_neg c5] at H
            exact absurd H (by simp)
        · rw [if_neg c4] at H
          have c4b0 : decide (x5_1 < (l0.length : Int)) = false := decide_eq_false c4
          clear c4
          obtain rfl := Option.some.inj H
          go_wp2
          go_ret
          exact ⟨by first | rfl | (simp [errW_none, errW_some] <;> rfl) | (simp [*, errW_none, errW_some] <;> rfl), by repeat (first | (with_reducible first | exact HB.out | apply below_alloc | apply pw_below_drewN | apply below_drew1) | exact HB.out)⟩
  · rw [if_neg c3] at H
    have c3b0 : ((l0.length : Int) == (l1.length : Int)) = false := beq_eq_false_iff_ne.mpr c3
    have c3b1 : ((l0.length : Int) != (l1.length : Int)) = true := bne_iff_ne.mpr c3
    have c3b2 : (l0.length == l1.length) = false := by first | simpa using c3 | (simp at c3 ⊢; omega)
    obtain rfl := Option.some.inj H
    go_enter Tryd.func63, Tryd.ntmps63
    go_wp2
    go_ret
    exact ⟨by first | rfl | (simp [errW_none, errW_some] <;> rfl) | (simp [*, errW_none, errW_some] <;> rfl), by repeat (first | (with_reducible first | exact HB.out | apply below_alloc | apply pw_below_drewN | apply below_drew1) | exact HB.out)⟩
def laws_eqLemma.f (k : Nat) (a0_0 : Int) (l0_1 : List Int) (l0_2 : List Int) (l0_3 : List (S77)) (a1_0 : Int) (l1_1 : List Int) (l1_2 : List Int) (l1_3 : List (S77)) : Option (Bool) := if a0_0 = a1_0 then ((laws_eqIntS.f k l0_1 l1_1).bind fun t200 => (if t200 = true then ((laws_eqIntS.f k l0_2 l1_2).bind fun t201 => (if t201 = true then ((laws_eqTreeNodeS.f k l0_3 l1_3).bind fun t202 => (if t202 = true then (some true) else (some false))) else (some false))) else (some false))) else (some false)
set_option maxHeartbeats 8000000 in
set_option maxRecDepth 100000 in
theorem laws_eqLemma.calls (k : Nat) (a0_0 : Int) (A0_1 : Option Addr) (c0_1 : Nat) (l0_1 : List Int) (A0_2 : Option Addr) (c0_2 : Nat) (l0_2 : List Int) (A0_3 : Option Addr) (c0_3 : Nat) (l0_3 : List (S77)) (a1_0 : Int) (A1_1 : Option Addr) (c1_1 : Nat) (l1_1 : List Int) (A1_2 : Option Addr) (c1_2 : Nat) (l1_2 : List Int) (A1_3 : Option Addr) (c1_3 : Nat) (l1_3 : List (S77)) (r : Bool) (w : World) (hr0_1 : Kd.C (Kd.int .i64) w A0_1 l0_1.length l0_1) (hc0_1 : l0_1.length ≤ c0_1) (hr0_2 : Kd.C (Kd.int .i64) w A0_2 l0_2.length l0_2) (hc0_2 : l0_2.length ≤ c0_2) (hr0_3 : Kd.C k77 w A0_3 l0_3.length l0_3) (hc0_3 : l0_3.length ≤ c0_3) (hr1_1 : Kd.C (Kd.int .i64) w A1_1 l1_1.length l1_1) (hc1_1 : l1_1.length ≤ c1_1) (hr1_2 : Kd.C (Kd.int .i64) w A1_2 l1_2.length l1_2) (hc1_2 : l1_2.length ≤ c1_2) (hr1_3 : Kd.C k77 w A1_3 l1_3.length l1_3) (hc1_3 : l1_3.length ≤ c1_3) (h : laws_eqLemma.f k a0_0 l0_1 l0_2 l0_3 a1_0 l1_1 l1_2 l1_3 = some r) :
    Calls Tryd.prog 41 #[.agg #[.int .i64 a0_0, .slice A0_1 l0_1.length c0_1, .slice A0_2 l0_2.length c0_2, .slice A0_3 l0_3.length c0_3], .agg #[.int .i64 a1_0, .slice A1_1 l1_1.length c1_1, .slice A1_2 l1_2.length c1_2, .slice A1_3 l1_3.length c1_3]] w fun e w' => e = .returned (.bool r) ∧ Below w.heap.size w w' := by
  have hu71 := Tryd.underlying71
  have HR0_1 := Aside0.mk hr0_1
  have HC0_1 := Aside0.mk hc0_1
  clear hr0_1 hc0_1
  have HR0_2 := Aside0.mk hr0_2
  have HC0_2 := Aside0.mk hc0_2
  clear hr0_2 hc0_2
  have HR0_3 := Aside0.mk hr0_3
  have HC0_3 := Aside0.mk hc0_3
  clear hr0_3 hc0_3
  have HR1_1 := Aside0.mk hr1_1
  have HC1_1 := Aside0.mk hc1_1
  clear hr1_1 hc1_1
  have HR1_2 := Aside0.mk hr1_2
  have HC1_2 := Aside0.mk hc1_2
  clear hr1_2 hc1_2
  have HR1_3 := Aside0.mk hr1_3
  have HC1_3 := Aside0.mk hc1_3
  clear hr1_3 hc1_3
  have HB := Aside0.mk (Below.refl w.heap.size w)
  have H : (if a0_0 = a1_0 then ((laws_eqIntS.f k l0_1 l1_1).bind fun t200 => (if t200 = true then ((laws_eqIntS.f k l0_2 l1_2).bind fun t201 => (if t201 = true then ((laws_eqTreeNodeS.f k l0_3 l1_3).bind fun t202 => (if t202 = true then (some true) else (some false))) else (some false))) else (some false))) else (some false)) = some r := h
  clear h
  by_cases c3 : a0_0 = a1_0
  · rw [if_pos c3] at H
    have c3b0 : (a0_0 == a1_0) = true := beq_iff_eq.mpr c3
    have c3b1 : (a0_0 != a1_0) = false := bne_eq_false_iff_eq.mpr c3
    clear c3
    replace H := Option.bind_eq_some_iff.mp H
    obtain ⟨t200, A40, H⟩ := H
    replace H : (if t200 = true then ((laws_eqIntS.f k l0_2 l1_2).bind fun t201 => (if t201 = true then ((laws_eqTreeNodeS.f k l0_3 l1_3).bind fun t202 => (if t202 = true then (some true) else (some false))) else (some false))) else (some false)) = some r := H
    have A4 := Aside0.mk A40
    clear A40
    by_cases c5 : t200 = true
    · subst c5
      have H1 : ((laws_eqIntS.f k l0_2 l1_2).bind fun t201 => (if t201 = true then ((laws_eqTreeNodeS.f k l0_3 l1_3).bind fun t202 => (if t202 = true then (some true) else (some false))) else (some false))) = some r := by rw [if_pos rfl] at H; exact H
      clear H
      have H := H1
      clear H1
      replace H := Option.bind_eq_some_iff.mp H
      obtain ⟨t201, A60, H⟩ := H
      replace H : (if t201 = true then ((laws_eqTreeNodeS.f k l0_3 l1_3).bind fun t202 => (if t202 = true then (some true) else (some false))) else (some false)) = some r := H
      have A6 := Aside0.mk A60
      clear A60
      by_cases c7 : t201 = true
      · subst c7
        have H1 : ((laws_eqTreeNodeS.f k l0_3 l1_3).bind fun t202 => (if t202 = true then (some true) else (some false))) = some r := by rw [if_pos rfl] at H; exact H
        clear H
        have H := H1
        clear H1
        replace H := Option.bind_eq_some_iff.mp H
        obtain ⟨t202, A80, H⟩ := H
        replace H : (if t202 = true then (some true) else (some false)) = some r := H
        have A8 := Aside0.mk A80
        clear A80
        by_cases c9 : t202 = true
        · subst c9
          have H1 : (some true) = some r := by rw [if_pos rfl] at H; exact H
          clear H
          have H := H1
          clear H1
          obtain rfl := Option.some.inj H
          go_enter Tryd.func41, Tryd.ntmps41
          go_wp2_with (first | ((with_reducible refine gate_dst (N := 2) rfl ?_); refine box_event ?hg (N := 2) ?hd (cs := #[.int .i64 a0_0, .slice A0_1 l0_1.length c0_1, .slice A0_2 l0_2.length c0_2, .slice A0_3 l0_3.length c0_3]) (t := 71) ?hr ?_; (case hd => rfl); (case hg => rfl); (case hr => first | (go_simp; done) | (go_simp; rfl)); intro gb198 hg w10 hbox hb; have n0_ := Aside0.mk (below_step (by repeat (first | (with_reducible first | exact HB.out | apply below_alloc | apply pw_below_drewN | apply below_drew1) | exact HB.out)) hb); have n1_ := Aside0.mk (hbox); have n2_ := Aside0.mk ((by rw [hg]; exact (below_size (by repeat (first | (with_reducible first | exact HB.out | apply below_alloc | apply pw_below_drewN | apply below_drew1) | exact HB.out))) : w.heap.size ≤ gb198)); have n3_ := Aside0.mk ((by rw [hg]; exact (below_size (by repeat (first | (with_reducible first | exact HB.out | apply below_alloc | apply pw_below_drewN | apply below_drew1) | exact HB.out))) : w.heap.size ≤ gb198)); clear HB; have HB := n0_; have BK198 := n1_; have GW198 := n2_; have GE198 := n3_; clear n0_ n1_ n2_ n3_; clear hb hbox hg) | ((with_reducible refine gate_dst (N := 3) rfl ?_); refine box_event ?hg (N := 3) ?hd (cs := #[.int .i64 a1_0, .slice A1_1 l1_1.length c1_1, .slice A1_2 l1_2.length c1_2, .slice A1_3 l1_3.length c1_3]) (t := 71) ?hr ?_; (case hd => rfl); (case hg => rfl); (case hr => first | (go_simp; done) | (go_simp; rfl)); intro gb199 hg w11 hbox hb; have n0_ := Aside0.mk (blk_below (g := gb198) (o := .cells #[.int .i64 a0_0, .slice A0_1 l0_1.length c0_1, .slice A0_2 l0_2.length c0_2, .slice A0_3 l0_3.length c0_3] 71 (0, 0)) (by (with_reducible repeat (first | refine blk_drewN ?_ _ | refine blk_drew ?_ | refine blk_alloc ?_ _)); exact BK198.out) hb); have n1_ := Aside0.mk (below_step (by repeat (first | (with_reducible first | exact HB.out | apply below_alloc | apply pw_below_drewN | apply below_drew1 | refine below_set ?_ GE198.out) | exact HB.out)) hb); have n2_ := Aside0.mk (hbox); have n3_ := Aside0.mk ((by rw [hg]; exact (below_size (by repeat (first | (with_reducible first | exact HB.out | apply below_alloc | apply pw_below_drewN | apply below_drew1 | refine below_set ?_ GE198.out) | exact HB.out))) : w.heap.size ≤ gb199)); have n4_ := Aside0.mk ((by rw [hg]; exact (below_size (by repeat (first | (with_reducible first | exact HB.out | apply below_alloc | apply pw_below_drewN | apply below_drew1 | refine below_set ?_ GE198.out) | exact HB.out))) : w.heap.size ≤ gb199)); have n5_ := Aside0.mk ((by rw [hg]; exact Nat.ne_of_lt (blk_lt (g := gb198) (o := .cells #[.int .i64 a0_0, .slice A0_1 l0_1.length c0_1, .slice A0_2 l0_2.length c0_2, .slice A0_3 l0_3.length c0_3] 71 (0, 0)) (by (with_reducible repeat (first | refine blk_drewN ?_ _ | refine blk_drew ?_ | refine blk_alloc ?_ _)); exact BK198.out)) : gb198 ≠ gb199)); have n6_ := Aside0.mk ((by rw [hg]; exact Nat.ne_of_gt (blk_lt (g := gb198) (o := .cells #[.int .i64 a0_0, .slice A0_1 l0_1.length c0_1, .slice A0_2 l0_2.length c0_2, .slice A0_3 l0_3.length c0_3] 71 (0, 0)) (by (with_reducible repeat (first | refine blk_drewN ?_ _ | refine blk_drew ?_ | refine blk_alloc ?_ _)); exact BK198.out)) : gb199 ≠ gb198)); clear BK198; clear HB; have BK198 := n0_; have HB := n1_; have BK199 := n2_; have GW199 := n3_; have GE199 := n4_; have NB198_199 := n5_; have NB199_198 := n6_; clear n0_ n1_ n2_ n3_ n4_ n5_ n6_; clear hb hbox hg; have hnb12 := NB198_199.out; have hnc12 := NB199_198.out; have hcz13_0 : w11.cell? ⟨gb198, 0, none⟩ = some (.int .i64 a0_0) := (blk_cell BK198.out 0).trans rfl; have hcz13_1 : w11.cell? ⟨gb198, 1, none⟩ = some (.slice A0_1 l0_1.length c0_1) := (blk_cell BK198.out 1).trans rfl; have hcz13_2 : w11.cell? ⟨gb198, 2, none⟩ = some (.slice A0_2 l0_2.length c0_2) := (blk_cell BK198.out 2).trans rfl; have hcz13_3 : w11.cell? ⟨gb198, 3, none⟩ = some (.slice A0_3 l0_3.length c0_3) := (blk_cell BK198.out 3).trans rfl; have hfz13_0 := blk_frozen BK198.out 0; have hfz13_1 := blk_frozen BK198.out 1; have hfz13_2 := blk_frozen BK198.out 2; have hfz13_3 := blk_frozen BK198.out 3; have hcz14_0 : w11.cell? ⟨gb199, 0, none⟩ = some (.int .i64 a1_0) := (blk_cell BK199.out 0).trans rfl; have hcz14_1 : w11.cell? ⟨gb199, 1, none⟩ = some (.slice A1_1 l1_1.length c1_1) := (blk_cell BK199.out 1).trans rfl; have hcz14_2 : w11.cell? ⟨gb199, 2, none⟩ = some (.slice A1_2 l1_2.length c1_2) := (blk_cell BK199.out 2).trans rfl; have hcz14_3 : w11.cell? ⟨gb199, 3, none⟩ = some (.slice A1_3 l1_3.length c1_3) := (blk_cell BK199.out 3).trans rfl; have hfz14_0 := blk_frozen BK199.out 0; have hfz14_1 := blk_frozen BK199.out 1; have hfz14_2 := blk_frozen BK199.out 2; have hfz14_3 := blk_frozen BK199.out 3) | ((with_reducible refine gate_callee (f := 62) rfl ?_); refine goesL_ (some 14) rfl rfl Tryd.func62 (by kernel_rfl) rfl #[.slice A0_1 l0_1.length c0_1, .slice A1_1 l1_1.length c1_1] rfl (by (try simp only [List.map_toArray, List.map_cons, List.map_nil]); first | done | rfl | (simp only [List.length_drop, List.length_take]; rfl)) ?_; (with_reducible refine (laws_eqIntS.calls k _ _ l0_1 _ _ l1_1 true _ ?side1 ?side2 ?side3 ?side4 A4.out).mono ?_); (case side1 => repeat (first | exact (Kd.C_below HR0_1.out HB.out) | (with_reducible refine Kd.C_alloc ?_ _) | (with_reducible refine Kd.C_drewN ?_ _) | (with_reducible refine Kd.C_drew ?_))); (case side2 => exact HC0_1.out); (case side3 => repeat (first | exact (Kd.C_below HR1_1.out HB.out) | (with_reducible refine Kd.C_alloc ?_ _) | (with_reducible refine Kd.C_drewN ?_ _) | (with_reducible refine Kd.C_drew ?_))); (case side4 => exact HC1_1.out); rintro e w' ⟨rfl, ⟨nd, rfl⟩⟩; refine ⟨_, rfl, ?_⟩) | ((with_reducible refine gate_callee (f := 62) rfl ?_); refine goesL_ (some 20) rfl rfl Tryd.func62 (by kernel_rfl) rfl #[.slice A0_2 l0_2.length c0_2, .slice A1_2 l1_2.length c1_2] rfl (by (try simp only [List.map_toArray, List.map_cons, List.map_nil]); first | done | rfl | (simp only [List.length_drop, List.length_take]; rfl)) ?_; (with_reducible refine (laws_eqIntS.calls k _ _ l0_2 _ _ l1_2 true _ ?side1 ?side2 ?side3 ?side4 A6.out).mono ?_); (case side1 => repeat (first | exact (Kd.C_below HR0_2.out (by repeat (first | (with_reducible first | exact HB.out | apply below_alloc | apply pw_below_drewN | apply below_drew1 | refine below_set ?_ GE198.out | refine below_set ?_ GE199.out) | exact HB.out))) | (with_reducible refine Kd.C_alloc ?_ _) | (with_reducible refine Kd.C_drewN ?_ _) | (with_reducible refine Kd.C_drew ?_))); (case side2 => exact HC0_2.out); (case side3 => repeat (first | exact (Kd.C_below HR1_2.out (by repeat (first | (with_reducible first | exact HB.out | apply below_alloc | apply pw_below_drewN | apply below_drew1 | refine below_set ?_ GE198.out | refine below_set ?_ GE199.out) | exact HB.out))) | (with_reducible refine Kd.C_alloc ?_ _) | (with_reducible refine Kd.C_drewN ?_ _) | (with_reducible refine Kd.C_drew ?_))); (case side4 => exact HC1_2.out); rintro e w' ⟨rfl, ⟨nd, rfl⟩⟩; refine ⟨_, rfl, ?_⟩) | ((with_reducible refine gate_callee (f := 63) rfl ?_); refine goesL_ (some 26) rfl rfl Tryd.func63 (by kernel_rfl) rfl #[.slice A0_3 l0_3.length c0_3, .slice A1_3 l1_3.length c1_3] rfl (by (try simp only [List.map_toArray, List.map_cons, List.map_nil]); first | done | rfl | (simp only [List.length_drop, List.length_take]; rfl)) ?_; (with_reducible refine (laws_eqTreeNodeS.calls k _ _ l0_3 _ _ l1_3 true _ ?side1 ?side2 ?side3 ?side4 A8.out).mono ?_); (case side1 => repeat (first | exact (Kd.C_below HR0_3.out (by repeat (first | (with_reducible first | exact HB.out | apply below_alloc | apply pw_below_drewN | apply below_drew1 | refine below_set ?_ GE198.out | refine below_set ?_ GE199.out) | exact HB.out))) | (with_reducible refine Kd.C_alloc ?_ _) | (with_reducible refine Kd.C_drewN ?_ _) | (with_reducible refine Kd.C_drew ?_))); (case side2 => exact HC0_3.out); (case side3 => repeat (first | exact (Kd.C_below HR1_3.out (by repeat (first | (with_reducible first | exact HB.out | apply below_alloc | apply pw_below_drewN | apply below_drew1 | refine below_set ?_ GE198.out | refine below_set ?_ GE199.out) | exact HB.out))) | (with_reducible refine Kd.C_alloc ?_ _) | (with_reducible refine Kd.C_drewN ?_ _) | (with_reducible refine Kd.C_drew ?_))); (case side4 => exact HC1_3.out); rintro e w15 ⟨rfl, hb⟩; refine ⟨_, rfl, ?_⟩; have n0_ := Aside0.mk (blk_below (g := gb198) (o := .cells #[.int .i64 a0_0, .slice A0_1 l0_1.length c0_1, .slice A0_2 l0_2.length c0_2, .slice A0_3 l0_3.length c0_3] 71 (0, 0)) (by (with_reducible repeat (first | refine blk_drewN ?_ _ | refine blk_drew ?_ | refine blk_alloc ?_ _)); exact BK198.out) hb); have n1_ := Aside0.mk (blk_below (g := gb199) (o := .cells #[.int .i64 a1_0, .slice A1_1 l1_1.length c1_1, .slice A1_2 l1_2.length c1_2, .slice A1_3 l1_3.length c1_3] 71 (0, 0)) (by (with_reducible repeat (first | refine blk_drewN ?_ _ | refine blk_drew ?_ | refine blk_alloc ?_ _)); exact BK199.out) hb); have n2_ := Aside0.mk (below_step (by repeat (first | (with_reducible first | exact HB.out | apply below_alloc | apply pw_below_drewN | apply below_drew1 | refine below_set ?_ GE198.out | refine below_set ?_ GE199.out) | exact HB.out)) hb); clear BK198; clear BK199; clear HB; have BK198 := n0_; have BK199 := n1_; have HB := n2_; clear n0_ n1_ n2_; (try clear hb); (try clear hb2); (try clear hk); (try clear hi)))
          go_ret
          exact ⟨by first | rfl | (simp [errW_none, errW_some] <;> rfl) | (simp [*, errW_none, errW_some] <;> rfl), by repeat (first | (with_reducible first | exact HB.out | apply below_alloc | apply pw_below_drewN | apply below_drew1 | refine below_set ?_ GE198.out | refine below_set ?_ GE199.out) | exact HB.out)⟩
        · replace c9 := Bool.eq_false_iff.mpr c9
          subst c9
          have H1 : (some false) = some r := by rw [if_neg (show ¬ (false = true) by decide)] at H; exact H
          clear H
          have H := H1
          clear H1
          obtain rfl := Option.some.inj H
          go_enter Tryd.func41, Tryd.ntmps41
          go_wp2_with (first | ((with_reducible refine gate_dst (N := 2) rfl ?_); refine box_event ?hg (N := 2) ?hd (cs := #[.int .i64 a0_0, .slice A0_1 l0_1.length c0_1, .slice A0_2 l0_2.length c0_2, .slice A0_3 l0_3.length c0_3]) (t := 71) ?hr ?_; (case hd => rfl); (case hg => rfl); (case hr => first | (go_simp; done) | (go_simp; rfl)); intro gb198 hg w16 hbox hb; have n0_ := Aside0.mk (below_step (by repeat (first | (with_reducible first | exact HB.out | apply below_alloc | apply pw_below_drewN | apply below_drew1) | exact HB.out)) hb); have n1_ := Aside0.mk (hbox); have n2_ := Aside0.mk ((by rw [hg]; exact (below_size (by repeat (first | (with_reducible first | exact HB.out | apply below_alloc | apply pw_below_drewN | apply below_drew1) | exact HB.out))) : w.heap.size ≤ gb198)); have n3_ := Aside0.mk ((by rw [hg]; exact (below_size (by repeat (first | (with_reducible first | exact HB.out | apply below_alloc | apply pw_below_drewN | apply below_drew1) | exact HB.out))) : w.heap.size ≤ gb198)); clear HB; have HB := n0_; have BK198 := n1_; have GW198 := n2_; have GE198 := n3_; clear n0_ n1_ n2_ n3_; clear hb hbox hg) | ((with_reducible refine gate_dst (N := 3) rfl ?_); refine box_event ?hg (N := 3) ?hd (cs := #[.int .i64 a1_0, .slice A1_1 l1_1.length c1_1, .slice A1_2 l1_2.length c1_2, .slice A1_3 l1_3.length c1_3]) (t := 71) ?hr ?_; (case hd => rfl); (case hg => rfl); (case hr => first | (go_simp; done) | (go_simp; rfl)); intro gb199 hg w17 hbox hb; have n0_ := Aside0.mk (blk_below (g := gb198) (o := .cells #[.int .i64 a0_0, .slice A0_1 l0_1.length c0_1, .slice A0_2 l0_2.length c0_2, .slice A0_3 l0_3.length c0_3] 71 (0, 0)) (by (with_reducible repeat (first | refine blk_drewN ?_ _ | refine blk_drew ?_ | refine blk_alloc ?_ _)); exact BK198.out) hb); have n1_ := Aside0.mk (below_step (by repeat (first | (with_reducible first | exact HB.out | apply below_alloc | apply pw_below_drewN | apply below_drew1 | refine below_set ?_ GE198.out) | exact HB.out)) hb); have n2_ := Aside0.mk (hbox); have n3_ := Aside0.mk ((by rw [hg]; exact (below_size (by repeat (first | (with_reducible first | exact HB.out | apply below_alloc | apply pw_below_drewN | apply below_drew1 | refine below_set ?_ GE198.out) | exact HB.out))) : w.heap.size ≤ gb199)); have n4_ := Aside0.mk ((by rw [hg]; exact (below_size (by repeat (first | (with_reducible first | exact HB.out | apply below_alloc | apply pw_below_drewN | apply below_drew1 | refine below_set ?_ GE198.out) | exact HB.out))) : w.heap.size ≤ gb199)); have n5_ := Aside0.mk ((by rw [hg]; exact Nat.ne_of_lt (blk_lt (g := gb198) (o := .cells #[.int .i64 a0_0, .slice A0_1 l0_1.length c0_1, .slice A0_2 l0_2.length c0_2, .slice A0_3 l0_3.length c0_3] 71 (0, 0)) (by (with_reducible repeat (first | refine blk_drewN ?_ _ | refine blk_drew ?_ | refine blk_alloc ?_ _)); exact BK198.out)) : gb198 ≠ gb199)); have n6_ := Aside0.mk ((by rw [hg]; exact Nat.ne_of_gt (blk_lt (g := gb198) (o := .cells #[.int .i64 a0_0, .slice A0_1 l0_1.length c0_1, .slice A0_2 l0_2.length c0_2, .slice A0_3 l0_3.length c0_3] 71 (0, 0)) (by (with_reducible repeat (first | refine blk_drewN ?_ _ | refine blk_drew ?_ | refine blk_alloc ?_ _)); exact BK198.out)) : gb199 ≠ gb198)); clear BK198; clear HB; have BK198 := n0_; have HB := n1_; have BK199 := n2_; have GW199 := n3_; have GE199 := n4_; have NB198_199 := n5_; have NB199_198 := n6_; clear n0_ n1_ n2_ n3_ n4_ n5_ n6_; clear hb hbox hg; have hnb18 := NB198_199.out; have hnc18 := NB199_198.out; have hcz19_0 : w17.cell? ⟨gb198, 0, none⟩ = some (.int .i64 a0_0) := (blk_cell BK198.out 0).trans rfl; have hcz19_1 : w17.cell? ⟨gb198, 1, none⟩ = some (.slice A0_1 l0_1.length c0_1) := (blk_cell BK198.out 1).trans rfl; have hcz19_2 : w17.cell? ⟨gb198, 2, none⟩ = some (.slice A0_2 l0_2.length c0_2) := (blk_cell BK198.out 2).trans rfl; have hcz19_3 : w17.cell? ⟨gb198, 3, none⟩ = some (.slice A0_3 l0_3.length c0_3) := (blk_cell BK198.out 3).trans rfl; have hfz19_0 := blk_frozen BK198.out 0; have hfz19_1 := blk_frozen BK198.out 1; have hfz19_2 := blk_frozen BK198.out 2; have hfz19_3 := blk_frozen BK198.out 3; have hcz20_0 : w17.cell? ⟨gb199, 0, none⟩ = some (.int .i64 a1_0) := (blk_cell BK199.out 0).trans rfl; have hcz20_1 : w17.cell? ⟨gb199, 1, none⟩ = some (.slice A1_1 l1_1.length c1_1) := (blk_cell BK199.out 1).trans rfl; have hcz20_2 : w17.cell? ⟨gb199, 2, none⟩ = some (.slice A1_2 l1_2.length c1_2) := (blk_cell BK199.out 2).trans rfl; have hcz20_3 : w17.cell? ⟨gb199, 3, none⟩ = some (.slice A1_3 l1_3.length c1_3) := (blk_cell BK199.out 3).trans rfl; have hfz20_0 := blk_frozen BK199.out 0; have hfz20_1 := blk_frozen BK199.out 1; have hfz20_2 := blk_frozen BK199.out 2; have hfz20_3 := blk_frozen BK199.out 3) | ((with_reducible refine gate_callee (f := 62) rfl ?_); refine goesL_ (some 14) rfl rfl Tryd.func62 (by kernel_rfl) rfl #[.slice A0_1 l0_1.length c0_1, .slice A1_1 l1_1.length c1_1] rfl (by (try simp only [List.map_toArray, List.map_cons, List.map_nil]); first | done | rfl | (simp only [List.length_drop, List.length_take]; rfl)) ?_; (with_reducible refine (laws_eqIntS.calls k _ _ l0_1 _ _ l1_1 true _ ?side1 ?side2 ?side3 ?side4 A4.out).mono ?_); (case side1 => repeat (first | exact (Kd.C_below HR0_1.out HB.out) | (with_reducible refine Kd.C_alloc ?_ _) | (with_reducible refine Kd.C_drewN ?_ _) | (with_reducible refine Kd.C_drew ?_))); (case side2 => exact HC0_1.out); (case side3 => repeat (first | exact (Kd.C_below HR1_1.out HB.out) | (with_reducible refine Kd.C_alloc ?_ _) | (with_reducible refine Kd.C_drewN ?_ _) | (with_reducible refine Kd.C_drew ?_))); (case side4 => exact HC1_1.out); rintro e w' ⟨rfl, ⟨nd, rfl⟩⟩; refine ⟨_, rfl, ?_⟩) | ((with_reducible refine gate_callee (f := 62) rfl ?_); refine goesL_ (some 20) rfl rfl Tryd.func62 (by kernel_rfl) rfl #[.slice A0_2 l0_2.length c0_2, .slice A1_2 l1_2.length c1_2] rfl (by (try simp only [List.map_toArray, List.map_cons, List.map_nil]); first | done | rfl | (simp only [List.length_drop, List.length_take]; rfl)) ?_; (with_reducible refine (laws_eqIntS.calls k _ _ l0_2 _ _ l1_2 true _ ?side1 ?side2 ?side3 ?side4 A6.out).mono ?_); (case side1 => repeat (first | exact (Kd.C_below HR0_2.out (by repeat (first | (with_reducible first | exact HB.out | apply below_alloc | apply pw_below_drewN | apply below_drew1 | refine below_set ?_ GE198.out | refine below_set ?_ GE199.out) | exact HB.out))) | (with_reducible refine Kd.C_alloc ?_ _) | (with_reducible refine Kd.C_drewN ?_ _) | (with_reducible refine Kd.C_drew ?_))); (case side2 => exact HC0_2.out); (case side3 => repeat (first | exact (Kd.C_below HR1_2.out (by repeat (first | (with_reducible first | exact HB.out | apply below_alloc | apply pw_below_drewN | apply below_drew1 | refine below_set ?_ GE198.out | refine below_set ?_ GE199.out) | exact HB.out))) | (with_reducible refine Kd.C_alloc ?_ _) | (with_reducible refine Kd.C_drewN ?_ _) | (with_reducible refine Kd.C_drew ?_))); (case side4 => exact HC1_2.out); rintro e w' ⟨rfl, ⟨nd, rfl⟩⟩; refine ⟨_, rfl, ?_⟩) | ((with_reducible refine gate_callee (f := 63) rfl ?_); refine goesL_ (some 26) rfl rfl Tryd.func63 (by kernel_rfl) rfl #[.slice A0_3 l0_3.length c0_3, .slice A1_3 l1_3.length c1_3] rfl (by (try simp only [List.map_toArray, List.map_cons, List.map_nil]); first | done | rfl | (simp only [List.length_drop, List.length_take]; rfl)) ?_; (with_reducible refine (laws_eqTreeNodeS.calls k _ _ l0_3 _ _ l1_3 false _ ?side1 ?side2 ?side3 ?side4 A8.out).mono ?_); (case side1 => repeat (first | exact (Kd.C_below HR0_3.out (by repeat (first | (with_reducible first | exact HB.out | apply below_alloc | apply pw_below_drewN | apply below_drew1 | refine below_set ?_ GE198.out | refine below_set ?_ GE199.out) | exact HB.out))) | (with_reducible refine Kd.C_alloc ?_ _) | (with_reducible refine Kd.C_drewN ?_ _) | (with_reducible refine Kd.C_drew ?_))); (case side2 => exact HC0_3.out); (case side3 => repeat (first | exact (Kd.C_below HR1_3.out (by repeat (first | (with_reducible first | exact HB.out | apply below_alloc | apply pw_below_drewN | apply below_drew1 | refine below_set ?_ GE198.out | refine below_set ?_ GE199.out) | exact HB.out))) | (with_reducible refine Kd.C_alloc ?_ _) | (with_reducible refine Kd.C_drewN ?_ _) | (with_reducible refine Kd.C_drew ?_))); (case side4 => exact HC1_3.out); rintro e w21 ⟨rfl, hb⟩; refine ⟨_, rfl, ?_⟩; have n0_ := Aside0.mk (blk_below (g := gb198) (o := .cells #[.int .i64 a0_0, .slice A0_1 l0_1.length c0_1, .slice A0_2 l0_2.length c0_2, .slice A0_3 l0_3.length c0_3] 71 (0, 0)) (by (with_reducible repeat (first | refine blk_drewN ?_ _ | refine blk_drew ?_ | refine blk_alloc ?_ _)); exact BK198.out) hb); have n1_ := Aside0.mk (blk_below (g := gb199) (o := .cells #[.int .i64 a1_0, .slice A1_1 l1_1.length c1_1, .slice A1_2 l1_2.length c1_2, .slice A1_3 l1_3.length c1_3] 71 (0, 0)) (by (with_reducible repeat (first | refine blk_drewN ?_ _ | refine blk_drew ?_ | refine blk_alloc ?_ _)); exact BK199.out) hb); have n2_ := Aside0.mk (below_step (by repeat (first | (with_reducible first | exact HB.out | apply below_alloc | apply pw_below_drewN | apply below_drew1 | refine below_set ?_ GE198.out | refine below_set ?_ GE199.out) | exact HB.out)) hb); clear BK198; clear BK199; clear HB; have BK198 := n0_; have BK199 := n1_; have HB := n2_; clear n0_ n1_ n2_; (try clear hb); (try clear hb2); (try clear hk); (try clear hi)))
          go_ret
          exact ⟨by first | rfl | (simp [errW_none, errW_some] <;> rfl) | (simp [*, errW_none, errW_some] <;> rfl), by repeat (first | (with_reducible first | exact HB.out | apply below_alloc | apply pw_below_drewN | apply below_drew1 | refine below_set ?_ GE198.out | refine below_set ?_ GE199.out) | exact HB.out)⟩
      · replace c7 := Bool.eq_false_iff.mpr c7
        subst c7
        have H1 : (some false) = some r := by rw [if_neg (show ¬ (false = true) by decide)] at H; exact H
        clear H
        have H := H1
        clear H1
        obtain rfl := Option.some.inj H
        go_enter Tryd.func41, Tryd.ntmps41
        go_wp2_with (first | ((with_reducible refine gate_dst (N := 2) rfl ?_); refine box_event ?hg (N := 2) ?hd (cs := #[.int .i64 a0_0, .slice A0_1 l0_1.length c0_1, .slice A0_2 l0_2.length c0_2, .slice A0_3 l0_3.length c0_3]) (t := 71) ?hr ?_; (case hd => rfl); (case hg => rfl); (case hr => first | (go_simp; done) | (go_simp; rfl)); intro gb198 hg w22 hbox hb; have n0_ := Aside0.mk (below_step (by repeat (first | (with_reducible first | exact HB.out | apply below_alloc | apply pw_below_drewN | apply below_drew1) | exact HB.out)) hb); have n1_ := Aside0.mk (hbox); have n2_ := Aside0.mk ((by rw [hg]; exact (below_size (by repeat (first | (with_reducible first | exact HB.out | apply below_alloc | apply pw_below_drewN | apply below_drew1) | exact HB.out))) : w.heap.size ≤ gb198)); have n3_ := Aside0.mk ((by rw [hg]; exact (below_size (by repeat (first | (with_reducible first | exact HB.out | apply below_alloc | apply pw_below_drewN | apply below_drew1) | exact HB.out))) : w.heap.size ≤ gb198)); clear HB; have HB := n0_; have BK198 := n1_; have GW198 := n2_; have GE198 := n3_; clear n0_ n1_ n2_ n3_; clear hb hbox hg) | ((with_reducible refine gate_dst (N := 3) rfl ?_); refine box_event ?hg (N := 3) ?hd (cs := #[.int .i64 a1_0, .slice A1_1 l1_1.length c1_1, .slice A1_2 l1_2.length c1_2, .slice A1_3 l1_3.length c1_3]) (t := 71) ?hr ?_; (case hd => rfl); (case hg => rfl); (case hr => first | (go_simp; done) | (go_simp; rfl)); intro gb199 hg w23 hbox hb; have n0_ := Aside0.mk (blk_below (g := gb198) (o := .cells #[.int .i64 a0_0, .slice A0_1 l0_1.length c0_1, .slice A0_2 l0_2.length c0_2, .slice A0_3 l0_3.length c0_3] 71 (0, 0)) (by (with_reducible repeat (first | refine blk_drewN ?_ _ | refine blk_drew ?_ | refine blk_alloc ?_ _)); exact BK198.out) hb); have n1_ := Aside0.mk (below_step (by repeat (first | (with_reducible first | exact HB.out | apply below_alloc | apply pw_below_drewN | apply below_drew1 | refine below_set ?_ GE198.out) | exact HB.out)) hb); have n2_ := Aside0.mk (hbox); have n3_ := Aside0.mk ((by rw [hg]; exact (below_size (by repeat (first | (with_reducible first | exact HB.out | apply below_alloc | apply pw_below_drewN | apply below_drew1 | refine below_set ?_ GE198.out) | exact HB.out))) : w.heap.size ≤ gb199)); have n4_ := Aside0.mk ((by rw [hg]; exact (below_size (by repeat (first | (with_reducible first | exact HB.out | apply below_alloc | apply pw_below_drewN | apply below_drew1 | refine below_set ?_ GE198.out) | exact HB.out))) : w.heap.size ≤ gb199)); have n5_ := Aside0.mk ((by rw [hg]; exact Nat.ne_of_lt (blk_lt (g := gb198) (o := .cells #[.int .i64 a0_0, .slice A0_1 l0_1.length c0_1, .slice A0_2 l0_2.length c0_2, .slice A0_3 l0_3.length c0_3] 71 (0, 0)) (by (with_reducible repeat (first | refine blk_drewN ?_ _ | refine blk_drew ?_ | refine blk_alloc ?_ _)); exact BK198.out)) : gb198 ≠ gb199)); have n6_ := Aside0.mk ((by rw [hg]; exact Nat.ne_of_gt (blk_lt (g := gb198) (o := .cells #[.int .i64 a0_0, .slice A0_1 l0_1.length c0_1, .slice A0_2 l0_2.length c0_2, .slice A0_3 l0_3.length c0_3] 71 (0, 0)) (by (with_reducible repeat (first | refine blk_drewN ?_ _ | refine blk_drew ?_ | refine blk_alloc ?_ _)); exact BK198.out)) : gb199 ≠ gb198)); clear BK198; clear HB; have BK198 := n0_; have HB := n1_; have BK199 := n2_; have GW199 := n3_; have GE199 := n4_; have NB198_199 := n5_; have NB199_198 := n6_; clear n0_ n1_ n2_ n3_ n4_ n5_ n6_; clear hb hbox hg; have hnb24 := NB198_199.out; have hnc24 := NB199_198.out; have hcz25_0 : w23.cell? ⟨gb198, 0, none⟩ = some (.int .i64 a0_0) := (blk_cell BK198.out 0).trans rfl; have hcz25_1 : w23.cell? ⟨gb198, 1, none⟩ = some (.slice A0_1 l0_1.length c0_1) := (blk_cell BK198.out 1).trans rfl; have hcz25_2 : w23.cell? ⟨gb198, 2, none⟩ = some (.slice A0_2 l0_2.length c0_2) := (blk_cell BK198.out 2).trans rfl; have hcz25_3 : w23.cell? ⟨gb198, 3, none⟩ = some (.slice A0_3 l0_3.length c0_3) := (blk_cell BK198.out 3).trans rfl; have hfz25_0 := blk_frozen BK198.out 0; have hfz25_1 := blk_frozen BK198.out 1; have hfz25_2 := blk_frozen BK198.out 2; have hfz25_3 := blk_frozen BK198.out 3; have hcz26_0 : w23.cell? ⟨gb199, 0, none⟩ = some (.int .i64 a1_0) := (blk_cell BK199.out 0).trans rfl; have hcz26_1 : w23.cell? ⟨gb199, 1, none⟩ = some (.slice A1_1 l1_1.length c1_1) := (blk_cell BK199.out 1).trans rfl; have hcz26_2 : w23.cell? ⟨gb199, 2, none⟩ = some (.slice A1_2 l1_2.length c1_2) := (blk_cell BK199.out 2).trans rfl; have hcz26_3 : w23.cell? ⟨gb199, 3, none⟩ = some (.slice A1_3 l1_3.length c1_3) := (blk_cell BK199.out 3).trans rfl; have hfz26_0 := blk_frozen BK199.out 0; have hfz26_1 := blk_frozen BK199.out 1; have hfz26_2 := blk_frozen BK199.out 2; have hfz26_3 := blk_frozen BK199.out 3) | ((with_reducible refine gate_callee (f := 62) rfl ?_); refine goesL_ (some 14) rfl rfl Tryd.func62 (by kernel_rfl) rfl #[.slice A0_1 l0_1.length c0_1, .slice A1_1 l1_1.length c1_1] rfl (by (try simp only [List.map_toArray, List.map_cons, List.map_nil]); first | done | rfl | (simp only [List.length_drop, List.length_take]; rfl)) ?_; (with_reducible refine (laws_eqIntS.calls k _ _ l0_1 _ _ l1_1 true _ ?side1 ?side2 ?side3 ?side4 A4.out).mono ?_); (case side1 => repeat (first | exact (Kd.C_below HR0_1.out HB.out) | (with_reducible refine Kd.C_alloc ?_ _) | (with_reducible refine Kd.C_drewN ?_ _) | (with_reducible refine Kd.C_drew ?_))); (case side2 => exact HC0_1.out); (case side3 => repeat (first | exact (Kd.C_below HR1_1.out HB.out) | (with_reducible refine Kd.C_alloc ?_ _) | (with_reducible refine Kd.C_drewN ?_ _) | (with_reducible refine Kd.C_drew ?_))); (case side4 => exact HC1_1.out); rintro e w' ⟨rfl, ⟨nd, rfl⟩⟩; refine ⟨_, rfl, ?_⟩) | ((with_reducible refine gate_callee (f := 62) rfl ?_); refine goesL_ (some 20) rfl rfl Tryd.func62 (by kernel_rfl) rfl #[.slice A0_2 l0_2.length c0_2, .slice A1_2 l1_2.length c1_2] rfl (by (try simp only [List.map_toArray, List.map_cons, List.map_nil]); first | done | rfl | (simp only [List.length_drop, List.length_take]; rfl)) ?_; (with_reducible refine (laws_eqIntS.calls k _ _ l0_2 _ _ l1_2 false _ ?side1 ?side2 ?side3 ?side4 A6.out).mono ?_); (case side1 => repeat (first | exact (Kd.C_below HR0_2.out (by repeat (first | (with_reducible first | exact HB.out | apply below_alloc | apply pw_below_drewN | apply below_drew1 | refine below_set ?_ GE198.out | refine below_set ?_ GE199.out) | exact HB.out))) | (with_reducible refine Kd.C_alloc ?_ _) | (with_reducible refine Kd.C_drewN ?_ _) | (with_reducible refine Kd.C_drew ?_))); (case side2 => exact HC0_2.out); (case side3 => repeat (first | exact (Kd.C_below HR1_2.out (by repeat (first | (with_reducible first | exact HB.out | apply below_alloc | apply pw_below_drewN | apply below_drew1 | refine below_set ?_ GE198.out | refine below_set ?_ GE199.out) | exact HB.out))) | (with_reducible refine Kd.C_alloc ?_ _) | (with_reducible refine Kd.C_drewN ?_ _) | (with_reducible refine Kd.C_drew ?_))); (case side4 => exact HC1_2.out); rintro e w' ⟨rfl, ⟨nd, rfl⟩⟩; refine ⟨_, rfl, ?_⟩))
        go_ret
        exact ⟨by first | rfl | (simp [errW_none, errW_some] <;> rfl) | (simp [*, errW_none, errW_some] <;> rfl), by repeat (first | (with_reducible first | exact HB.out | apply below_alloc | apply pw_below_drewN | apply below_drew1 | refine below_set ?_ GE198.out | refine below_set ?_ GE199.out) | exact HB.out)⟩
    · replace c5 := Bool.eq_false_iff.mpr c5
      subst c5
      have H1 : (some false) = some r := by rw [if_neg (show ¬ (false = true) by decide)] at H; exact H
      clear H
      have H := H1
      clear H1
      obtain rfl := Option.some.inj H
      go_enter Tryd.func41, Tryd.ntmps41
      go_wp2_with (first | ((with_reducible refine gate_dst (N := 2) rfl ?_); refine box_event ?hg (N := 2) ?hd (cs := #[.int .i64 a0_0, .slice A0_1 l0_1.length c0_1, .slice A0_2 l0_2.length c0_2, .slice A0_3 l0_3.length c0_3]) (t := 71) ?hr ?_; (case hd => rfl); (case hg => rfl); (case hr => first | (go_simp; done) | (go_simp; rfl)); intro gb198 hg w27 hbox hb; have n0_ := Aside0.mk (below_step (by repeat (first | (with_reducible first | exact HB.out | apply below_alloc | apply pw_below_drewN | apply below_drew1) | exact HB.out)) hb); have n1_ := Aside0.mk (hbox); have n2_ := Aside0.mk ((by rw [hg]; exact (below_size (by repeat (first | (with_reducible first | exact HB.out | apply below_alloc | apply pw_below_drewN | apply below_drew1) | exact HB.out))) : w.heap.size ≤ gb198)); have n3_ := Aside0.mk ((by rw [hg]; exact (below_size (by repeat (first | (with_reducible first | exact HB.out | apply below_alloc | apply pw_below_drewN | apply below_drew1) | exact HB.out))) : w.heap.size ≤ gb198)); clear HB; have HB := n0_; have BK198 := n1_; have GW198 := n2_; have GE198 := n3_; clear n0_ n1_ n2_ n3_; clear hb hbox hg) | ((with_reducible refine gate_dst (N := 3) rfl ?_); refine box_event ?hg (N := 3) ?hd (cs := #[.int .i64 a1_0, .slice A1_1 l1_1.length c1_1, .slice A1_2 l1_2.length c1_2, .slice A1_3 l1_3.length c1_3]) (t := 71) ?hr ?_; (case hd => rfl); (case hg => rfl); (case hr => first | (go_simp; done) | (go_simp; rfl)); intro gb199 hg w28 hbox hb; have n0_ := Aside0.mk (blk_below (g := gb198) (o := .cells #[.int .i64 a0_0, .slice A0_1 l0_1.length c0_1, .slice A0_2 l0_2.length c0_2, .slice A0_3 l0_3.length c0_3] 71 (0, 0)) (by (with_reducible repeat (first | refine blk_drewN ?_ _ | refine blk_drew ?_ | refine blk_alloc ?_ _)); exact BK198.out) hb); have n1_ := Aside0.mk (below_step (by repeat (first | (with_reducible first | exact HB.out | apply below_alloc | apply pw_below_drewN | apply below_drew1 | refine below_set ?_ GE198.out) | exact HB.out)) hb); have n2_ := Aside0.mk (hbox); have n3_ := Aside0.mk ((by rw [hg]; exact (below_size (by repeat (first | (with_reducible first | exact HB.out | apply below_alloc | apply pw_below_drewN | apply below_drew1 | refine below_set ?_ GE198.out) | exact HB.out))) : w.heap.size ≤ gb199)); have n4_ := Aside0.mk ((by rw [hg]; exact (below_size (by repeat (first | (with_reducible first | exact HB.out | apply below_alloc | apply pw_below_drewN | apply below_drew1 | refine below_set ?_ GE198.out) | exact HB.out))) : w.heap.size ≤ gb199)); have n5_ := Aside0.mk ((by rw [hg]; exact Nat.ne_of_lt (blk_lt (g := gb198) (o := .cells #[.int .i64 a0_0, .slice A0_1 l0_1.length c0_1, .slice A0_2 l0_2.length c0_2, .slice A0_3 l0_3.length c0_3] 71 (0, 0)) (by (with_reducible repeat (first | refine blk_drewN ?_ _ | refine blk_drew ?_ | refine blk_alloc ?_ _)); exact BK198.out)) : gb198 ≠ gb199)); have n6_ := Aside0.mk ((by rw [hg]; exact Nat.ne_of_gt (blk_lt (g := gb198) (o := .cells #[.int .i64 a0_0, .slice A0_1 l0_1.length c0_1, .slice A0_2 l0_2.length c0_2, .slice A0_3 l0_3.length c0_3] 71 (0, 0)) (by (with_reducible repeat (first | refine blk_drewN ?_ _ | refine blk_drew ?_ | refine blk_alloc ?_ _)); exact BK198.out)) : gb199 ≠ gb198)); clear BK198; clear HB; have BK198 := n0_; have HB := n1_; have BK199 := n2_; have GW199 := n3_; have GE199 := n4_; have NB198_199 := n5_; have NB199_198 := n6_; clear n0_ n1_ n2_ n3_ n4_ n5_ n6_; clear hb hbox hg; have hnb29 := NB198_199.out; have hnc29 := NB199_198.out; have hcz30_0 : w28.cell? ⟨gb198, 0, none⟩ = some (.int .i64 a0_0) := (blk_cell BK198.out 0).trans rfl; have hcz30_1 : w28.cell? ⟨gb198, 1, none⟩ = some (.slice A0_1 l0_1.length c0_1) := (blk_cell BK198.out 1).trans rfl; have hcz30_2 : w28.cell? ⟨gb198, 2, none⟩ = some (.slice A0_2 l0_2.length c0_2) := (blk_cell BK198.out 2).trans rfl; have hcz30_3 : w28.cell? ⟨gb198, 3, none⟩ = some (.slice A0_3 l0_3.length c0_3) := (blk_cell BK198.out 3).trans rfl; have hfz30_0 := blk_frozen BK198.out 0; have hfz30_1 := blk_frozen BK198.out 1; have hfz30_2 := blk_frozen BK198.out 2; have hfz30_3 := blk_frozen BK198.out 3; have hcz31_0 : w28.cell? ⟨gb199, 0, none⟩ = some (.int .i64 a1_0) := (blk_cell BK199.out 0).trans rfl; have hcz31_1 : w28.cell? ⟨gb199, 1, none⟩ = some (.slice A1_1 l1_1.length c1_1) := (blk_cell BK199.out 1).trans rfl; have hcz31_2 : w28.cell? ⟨gb199, 2, none⟩ = some (.slice A1_2 l1_2.length c1_2) := (blk_cell BK199.out 2).trans rfl; have hcz31_3 : w28.cell? ⟨gb199, 3, none⟩ = some (.slice A1_3 l1_3.length c1_3) := (blk_cell BK199.out 3).trans rfl; have hfz31_0 := blk_frozen BK199.out 0; have hfz31_1 := blk_frozen BK199.out 1; have hfz31_2 := blk_frozen BK199.out 2; have hfz31_3 := blk_frozen BK199.out 3) | ((with_reducible refine gate_callee (f := 62) rfl ?_); refine goesL_ (some 14) rfl rfl Tryd.func62 (by kernel_rfl) rfl #[.slice A0_1 l0_1.length c0_1, .slice A1_1 l1_1.length c1_1] rfl (by (try simp only [List.map_toArray, List.map_cons, List.map_nil]); first | done | rfl | (simp only [List.length_drop, List.length_take]; rfl)) ?_; (with_reducible refine (laws_eqIntS.calls k _ _ l0_1 _ _ l1_1 false _ ?side1 ?side2 ?side3 ?side4 A4.out).mono ?_); (case side1 => repeat (first | exact (Kd.C_below HR0_1.out HB.out) | (with_reducible refine Kd.C_alloc ?_ _) | (with_reducible refine Kd.C_drewN ?_ _) | (with_reducible refine Kd.C_drew ?_))); (case side2 => exact HC0_1.out); (case side3 => repeat (first | exact (Kd.C_below HR1_1.out HB.out) | (with_reducible refine Kd.C_alloc ?_ _) | (with_reducible refine Kd.C_drewN ?_ _) | (with_reducible refine Kd.C_drew ?_))); (case side4 => exact HC1_1.out); rintro e w' ⟨rfl, ⟨nd, rfl⟩⟩; refine ⟨_, rfl, ?_⟩))
      go_ret
      exact ⟨by first | rfl | (simp [errW_none, errW_some] <;> rfl) | (simp [*, errW_none, errW_some] <;> rfl), by repeat (first | (with_reducible first | exact HB.out | apply below_alloc | apply pw_below_drewN | apply below_drew1 | refine below_set ?_ GE198.out | refine below_set ?_ GE199.out) | exact HB.out)⟩
  · rw [if_neg c3] at H
    have c3b0 : (a0_0 == a1_0) = false := beq_eq_false_iff_ne.mpr c3
    have c3b1 : (a0_0 != a1_0) = true := bne_iff_ne.mpr c3
    obtain rfl := Option.some.inj H
    go_enter Tryd.func41, Tryd.ntmps41
    go_wp2_with (first | ((with_reducible refine gate_dst (N := 2) rfl ?_); refine box_event ?hg (N := 2) ?hd (cs := #[.int .i64 a0_0, .slice A0_1 l0_1.length c0_1, .slice A0_2 l0_2.length c0_2, .slice A0_3 l0_3.length c0_3]) (t := 71) ?hr ?_; (case hd => rfl); (case hg => rfl); (case hr => first | (go_simp; done) | (go_simp; rfl)); intro gb198 hg w32 hbox hb; have n0_ := Aside0.mk (below_step (by repeat (first | (with_reducible first | exact HB.out | apply below_alloc | apply pw_below_drewN | apply below_drew1) | exact HB.out)) hb); have n1_ := Aside0.mk (hbox); have n2_ := Aside0.mk ((by rw [hg]; exact (below_size (by repeat (first | (with_reducible first | exact HB.out | apply below_alloc | apply pw_below_drewN | apply below_drew1) | exact HB.out))) : w.heap.size ≤ gb198)); have n3_ := Aside0.mk ((by rw [hg]; exact (below_size (by repeat (first | (with_reducible first | exact HB.out | apply below_alloc | apply pw_below_drewN | apply below_drew1) | exact HB.out))) : w.heap.size ≤ gb198)); clear HB; have HB := n0_; have BK198 := n1_; have GW198 := n2_; have GE198 := n3_; clear n0_ n1_ n2_ n3_; clear hb hbox hg) | ((with_reducible refine gate_dst (N := 3) rfl ?_); refine box_event ?hg (N := 3) ?hd (cs := #[.int .i64 a1_0, .slice A1_1 l1_1.length c1_1, .slice A1_2 l1_2.length c1_2, .slice A1_3 l1_3.length c1_3]) (t := 71) ?hr ?_; (case hd => rfl); (case hg => rfl); (case hr => first | (go_simp; done) | (go_simp; rfl)); intro gb199 hg w33 hbox hb; have n0_ := Aside0.mk (blk_below (g := gb198) (o := .cells #[.int .i64 a0_0, .slice A0_1 l0_1.length c0_1, .slice A0_2 l0_2.length c0_2, .slice A0_3 l0_3.length c0_3] 71 (0, 0)) (by (with_reducible repeat (first | refine blk_drewN ?_ _ | refine blk_drew ?_ | refine blk_alloc ?_ _)); exact BK198.out) hb); have n1_ := Aside0.mk (below_step (by repeat (first | (with_reducible first | exact HB.out | apply below_alloc | apply pw_below_drewN | apply below_drew1 | refine below_set ?_ GE198.out) | exact HB.out)) hb); have n2_ := Aside0.mk (hbox); have n3_ := Aside0.mk ((by rw [hg]; exact (below_size (by repeat (first | (with_reducible first | exact HB.out | apply below_alloc | apply pw_below_drewN | apply below_drew1 | refine below_set ?_ GE198.out) | exact HB.out))) : w.heap.size ≤ gb199)); have n4_ := Aside0.mk ((by rw [hg]; exact (below_size (by repeat (first | (with_reducible first | exact HB.out | apply below_alloc | apply pw_below_drewN | apply below_drew1 | refine below_set ?_ GE198.out) | exact HB.out))) : w.heap.size ≤ gb199)); have n5_ := Aside0.mk ((by rw [hg]; exact Nat.ne_of_lt (blk_lt (g := gb198) (o := .cells #[.int .i64 a0_0, .slice A0_1 l0_1.length c0_1, .slice A0_2 l0_2.length c0_2, .slice A0_3 l0_3.length c0_3] 71 (0, 0)) (by (with_reducible repeat (first | refine blk_drewN ?_ _ | refine blk_drew ?_ | refine blk_alloc ?_ _)); exact BK198.out)) : gb198 ≠ gb199)); have n6_ := Aside0.mk ((by rw [hg]; exact Nat.ne_of_gt (blk_lt (g := gb198) (o := .cells #[.int .i64 a0_0, .slice A0_1 l0_1.length c0_1, .slice A0_2 l0_2.length c0_2, .slice A0_3 l0_3.length c0_3] 71 (0, 0)) (by (with_reducible repeat (first | refine blk_drewN ?_ _ | refine blk_drew ?_ | refine blk_alloc ?_ _)); exact BK198.out)) : gb199 ≠ gb198)); clear BK198; clear HB; have BK198 := n0_; have HB := n1_; have BK199 := n2_; have GW199 := n3_; have GE199 := n4_; have NB198_199 := n5_; have NB199_198 := n6_; clear n0_ n1_ n2_ n3_ n4_ n5_ n6_; clear hb hbox hg; have hnb34 := NB198_199.out; have hnc34 := NB199_198.out; have hcz35_0 : w33.cell? ⟨gb198, 0, none⟩ = some (.int .i64 a0_0) := (blk_cell BK198.out 0).trans rfl; have hcz35_1 : w33.cell? ⟨gb198, 1, none⟩ = some (.slice A0_1 l0_1.length c0_1) := (blk_cell BK198.out 1).trans rfl; have hcz35_2 : w33.cell? ⟨gb198, 2, none⟩ = some (.slice A0_2 l0_2.length c0_2) := (blk_cell BK198.out 2).trans rfl; have hcz35_3 : w33.cell? ⟨gb198, 3, none⟩ = some (.slice A0_3 l0_3.length c0_3) := (blk_cell BK198.out 3).trans rfl; have hfz35_0 := blk_frozen BK198.out 0; have hfz35_1 := blk_frozen BK198.out 1; have hfz35_2 := blk_frozen BK198.out 2; have hfz35_3 := blk_frozen BK198.out 3; have hcz36_0 : w33.cell? ⟨gb199, 0, none⟩ = some (.int .i64 a1_0) := (blk_cell BK199.out 0).trans rfl; have hcz36_1 : w33.cell? ⟨gb199, 1, none⟩ = some (.slice A1_1 l1_1.length c1_1) := (blk_cell BK199.out 1).trans rfl; have hcz36_2 : w33.cell? ⟨gb199, 2, none⟩ = some (.slice A1_2 l1_2.length c1_2) := (blk_cell BK199.out 2).trans rfl; have hcz36_3 : w33.cell? ⟨gb199, 3, none⟩ = some (.slice A1_3 l1_3.length c1_3) := (blk_cell BK199.out 3).trans rfl; have hfz36_0 := blk_frozen BK199.out 0; have hfz36_1 := blk_frozen BK199.out 1; have hfz36_2 := blk_frozen BK199.out 2; have hfz36_3 := blk_frozen BK199.out 3))
    go_ret
    exact ⟨by first | rfl | (simp [errW_none, errW_some] <;> rfl) | (simp [*, errW_none, errW_some] <;> rfl), by repeat (first | (with_reducible first | exact HB.out | apply below_alloc | apply pw_below_drewN | apply below_drew1 | refine below_set ?_ GE198.out | refine below_set ?_ GE199.out) | exact HB.out)⟩
end Go.Proofs.YtbeelgaganbblaaDoor.PFnExactProofText

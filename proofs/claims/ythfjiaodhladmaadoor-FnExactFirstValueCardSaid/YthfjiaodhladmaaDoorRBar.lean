/- impl.readSort at a name between bars, by a walk. -/
import Derived.Test.YthfjiaodhladmaaDoorRSort
namespace Go.Proofs.YthfjiaodhladmaaDoor.RS
open Go.RowKit Go.Proofs.YthfjiaodhladmaaDoor Go.Proofs.YthfjiaodhladmaaDoorW.PrintWords Go.Proofs.YthfjiaodhladmaaDoorW.PrintLast Go.Proofs.YthfjiaodhladmaaDoorW.PrintMore Go.Proofs.YthfjiaodhladmaaDoor.By Go.Proofs.YthfjiaodhladmaaDoor.PFnExactReadSort Go.Proofs.YthfjiaodhladmaaDoor.Srt
set_option linter.unusedVariables false
set_option linter.unusedSimpArgs false
set_option maxRecDepth 100000
set_option maxHeartbeats 4000000 in
theorem bar_walk (A : Option Addr) (c : Nat) (l : List ByteArray) (s : ByteArray) (arr bA : Bool) (w : World) (hs : s.size ≤ 1048576) (hT : Tabs w) (hp : Lib.hasPrefix (L s) pfxB = false) (ha : Lib.hasPrefix (L s) pfxA = bA) (hba : bA = false ∨ (bA = true ∧ arr = false)) (hbar : Lib.hasPrefix (L s) [124] = true) (hz : 1 ≤ s.size)
    (hl : Kd.C Kd.string w A l.length l) (hlc : l.length ≤ c) (hll : l.length ≤ 1048576) :
    Calls Tryd.prog 15 #[.slice A l.length c, .string s, .bool arr] w fun e w' => e = Ret (rdName (has l) (L s)) ∧ Below w.heap.size w w' := by
  have HB := Aside0.mk (box0 hT)
  have HL := Aside0.mk hl
  clear hT hl
  have HP : Aside0 (Lib.hasPrefix s.data.toList pfxB = false) := ⟨hp⟩
  have HPA : Aside0 (Lib.hasPrefix s.data.toList pfxA = bA) := ⟨ha⟩
  have HPB : Aside0 (Lib.hasPrefix s.data.toList [124] = true) := ⟨hbar⟩
  clear hp ha hbar
  obtain ⟨i, hi⟩ : ∃ i, Lib.indexByte ((L s).drop 1) 124 = i := ⟨_, rfl⟩
  have HI : Aside0 (Lib.indexByte (s.extract 1 s.size).data.toList (124 : Int).toNat.toUInt8 = i) := ⟨by
    rw [show (s.extract 1 s.size).data.toList = (L s).drop 1 from L_extract_end s 1]; exact hi⟩
  have HI2 := Aside0.mk hi
  have hN : Aside0 (rdName (has l) (L s) = rdBar (has l) ((L s).drop 1)) := ⟨by unfold rdName; rw [show Lib.hasPrefix (L s) [124] = true from HPB.out, if_pos rfl]⟩
  have hib : -1 ≤ i ∧ i < (s.size : Int) - 1 ∨ i = -1 := by
    have h1 := idx_lt ((L s).drop 1) 124
    rw [hi, List.length_drop, L_length] at h1
    omega
  clear hi
  go_enter Tryd.func15, Tryd.ntmps15
  go_wp2_with (fail)
  refine Calls.mono (Tryd.strings_HasPrefix s ⟨#[40, 95, 32, 66, 105, 116, 86, 101, 99, 32]⟩ _) ?_
  rintro e w1 ⟨rfl, hw1⟩
  rw [show Lib.hasPrefix s.data.toList (⟨#[40, 95, 32, 66, 105, 116, 86, 101, 99, 32]⟩ : ByteArray).data.toList = false from HP.out]
  have HB1 := Aside0.mk (hw1 ▸ HB.out : Box w w1)
  clear hw1 HB
  go_upto_region 9 with (fail)
  go_cut [70] (fun v70 wc => v70 = .bool false ∧ Aside0 (Box w wc))
  case first =>
    rcases hba with rfl | ⟨rfl, rfl⟩
    all_goals
      go_wp2_with (fail)
      refine Calls.mono (Tryd.strings_HasPrefix s ⟨#[40, 65, 114, 114, 97, 121, 32]⟩ _) ?_
      rintro e w2 ⟨rfl, hw2⟩
      rw [show Lib.hasPrefix s.data.toList (⟨#[40, 65, 114, 114, 97, 121, 32]⟩ : ByteArray).data.toList = _ from HPA.out]
      have HB2 := Aside0.mk (hw2 ▸ HB1.out : Box w w2)
      clear hw2 HB1
      go_wp2_with (fail)
      go_meet
      case rel => exact ⟨by first | rfl | simp, HB2⟩
  clear HB1
  obtain ⟨w2, rfl⟩ : ∃ w2 : World, w2 = wc := ⟨_, rfl⟩
  obtain ⟨rfl, HB2⟩ := hcut
  go_wp2_with (fail)
  refine Calls.mono (Tryd.strings_HasPrefix s ⟨#[124]⟩ _) ?_
  rintro e w3 ⟨rfl, hw3⟩
  rw [show Lib.hasPrefix s.data.toList (⟨#[124]⟩ : ByteArray).data.toList = true from HPB.out]
  have HB3 := Aside0.mk (hw3 ▸ HB2.out : Box w w3)
  clear hw3 HB2
  go_wp2_with (fail)
  refine Calls.mono (Tryd.strings_IndexByte (s.extract 1 s.size) 124 _) ?_
  rintro e w4 ⟨rfl, hw4⟩
  rw [HI.out]
  have HB4 := Aside0.mk (hw4 ▸ HB3.out : Box w w4)
  clear hw4 HB3
  obtain ⟨⟨c0, c1, c2, c3⟩, f0, f1, f2, f3⟩ := HB4.out.fa
  obtain ⟨d0, d1, d2, d3⟩ := HB4.out.fb
  by_cases hneg : i < 0
  · have HRN : Aside0 (rdName (has l) (L s) = noRd) := ⟨by rw [hN.out]; unfold rdBar; rw [HI2.out, if_pos hneg]⟩
    go_wp2_with (fail)
    exact bodyPost_ret (v := .tuple #[.agg #[.int .i64 0, .int .i64 0, .string ⟨#[]⟩, .string ⟨#[]⟩], .string ⟨#[63]⟩]) (by simp [results, Tryd.results15, go_sem, c0, c1, c2, c3, f0, f1, f2, f3]) rfl ⟨by rw [HRN.out]; rfl, HB4.out.set4 _ _ _ _⟩
  · obtain ⟨k, rfl⟩ : ∃ k : Nat, i = k := ⟨i.toNat, by omega⟩
    have hk : k + 2 ≤ s.size := by omega
    clear hib hneg
    have hk1 : (1 : Int) + k ≤ s.size := by omega
    have hk0 : (1 : Int) ≤ 1 + k := by omega
    have hk3 : (0 : Int) ≤ 1 + k := by omega
    have hk4 : (0 : Int) ≤ k + 2 := by omega
    have hk2 : (k : Int) + 2 ≤ s.size := by omega
    go_wp2_with (fail)
    go_region
    obtain ⟨S, hS⟩ : ∃ S, s.extract 1 (1 + k) = S := ⟨_, rfl⟩
    obtain ⟨T, hTT⟩ : ∃ T, s.extract (k + 2) s.size = T := ⟨_, rfl⟩
    rw [hS, hTT]
    have hSs : S.size ≤ 1048576 := by rw [← hS, size_extract _ _ _ (by omega)]; omega
    have LS : Aside0 (L S = ((L s).drop 1).take k) := ⟨by rw [← hS, L_extract]; congr 1; omega⟩
    have LT : Aside0 (L T = ((L s).drop 1).drop (k + 1)) := ⟨by rw [← hTT, L_extract_end, List.drop_drop]; congr 1; omega⟩
    have HB5 := Aside0.mk (HB4.out.step (W' := w4.drew) (below_drewN w4 1))
    clear hS hTT hk0 hk1 hk2 hk3 hk4 HB4
    go_wp2_with (fail)
    refine Calls.mono (bare_call S hSs _) ?_
    rintro e w6 ⟨rfl, hb6⟩
    have HB6 := Aside0.mk (HB5.out.step hb6)
    clear hb6 HB5
    clear c0 c1 c2 c3 f0 f1 f2 f3 d0 d1 d2 d3
    obtain ⟨⟨c0, c1, c2, c3⟩, f0, f1, f2, f3⟩ := HB6.out.fa
    obtain ⟨d0, d1, d2, d3⟩ := HB6.out.fb
    cases hpl : plain (L S)
    · have HR : Aside0 (rdName (has l) (L s) = fin (has l) (L S) (L T)) := ⟨by rw [hN.out]; unfold rdBar; rw [HI2.out, if_neg (by omega), Int.toNat_natCast, ← LS.out, hpl, if_neg (by decide), LT.out]⟩
      clear hpl
      go_wp2_with (fail)
      refine Calls.mono (sym_call S (by omega) _) ?_
      rintro e w7 ⟨rfl, hb7⟩
      have HB7 := Aside0.mk (HB6.out.step hb7)
      clear hb7 HB6
      clear c0 c1 c2 c3 f0 f1 f2 f3 d0 d1 d2 d3
      obtain ⟨⟨c0, c1, c2, c3⟩, f0, f1, f2, f3⟩ := HB7.out.fa
      obtain ⟨d0, d1, d2, d3⟩ := HB7.out.fb
      cases hsy : isSym (L S)
      · have HRN : Aside0 (rdName (has l) (L s) = noRd) := ⟨by rw [HR.out]; unfold fin; rw [hsy]; rfl⟩
        clear hsy
        go_wp2_with (fail)
        exact bodyPost_ret (v := .tuple #[.agg #[.int .i64 0, .int .i64 0, .string ⟨#[]⟩, .string ⟨#[]⟩], .string ⟨#[63]⟩]) (by simp [results, Tryd.results15, go_sem, c0, c1, c2, c3, f0, f1, f2, f3]) rfl ⟨by rw [HRN.out]; rfl, HB7.out.set4 _ _ _ _⟩
      · have HSY := Aside0.mk hsy
        clear hsy
        go_wp2_with (fail)
        go_loop [193] (fun v => ∃ j : Nat, j ≤ l.length ∧ v = .int .i64 j ∧ Aside0 (∀ x ∈ l.take j, L x ≠ L S)) (fun v => l.length - (intOf v).toNat)
        case atStart => exact ⟨0, Nat.zero_le _, by first | rfl | go_num, ⟨by simp⟩⟩
        case round =>
          obtain ⟨j, hj, rfl, HJ⟩ := hrel
          by_cases hlt : j < l.length
          · obtain ⟨ad, ea, hx⟩ := Kd.at_string HL.out (j : Int) (by omega) (by omega)
            cases ea
            replace hx := (HB7.out.below.cell (World.block_lt_of_cell? w _ hx)).trans hx
            rw [show rdOf ByteArray.empty l (j : Int) = l[j] from by unfold rdOf; rw [Int.toNat_natCast, List.getD_eq_getElem?_getD, List.getElem?_eq_getElem hlt]; rfl, Int.toNat_natCast] at hx
            obtain ⟨X, hX⟩ : ∃ X, l[j] = X := ⟨_, rfl⟩
            have HX := Aside0.mk hX
            rw [hX] at hx
            clear hX
            by_cases he : L X = L S
            · have ht : (X.toList == S.toList) = true := by rw [toList_L, toList_L]; exact beq_iff_eq.2 he
              have HH : Aside0 (has l (L S) = true) := ⟨by unfold has; rw [List.any_eq_true]; exact ⟨X, by rw [← HX.out]; exact List.getElem_mem hlt, decide_eq_true he⟩⟩
              clear he
              go_wp2_with (fail)
              exact bodyPost_ret (v := .tuple #[.agg #[.int .i64 5, .int .i64 0, .string ⟨#[]⟩, .string ⟨#[]⟩], .string T]) (by simp [results, Tryd.results15, go_sem, c0, c1, c2, c3, f0, f1, f2, f3]) rfl ⟨by
                rw [HR.out]; unfold fin; rw [HSY.out, HH.out, if_pos (show (true && true) = true from rfl)]; unfold Ret; rw [show (⟨(L T).toArray⟩ : ByteArray) = T from rfl], HB7.out.set4 _ _ _ _⟩
            · have ht : (X.toList == S.toList) = false := by rw [toList_L, toList_L]; exact beq_eq_false_iff_ne.2 he
              have HE := Aside0.mk he
              clear he
              go_wp2_with (fail)
              go_round
              case rel => exact ⟨j + 1, by omega, by go_num, ⟨fun x hm => by
                rw [List.take_add_one, List.getElem?_eq_getElem hlt, HX.out] at hm
                rcases List.mem_append.1 hm with hm | hm
                · exact HJ.out x hm
                · rw [Option.toList_some, List.mem_singleton] at hm; rw [hm]; exact HE.out⟩⟩
              case measure => simp [intOf]; omega
          · have hjl : j = l.length := by omega
            have HRN : Aside0 (rdName (has l) (L s) = noRd) := ⟨by
              rw [HR.out]; unfold fin
              have : has l (L S) = false := by
                unfold has
                rw [List.any_eq_false]
                intro x hm
                have := HJ.out x (by rw [hjl, List.take_length]; exact hm)
                simpa using this
              rw [this, Bool.and_false]; rfl⟩
            go_wp2_with (fail)
            exact bodyPost_ret (v := .tuple #[.agg #[.int .i64 0, .int .i64 0, .string ⟨#[]⟩, .string ⟨#[]⟩], .string ⟨#[63]⟩]) (by simp [results, Tryd.results15, go_sem, c0, c1, c2, c3, f0, f1, f2, f3]) rfl ⟨by rw [HRN.out]; rfl, HB7.out.set4 _ _ _ _⟩
    · have HRN : Aside0 (rdName (has l) (L s) = noRd) := ⟨by rw [hN.out]; unfold rdBar; rw [HI2.out, if_neg (by omega), Int.toNat_natCast, ← LS.out, hpl, if_pos rfl]⟩
      clear hpl
      go_wp2_with (fail)
      exact bodyPost_ret (v := .tuple #[.agg #[.int .i64 0, .int .i64 0, .string ⟨#[]⟩, .string ⟨#[]⟩], .string ⟨#[63]⟩]) (by simp [results, Tryd.results15, go_sem, c0, c1, c2, c3, f0, f1, f2, f3]) rfl ⟨by rw [HRN.out]; rfl, HB6.out.set4 _ _ _ _⟩
end Go.Proofs.YthfjiaodhladmaaDoor.RS

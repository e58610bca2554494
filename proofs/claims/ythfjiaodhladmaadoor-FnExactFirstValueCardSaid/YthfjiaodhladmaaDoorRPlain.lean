/- impl.readSort at a name without bars, by a walk. -/
import Derived.Test.YthfjiaodhladmaaDoorRSort
namespace Go.Proofs.YthfjiaodhladmaaDoor.RS
open Go.RowKit Go.Proofs.YthfjiaodhladmaaDoor Go.Proofs.YthfjiaodhladmaaDoorW.PrintWords Go.Proofs.YthfjiaodhladmaaDoorW.PrintLast Go.Proofs.YthfjiaodhladmaaDoorW.PrintMore Go.Proofs.YthfjiaodhladmaaDoor.By Go.Proofs.YthfjiaodhladmaaDoor.PFnExactReadSort Go.Proofs.YthfjiaodhladmaaDoor.Srt
set_option linter.unusedVariables false
set_option linter.unusedSimpArgs false
set_option maxRecDepth 100000
theorem take_while : ∀ {l : List UInt8} {k : Nat}, k ≤ l.length → (l.take k).all nmU = true → (k = l.length ∨ ∃ x, l[k]? = some x ∧ nmU x = false) → l.takeWhile nmU = l.take k ∧ l.dropWhile nmU = l.drop k
  | [], k, hk, _, _ => by simp
  | c :: l, 0, _, _, h => by
    rcases h with h | ⟨x, hx, hn⟩
    · simp at h
    · simp at hx; subst hx; simp [hn]
  | c :: l, k + 1, hk, ha, h => by
    rw [List.take_succ_cons, List.all_cons, Bool.and_eq_true] at ha
    have ih := take_while (l := l) (k := k) (by simpa using hk) ha.2 (by
      rcases h with h | ⟨x, hx, hn⟩
      · exact .inl (by simpa using h)
      · exact .inr ⟨x, by simpa using hx, hn⟩)
    constructor
    · rw [List.takeWhile_cons, ha.1, if_pos rfl, ih.1, List.take_succ_cons]
    · rw [List.dropWhile_cons, ha.1, if_pos rfl, ih.2, List.drop_succ_cons]
set_option maxHeartbeats 4000000 in
theorem plain_walk (A : Option Addr) (c : Nat) (l : List ByteArray) (s : ByteArray) (arr bA : Bool) (w : World) (hs : s.size ≤ 1048576) (hT : Tabs w) (hp : Lib.hasPrefix (L s) pfxB = false) (ha : Lib.hasPrefix (L s) pfxA = bA) (hba : bA = false ∨ (bA = true ∧ arr = false)) (hbar : Lib.hasPrefix (L s) [124] = false) (hz : 0 ≤ s.size)
    (hl : Kd.C Kd.string w A l.length l) (hlc : l.length ≤ c) (hll : l.length ≤ 1048576) :
    Calls Tryd.prog 15 #[.slice A l.length c, .string s, .bool arr] w fun e w' => e = Ret (rdName (has l) (L s)) ∧ Below w.heap.size w w' := by
  have HB := Aside0.mk (box0 hT)
  have HL := Aside0.mk hl
  clear hT hl
  have HP : Aside0 (Lib.hasPrefix s.data.toList pfxB = false) := ⟨hp⟩
  have HPA : Aside0 (Lib.hasPrefix s.data.toList pfxA = bA) := ⟨ha⟩
  have HPB : Aside0 (Lib.hasPrefix s.data.toList [124] = false) := ⟨hbar⟩
  clear hp ha hbar
  have hN : Aside0 (rdName (has l) (L s) = rdPlain (has l) (L s)) := ⟨by unfold rdName; rw [show Lib.hasPrefix (L s) [124] = false from HPB.out, if_neg (by decide)]⟩
  go_enter Tryd.func15, Tryd.ntmps15
  go_wp2_with (fail)
  refine Calls.mono (Tryd.strings_HasPrefix s ⟨#[40, 95, 32, 66, 105, 116, 86, 101, 99, 32]⟩ _) ?_
  rintro e w1 ⟨rfl, hw1⟩
  rw [show Lib.hasPrefix s.data.toList (⟨#[40, 95, 32, 66, 105, 116, 86, 101, 99, 32]⟩ : ByteArray).data.toList = false from HP.out]
  have HB1 := Aside0.mk (hw1 ▸ HB.out : Box w w1)
  clear hw1 HB
  go_upto_region 9 with (fail)
  go_cut [70] (fun v70 wc => v70 = .bool false ∧ Aside0 (Box w wc))
  case first =>
    rcases hba with rfl | ⟨rfl, rfl⟩
    all_goals
      go_wp2_with (fail)
      refine Calls.mono (Tryd.strings_HasPrefix s ⟨#[40, 65, 114, 114, 97, 121, 32]⟩ _) ?_
      rintro e w2 ⟨rfl, hw2⟩
      rw [show Lib.hasPrefix s.data.toList (⟨#[40, 65, 114, 114, 97, 121, 32]⟩ : ByteArray).data.toList = _ from HPA.out]
      have HB2 := Aside0.mk (hw2 ▸ HB1.out : Box w w2)
      clear hw2 HB1
      go_wp2_with (fail)
      go_meet
      case rel => exact ⟨by first | rfl | simp, HB2⟩
  clear HB1
  obtain ⟨w2, rfl⟩ : ∃ w2 : World, w2 = wc := ⟨_, rfl⟩
  obtain ⟨rfl, HB2⟩ := hcut
  go_wp2_with (fail)
  refine Calls.mono (Tryd.strings_HasPrefix s ⟨#[124]⟩ _) ?_
  rintro e w3 ⟨rfl, hw3⟩
  rw [show Lib.hasPrefix s.data.toList (⟨#[124]⟩ : ByteArray).data.toList = false from HPB.out]
  have HB3 := Aside0.mk (hw3 ▸ HB2.out : Box w w3)
  clear hw3 HB2
  go_upto_region 28 with (fail)
  go_cut [23] (fun v23 wc => v23 = .int .i64 0 ∧ Aside0 (Box w wc))
  case first =>
    go_wp2_with (fail)
    go_meet
    case rel => exact ⟨by first | rfl | go_num, HB3⟩
  case rest =>
    clear HB3
    obtain ⟨rfl, HB3⟩ := hcut
    obtain ⟨w3, rfl⟩ : ∃ w3 : World, w3 = wc := ⟨_, rfl⟩
    rename_i hKn
    refine hKn _ _ ?_
    go_cut [20, 21] (fun v20 v21 wc => ∃ S T : ByteArray, v20 = .string S ∧ v21 = .string T ∧ Aside0 (rdName (has l) (L s) = fin (has l) (L S) (L T)) ∧ S.size ≤ 1048576 ∧ Aside0 (Box w wc))
    case first =>
      go_wp2_with (fail)
      go_loop [23] (fun v => ∃ k : Nat, k ≤ s.size ∧ v = .int .i64 k ∧ Aside0 (((L s).take k).all nmU = true)) (fun v => s.size - (intOf v).toNat)
      case atStart => exact ⟨0, Nat.zero_le _, by first | rfl | go_num, ⟨by simp⟩⟩
      case round =>
        obtain ⟨k, hk, rfl, HK⟩ := hrel
        by_cases hlt : k < s.size
        · obtain ⟨x, hx⟩ : ∃ x, (L s)[k]? = some x := ⟨_, List.getElem?_eq_getElem (by rw [L_length]; exact hlt)⟩
          have HXK := Aside0.mk hx
          have hx256 := x.toNat_lt
          obtain ⟨c0, hc0⟩ : ∃ c0 : Nat, x.toNat = c0 := ⟨_, rfl⟩
          have HC0 := Aside0.mk hc0
          have hxi : ∀ h : k < s.size, ((s[k]'h).toNat : Int) = (c0 : Int) := fun h => by
            have h1 := bt_at s (k : Int) h
            have h2 := bt_get s k h
            have h3 : (L s)[k]? = some x := HXK.out
            rw [List.getElem?_eq_getElem (by rw [L_length]; exact h)] at h3
            rw [Option.some.inj h3, HC0.out] at h2
            have h4 : ((s[k]'h).toNat : Int) = bt s k := h1
            rw [h4, h2]
          rw [hc0] at hx256
          clear hx hc0
          have hnm : nmB (c0 : Int) = nmU x := by rw [← HC0.out]; exact nmB_nmU x
          obtain ⟨b, hb⟩ : ∃ b, nmU x = b := ⟨_, rfl⟩
          have HBB := Aside0.mk hb
          rw [hb] at hnm
          clear hb
          cases b
          · go_wp2_with (first | (go_at_call 28; refine (impl_nameB_any _ _ (by omega) (by omega)).mono ?_; rintro e w' ⟨rfl, rfl⟩) | go_in)
            have HTW := Aside0.mk (take_while (by rw [L_length]; exact hk) HK.out (.inr ⟨x, HXK.out, HBB.out⟩))
            clear hnm hxi
            have hk3 : (0 : Int) ≤ k := by omega
            have hk4 : (k : Int) ≤ s.size := by omega
            go_region
            obtain ⟨S, hS⟩ : ∃ S, s.extract 0 k = S := ⟨_, rfl⟩
            obtain ⟨T, hTT⟩ : ∃ T, s.extract k s.size = T := ⟨_, rfl⟩
            rw [hS, hTT]
            have hSs : S.size ≤ 1048576 := by rw [← hS, size_extract _ _ _ (by omega)]; omega
            have LS : Aside0 (L S = (L s).takeWhile nmU) := ⟨by rw [← hS, L_extract, HTW.out.1, List.drop_zero, Nat.sub_zero]⟩
            have LT : Aside0 (L T = (L s).dropWhile nmU) := ⟨by rw [← hTT, L_extract_end, HTW.out.2]⟩
            have HB4 := Aside0.mk (HB3.out.step (W' := w3.drew) (below_drewN w3 1))
            clear hS hTT hk3 hk4 HTW
            obtain ⟨⟨c0, c1, c2, c3⟩, f0, f1, f2, f3⟩ := HB3.out.fa
            obtain ⟨d0, d1, d2, d3⟩ := HB3.out.fb
            by_cases hBool : L S = tBool
            · have HBool := Aside0.mk hBool
              have qBool : (S.toList == [66, 111, 111, 108]) = true := by rw [toList_L, hBool]; rfl
              clear hBool
              have HRX : Aside0 (rdName (has l) (L s) = ((1, 0), L T)) := ⟨by rw [hN.out]; unfold rdPlain; rw [← LS.out, ← LT.out]; rw [if_pos HBool.out]⟩
              go_wp2_with (fail)
              exact bodyPost_ret (v := .tuple #[.agg #[.int .i64 1, .int .i64 0, .string ⟨#[]⟩, .string ⟨#[]⟩], .string T]) (by simp [results, Tryd.results15, go_sem, c0, c1, c2, c3, f0, f1, f2, f3]) rfl ⟨by
                rw [HRX.out]; unfold Ret; rw [show (⟨(L T).toArray⟩ : ByteArray) = T from rfl], by first | exact HB4.out.set4 _ _ _ _ | exact below_drew (HB3.out.set4 _ _ _ _)⟩
            · have HBool := Aside0.mk hBool
              have qBool : (S.toList == [66, 111, 111, 108]) = false := by rw [toList_L]; exact beq_eq_false_iff_ne.2 hBool
              clear hBool
              by_cases hInt : L S = tInt
              · have HInt := Aside0.mk hInt
                have qInt : (S.toList == [73, 110, 116]) = true := by rw [toList_L, hInt]; rfl
                clear hInt
                have HRX : Aside0 (rdName (has l) (L s) = ((2, 0), L T)) := ⟨by rw [hN.out]; unfold rdPlain; rw [← LS.out, ← LT.out]; rw [if_neg HBool.out, if_pos HInt.out]⟩
                go_wp2_with (fail)
                exact bodyPost_ret (v := .tuple #[.agg #[.int .i64 2, .int .i64 0, .string ⟨#[]⟩, .string ⟨#[]⟩], .string T]) (by simp [results, Tryd.results15, go_sem, c0, c1, c2, c3, f0, f1, f2, f3]) rfl ⟨by
                  rw [HRX.out]; unfold Ret; rw [show (⟨(L T).toArray⟩ : ByteArray) = T from rfl], by first | exact HB4.out.set4 _ _ _ _ | exact below_drew (HB3.out.set4 _ _ _ _)⟩
              · have HInt := Aside0.mk hInt
                have qInt : (S.toList == [73, 110, 116]) = false := by rw [toList_L]; exact beq_eq_false_iff_ne.2 hInt
                clear hInt
                by_cases hReal : L S = tReal
                · have HReal := Aside0.mk hReal
                  have qReal : (S.toList == [82, 101, 97, 108]) = true := by rw [toList_L, hReal]; rfl
                  clear hReal
                  have HRX : Aside0 (rdName (has l) (L s) = ((3, 0), L T)) := ⟨by rw [hN.out]; unfold rdPlain; rw [← LS.out, ← LT.out]; rw [if_neg HBool.out, if_neg HInt.out, if_pos HReal.out]⟩
                  go_wp2_with (fail)
                  exact bodyPost_ret (v := .tuple #[.agg #[.int .i64 3, .int .i64 0, .string ⟨#[]⟩, .string ⟨#[]⟩], .string T]) (by simp [results, Tryd.results15, go_sem, c0, c1, c2, c3, f0, f1, f2, f3]) rfl ⟨by
                    rw [HRX.out]; unfold Ret; rw [show (⟨(L T).toArray⟩ : ByteArray) = T from rfl], by first | exact HB4.out.set4 _ _ _ _ | exact below_drew (HB3.out.set4 _ _ _ _)⟩
                · have HReal := Aside0.mk hReal
                  have qReal : (S.toList == [82, 101, 97, 108]) = false := by rw [toList_L]; exact beq_eq_false_iff_ne.2 hReal
                  clear hReal
                  go_wp2_with (fail)
                  refine Calls.mono (bare_call S hSs _) ?_
                  rintro e w6 ⟨rfl, hb6⟩
                  have HB6 := Aside0.mk (HB4.out.step hb6)
                  clear hb6
                  clear c0 c1 c2 c3 f0 f1 f2 f3 d0 d1 d2 d3
                  obtain ⟨⟨c0, c1, c2, c3⟩, f0, f1, f2, f3⟩ := HB6.out.fa
                  obtain ⟨d0, d1, d2, d3⟩ := HB6.out.fb
                  cases hpl : plain (L S)
                  · have HRN : Aside0 (rdName (has l) (L s) = noRd) := ⟨by rw [hN.out]; unfold rdPlain; rw [← LS.out, ← LT.out, if_neg HBool.out, if_neg HInt.out, if_neg HReal.out, hpl, if_neg (by decide)]⟩
                    clear hpl
                    go_wp2_with (fail)
                    exact bodyPost_ret (v := .tuple #[.agg #[.int .i64 0, .int .i64 0, .string ⟨#[]⟩, .string ⟨#[]⟩], .string ⟨#[63]⟩]) (by simp [results, Tryd.results15, go_sem, c0, c1, c2, c3, f0, f1, f2, f3]) rfl ⟨by rw [HRN.out]; rfl, HB6.out.set4 _ _ _ _⟩
                  · have HR : Aside0 (rdName (has l) (L s) = fin (has l) (L S) (L T)) := ⟨by rw [hN.out]; unfold rdPlain; rw [← LS.out, ← LT.out, if_neg HBool.out, if_neg HInt.out, if_neg HReal.out, hpl, if_pos rfl]⟩
                    clear hpl
                    go_wp2_with (fail)
                    go_meet
                    case rel => exact ⟨S, T, rfl, rfl, HR, hSs, HB6⟩
          · go_wp2_with (first | (go_at_call 28; refine (impl_nameB_any _ _ (by omega) (by omega)).mono ?_; rintro e w' ⟨rfl, rfl⟩) | go_in)
            go_round
            case rel => exact ⟨k + 1, by omega, by go_num, ⟨by rw [List.take_add_one, HXK.out, List.all_append, HK.out]; simp [HBB.out]⟩⟩
            case measure => simp [intOf]; omega
        · have HKL := Aside0.mk (by omega : k = s.size)
          go_wp2_with (fail)
          have HTW := Aside0.mk (take_while (by rw [L_length]; exact hk) HK.out (.inl (by rw [L_length]; exact HKL.out)))
          clear hlt
          have hk3 : (0 : Int) ≤ k := by omega
          have hk4 : (k : Int) ≤ s.size := by omega
          go_region
          obtain ⟨S, hS⟩ : ∃ S, s.extract 0 k = S := ⟨_, rfl⟩
          obtain ⟨T, hTT⟩ : ∃ T, s.extract k s.size = T := ⟨_, rfl⟩
          rw [hS, hTT]
          have hSs : S.size ≤ 1048576 := by rw [← hS, size_extract _ _ _ (by omega)]; omega
          have LS : Aside0 (L S = (L s).takeWhile nmU) := ⟨by rw [← hS, L_extract, HTW.out.1, List.drop_zero, Nat.sub_zero]⟩
          have LT : Aside0 (L T = (L s).dropWhile nmU) := ⟨by rw [← hTT, L_extract_end, HTW.out.2]⟩
          have HB4 := Aside0.mk (HB3.out.step (W' := w3.drew) (below_drewN w3 1))
          clear hS hTT hk3 hk4 HTW
          obtain ⟨⟨c0, c1, c2, c3⟩, f0, f1, f2, f3⟩ := HB3.out.fa
          obtain ⟨d0, d1, d2, d3⟩ := HB3.out.fb
          by_cases hBool : L S = tBool
          · have HBool := Aside0.mk hBool
            have qBool : (S.toList == [66, 111, 111, 108]) = true := by rw [toList_L, hBool]; rfl
            clear hBool
            have HRX : Aside0 (rdName (has l) (L s) = ((1, 0), L T)) := ⟨by rw [hN.out]; unfold rdPlain; rw [← LS.out, ← LT.out]; rw [if_pos HBool.out]⟩
            go_wp2_with (fail)
            exact bodyPost_ret (v := .tuple #[.agg #[.int .i64 1, .int .i64 0, .string ⟨#[]⟩, .string ⟨#[]⟩], .string T]) (by simp [results, Tryd.results15, go_sem, c0, c1, c2, c3, f0, f1, f2, f3]) rfl ⟨by
              rw [HRX.out]; unfold Ret; rw [show (⟨(L T).toArray⟩ : ByteArray) = T from rfl], by first | exact HB4.out.set4 _ _ _ _ | exact below_drew (HB3.out.set4 _ _ _ _)⟩
          · have HBool := Aside0.mk hBool
            have qBool : (S.toList == [66, 111, 111, 108]) = false := by rw [toList_L]; exact beq_eq_false_iff_ne.2 hBool
            clear hBool
            by_cases hInt : L S = tInt
            · have HInt := Aside0.mk hInt
              have qInt : (S.toList == [73, 110, 116]) = true := by rw [toList_L, hInt]; rfl
              clear hInt
              have HRX : Aside0 (rdName (has l) (L s) = ((2, 0), L T)) := ⟨by rw [hN.out]; unfold rdPlain; rw [← LS.out, ← LT.out]; rw [if_neg HBool.out, if_pos HInt.out]⟩
              go_wp2_with (fail)
              exact bodyPost_ret (v := .tuple #[.agg #[.int .i64 2, .int .i64 0, .string ⟨#[]⟩, .string ⟨#[]⟩], .string T]) (by simp [results, Tryd.results15, go_sem, c0, c1, c2, c3, f0, f1, f2, f3]) rfl ⟨by
                rw [HRX.out]; unfold Ret; rw [show (⟨(L T).toArray⟩ : ByteArray) = T from rfl], by first | exact HB4.out.set4 _ _ _ _ | exact below_drew (HB3.out.set4 _ _ _ _)⟩
            · have HInt := Aside0.mk hInt
              have qInt : (S.toList == [73, 110, 116]) = false := by rw [toList_L]; exact beq_eq_false_iff_ne.2 hInt
              clear hInt
              by_cases hReal : L S = tReal
              · have HReal := Aside0.mk hReal
                have qReal : (S.toList == [82, 101, 97, 108]) = true := by rw [toList_L, hReal]; rfl
                clear hReal
                have HRX : Aside0 (rdName (has l) (L s) = ((3, 0), L T)) := ⟨by rw [hN.out]; unfold rdPlain; rw [← LS.out, ← LT.out]; rw [if_neg HBool.out, if_neg HInt.out, if_pos HReal.out]⟩
                go_wp2_with (fail)
                exact bodyPost_ret (v := .tuple #[.agg #[.int .i64 3, .int .i64 0, .string ⟨#[]⟩, .string ⟨#[]⟩], .string T]) (by simp [results, Tryd.results15, go_sem, c0, c1, c2, c3, f0, f1, f2, f3]) rfl ⟨by
                  rw [HRX.out]; unfold Ret; rw [show (⟨(L T).toArray⟩ : ByteArray) = T from rfl], by first | exact HB4.out.set4 _ _ _ _ | exact below_drew (HB3.out.set4 _ _ _ _)⟩
              · have HReal := Aside0.mk hReal
                have qReal : (S.toList == [82, 101, 97, 108]) = false := by rw [toList_L]; exact beq_eq_false_iff_ne.2 hReal
                clear hReal
                go_wp2_with (fail)
                refine Calls.mono (bare_call S hSs _) ?_
                rintro e w6 ⟨rfl, hb6⟩
                have HB6 := Aside0.mk (HB4.out.step hb6)
                clear hb6
                clear c0 c1 c2 c3 f0 f1 f2 f3 d0 d1 d2 d3
                obtain ⟨⟨c0, c1, c2, c3⟩, f0, f1, f2, f3⟩ := HB6.out.fa
                obtain ⟨d0, d1, d2, d3⟩ := HB6.out.fb
                cases hpl : plain (L S)
                · have HRN : Aside0 (rdName (has l) (L s) = noRd) := ⟨by rw [hN.out]; unfold rdPlain; rw [← LS.out, ← LT.out, if_neg HBool.out, if_neg HInt.out, if_neg HReal.out, hpl, if_neg (by decide)]⟩
                  clear hpl
                  go_wp2_with (fail)
                  exact bodyPost_ret (v := .tuple #[.agg #[.int .i64 0, .int .i64 0, .string ⟨#[]⟩, .string ⟨#[]⟩], .string ⟨#[63]⟩]) (by simp [results, Tryd.results15, go_sem, c0, c1, c2, c3, f0, f1, f2, f3]) rfl ⟨by rw [HRN.out]; rfl, HB6.out.set4 _ _ _ _⟩
                · have HR : Aside0 (rdName (has l) (L s) = fin (has l) (L S) (L T)) := ⟨by rw [hN.out]; unfold rdPlain; rw [← LS.out, ← LT.out, if_neg HBool.out, if_neg HInt.out, if_neg HReal.out, hpl, if_pos rfl]⟩
                  clear hpl
                  go_wp2_with (fail)
                  go_meet
                  case rel => exact ⟨S, T, rfl, rfl, HR, hSs, HB6⟩
    case rest =>
      clear HB3
      obtain ⟨S, T, rfl, rfl, HR, hSs, HB6⟩ := hcut
      go_wp2_with (fail)
      refine Calls.mono (sym_call S (by omega) _) ?_
      rintro e w7 ⟨rfl, hb7⟩
      have HB7 := Aside0.mk (HB6.out.step hb7)
      clear hb7 HB6
      obtain ⟨⟨c0, c1, c2, c3⟩, f0, f1, f2, f3⟩ := HB7.out.fa
      obtain ⟨d0, d1, d2, d3⟩ := HB7.out.fb
      cases hsy : isSym (L S)
      · have HRN : Aside0 (rdName (has l) (L s) = noRd) := ⟨by rw [HR.out]; unfold fin; rw [hsy]; rfl⟩
        clear hsy
        go_wp2_with (fail)
        exact bodyPost_ret (v := .tuple #[.agg #[.int .i64 0, .int .i64 0, .string ⟨#[]⟩, .string ⟨#[]⟩], .string ⟨#[63]⟩]) (by simp [results, Tryd.results15, go_sem, c0, c1, c2, c3, f0, f1, f2, f3]) rfl ⟨by rw [HRN.out]; rfl, HB7.out.set4 _ _ _ _⟩
      · have HSY := Aside0.mk hsy
        clear hsy
        go_wp2_with (fail)
        go_loop [193] (fun v => ∃ j : Nat, j ≤ l.length ∧ v = .int .i64 j ∧ Aside0 (∀ x ∈ l.take j, L x ≠ L S)) (fun v => l.length - (intOf v).toNat)
        case atStart => exact ⟨0, Nat.zero_le _, by first | rfl | go_num, ⟨by simp⟩⟩
        case round =>
          obtain ⟨j, hj, rfl, HJ⟩ := hrel
          by_cases hlt : j < l.length
          · obtain ⟨ad, ea, hx⟩ := Kd.at_string HL.out (j : Int) (by omega) (by omega)
            cases ea
            replace hx := (HB7.out.below.cell (World.block_lt_of_cell? w _ hx)).trans hx
            rw [show rdOf ByteArray.empty l (j : Int) = l[j] from by unfold rdOf; rw [Int.toNat_natCast, List.getD_eq_getElem?_getD, List.getElem?_eq_getElem hlt]; rfl, Int.toNat_natCast] at hx
            obtain ⟨X, hX⟩ : ∃ X, l[j] = X := ⟨_, rfl⟩
            have HX := Aside0.mk hX
            rw [hX] at hx
            clear hX
            by_cases he : L X = L S
            · have ht : (X.toList == S.toList) = true := by rw [toList_L, toList_L]; exact beq_iff_eq.2 he
              have HH : Aside0 (has l (L S) = true) := ⟨by unfold has; rw [List.any_eq_true]; exact ⟨X, by rw [← HX.out]; exact List.getElem_mem hlt, decide_eq_true he⟩⟩
              clear he
              go_wp2_with (fail)
              exact bodyPost_ret (v := .tuple #[.agg #[.int .i64 5, .int .i64 0, .string ⟨#[]⟩, .string ⟨#[]⟩], .string T]) (by simp [results, Tryd.results15, go_sem, c0, c1, c2, c3, f0, f1, f2, f3]) rfl ⟨by
                rw [HR.out]; unfold fin; rw [HSY.out, HH.out, if_pos (show (true && true) = true from rfl)]; unfold Ret; rw [show (⟨(L T).toArray⟩ : ByteArray) = T from rfl], HB7.out.set4 _ _ _ _⟩
            · have ht : (X.toList == S.toList) = false := by rw [toList_L, toList_L]; exact beq_eq_false_iff_ne.2 he
              have HE := Aside0.mk he
              clear he
              go_wp2_with (fail)
              go_round
              case rel => exact ⟨j + 1, by omega, by go_num, ⟨fun x hm => by
                rw [List.take_add_one, List.getElem?_eq_getElem hlt, HX.out] at hm
                rcases List.mem_append.1 hm with hm | hm
                · exact HJ.out x hm
                · rw [Option.toList_some, List.mem_singleton] at hm; rw [hm]; exact HE.out⟩⟩
              case measure => simp [intOf]; omega
          · have hjl : j = l.length := by omega
            have HRN : Aside0 (rdName (has l) (L s) = noRd) := ⟨by
              rw [HR.out]; unfold fin
              have : has l (L S) = false := by
                unfold has
                rw [List.any_eq_false]
                intro x hm
                have := HJ.out x (by rw [hjl, List.take_length]; exact hm)
                simpa using this
              rw [this, Bool.and_false]; rfl⟩
            go_wp2_with (fail)
            exact bodyPost_ret (v := .tuple #[.agg #[.int .i64 0, .int .i64 0, .string ⟨#[]⟩, .string ⟨#[]⟩], .string ⟨#[63]⟩]) (by simp [results, Tryd.results15, go_sem, c0, c1, c2, c3, f0, f1, f2, f3]) rfl ⟨by rw [HRN.out]; rfl, HB7.out.set4 _ _ _ _⟩
end Go.Proofs.YthfjiaodhladmaaDoor.RS

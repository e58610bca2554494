/- impl.readSort without arrays, by walks. -/
import Derived.Test.YthfjiaodhladmaaDoorBare
import Derived.OwnWalk
import Derived.Outline
import Derived.Deep.QuietTactic
import Derived.BigQuiet
namespace Go.Proofs.YthfjiaodhladmaaDoor.RS
open Go.RowKit Go.Proofs.YthfjiaodhladmaaDoor Go.Proofs.YthfjiaodhladmaaDoorW.PrintWords Go.Proofs.YthfjiaodhladmaaDoorW.PrintLast Go.Proofs.YthfjiaodhladmaaDoorW.PrintMore Go.Proofs.YthfjiaodhladmaaDoor.By Go.Proofs.YthfjiaodhladmaaDoor.PFnExactReadSort Go.Proofs.YthfjiaodhladmaaDoor.Srt
set_option linter.unusedVariables false
set_option linter.unusedSimpArgs false
set_option maxRecDepth 100000
/-- what the library asks of its variables -/
structure Tabs (w : World) : Prop where
  m : ∃ m : Int, w.cell? ⟨0, 0, none⟩ = some (.int .i64 m)
  s : ∃ ev, w.cell? ⟨1, 0, none⟩ = some ev ∧ (ev = .nilIface ∨ ∃ te pe, ev = .iface te pe)
  r : ∃ ev, w.cell? ⟨2, 0, none⟩ = some ev ∧ (ev = .nilIface ∨ ∃ te pe, ev = .iface te pe)
theorem Tabs.below {w w' : World} (h : Tabs w) (hb : Below w.heap.size w w') : Tabs w' := by
  obtain ⟨⟨m, hm⟩, ⟨s, hs, hs'⟩, ⟨r, hr, hr'⟩⟩ := h
  exact ⟨⟨m, (hb.cell (World.block_lt_of_cell? w _ hm)).trans hm⟩, ⟨s, (hb.cell (World.block_lt_of_cell? w _ hs)).trans hs, hs'⟩, ⟨r, (hb.cell (World.block_lt_of_cell? w _ hr)).trans hr, hr'⟩⟩
theorem below_drewN (w : World) (n : Nat) : Below w.heap.size w (w.drewN n) := ⟨rfl, rfl, rfl, Nat.le_refl _, fun _ _ => rfl⟩
/-- strconv.Atoi, all its ends in one -/
theorem atoi (s : ByteArray) (hs : s.size ≤ 1048576) (w : World) (h : Tabs w) :
    Calls Tryd.prog 24 #[.string s] w fun e w' => ∃ (v : Int) (ev : Value), e = .returned (.tuple #[.int .i64 v, ev]) ∧ Below w.heap.size w w' ∧
      ((Lib.atoiAll (L s) = .ok v ∧ ev = .nilIface) ∨ ((∀ z, Lib.atoiAll (L s) ≠ .ok z) ∧ ∃ te pe, ev = .iface te pe)) := by
  have e : s.data.toList = L s := rfl
  cases hq : Lib.atoiAll (L s)
  case ok v =>
    refine (Tryd.strconv_Atoi_ok s (by omega) v hq w).mono ?_
    rintro e w' ⟨rfl, hw⟩
    refine ⟨v, _, rfl, ?_, .inl ⟨rfl, rfl⟩⟩
    rcases hw with rfl | ⟨t, rfl⟩
    · exact Below.refl _ _
    · exact ⟨rfl, rfl, rfl, by rw [Lib.bytesWorld_size]; omega, fun k hk => Lib.bytesWorld_at_old w 5 t k hk⟩
  case range =>
    obtain ⟨ev, hv, hev⟩ := h.r
    refine (Tryd.strconv_Atoi_range s (by omega) hq ev w hv hev).mono ?_
    rintro e w' ⟨N, rfl, _, _, hb⟩
    exact ⟨_, _, rfl, hb, .inr ⟨fun z => by simp, _, _, rfl⟩⟩
  obtain ⟨ev, hv, hev⟩ := h.s
  refine (Tryd.strconv_Atoi_none s (by omega) (fun v => by rw [e, hq]; simp) (by rw [e, hq]; simp) ev w hv hev).mono ?_
  rintro e w' ⟨N, rfl, _, _, hb⟩
  exact ⟨_, _, rfl, hb, .inr ⟨fun z => by simp, _, _, rfl⟩⟩
abbrev Z : Obj := .cells #[.int .i64 0, .int .i64 0, .string ⟨#[]⟩, .string ⟨#[]⟩] 25
/-- the two boxes of impl.readSort, and what lies below -/
structure Box (w W : World) : Prop where
  a : W.heap[w.heap.size]? = some Z
  b : W.heap[w.heap.size + 1]? = some Z
  below : Below w.heap.size w W
  tabs : Tabs W
theorem box0 {w : World} (h : Tabs w) : Box w ((w.alloc Z).alloc Z) := by
  have hb := below_alloc (below_alloc (Below.refl w.heap.size w) Z) Z
  have h2 := blk_new (w.alloc Z) Z
  rw [show (w.alloc Z).heap.size = w.heap.size + 1 by simp] at h2
  exact ⟨blk_alloc (blk_new w Z) Z, h2, hb, h.below hb⟩
theorem Box.step {w W W' : World} (h : Box w W) (hb : Below W.heap.size W W') : Box w W' :=
  ⟨blk_below h.a hb, blk_below h.b hb, h.below.trans (hb.mono h.below.size), h.tabs.below hb⟩
theorem Box.fa {w W : World} (h : Box w W) : (W.cell? ⟨w.heap.size, 0, none⟩ = some (.int .i64 0) ∧ W.cell? ⟨w.heap.size, 1, none⟩ = some (.int .i64 0) ∧ W.cell? ⟨w.heap.size, 2, none⟩ = some (.string ⟨#[]⟩) ∧ W.cell? ⟨w.heap.size, 3, none⟩ = some (.string ⟨#[]⟩)) ∧
    W.frozen? ⟨w.heap.size, 0, none⟩ = false ∧ W.frozen? ⟨w.heap.size, 1, none⟩ = false ∧ W.frozen? ⟨w.heap.size, 2, none⟩ = false ∧ W.frozen? ⟨w.heap.size, 3, none⟩ = false :=
  ⟨⟨(blk_cell h.a 0).trans rfl, (blk_cell h.a 1).trans rfl, (blk_cell h.a 2).trans rfl, (blk_cell h.a 3).trans rfl⟩, blk_frozen h.a 0, blk_frozen h.a 1, blk_frozen h.a 2, blk_frozen h.a 3⟩
theorem Box.fb {w W : World} (h : Box w W) : (W.cell? ⟨w.heap.size + 1, 0, none⟩ = some (.int .i64 0) ∧ W.cell? ⟨w.heap.size + 1, 1, none⟩ = some (.int .i64 0) ∧ W.cell? ⟨w.heap.size + 1, 2, none⟩ = some (.string ⟨#[]⟩) ∧ W.cell? ⟨w.heap.size + 1, 3, none⟩ = some (.string ⟨#[]⟩)) :=
  ⟨(blk_cell h.b 0).trans rfl, (blk_cell h.b 1).trans rfl, (blk_cell h.b 2).trans rfl, (blk_cell h.b 3).trans rfl⟩
theorem Box.set4 {w W : World} (h : Box w W) (a b c d : Value) : Below w.heap.size w ((((W.setCell ⟨w.heap.size, 0, none⟩ a).setCell ⟨w.heap.size, 1, none⟩ b).setCell ⟨w.heap.size, 2, none⟩ c).setCell ⟨w.heap.size, 3, none⟩ d) :=
  (((h.below.setCell (Nat.le_refl _) _).setCell (Nat.le_refl _) _).setCell (Nat.le_refl _) _).setCell (Nat.le_refl _) _
theorem ba_ext {x : ByteArray} {l : List UInt8} (h : L x = l) : x = ⟨l.toArray⟩ := L_ext (by rw [h, L_mk])
theorem idx_lt : ∀ (l : List UInt8) (c : UInt8), -1 ≤ Lib.indexByte l c ∧ (Lib.indexByte l c < l.length ∨ Lib.indexByte l c = -1)
  | [], c => by simp [Lib.indexByte]
  | b :: l, c => by
    have ih := idx_lt l c
    unfold Lib.indexByte
    split
    · simp
    · split
      · simp
      · next h => simp at h; simp; omega
/-- what impl.readSort returns -/
def Ret (r : Rd) : Ending := .returned (.tuple #[.agg #[.int .i64 r.1.1, .int .i64 r.1.2, .string ⟨#[]⟩, .string ⟨#[]⟩], .string ⟨r.2.toArray⟩])
set_option maxHeartbeats 2000000 in
theorem bits_walk (v0 : Value) (s : ByteArray) (arr : Bool) (w : World) (hs : s.size ≤ 1048576) (hT : Tabs w) (hp : Lib.hasPrefix (L s) pfxB = true) (hz : 10 ≤ s.size) :
    Calls Tryd.prog 15 #[v0, .string s, .bool arr] w fun e w' => e = Ret (rdBits (L s)) ∧ Below w.heap.size w w' := by
  have HB := Aside0.mk (box0 hT)
  clear hT
  have HP : Aside0 (Lib.hasPrefix s.data.toList pfxB = true) := ⟨hp⟩
  clear hp
  obtain ⟨n, r, ok, hc⟩ : ∃ n r ok, Lib.cut ((L s).drop 10) [41] = (n, r, ok) := ⟨_, _, _, rfl⟩
  have HC : Aside0 (Lib.cut (s.extract 10 s.size).data.toList (⟨#[41]⟩ : ByteArray).data.toList = (n, r, ok)) := ⟨by
    rw [show (s.extract 10 s.size).data.toList = (L s).drop 10 from L_extract_end s 10]; exact hc⟩
  have HR : Aside0 (rdBits (L s) = if ok = true then (match okBits n with | some v => ((4, v), r) | none => noRd) else noRd) := ⟨by unfold rdBits; rw [hc]; rfl⟩
  have hnl : n.length ≤ 1048576 := by
    have h1 : n.length ≤ ((L s).drop 10).length := by
      have h2 : n = (Lib.cut ((L s).drop 10) [41]).1 := by rw [hc]
      rw [h2]; unfold Lib.cut; split
      · exact List.length_take_le' _ _
      · exact Nat.le_refl _
    rw [List.length_drop, L_length] at h1; omega
  clear hc
  obtain ⟨N, hN⟩ : ∃ N : ByteArray, (⟨n.toArray⟩ : ByteArray) = N := ⟨_, rfl⟩
  obtain ⟨R, hR⟩ : ∃ R : ByteArray, (⟨r.toArray⟩ : ByteArray) = R := ⟨_, rfl⟩
  have HN := Aside0.mk hN
  have HRR := Aside0.mk hR
  have hNs : N.size ≤ 1048576 := by rw [← hN]; show n.toArray.size ≤ _; simpa using hnl
  clear hN hR hnl
  go_enter Tryd.func15, Tryd.ntmps15
  go_wp2_with (fail)
  refine Calls.mono (Tryd.strings_HasPrefix s ⟨#[40, 95, 32, 66, 105, 116, 86, 101, 99, 32]⟩ _) ?_
  rintro e w1 ⟨rfl, hw1⟩
  rw [show Lib.hasPrefix s.data.toList (⟨#[40, 95, 32, 66, 105, 116, 86, 101, 99, 32]⟩ : ByteArray).data.toList = true from HP.out]
  have HB1 := Aside0.mk (hw1 ▸ HB.out : Box w w1)
  clear hw1 HB
  go_wp2_with (fail)
  obtain ⟨m, hm⟩ := HB1.out.tabs.m
  refine Calls.mono (Tryd.strings_Cut (s.extract 10 s.size) ⟨#[41]⟩ m _ (by rw [size_extract_end]; omega) hm) ?_
  clear hm
  rintro e w2 ⟨rfl, q, hw2⟩
  rw [HC.out]
  have HB2 := Aside0.mk (HB1.out.step (W' := w2) (hw2 ▸ below_drewN w1 q))
  clear hw2 HB1
  rw [HN.out, HRR.out]
  go_wp2_with (fail)
  refine Calls.mono (atoi N hNs _ HB2.out.tabs) ?_
  rintro e w3 ⟨v, ev, rfl, hb3, hq⟩
  have HB3 := Aside0.mk (HB2.out.step hb3)
  have HQ := Aside0.mk hq
  clear hb3 hq HB2
  obtain ⟨⟨c0, c1, c2, c3⟩, f0, f1, f2, f3⟩ := HB3.out.fa
  obtain ⟨d0, d1, d2, d3⟩ := HB3.out.fb
  have RNo : ∀ {W : World}, rdBits (L s) = noRd → Below w.heap.size w W → (Ending.returned (.tuple #[.agg #[.int .i64 0, .int .i64 0, .string ⟨#[]⟩, .string ⟨#[]⟩], .string ⟨#[63]⟩]) = Ret (rdBits (L s)) ∧ Below w.heap.size w W) := fun h hb => ⟨by rw [h]; rfl, hb⟩
  have RN := Aside0.mk @RNo
  clear RNo
  cases ok
  · go_wp2_with (fail)
    exact bodyPost_ret (v := .tuple #[.agg #[.int .i64 0, .int .i64 0, .string ⟨#[]⟩, .string ⟨#[]⟩], .string ⟨#[63]⟩]) (by simp [results, Tryd.results15, go_sem, c0, c1, c2, c3, f0, f1, f2, f3]) rfl (RN.out (by rw [HR.out, if_neg (by decide)]) (HB3.out.set4 _ _ _ _))
  · have HLN : Aside0 (L N = n) := ⟨by rw [← HN.out, L_mk]⟩
    rcases HQ.out with ⟨ha, rfl⟩ | ⟨ha, te, pe, rfl⟩
    · have HA : Aside0 (Lib.atoiAll n = .ok v) := ⟨by rw [← HLN.out]; exact ha⟩
      clear ha HQ
      by_cases h1 : v < 1
      · go_wp2_with (fail)
        exact bodyPost_ret (v := .tuple #[.agg #[.int .i64 0, .int .i64 0, .string ⟨#[]⟩, .string ⟨#[]⟩], .string ⟨#[63]⟩]) (by simp [results, Tryd.results15, go_sem, c0, c1, c2, c3, f0, f1, f2, f3]) rfl (RN.out (by rw [HR.out, if_pos trivial]; unfold okBits; rw [HA.out]; simp only; rw [if_neg (by omega)]) (HB3.out.set4 _ _ _ _))
      · by_cases h64 : 64 < v
        · go_wp2_with (fail)
          exact bodyPost_ret (v := .tuple #[.agg #[.int .i64 0, .int .i64 0, .string ⟨#[]⟩, .string ⟨#[]⟩], .string ⟨#[63]⟩]) (by simp [results, Tryd.results15, go_sem, c0, c1, c2, c3, f0, f1, f2, f3]) rfl (RN.out (by rw [HR.out, if_pos trivial]; unfold okBits; rw [HA.out]; simp only; rw [if_neg (by omega)]) (HB3.out.set4 _ _ _ _))
        · obtain ⟨k, rfl⟩ : ∃ k : Nat, v = k := ⟨v.toNat, by omega⟩
          go_wp2_with (fail)
          refine Calls.mono (Tryd.strconv_Itoa_small k (by omega) _) ?_
          rintro e w4 ⟨rfl, hw4⟩
          have HB4 := Aside0.mk (hw4 ▸ HB3.out : Box w w4)
          clear hw4 HB3 c0 c1 c2 c3 f0 f1 f2 f3 d0 d1 d2 d3
          obtain ⟨⟨c0, c1, c2, c3⟩, f0, f1, f2, f3⟩ := HB4.out.fa
          obtain ⟨d0, d1, d2, d3⟩ := HB4.out.fb
          by_cases he : Lib.decDigits k = n
          · have HE := Aside0.mk he
            have ht : (Lib.decDigits k == N.toList) = true := by rw [toList_L, HLN.out]; exact beq_iff_eq.2 he
            clear he
            go_wp2_with (fail)
            exact bodyPost_ret (v := .tuple #[.agg #[.int .i64 4, .int .i64 k, .string ⟨#[]⟩, .string ⟨#[]⟩], .string R]) (by simp [results, Tryd.results15, go_sem, c0, c1, c2, c3, f0, f1, f2, f3]) rfl ⟨by
              rw [HR.out, if_pos trivial]; unfold okBits; rw [HA.out]; simp only; rw [if_pos ⟨by omega, by omega, HE.out⟩]; unfold Ret; rw [HRR.out], HB4.out.set4 _ _ _ _⟩
          · have HE := Aside0.mk he
            have ht : (Lib.decDigits k == N.toList) = false := by rw [toList_L, HLN.out]; exact beq_eq_false_iff_ne.2 he
            clear he
            go_wp2_with (fail)
            exact bodyPost_ret (v := .tuple #[.agg #[.int .i64 0, .int .i64 0, .string ⟨#[]⟩, .string ⟨#[]⟩], .string ⟨#[63]⟩]) (by simp [results, Tryd.results15, go_sem, c0, c1, c2, c3, f0, f1, f2, f3]) rfl (RN.out (by rw [HR.out, if_pos trivial]; unfold okBits; rw [HA.out]; simp only; rw [if_neg (fun h => HE.out h.2.2)]) (HB4.out.set4 _ _ _ _))
    · clear HQ
      go_wp2_with (fail)
      exact bodyPost_ret (v := .tuple #[.agg #[.int .i64 0, .int .i64 0, .string ⟨#[]⟩, .string ⟨#[]⟩], .string ⟨#[63]⟩]) (by simp [results, Tryd.results15, go_sem, c0, c1, c2, c3, f0, f1, f2, f3]) rfl (RN.out (by rw [HR.out, if_pos trivial]; rw [show okBits n = none from by unfold okBits; split; exact absurd ‹_› (by rw [← HLN.out]; exact ha _); rfl]) (HB3.out.set4 _ _ _ _))
end Go.Proofs.YthfjiaodhladmaaDoor.RS

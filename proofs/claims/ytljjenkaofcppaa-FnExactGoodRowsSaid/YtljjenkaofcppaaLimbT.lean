/- spec.l1Text, by a walk: the decimal text of limbs. -/
import Derived.Test.YtljjenkaofcppaaLimbM
namespace Go.Proofs.Ytljjenkaofcppaa.Limb
open Go.RowKit Go.Proofs.YtljjenkaofcppaaW.PrintWords Go.Proofs.YtljjenkaofcppaaW.PrintLast Go.Proofs.Ytljjenkaofcppaa Go.Proofs.Ytljjenkaofcppaa.By Go.Proofs.Ytljjenkaofcppaa.Dig
set_option linter.unusedVariables false
set_option linter.unusedSimpArgs false
set_option maxRecDepth 100000
def u8s (l : List Nat) : List Value := l.map (fun d => Value.int .u8 ((48 + d : Nat) : Int))
theorem u8s_at {l : List Nat} {j d : Nat} (h : l[j]? = some d) : (u8s l)[j]? = some (.int .u8 ((48 + d : Nat) : Int)) := by unfold u8s; rw [List.getElem?_map, h]; rfl
theorem u8s_snoc (l : List Nat) (d : Nat) : u8s l ++ [.int .u8 (48 + (d : Int))] = u8s (l ++ [d]) := by unfold u8s; rw [List.map_append]; simp
theorem limb_next {ds : List Nat} {i x : Nat} (h : ds[i]? = some x) : limbDigs (ds.take (i + 1)) = limbDigs (ds.take i) ++ Dig.digs 9 x := by
  have : ds.take (i + 1) = ds.take i ++ [x] := by rw [List.take_add_one, h]; rfl
  rw [this]; unfold limbDigs; rw [List.flatMap_append]; simp
/-- a step of an append: the row and what lies below it -/
theorem t_step {B m : Nat} {W0 wr w1 : World} {v4 v' : Value} {F : List Nat} {d : Nat} {o : Obj} (hown : wr.ownsRow B 5 1 v4 m (u8s F)) (hbel : Below B W0 wr) (hsz : B ≤ wr.heap.size)
    (hown' : w1.ownsRow B 5 1 v' (m + 1) (u8s F ++ [.int .u8 (48 + (d : Int))])) (hgrow : (wr.alloc o).grownBy w1 v4.ownBlock) :
    w1.ownsRow B 5 1 v' (m + 1) (u8s (F ++ [d])) ∧ Below B W0 w1 ∧ B ≤ w1.heap.size := by
  refine ⟨?_, (hbel.alloc hsz o).grown hgrow (by simp; omega) (fun j hj => by
    rcases hown.2 with ⟨rfl, _⟩ | ⟨g, cap, cur, rfl, hg, _⟩
    · simp [Value.ownBlock] at hj
    · have : g = j := by simpa [Value.ownBlock] using hj
      omega), ?_⟩
  · rw [← u8s_snoc]; exact hown'
  · have := hgrow.size; simp at this; omega
/-- a text's numbers: a sign, then digits -/
def txtInts (neg : Bool) (T : List Nat) : List Int := (if neg then [45] else []) ++ T.map (fun d => ((48 + d : Nat) : Int))
theorem txtInts_str (neg : Bool) (T : List Nat) : strOfNums (txtInts neg T) = ⟨((if neg then [45] else []) ++ T.map dg8).toArray⟩ := by
  unfold strOfNums txtInts
  rw [List.map_append, List.map_map]
  cases neg <;> rfl
theorem txtInts_snoc (neg : Bool) (T : List Nat) (d : Nat) : nums .u8 (txtInts neg T) ++ [.int .u8 ((48 + d : Nat) : Int)] = nums .u8 (txtInts neg (T ++ [d])) := by
  unfold nums txtInts; simp
theorem txtInts_len (neg : Bool) (T : List Nat) (d : Nat) : (txtInts neg (T ++ [d])).length = (txtInts neg T).length + 1 := by
  unfold txtInts; simp [Nat.add_assoc]
theorem rev_next {L : List Nat} {M j d : Nat} (h : L[j]? = some d) (hj : j < M) : ((L.take M).drop j).reverse = ((L.take M).drop (j + 1)).reverse ++ [d] := by
  have h2 : (L.take M)[j]? = some d := by rw [List.getElem?_take, if_pos hj]; exact h
  obtain ⟨hl, he⟩ := List.getElem?_eq_some_iff.1 h2
  rw [List.drop_eq_getElem_cons hl, he, List.reverse_cons]
/-- a row is kept by what writes nothing below -/
theorem own_keep {W W' : World} {B e size n : Nat} {v : Value} {xs : List Value} (h : W.ownsRow B e size v n xs) (hb : Below W.heap.size W W') : W'.ownsRow B e size v n xs :=
  h.kept (row := none) ⟨hb.os, hb.tape, hb.output, hb.size, fun i hi _ => hb.block i hi⟩ (by cases v.ownBlock <;> simp)
/-- a step of an append, any row -/
theorem t_step2 {B m : Nat} {W0 wr w1 : World} {v4 v' : Value} {xs ys : List Value} {o : Obj} (hown : wr.ownsRow B 5 1 v4 m xs) (hbel : Below B W0 wr) (hsz : B ≤ wr.heap.size)
    (hown' : w1.ownsRow B 5 1 v' (m + 1) ys) (hgrow : (wr.alloc o).grownBy w1 v4.ownBlock) :
    w1.ownsRow B 5 1 v' (m + 1) ys ∧ Below B W0 w1 ∧ B ≤ w1.heap.size :=
  ⟨hown', (hbel.alloc hsz o).grown hgrow (by simp; omega) (fun j hj => (hown.lt j hj).1), by have := hgrow.size; simp at this; omega⟩
/-- the loop that turns the digits round keeps -/
def VRel (B M : Nat) (W0 : World) (neg : Bool) (L : List Nat) (v9 v10 : Value) (wr : World) : Prop :=
  ∃ (i : Int) (q : Nat), -1 ≤ i ∧ i < M ∧ v10 = .int .i64 i ∧ (q : Int) ≤ M - i ∧ wr.ownsRow B 5 1 v9 q (nums .u8 (txtInts neg ((L.take M).drop (i + 1).toNat).reverse)) ∧ Below B W0 wr ∧ B ≤ wr.heap.size
/-- the loop over limbs keeps -/
def TRel (B n : Nat) (W0 : World) (ds : List Nat) (v23 v4 : Value) (wr : World) : Prop :=
  ∃ (i : Nat), i ≤ n ∧ v23 = .int .i64 i ∧ wr.ownsRow B 5 1 v4 (9 * i) (u8s (limbDigs (ds.take i))) ∧ Below B W0 wr ∧ B ≤ wr.heap.size
/-- the loop over a limb's digits keeps -/
def URel (B i : Nat) (W0 : World) (F : List Nat) (x : Nat) (v4 v6 v7 : Value) (wr : World) : Prop :=
  ∃ (k : Nat), k ≤ 9 ∧ v7 = .int .i64 k ∧ v6 = .int .u32 ((x / 10 ^ k : Nat) : Int) ∧ wr.ownsRow B 5 1 v4 (9 * i + k) (u8s (F ++ Dig.digs k x)) ∧ Below B W0 wr ∧ B ≤ wr.heap.size
set_option maxHeartbeats 4000000 in
theorem spec_text (v : Int) (b neg : Bool) (s : Option Addr) (l c : Nat) (ds : List Nat) (hv : 0 < valB ds) (hlen : ds.length < 100) (hlt : ∀ x ∈ ds, x < 1000000000) (w : World)
    (HL : Hid (∀ W, Below w.heap.size w W → Calls Try.prog 56 #[.agg #[.int .i64 v, .bool b, .slice s l c]] W fun e w' => ∃ rv, e = .returned rv ∧ Row w' rv ds ∧ Below W.heap.size W w'))
    (HG : Hid (∀ W, Calls Try.prog 54 #[.agg #[.int .i64 v, .bool b, .slice s l c]] W fun e w' => e = .returned (.bool neg) ∧ Below W.heap.size W w')) :
    Calls Try.prog 53 #[.agg #[.int .i64 v, .bool b, .slice s l c]] w fun e w' => e = .returned (.string ⟨((if neg then [45] else []) ++ Lib.decDigits (valB ds)).toArray⟩) ∧ Below w.heap.size w w' := by
  obtain ⟨i0, hif, hz0, hz1, hz2⟩ := info_parts (show (Try.prog.info? 5).map (fun i => (i.zero, i.size, i.bytes)) = some (some (.int .u8 0), 1, 1) from by kernel_rfl)
  have HI : Hid (Try.prog.info? 5 = some i0 ∧ i0.zero = some (.int .u8 0) ∧ i0.size = 1 ∧ i0.bytes = 1) := ⟨hif, hz0, hz1, hz2⟩
  clear hif hz0 hz1 hz2
  have HE : Hid ((top (limbDigs ds)).reverse.map dg8 = Lib.decDigits (valB ds)) := by
    have e := limbDigs_val ds hlt
    have t := top_text (limbDigs ds) (limbDigs_lt ds) (by rw [e]; exact hv)
    rw [e] at t; exact t
  have HV : Hid (top (limbDigs ds) ≠ []) := fun e => by have := (val_top_nil _).1 e; rw [limbDigs_val ds hlt] at this; omega
  have hd : ds ≠ [] := by intro e; subst e; simp [valB] at hv
  clear hv
  obtain ⟨n, hn⟩ : ∃ n, ds.length = n := ⟨_, rfl⟩
  have HN : Hid (ds.length = n) := hn
  have hn0 : 0 < n := by rw [← hn]; exact List.length_pos_iff.2 hd
  have hnz : ((n : Int) == 0) = false := beq_eq_false_iff_ne.2 (by omega)
  rw [hn] at hlen
  clear hn hd
  go_enter Try.func53, Try.ntmps53
  go_wp2_with (fail)
  refine (HL.out _ ((Below.refl _ _).alloc (Nat.le_refl _) _)).mono ?_
  rintro e w1 ⟨rv, rfl, hrow, hb⟩
  obtain ⟨A, cp, rfl, hcp, hcells⟩ := hrow
  rw [HN.out] at hcp ⊢
  obtain ⟨g, o, rfl, hg, hx⟩ : ∃ g o, A = some ⟨g, o, none⟩ ∧ g < w1.heap.size ∧ ∀ (j x : Nat), ds[j]? = some x → w1.cell? ⟨g, o + j, none⟩ = some (.int .u32 (x : Int)) := by
    rcases hcells with h | ⟨g, o, h⟩
    · exact absurd (by rw [h]; rfl) (Nat.ne_of_gt (HN.out ▸ hn0 : 0 < ds.length))
    · exact ⟨g, o, h⟩
  have HX : Hid (∀ (j x : Nat), ds[j]? = some x → w1.cell? ⟨g, o + j, none⟩ = some (.int .u32 (x : Int))) := hx
  have HB1 : Hid (Below (w.heap.size + 1) (w.alloc (Obj.cells #[Value.int IntKind.i64 v, Value.bool b, Value.slice s l c] 73)) w1) := hb.mono (by simp)
  clear hcells hx hb
  obtain ⟨w2, hmk, hown, hgrow⟩ := run_make_own (P := Try.prog) w1 w1.heap.size 77 5 i0 (.int .u8 0) 1 Try.underlying77 HI.out.1 HI.out.2.1 HI.out.2.2.1 .i64 .i64 (9 * n + 1) (by rw [HI.out.2.2.2]; omega) (by unfold maxLen; omega) (Nat.le_refl _)
  rw [show (((9 * n + 1 : Nat) : Int)) = 9 * (n : Int) + 1 by omega] at hmk
  go_wp2_with (go_in)
  have hg1 : g ≠ w1.heap.size := Nat.ne_of_lt hg
  go_loopw [4, 23] (fun v4 v23 wr => TRel w1.heap.size n w1 ds v23 v4 wr) (fun _ v23 _ => n - (intOf v23).toNat)
  case atStart => exact ⟨0, by omega, by first | rfl | go_num, hown, (Below.refl _ _).grown hgrow (Nat.le_refl _) (fun k hk => by simp at hk), hgrow.size⟩
  case round =>
    obtain ⟨i, hi, rfl, hown1, hbel, hsz⟩ := hrel
    have HO : Hid (wr.ownsRow w1.heap.size 5 1 u4 (9 * i) (u8s (limbDigs (ds.take i)))) := hown1
    have HB : Hid (Below w1.heap.size w1 wr) := hbel
    clear hown1 hbel
    by_cases hlt2 : i < n
    · obtain ⟨x, hx⟩ : ∃ x, ds[i]? = some x := ⟨_, List.getElem?_eq_getElem (by have := HN.out; omega)⟩
      have hx9 : x < 1000000000 := hlt x (List.mem_of_getElem? hx)
      have HXI : Hid (ds[i]? = some x) := hx
      have hcell : wr.cell? ⟨g, o + i, none⟩ = some (.int .u32 (x : Int)) := by rw [HB.out.cell (p := ⟨g, o + i, none⟩) hg]; exact HX.out i x hx
      clear hx
      go_wp2_with (go_in)
      obtain ⟨wo, rfl⟩ : ∃ wo : World, wo = wr := ⟨_, rfl⟩
      go_loopw [4, 6, 7] (fun v4 v6 v7 wr => URel w1.heap.size i w1 (limbDigs (ds.take i)) x v4 v6 v7 wr) (fun _ _ v7 _ => 9 - (intOf v7).toNat)
      case atStart => exact ⟨0, by omega, by first | rfl | go_num, by simp, by rw [show Dig.digs 0 x = [] from rfl, List.append_nil]; exact HO.out, HB.out, hsz⟩
      case round =>
        obtain ⟨k, hk9, rfl, hv6, hown2, hbel2, hsz2⟩ := hrel
        have HO2 : Hid (wr.ownsRow w1.heap.size 5 1 u4 (9 * i + k) (u8s (limbDigs (ds.take i) ++ Dig.digs k x))) := hown2
        have HB2 : Hid (Below w1.heap.size w1 wr) := hbel2
        clear hown2 hbel2
        obtain ⟨y, hy⟩ : ∃ y, x / 10 ^ k = y := ⟨_, rfl⟩
        have HY : Hid (x / 10 ^ k = y) := hy
        have hy9 : y < 1000000000 := by rw [← hy]; exact Nat.lt_of_le_of_lt (Nat.div_le_self _ _) hx9
        rw [hy] at hv6
        clear hy
        subst hv6
        by_cases hk : k < 9
        · go_wp2_with (first | (at_builtin; refine wpList_append_own _ rfl _ _ 77 rfl w1.heap.size 5 i0 (.int .u8 0) 1 1 Try.underlying77 HI.out.1 HI.out.2.1 HI.out.2.2.1 HI.out.2.2.2 rfl (by decide) _ _ _ rfl (HO2.out.alloc _) ⟨wr.heap.size, 0, none⟩ 1 1 [_] rfl rfl (cell_one_new _ _ _) (by simp [Value.oneCell']) (by unfold maxLen; omega) (by omega) (by simp; omega) ?_; intro v' w9 hown' hgrow' _) | go_in)
          obtain ⟨ha, hb', hc'⟩ := t_step (d := y % 10) HO2.out HB2.out hsz2 (by simpa using hown') hgrow'
          refine ⟨⟨k + 1, by omega, by go_num, ?_, ?_, hb', hc'⟩, by simp [intOf]; omega⟩
          · rw [Nat.pow_succ, ← Nat.div_div_eq_div_mul, HY.out]; rfl
          · rw [Dig.digs_snoc, HY.out, ← List.append_assoc]; exact ha
        · have hk' : k = 9 := by omega
          subst hk'
          go_wp2_with (go_in)
          refine ⟨⟨i + 1, by omega, by go_num, ?_, HB2.out, hsz2⟩, by simp [intOf]; omega⟩
          rw [limb_next HXI.out, show 9 * (i + 1) = 9 * i + 9 by omega]; exact HO2.out
    · have hin : i = n := by omega
      subst hin
      clear hlt2 hi
      obtain ⟨L, hL⟩ : ∃ L, limbDigs ds = L := ⟨_, rfl⟩
      have HLL : Hid (limbDigs ds = L) := hL
      have HV' : Hid (top L ≠ []) := by rw [← hL]; exact HV.out
      have HE' : Hid ((top L).reverse.map dg8 = Lib.decDigits (valB ds)) := by rw [← hL]; exact HE.out
      clear HV HE
      have hLn : L.length = 9 * i := by rw [← hL, limbDigs_len, HN.out]
      have hLd : ∀ d ∈ L, d < 10 := by rw [← hL]; exact limbDigs_lt ds
      have hown3 : wr.ownsRow w1.heap.size 5 1 u4 (9 * i) (u8s L) := by rw [← hL, ← show ds.take i = ds from by rw [← HN.out]; exact List.take_length]; exact HO.out
      clear HO
      rcases hown3.2 with ⟨_, h⟩ | ⟨g2, cap, cur, rfl, hg2, _, hcap, hcapm, _⟩
      · exact absurd h (by omega)
      have HO : Hid (wr.ownsRow w1.heap.size 5 1 (.slice (some ⟨g2, 0, none⟩) (9 * i) cap) (9 * i) (u8s L)) := hown3
      have hg2l : g2 < wr.heap.size := by have := own_lt HO.out g2 (by simp [Value.ownBlock]); exact this
      have HC2 : Hid (∀ (j d : Nat), L[j]? = some d → wr.cell? ⟨g2, j, none⟩ = some (.int .u8 ((48 + d : Nat) : Int))) := by
        intro j d hj
        have hjl := (List.getElem?_eq_some_iff.1 hj).1
        rw [HO.out.cellAt j (by omega)]; exact u8s_at hj
      clear hown3 hL
      go_wp2_with (go_in)
      obtain ⟨wo, rfl⟩ : ∃ wo : World, wo = wr := ⟨_, rfl⟩
      go_loop [8] (fun v => ∃ m : Nat, m ≤ 9 * i ∧ v = .int .i64 m ∧ Hid (top (L.take m) = top L)) (fun v => (intOf v).toNat)
      case atStart => exact ⟨9 * i, Nat.le_refl _, by first | rfl | go_num, by show _ = _; rw [← hLn, List.take_length]⟩
      case round =>
        obtain ⟨m, hm, rfl, HT⟩ := hrel
        rcases m with _ | m
        · exact absurd (by rw [← HT.out, List.take_zero]; rfl : top L = []) HV'.out
        · obtain ⟨d, hd⟩ : ∃ d, L[m]? = some d := ⟨_, List.getElem?_eq_getElem (by omega)⟩
          have hcell := HC2.out m d hd
          have HD : Hid (L[m]? = some d) := hd
          have hd9 : d < 10 := hLd d (List.mem_of_getElem? hd)
          clear hd
          by_cases hz : d = 0
          · subst hz
            go_wp2_with (go_in)
            go_round
            case rel => exact ⟨m, by omega, by go_num, by show _ = _; rw [← HT.out, top_take L HD.out, if_pos rfl]⟩
            case measure => simp [intOf]
          · have hz1 : (((48 + d : Nat) : Int) == 48) = false := beq_eq_false_iff_ne.2 (by omega)
            have hz2 : ((48 + (d : Int)) == 48) = false := beq_eq_false_iff_ne.2 (by omega)
            have HTop : Hid (top L = L.take (m + 1)) := by show _ = _; rw [← HT.out, top_take L HD.out, if_neg hz]
            obtain ⟨w3, hmk3, hown4, hgrow3⟩ := run_make_own (P := Try.prog) wo wo.heap.size 77 5 i0 (.int .u8 0) 1 Try.underlying77 HI.out.1 HI.out.2.1 HI.out.2.2.1 .i64 .i64 (m + 1 + 1) (by rw [HI.out.2.2.2]; omega) (by unfold maxLen; omega) (Nat.le_refl _)
            rw [show (((m + 1 + 1 : Nat) : Int)) = (m : Int) + 1 + 1 by omega] at hmk3
            have hb3 : Below wo.heap.size wo w3 := (Below.refl _ _).grown hgrow3 (Nat.le_refl _) (fun k hk => by simp at hk)
            have hw1 : w.heap.size + 1 ≤ w1.heap.size := by have := HB1.out.size; simp at this; exact this
            have hbw : Below (w.heap.size + 1) (w.alloc (Obj.cells #[Value.int IntKind.i64 v, Value.bool b, Value.slice s l c] 73)) w3 := (HB1.out.trans (HB.out.mono hw1)).trans (hb3.mono (Nat.le_trans hw1 hsz))
            have q0 : w3.cell? ⟨w.heap.size, 0, none⟩ = some (.int .i64 v) := by rw [hbw.cell (p := ⟨w.heap.size, 0, none⟩) (by simp)]; exact World.cell?_alloc_at _ _ _ _ rfl
            have q1 : w3.cell? ⟨w.heap.size, 1, none⟩ = some (.bool b) := by rw [hbw.cell (p := ⟨w.heap.size, 1, none⟩) (by simp)]; exact World.cell?_alloc_at _ _ _ _ rfl
            have q2 : w3.cell? ⟨w.heap.size, 2, none⟩ = some (.slice s l c) := by rw [hbw.cell (p := ⟨w.heap.size, 2, none⟩) (by simp)]; exact World.cell?_alloc_at _ _ _ _ rfl
            have HB3 : Hid (Below wo.heap.size wo w3) := hb3
            have HBW : Hid (Below (w.heap.size + 1) (w.alloc (Obj.cells #[Value.int IntKind.i64 v, Value.bool b, Value.slice s l c] 73)) w3) := hbw
            have HBF : Hid (∀ W, Below wo.heap.size wo W → Below w.heap.size w W) := fun W h => (((Below.refl _ _).alloc (Nat.le_refl _) _).trans ((HB1.out.mono (by omega)).trans (HB.out.mono (by omega)))).trans (h.mono (by omega))
            clear hb3 hbw
            go_wp2_with (fail)
            refine (HG.out _).mono ?_
            rintro e w4 ⟨rfl, hb4⟩
            have HO5 : Hid (w4.ownsRow wo.heap.size 5 1 _ 0 []) := own_keep hown4 hb4
            have HB5 : Hid (Below wo.heap.size wo w4) := HB3.out.trans (hb4.mono hgrow3.size)
            have hsz5 : wo.heap.size ≤ w4.heap.size := Nat.le_trans hgrow3.size hb4.size
            clear hb4 hown4
            cases neg
            · go_wp2_with (go_in)
              go_loopw [9, 10] (fun v9 v10 wq => VRel wo.heap.size (m + 1) wo false L v9 v10 wq) (fun _ v10 _ => (intOf v10 + 1).toNat)
              case atStart => exact ⟨(m : Int), 0, by omega, by omega, by first | rfl | go_num, by omega, by rw [List.drop_eq_nil_of_le (by rw [List.length_take]; omega)]; exact HO5.out, HB5.out, hsz5⟩
              case round =>
                obtain ⟨i', q, hi0, hi1, rfl, hq, hown6, hbel6, hsz6⟩ := hrel
                by_cases hneg : i' = -1
                · subst hneg
                  have hown7 : wr.ownsRow wo.heap.size 5 1 u9 q (nums .u8 (txtInts false (L.take (m + 1)).reverse)) := hown6
                  have HO7 : Hid _ := hown7
                  have HB6 : Hid (Below wo.heap.size wo wr) := hbel6
                  clear hown6 hbel6
                  have hcv := own_string (P := Try.prog) (w := wr) Try.underlying77 Try.underlying5 Try.underlying9 hown7
                  clear hown7
                  go_wp2_with (go_in)
                  go_ret
                  exact ⟨by rw [txtInts_str, ← HTop.out, HE'.out]; rfl, HBF.out _ HB6.out⟩
                · obtain ⟨j, rfl⟩ : ∃ j : Nat, i' = j := ⟨i'.toNat, by omega⟩
                  obtain ⟨d2, hd2⟩ : ∃ d, L[j]? = some d := ⟨_, List.getElem?_eq_getElem (by omega)⟩
                  have hcell2 : wr.cell? ⟨g2, j, none⟩ = some (.int .u8 ((48 + d2 : Nat) : Int)) := by rw [hbel6.cell (p := ⟨g2, j, none⟩) hg2l]; exact HC2.out j d2 hd2
                  have HD2 : Hid (L[j]? = some d2) := hd2
                  have HO6 : Hid (wr.ownsRow wo.heap.size 5 1 u9 q (nums .u8 (txtInts false ((L.take (m + 1)).drop ((j : Int) + 1).toNat).reverse))) := hown6
                  have HB6 : Hid (Below wo.heap.size wo wr) := hbel6
                  have hd3 : d2 < 10 := hLd d2 (List.mem_of_getElem? hd2)
                  clear hown6 hbel6 hd2
                  go_wp2_with (first | (at_builtin; refine wpList_append_own _ rfl _ _ 77 rfl wo.heap.size 5 i0 (.int .u8 0) 1 1 Try.underlying77 HI.out.1 HI.out.2.1 HI.out.2.2.1 HI.out.2.2.2 rfl (by decide) _ _ _ rfl (HO6.out.alloc _) ⟨wr.heap.size, 0, none⟩ 1 1 [_] rfl rfl (cell_one_new _ _ _) (by simp [Value.oneCell']) (by unfold maxLen; omega) (by omega) (by simp; omega) ?_; intro v' w9 hown' hgrow' _) | go_in)
                  obtain ⟨ha2, hb2', hc2'⟩ := t_step2 HO6.out HB6.out hsz6 hown' hgrow'
                  refine ⟨⟨(j : Int) - 1, q + 1, by omega, by omega, by go_num, by omega, ?_, hb2', hc2'⟩, by simp [intOf]⟩
                  rw [show ((j : Int) - 1 + 1).toNat = j by omega, rev_next HD2.out (by omega), ← txtInts_snoc]
                  exact ha2
            · go_wp2_with (first | (at_builtin; refine wpList_append_own _ rfl _ _ 77 rfl wo.heap.size 5 i0 (.int .u8 0) 1 1 Try.underlying77 HI.out.1 HI.out.2.1 HI.out.2.2.1 HI.out.2.2.2 rfl (by decide) _ _ _ rfl (HO5.out.alloc _) ⟨w4.heap.size, 0, none⟩ 1 1 [.int .u8 45] rfl rfl (cell_one_new _ _ _) (by simp [Value.oneCell']) (by unfold maxLen; omega) (by omega) (by simp; omega) ?_; intro v' w9 hown' hgrow' _) | go_in)
              obtain ⟨ha, hb', hc'⟩ := t_step2 HO5.out HB5.out hsz5 hown' hgrow'
              go_loopw [9, 10] (fun v9 v10 wq => VRel wo.heap.size (m + 1) wo true L v9 v10 wq) (fun _ v10 _ => (intOf v10 + 1).toNat)
              case atStart => exact ⟨(m : Int), 1, by omega, by omega, by first | rfl | go_num, by omega, by rw [List.drop_eq_nil_of_le (by rw [List.length_take]; omega)]; exact ha, hb', hc'⟩
              case round =>
                obtain ⟨i', q, hi0, hi1, rfl, hq, hown6, hbel6, hsz6⟩ := hrel
                by_cases hneg : i' = -1
                · subst hneg
                  have hown7 : wr.ownsRow wo.heap.size 5 1 u9 q (nums .u8 (txtInts true (L.take (m + 1)).reverse)) := hown6
                  have HO7 : Hid _ := hown7
                  have HB6 : Hid (Below wo.heap.size wo wr) := hbel6
                  clear hown6 hbel6
                  have hcv := own_string (P := Try.prog) (w := wr) Try.underlying77 Try.underlying5 Try.underlying9 hown7
                  clear hown7
                  go_wp2_with (go_in)
                  go_ret
                  exact ⟨by rw [txtInts_str, ← HTop.out, HE'.out]; rfl, HBF.out _ HB6.out⟩
                · obtain ⟨j, rfl⟩ : ∃ j : Nat, i' = j := ⟨i'.toNat, by omega⟩
                  obtain ⟨d2, hd2⟩ : ∃ d, L[j]? = some d := ⟨_, List.getElem?_eq_getElem (by omega)⟩
                  have hcell2 : wr.cell? ⟨g2, j, none⟩ = some (.int .u8 ((48 + d2 : Nat) : Int)) := by rw [hbel6.cell (p := ⟨g2, j, none⟩) hg2l]; exact HC2.out j d2 hd2
                  have HD2 : Hid (L[j]? = some d2) := hd2
                  have HO6 : Hid (wr.ownsRow wo.heap.size 5 1 u9 q (nums .u8 (txtInts true ((L.take (m + 1)).drop ((j : Int) + 1).toNat).reverse))) := hown6
                  have HB6 : Hid (Below wo.heap.size wo wr) := hbel6
                  have hd3 : d2 < 10 := hLd d2 (List.mem_of_getElem? hd2)
                  clear hown6 hbel6 hd2
                  go_wp2_with (first | (at_builtin; refine wpList_append_own _ rfl _ _ 77 rfl wo.heap.size 5 i0 (.int .u8 0) 1 1 Try.underlying77 HI.out.1 HI.out.2.1 HI.out.2.2.1 HI.out.2.2.2 rfl (by decide) _ _ _ rfl (HO6.out.alloc _) ⟨wr.heap.size, 0, none⟩ 1 1 [_] rfl rfl (cell_one_new _ _ _) (by simp [Value.oneCell']) (by unfold maxLen; omega) (by omega) (by simp; omega) ?_; intro v' w9 hown' hgrow' _) | go_in)
                  obtain ⟨ha2, hb2', hc2'⟩ := t_step2 HO6.out HB6.out hsz6 hown' hgrow'
                  refine ⟨⟨(j : Int) - 1, q + 1, by omega, by omega, by go_num, by omega, ?_, hb2', hc2'⟩, by simp [intOf]⟩
                  rw [show ((j : Int) - 1 + 1).toNat = j by omega, rev_next HD2.out (by omega), ← txtInts_snoc]
                  exact ha2
end Go.Proofs.Ytljjenkaofcppaa.Limb

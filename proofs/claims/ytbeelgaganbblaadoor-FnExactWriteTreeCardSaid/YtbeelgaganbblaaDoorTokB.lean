/- spec.l3Bits is `bits`: binary and hexadecimal digits behind a '#' (loops that append). -/
import Derived.Test.YtbeelgaganbblaaDoorTokQ
namespace Go.Proofs.YtbeelgaganbblaaDoor.Tok
open Go.RowKit Go.Proofs.YtbeelgaganbblaaDoorW.PrintWords Go.Proofs.YtbeelgaganbblaaDoor Go.Proofs.YtbeelgaganbblaaDoor.By
set_option linter.unusedVariables false
set_option linter.unusedSimpArgs false
set_option maxRecDepth 100000

theorem hex_yes {c : UInt8} {d : Int} (h : hexd c = true) (e : (c.toNat : Int) = d) : (48 ≤ d ∧ d ≤ 57) ∨ (97 ≤ d ∧ d ≤ 102) ∨ (65 ≤ d ∧ d ≤ 70) := by
  unfold hexd dig at h; simp only [Bool.or_eq_true, Bool.and_eq_true, decide_eq_true_eq] at h; omega
theorem hex_no {c : UInt8} {d : Int} (h : hexd c = false) (e : (c.toNat : Int) = d) : ¬ (48 ≤ d ∧ d ≤ 57) ∧ ¬ (97 ≤ d ∧ d ≤ 102) ∧ ¬ (65 ≤ d ∧ d ≤ 70) := by
  unfold hexd dig at h; simp only [Bool.or_eq_false_iff, Bool.and_eq_false_iff, decide_eq_false_iff_not] at h; omega
theorem hexv_is {c : UInt8} {d : Int} (h : hexd c = true) (e : (c.toNat : Int) = d) : ((hexv c : Nat) : Int) = (if d ≤ 57 then d - 48 else if d ≤ 70 then d - 55 else d - 87) ∧ hexv c < 16 := by
  have := hex_yes h e
  unfold hexv
  split
  · rw [if_pos (by omega)]; omega
  · split
    · rw [if_neg (by omega), if_pos (by omega)]; omega
    · rw [if_neg (by omega), if_neg (by omega)]; omega
theorem bit_table : ∀ h : Nat, h < 16 → (Go.bits .and .i64 (((h / 8 : Nat) : Int)) 1 = ((h / 8 % 2 : Nat) : Int)) ∧ (Go.bits .and .i64 (((h / 4 : Nat) : Int)) 1 = ((h / 4 % 2 : Nat) : Int)) ∧ (Go.bits .and .i64 (((h / 2 : Nat) : Int)) 1 = ((h / 2 % 2 : Nat) : Int)) ∧ (Go.bits .and .i64 (((h : Nat) : Int)) 1 = ((h % 2 : Nat) : Int)) := by decide +kernel

theorem ret_int' {k : IntKind} {a b : Int} (h : a = b) : Ending.returned (.int k a) = .returned (.int k b) := by rw [h]
/-- what the reference's hex digit function answers -/
theorem spec_hex (c : Int) (w : World) (h0 : 0 ≤ c) (h1 : c ≤ 255) (v : Int) (hv : v = (if 48 ≤ c ∧ c ≤ 57 then c - 48 else if 97 ≤ c ∧ c ≤ 102 then c - 87 else if 65 ≤ c ∧ c ≤ 70 then c - 55 else -1)) :
    Calls Tryd.prog 118 #[.int .u8 c] w fun e w' => e = .returned (.int .i64 v) ∧ w = w' := by
  have key : (48 ≤ c ∧ c ≤ 57 ∧ v = c - 48) ∨ (97 ≤ c ∧ c ≤ 102 ∧ v = c - 87) ∨ (65 ≤ c ∧ c ≤ 70 ∧ v = c - 55) ∨ ((c ≤ 47 ∨ (58 ≤ c ∧ c ≤ 64) ∨ (71 ≤ c ∧ c ≤ 96) ∨ 103 ≤ c) ∧ v = -1) := by
    rw [hv]
    by_cases a : 48 ≤ c ∧ c ≤ 57
    · rw [if_pos a]; omega
    · rw [if_neg a]
      by_cases b : 97 ≤ c ∧ c ≤ 102
      · rw [if_pos b]; omega
      · rw [if_neg b]
        by_cases d : 65 ≤ c ∧ c ≤ 70
        · rw [if_pos d]; omega
        · rw [if_neg d]; omega
  clear hv
  rcases key with ⟨a, b, rfl⟩ | ⟨a, b, rfl⟩ | ⟨a, b, rfl⟩ | ⟨a | ⟨a, b⟩ | ⟨a, b⟩ | a, rfl⟩
  all_goals
    go_enter Tryd.func118, Tryd.ntmps118
    go_wp2_with (fail)
    go_ret
    exact ⟨ret_int' (by omega), rfl⟩
/-- what the loop over binary digits keeps -/
def BRel (s : ByteArray) (i B : Nat) (W0 : World) (p : UInt8 → Bool) (g : UInt8 → List UInt8) (T : List UInt8) (v5 v6 : Value) (wr : World) : Prop :=
  ∃ (k : Nat) (src : List UInt8), i + 2 ≤ k ∧ k ≤ s.size ∧ v5 = .int .i64 k ∧ src ++ ((L s).drop k).takeWhile p = T ∧ k = i + 2 + src.length ∧ wr.ownsRow (B + 1) 5 1 v6 (src.flatMap g).length (nums .u8 (ints (src.flatMap g))) ∧ Below (B + 1) W0 wr ∧ B + 1 ≤ wr.heap.size
theorem tw_yes {s : ByteArray} {p : UInt8 → Bool} {k : Nat} (h : k < s.size) (hp : p (at_ s k) = true) : ((L s).drop k).takeWhile p = at_ s k :: ((L s).drop (k + 1)).takeWhile p := by rw [drop_at s k h, List.takeWhile_cons, if_pos hp]
theorem tw_no {s : ByteArray} {p : UInt8 → Bool} {k : Nat} (h : k < s.size) (hp : p (at_ s k) = false) : ((L s).drop k).takeWhile p = [] := by rw [drop_at s k h, List.takeWhile_cons, hp]; rfl
theorem tw_end {s : ByteArray} {p : UInt8 → Bool} {k : Nat} (h : s.size ≤ k) : ((L s).drop k).takeWhile p = [] := by rw [drop_all s k h]; rfl
theorem flat_one (l : List UInt8) : l.flatMap (fun c => [c]) = l := by induction l with
  | nil => rfl
  | cons c l ih => rw [List.flatMap_cons, ih]; rfl
theorem flat_snoc (l : List UInt8) (c : UInt8) (g : UInt8 → List UInt8) : (l ++ [c]).flatMap g = l.flatMap g ++ g c := by rw [List.flatMap_append]; simp
theorem four_len (l : List UInt8) : (l.flatMap four).length = 4 * l.length := by induction l with
  | nil => rfl
  | cons c l ih => rw [List.flatMap_cons, List.length_append, ih, List.length_cons]; simp [four]; omega

theorem len_own {w : World} {base : Nat} {v : Value} {n : Nat} {xs : List Value} (h : w.ownsRow base 5 1 v n xs) (W : World) :
    (Builtin.len_ #[37] 3 #[v]).run Tryd.prog W = .ok (.int .i64 (n : Int)) W := by
  rcases h.2 with ⟨rfl, rfl⟩ | ⟨g, cap, cur, rfl, _⟩
  · simp [Builtin.len_, run_underlying Tryd.underlying37]; rfl
  · simp [Builtin.len_, run_underlying Tryd.underlying37]; rfl
set_option maxHeartbeats 4000000 in
theorem spec_bin (s : ByteArray) (i : Nat) (w : World) (hs : s.size ≤ 35184372088000) (hi : i + 2 < s.size) (hb : bt s (i + 1 : Nat) = 98) (R : Int × ByteArray × Int) (HR : Hid (bits s i = R)) :
    Calls Tryd.prog 100 #[.string s, .int .i64 i] w fun e w' => e = .returned (.agg #[.int .i64 R.1, .string R.2.1, .int .i64 R.2.2]) ∧ Below w.heap.size w w' := by
  have hx : ∀ h : i + 1 < s.size, ((s[i + 1]'h).toNat : Int) = bt s (i + 1 : Nat) := bt_at s (i + 1 : Nat)
  obtain ⟨T, hT⟩ : ∃ T, ((L s).drop (i + 2)).takeWhile bin = T := ⟨_, rfl⟩
  have HTT : Hid (((L s).drop (i + 2)).takeWhile bin = T) := hT
  have hlet : (L s)[i + 1]? = some 98 := by rw [get_at s (i + 1) (by omega), show at_ s (i + 1) = 98 from (u8_eq 98 (by omega)).1 (by rw [← at_int s (i + 1) (by omega)]; exact hb)]
  have HRR : Hid (R = if T = [] then noTok else (5, ⟨(T).toArray⟩, ((i + 2 + T.length : Nat) : Int))) := by show R = _; rw [← HR.out]; unfold bits; rw [if_pos hlet, hT]
  clear hT hlet
  rw [hb] at hx
  clear hb
  obtain ⟨i0, hif, hz0, hz1, hz2⟩ := info_parts info5
  have HI : Hid (Tryd.prog.info? 5 = some i0 ∧ i0.zero = some (.int .u8 0) ∧ i0.size = 1 ∧ i0.bytes = 1) := ⟨hif, hz0, hz1, hz2⟩
  clear hif hz0 hz1 hz2
  have hi2 : ¬ s.size ≤ i + 2 := by omega
  go_enter Tryd.func100, Tryd.ntmps100
  go_wp2_with (fail)
  go_loopw [5, 6] (fun v5 v6 wr => BRel s i w.heap.size (w.alloc (Obj.cells #[Value.int IntKind.i64 0, Value.string { data := #[] }, Value.int IntKind.i64 0] 111)) bin (fun c => [c]) T v5 v6 wr) (fun v5 _ _ => s.size - (intOf v5).toNat)
  case atStart => exact ⟨i + 2, [], by omega, by omega, by first | rfl | go_num, HTT.out, by simp, World.ownsRow_nil _ _ _ _, Below.refl _ _, by simp⟩
  case round =>
    obtain ⟨k, src, hk1, hk2, rfl, hS, hkl, hown, hbel, hsz⟩ := hrel
    have HS : Hid (src ++ ((L s).drop k).takeWhile bin = T) := hS
    have HL : Hid (k = i + 2 + src.length) := hkl
    have hkl' : i + 2 + src.length ≤ k := by omega
    have hkl2 : k ≤ i + 2 + src.length := by omega
    obtain ⟨nn, hnn⟩ : ∃ nn, (src.flatMap (fun c => [c])).length = nn := ⟨_, rfl⟩
    have HO : Hid (wr.ownsRow (w.heap.size + 1) 5 1 u6 nn (nums .u8 (ints (src.flatMap (fun c => [c]))))) := by rw [← hnn]; exact hown
    have HNN : Hid ((src.flatMap (fun c => [c])).length = nn) := hnn
    clear hnn
    have HB : Hid (Below (w.heap.size + 1) (w.alloc (Obj.cells #[Value.int IntKind.i64 0, Value.string { data := #[] }, Value.int IntKind.i64 0] 111)) wr) := hbel
    have q0 : wr.cell? ⟨w.heap.size, 0, none⟩ = some (.int .i64 0) := by rw [hbel.cell (p := ⟨w.heap.size, 0, none⟩) (by show w.heap.size < _; omega)]; exact World.cell?_alloc_at _ _ _ _ rfl
    have q1 : wr.cell? ⟨w.heap.size, 1, none⟩ = some (.string ⟨#[]⟩) := by rw [hbel.cell (p := ⟨w.heap.size, 1, none⟩) (by show w.heap.size < _; omega)]; exact World.cell?_alloc_at _ _ _ _ rfl
    have q2 : wr.cell? ⟨w.heap.size, 2, none⟩ = some (.int .i64 0) := by rw [hbel.cell (p := ⟨w.heap.size, 2, none⟩) (by show w.heap.size < _; omega)]; exact World.cell?_alloc_at _ _ _ _ rfl
    have q3 : wr.frozen? ⟨w.heap.size, 0, none⟩ = false := by rw [hbel.frozen (p := ⟨w.heap.size, 0, none⟩) (by show w.heap.size < _; omega)]; exact World.frozen?_alloc_at _ _ _ _ rfl
    have q4 : wr.frozen? ⟨w.heap.size, 1, none⟩ = false := by rw [hbel.frozen (p := ⟨w.heap.size, 1, none⟩) (by show w.heap.size < _; omega)]; exact World.frozen?_alloc_at _ _ _ _ rfl
    have q5 : wr.frozen? ⟨w.heap.size, 2, none⟩ = false := by rw [hbel.frozen (p := ⟨w.heap.size, 2, none⟩) (by show w.heap.size < _; omega)]; exact World.frozen?_alloc_at _ _ _ _ rfl
    clear hS hkl hown hbel
    by_cases hlt : k < s.size
    · have hxk : ∀ h : k < s.size, ((s[k]'h).toNat : Int) = bt s k := bt_at s k
      obtain ⟨b0, b1⟩ := bt_range s k
      obtain ⟨d, hd⟩ : ∃ d, bt s k = d := ⟨_, rfl⟩
      have HA : Hid (((at_ s k).toNat : Int) = d) := (at_int s k hlt).symm.trans hd
      rw [hd] at b0 b1
      by_cases hp : bin (at_ s k) = true
      · have HP : Hid (bin (at_ s k) = true) := hp
        clear hp
        have HD : Hid (d = 48 ∨ d = 49) := by
          have := HP.out; unfold bin at this; simp only [Bool.or_eq_true, beq_iff_eq] at this
          rcases this with e | e
          · left; have := HA.out; rw [e] at this; simp at this; omega
          · right; have := HA.out; rw [e] at this; simp at this; omega
        rcases HD.out with g | g
        all_goals
          have HAA := HA.out
          rw [g] at HAA hd
          have HA3 : Hid (((at_ s k).toNat : Int) = d) := HA.out
          rw [hd] at hxk
          clear HAA
          have gl : nn ≤ k := by rw [← HNN.out, flat_one]; omega
          go_wp2_with (first | (at_builtin; refine wpList_append_own _ rfl _ _ 37 rfl (w.heap.size + 1) 5 i0 (.int .u8 0) 1 1 Tryd.underlying37 HI.out.1 HI.out.2.1 HI.out.2.2.1 HI.out.2.2.2 rfl (by decide) _ _ _ rfl (HO.out.alloc _) ⟨wr.heap.size, 0, none⟩ 1 1 [.int .u8 48] rfl rfl (cell_one_new _ _ _) (by simp [Value.oneCell']) (by unfold maxLen; omega) (by omega) (by simp; omega) ?_; intro v' w1 hown' hgrow _) | (at_builtin; refine wpList_append_own _ rfl _ _ 37 rfl (w.heap.size + 1) 5 i0 (.int .u8 0) 1 1 Tryd.underlying37 HI.out.1 HI.out.2.1 HI.out.2.2.1 HI.out.2.2.2 rfl (by decide) _ _ _ rfl (HO.out.alloc _) ⟨wr.heap.size, 0, none⟩ 1 1 [.int .u8 49] rfl rfl (cell_one_new _ _ _) (by simp [Value.oneCell']) (by unfold maxLen; omega) (by omega) (by simp; omega) ?_; intro v' w1 hown' hgrow _))
          go_roundw
          case rel =>
            obtain ⟨ha, hb, hc'⟩ := q_step (c := at_ s k) (by rw [HNN.out]; exact HO.out) HB.out hsz (by rw [HNN.out, HA3.out, g]; exact hown') hgrow
            exact ⟨k + 1, src ++ [at_ s k], by omega, by omega, by go_num, by rw [← HS.out, tw_yes hlt HP.out, List.append_assoc]; rfl, by rw [List.length_append]; simp; omega, by rw [flat_snoc]; exact ha, hb, hc'⟩
          case measure => simp [intOf]; omega
      · have HP : Hid (bin (at_ s k) = false) := Bool.eq_false_iff.2 hp
        have HT2 : Hid (src = T) := by show src = T; rw [← HS.out, tw_no hlt HP.out, List.append_nil]
        clear hp
        have g48 : (d == 48) = false := beq_eq_false_iff_ne.2 (fun e => by have := (u8_eq 48 (by omega)).1 (HA.out.trans e); have h2 := HP.out; rw [this] at h2; exact absurd h2 (by decide))
        have g49 : (d == 49) = false := beq_eq_false_iff_ne.2 (fun e => by have := (u8_eq 49 (by omega)).1 (HA.out.trans e); have h2 := HP.out; rw [this] at h2; exact absurd h2 (by decide))
        by_cases hn : src = []
        · have hlz : ((nn : Int) == 0) = true := by rw [← HNN.out, hn]; rfl
          have HN : Hid (src = []) := hn
          clear hn
          have hl6' : ∀ W, (Builtin.len_ #[37] 3 #[u6]).run Tryd.prog W = .ok (.int .i64 (nn : Int)) W := len_own HO.out
          go_wp2_with (fail)
          exact bodyPost_ret (v := .agg #[.int .i64 0, .string ⟨#[]⟩, .int .i64 0]) (by simp [results, Tryd.results100, go_sem, q0, q1, q2, q3, q4, q5]) rfl ⟨ret_tok (R := R) (by rw [HRR.out, if_pos (by rw [← HT2.out]; exact HN.out)]; rfl), qbelow HB.out⟩
        · have hlz : ((nn : Int) == 0) = false := by rw [← HNN.out, beq_eq_false_iff_ne]; exact fun e => hn (by rw [flat_one] at e; exact List.length_eq_zero_iff.1 (by omega))
          have HN : Hid (src ≠ []) := hn
          clear hn
          have hl6' : ∀ W, (Builtin.len_ #[37] 3 #[u6]).run Tryd.prog W = .ok (.int .i64 (nn : Int)) W := len_own HO.out
          have hcv := own_string (P := Tryd.prog) (w := wr) Tryd.underlying37 Tryd.underlying5 Tryd.underlying9 HO.out
          go_wp2_with (fail)
          exact bodyPost_ret (v := .agg #[.int .i64 5, .string (strOfNums (ints (src.flatMap (fun c => [c])))), .int .i64 k]) (by simp [results, Tryd.results100, go_sem, q0, q1, q2, q3, q4, q5]) rfl ⟨ret_tok (R := R) (by rw [HRR.out, ← HT2.out, if_neg HN.out, str_ints, HL.out]; rw [flat_one]), qbelow HB.out⟩
    · have HT2 : Hid (src = T) := by show src = T; rw [← HS.out, tw_end (by omega), List.append_nil]
      by_cases hn : src = []
      · have hlz : ((nn : Int) == 0) = true := by rw [← HNN.out, hn]; rfl
        have HN : Hid (src = []) := hn
        clear hn
        have hl6' : ∀ W, (Builtin.len_ #[37] 3 #[u6]).run Tryd.prog W = .ok (.int .i64 (nn : Int)) W := len_own HO.out
        go_wp2_with (fail)
        exact bodyPost_ret (v := .agg #[.int .i64 0, .string ⟨#[]⟩, .int .i64 0]) (by simp [results, Tryd.results100, go_sem, q0, q1, q2, q3, q4, q5]) rfl ⟨ret_tok (R := R) (by rw [HRR.out, if_pos (by rw [← HT2.out]; exact HN.out)]; rfl), qbelow HB.out⟩
      · have hlz : ((nn : Int) == 0) = false := by rw [← HNN.out, beq_eq_false_iff_ne]; exact fun e => hn (by rw [flat_one] at e; exact List.length_eq_zero_iff.1 (by omega))
        have HN : Hid (src ≠ []) := hn
        clear hn
        have hl6' : ∀ W, (Builtin.len_ #[37] 3 #[u6]).run Tryd.prog W = .ok (.int .i64 (nn : Int)) W := len_own HO.out
        have hcv := own_string (P := Tryd.prog) (w := wr) Tryd.underlying37 Tryd.underlying5 Tryd.underlying9 HO.out
        go_wp2_with (fail)
        exact bodyPost_ret (v := .agg #[.int .i64 5, .string (strOfNums (ints (src.flatMap (fun c => [c])))), .int .i64 k]) (by simp [results, Tryd.results100, go_sem, q0, q1, q2, q3, q4, q5]) rfl ⟨ret_tok (R := R) (by rw [HRR.out, ← HT2.out, if_neg HN.out, str_ints, HL.out]; rw [flat_one]), qbelow HB.out⟩
theorem bit_vals : ∀ h : Nat, h < 16 → wrap64 (48 + Go.bits .and .i64 ((h : Int) / 8) 1) % 256 = ((bit h 3).toNat : Int) ∧ wrap64 (48 + Go.bits .and .i64 ((h : Int) / 4) 1) % 256 = ((bit h 2).toNat : Int) ∧ wrap64 (48 + Go.bits .and .i64 ((h : Int) / 2) 1) % 256 = ((bit h 1).toNat : Int) ∧ 48 + (h : Int) % 2 = ((bit h 0).toNat : Int) := by decide +kernel
/-- one bit's append -/
theorem i_step {B m : Nat} {W0 wr w1 : World} {v6 v' : Value} {F : List UInt8} {c : UInt8} {o : Obj} (hown : wr.ownsRow (B + 1) 5 1 v6 m (nums .u8 (ints F))) (hbel : Below (B + 1) W0 wr) (hsz : B + 1 ≤ wr.heap.size)
    (hown' : w1.ownsRow (B + 1) 5 1 v' (m + 1) (nums .u8 (ints F) ++ [.int .u8 (c.toNat : Int)])) (hgrow : (wr.alloc o).grownBy w1 v6.ownBlock) :
    w1.ownsRow (B + 1) 5 1 v' (m + 1) (nums .u8 (ints (F ++ [c]))) ∧ Below (B + 1) W0 w1 ∧ B + 1 ≤ w1.heap.size := by
  refine ⟨?_, (hbel.alloc (by omega) o).grown hgrow (by simp; omega) (fun j hj => by have := (hown.lt j hj).1; omega), ?_⟩
  · rw [← ints_snoc]; exact hown'
  · have := hgrow.size; simp at this; omega
theorem four_take0 {F : List UInt8} {ch : UInt8} {h : Nat} (e : hexv ch = h) : F ++ (four ch).take 1 = (F ++ (four ch).take 0) ++ [bit h 3] := by unfold four; rw [e]; simp
theorem four_take1 {F : List UInt8} {ch : UInt8} {h : Nat} (e : hexv ch = h) : F ++ (four ch).take 2 = (F ++ (four ch).take 1) ++ [bit h 2] := by unfold four; rw [e]; simp
theorem four_take2 {F : List UInt8} {ch : UInt8} {h : Nat} (e : hexv ch = h) : F ++ (four ch).take 3 = (F ++ (four ch).take 2) ++ [bit h 1] := by unfold four; rw [e]; simp
theorem four_take3 {F : List UInt8} {ch : UInt8} {h : Nat} (e : hexv ch = h) : F ++ (four ch).take 4 = (F ++ (four ch).take 3) ++ [bit h 0] := by unfold four; rw [e]; simp
/-- what the loop over a hex digit's four bits keeps -/
def IRel (B : Nat) (W0 : World) (nn : Nat) (F : List UInt8) (ch : UInt8) (v6 v8 : Value) (wr : World) : Prop :=
  ∃ (c : Nat) (j : Int), c ≤ 4 ∧ j + c = 3 ∧ v8 = .int .i64 j ∧ wr.ownsRow (B + 1) 5 1 v6 (nn + c) (nums .u8 (ints (F ++ (four ch).take c))) ∧ Below (B + 1) W0 wr ∧ B + 1 ≤ wr.heap.size
set_option maxHeartbeats 4000000 in
theorem spec_hexs (s : ByteArray) (i : Nat) (w : World) (hs : s.size ≤ 35184372088000) (hi : i + 2 < s.size) (hb : bt s (i + 1 : Nat) = 120) (R : Int × ByteArray × Int) (HR : Hid (bits s i = R)) :
    Calls Tryd.prog 100 #[.string s, .int .i64 i] w fun e w' => e = .returned (.agg #[.int .i64 R.1, .string R.2.1, .int .i64 R.2.2]) ∧ Below w.heap.size w w' := by
  have hx : ∀ h : i + 1 < s.size, ((s[i + 1]'h).toNat : Int) = bt s (i + 1 : Nat) := bt_at s (i + 1 : Nat)
  obtain ⟨T, hT⟩ : ∃ T, ((L s).drop (i + 2)).takeWhile hexd = T := ⟨_, rfl⟩
  have HTT : Hid (((L s).drop (i + 2)).takeWhile hexd = T) := hT
  have hlet : (L s)[i + 1]? = some 120 := by rw [get_at s (i + 1) (by omega), show at_ s (i + 1) = 120 from (u8_eq 120 (by omega)).1 (by rw [← at_int s (i + 1) (by omega)]; exact hb)]
  have HRR : Hid (R = if T = [] then noTok else (5, ⟨(T.flatMap four).toArray⟩, ((i + 2 + T.length : Nat) : Int))) := by show R = _; rw [← HR.out]; unfold bits; rw [if_neg (by rw [hlet]; decide), if_pos hlet, hT]
  clear hT hlet
  rw [hb] at hx
  clear hb
  obtain ⟨i0, hif, hz0, hz1, hz2⟩ := info_parts info5
  have HI : Hid (Tryd.prog.info? 5 = some i0 ∧ i0.zero = some (.int .u8 0) ∧ i0.size = 1 ∧ i0.bytes = 1) := ⟨hif, hz0, hz1, hz2⟩
  clear hif hz0 hz1 hz2
  have hi2 : ¬ s.size ≤ i + 2 := by omega
  go_enter Tryd.func100, Tryd.ntmps100
  go_wp2_with (fail)
  go_loopw [5, 6] (fun v5 v6 wr => BRel s i w.heap.size (w.alloc (Obj.cells #[Value.int IntKind.i64 0, Value.string { data := #[] }, Value.int IntKind.i64 0] 111)) hexd four T v5 v6 wr) (fun v5 _ _ => s.size - (intOf v5).toNat)
  case atStart => exact ⟨i + 2, [], by omega, by omega, by first | rfl | go_num, HTT.out, by simp, World.ownsRow_nil _ _ _ _, Below.refl _ _, by simp⟩
  case round =>
    obtain ⟨k, src, hk1, hk2, rfl, hS, hkl, hown, hbel, hsz⟩ := hrel
    have HS : Hid (src ++ ((L s).drop k).takeWhile hexd = T) := hS
    have HL : Hid (k = i + 2 + src.length) := hkl
    have hkl' : i + 2 + src.length ≤ k := by omega
    have hkl2 : k ≤ i + 2 + src.length := by omega
    obtain ⟨nn, hnn⟩ : ∃ nn, (src.flatMap four).length = nn := ⟨_, rfl⟩
    have HO : Hid (wr.ownsRow (w.heap.size + 1) 5 1 u6 nn (nums .u8 (ints (src.flatMap four)))) := by rw [← hnn]; exact hown
    have HNN : Hid ((src.flatMap four).length = nn) := hnn
    clear hnn
    have HB : Hid (Below (w.heap.size + 1) (w.alloc (Obj.cells #[Value.int IntKind.i64 0, Value.string { data := #[] }, Value.int IntKind.i64 0] 111)) wr) := hbel
    have q0 : wr.cell? ⟨w.heap.size, 0, none⟩ = some (.int .i64 0) := by rw [hbel.cell (p := ⟨w.heap.size, 0, none⟩) (by show w.heap.size < _; omega)]; exact World.cell?_alloc_at _ _ _ _ rfl
    have q1 : wr.cell? ⟨w.heap.size, 1, none⟩ = some (.string ⟨#[]⟩) := by rw [hbel.cell (p := ⟨w.heap.size, 1, none⟩) (by show w.heap.size < _; omega)]; exact World.cell?_alloc_at _ _ _ _ rfl
    have q2 : wr.cell? ⟨w.heap.size, 2, none⟩ = some (.int .i64 0) := by rw [hbel.cell (p := ⟨w.heap.size, 2, none⟩) (by show w.heap.size < _; omega)]; exact World.cell?_alloc_at _ _ _ _ rfl
    have q3 : wr.frozen? ⟨w.heap.size, 0, none⟩ = false := by rw [hbel.frozen (p := ⟨w.heap.size, 0, none⟩) (by show w.heap.size < _; omega)]; exact World.frozen?_alloc_at _ _ _ _ rfl
    have q4 : wr.frozen? ⟨w.heap.size, 1, none⟩ = false := by rw [hbel.frozen (p := ⟨w.heap.size, 1, none⟩) (by show w.heap.size < _; omega)]; exact World.frozen?_alloc_at _ _ _ _ rfl
    have q5 : wr.frozen? ⟨w.heap.size, 2, none⟩ = false := by rw [hbel.frozen (p := ⟨w.heap.size, 2, none⟩) (by show w.heap.size < _; omega)]; exact World.frozen?_alloc_at _ _ _ _ rfl
    clear hS hkl hown hbel
    by_cases hlt : k < s.size
    · have hxk : ∀ h : k < s.size, ((s[k]'h).toNat : Int) = bt s k := bt_at s k
      obtain ⟨b0, b1⟩ := bt_range s k
      obtain ⟨d, hd⟩ : ∃ d, bt s k = d := ⟨_, rfl⟩
      have HA : Hid (((at_ s k).toNat : Int) = d) := (at_int s k hlt).symm.trans hd
      rw [hd] at b0 b1
      by_cases hp : hexd (at_ s k) = true
      · have HP : Hid (hexd (at_ s k) = true) := hp
        clear hp
        have hy := hex_yes HP.out HA.out
        obtain ⟨hv1, hv2⟩ := hexv_is HP.out HA.out
        obtain ⟨hn, hhn⟩ : ∃ hn, hexv (at_ s k) = hn := ⟨_, rfl⟩
        rw [hhn] at hv1 hv2
        have HH : Hid (hexv (at_ s k) = hn) := hhn
        have HV : Hid ((hn : Int) = (if 48 ≤ d ∧ d ≤ 57 then d - 48 else if 97 ≤ d ∧ d ≤ 102 then d - 87 else if 65 ≤ d ∧ d ≤ 70 then d - 55 else -1)) := by
          show (hn : Int) = _
          rw [hv1]
          rcases hy with ⟨a, b⟩ | ⟨a, b⟩ | ⟨a, b⟩
          · rw [if_pos (by omega), if_pos ⟨a, b⟩]
          · rw [if_neg (by omega), if_neg (by omega), if_neg (by omega), if_pos ⟨a, b⟩]
          · rw [if_neg (by omega), if_pos (by omega), if_neg (by omega), if_neg (by omega), if_pos ⟨a, b⟩]
        have gl : nn ≤ 4 * k := by rw [← HNN.out, four_len]; omega
        clear hv1 hhn hy
        obtain ⟨e3, e2, e1, e0⟩ := bit_table hn hv2
        go_wp2_with (go_at_call 118; refine (spec_hex _ _ b0 b1 _ HV.out).mono ?_; rintro e w' ⟨rfl, rfl⟩)
        obtain ⟨wo, rfl⟩ : ∃ wo : World, wo = wr := ⟨_, rfl⟩
        go_loopw [6, 8] (fun v6 v8 wr => IRel w.heap.size (w.alloc (Obj.cells #[Value.int IntKind.i64 0, Value.string { data := #[] }, Value.int IntKind.i64 0] 111)) nn (src.flatMap four) (at_ s k) v6 v8 wr) (fun _ v8 _ => (intOf v8 + 1).toNat)
        case atStart => exact ⟨0, 3, by omega, by omega, rfl, by rw [List.take_zero, List.append_nil]; exact HO.out, HB.out, hsz⟩
        case round =>
          obtain ⟨c, j, hc4, hj, rfl, hown2, hbel2, hsz2⟩ := hrel
          have HO2 : Hid (wr.ownsRow (w.heap.size + 1) 5 1 _ (nn + c) (nums .u8 (ints (src.flatMap four ++ (four (at_ s k)).take c)))) := hown2
          have HB2 : Hid (Below (w.heap.size + 1) (w.alloc (Obj.cells #[Value.int IntKind.i64 0, Value.string { data := #[] }, Value.int IntKind.i64 0] 111)) wr) := hbel2
          clear hown2 hbel2
          rcases (by omega : (c = 0 ∧ j = 3) ∨ (c = 1 ∧ j = 2) ∨ (c = 2 ∧ j = 1) ∨ (c = 3 ∧ j = 0) ∨ (c = 4 ∧ j = -1)) with ⟨h, h'⟩ | ⟨h, h'⟩ | ⟨h, h'⟩ | ⟨h, h'⟩ | ⟨h, h'⟩
          · subst h h'
            go_wp2_with (at_builtin; refine wpList_append_own _ rfl _ _ 37 rfl (w.heap.size + 1) 5 i0 (.int .u8 0) 1 1 Tryd.underlying37 HI.out.1 HI.out.2.1 HI.out.2.2.1 HI.out.2.2.2 rfl (by decide) _ _ _ rfl (HO2.out.alloc _) ⟨wr.heap.size, 0, none⟩ 1 1 [_] rfl rfl (cell_one_new _ _ _) (by simp [Value.oneCell']) (by unfold maxLen; omega) (by omega) (by simp; omega) ?_; intro v' w1 hown' hgrow _)
            go_roundw
            case rel =>
              obtain ⟨ha, hb, hc'⟩ := i_step (c := bit hn 3) HO2.out HB2.out hsz2 (by rw [← (bit_vals hn hv2).1]; exact hown') hgrow
              exact ⟨1, 2, by omega, by omega, by go_num, by rw [four_take0 HH.out]; exact ha, hb, hc'⟩
            case measure => first | (simp [intOf]; done) | (simp [intOf]; omega)
          · subst h h'
            go_wp2_with (at_builtin; refine wpList_append_own _ rfl _ _ 37 rfl (w.heap.size + 1) 5 i0 (.int .u8 0) 1 1 Tryd.underlying37 HI.out.1 HI.out.2.1 HI.out.2.2.1 HI.out.2.2.2 rfl (by decide) _ _ _ rfl (HO2.out.alloc _) ⟨wr.heap.size, 0, none⟩ 1 1 [_] rfl rfl (cell_one_new _ _ _) (by simp [Value.oneCell']) (by unfold maxLen; omega) (by omega) (by simp; omega) ?_; intro v' w1 hown' hgrow _)
            go_roundw
            case rel =>
              obtain ⟨ha, hb, hc'⟩ := i_step (c := bit hn 2) HO2.out HB2.out hsz2 (by rw [← (bit_vals hn hv2).2.1]; exact hown') hgrow
              exact ⟨2, 1, by omega, by omega, by go_num, by rw [four_take1 HH.out]; exact ha, hb, hc'⟩
            case measure => first | (simp [intOf]; done) | (simp [intOf]; omega)
          · subst h h'
            go_wp2_with (at_builtin; refine wpList_append_own _ rfl _ _ 37 rfl (w.heap.size + 1) 5 i0 (.int .u8 0) 1 1 Tryd.underlying37 HI.out.1 HI.out.2.1 HI.out.2.2.1 HI.out.2.2.2 rfl (by decide) _ _ _ rfl (HO2.out.alloc _) ⟨wr.heap.size, 0, none⟩ 1 1 [_] rfl rfl (cell_one_new _ _ _) (by simp [Value.oneCell']) (by unfold maxLen; omega) (by omega) (by simp; omega) ?_; intro v' w1 hown' hgrow _)
            go_roundw
            case rel =>
              obtain ⟨ha, hb, hc'⟩ := i_step (c := bit hn 1) HO2.out HB2.out hsz2 (by rw [← (bit_vals hn hv2).2.2.1]; exact hown') hgrow
              exact ⟨3, 0, by omega, by omega, by go_num, by rw [four_take2 HH.out]; exact ha, hb, hc'⟩
            case measure => first | (simp [intOf]; done) | (simp [intOf]; omega)
          · subst h h'
            go_wp2_with (at_builtin; refine wpList_append_own _ rfl _ _ 37 rfl (w.heap.size + 1) 5 i0 (.int .u8 0) 1 1 Tryd.underlying37 HI.out.1 HI.out.2.1 HI.out.2.2.1 HI.out.2.2.2 rfl (by decide) _ _ _ rfl (HO2.out.alloc _) ⟨wr.heap.size, 0, none⟩ 1 1 [_] rfl rfl (cell_one_new _ _ _) (by simp [Value.oneCell']) (by unfold maxLen; omega) (by omega) (by simp; omega) ?_; intro v' w1 hown' hgrow _)
            go_roundw
            case rel =>
              obtain ⟨ha, hb, hc'⟩ := i_step (c := bit hn 0) HO2.out HB2.out hsz2 (by rw [← (bit_vals hn hv2).2.2.2]; exact hown') hgrow
              exact ⟨4, -1, by omega, by omega, by go_num, by rw [four_take3 HH.out]; exact ha, hb, hc'⟩
            case measure => first | (simp [intOf]; done) | (simp [intOf]; omega)
          · subst h h'
            go_wp2_with (fail)
            go_roundw
            case rel => exact ⟨k + 1, src ++ [at_ s k], by omega, by omega, by go_num, by rw [← HS.out, tw_yes hlt HP.out, List.append_assoc]; rfl, by rw [List.length_append]; simp; omega, by rw [flat_snoc, List.length_append, HNN.out]; exact HO2.out, HB2.out, hsz2⟩
            case measure => first | (simp [intOf]; done) | (simp [intOf]; omega)
      · have HP : Hid (hexd (at_ s k) = false) := Bool.eq_false_iff.2 hp
        have HT2 : Hid (src = T) := by show src = T; rw [← HS.out, tw_no hlt HP.out, List.append_nil]
        clear hp
        obtain ⟨f1, f2, f3⟩ := hex_no HP.out HA.out
        have HV : Hid ((-1 : Int) = (if 48 ≤ d ∧ d ≤ 57 then d - 48 else if 97 ≤ d ∧ d ≤ 102 then d - 87 else if 65 ≤ d ∧ d ≤ 70 then d - 55 else -1)) := by
          show (-1 : Int) = _
          rw [if_neg f1, if_neg f2, if_neg f3]
        clear f1 f2 f3
        by_cases hn : src = []
        · have hlz : ((nn : Int) == 0) = true := by rw [← HNN.out, hn]; rfl
          have HN : Hid (src = []) := hn
          clear hn
          have hl6' : ∀ W, (Builtin.len_ #[37] 3 #[u6]).run Tryd.prog W = .ok (.int .i64 (nn : Int)) W := len_own HO.out
          go_wp2_with (go_at_call 118; refine (spec_hex _ _ b0 b1 _ HV.out).mono ?_; rintro e w' ⟨rfl, rfl⟩)
          exact bodyPost_ret (v := .agg #[.int .i64 0, .string ⟨#[]⟩, .int .i64 0]) (by simp [results, Tryd.results100, go_sem, q0, q1, q2, q3, q4, q5]) rfl ⟨ret_tok (R := R) (by rw [HRR.out, if_pos (by rw [← HT2.out]; exact HN.out)]; rfl), qbelow HB.out⟩
        · have hlz : ((nn : Int) == 0) = false := by rw [← HNN.out, beq_eq_false_iff_ne]; exact fun e => hn (by rw [four_len] at e; exact List.length_eq_zero_iff.1 (by omega))
          have HN : Hid (src ≠ []) := hn
          clear hn
          have hl6' : ∀ W, (Builtin.len_ #[37] 3 #[u6]).run Tryd.prog W = .ok (.int .i64 (nn : Int)) W := len_own HO.out
          have hcv := own_string (P := Tryd.prog) (w := wr) Tryd.underlying37 Tryd.underlying5 Tryd.underlying9 HO.out
          go_wp2_with (go_at_call 118; refine (spec_hex _ _ b0 b1 _ HV.out).mono ?_; rintro e w' ⟨rfl, rfl⟩)
          exact bodyPost_ret (v := .agg #[.int .i64 5, .string (strOfNums (ints (src.flatMap four))), .int .i64 k]) (by simp [results, Tryd.results100, go_sem, q0, q1, q2, q3, q4, q5]) rfl ⟨ret_tok (R := R) (by rw [HRR.out, ← HT2.out, if_neg HN.out, str_ints, HL.out]), qbelow HB.out⟩
    · have HT2 : Hid (src = T) := by show src = T; rw [← HS.out, tw_end (by omega), List.append_nil]
      by_cases hn : src = []
      · have hlz : ((nn : Int) == 0) = true := by rw [← HNN.out, hn]; rfl
        have HN : Hid (src = []) := hn
        clear hn
        have hl6' : ∀ W, (Builtin.len_ #[37] 3 #[u6]).run Tryd.prog W = .ok (.int .i64 (nn : Int)) W := len_own HO.out
        go_wp2_with (fail)
        exact bodyPost_ret (v := .agg #[.int .i64 0, .string ⟨#[]⟩, .int .i64 0]) (by simp [results, Tryd.results100, go_sem, q0, q1, q2, q3, q4, q5]) rfl ⟨ret_tok (R := R) (by rw [HRR.out, if_pos (by rw [← HT2.out]; exact HN.out)]; rfl), qbelow HB.out⟩
      · have hlz : ((nn : Int) == 0) = false := by rw [← HNN.out, beq_eq_false_iff_ne]; exact fun e => hn (by rw [four_len] at e; exact List.length_eq_zero_iff.1 (by omega))
        have HN : Hid (src ≠ []) := hn
        clear hn
        have hl6' : ∀ W, (Builtin.len_ #[37] 3 #[u6]).run Tryd.prog W = .ok (.int .i64 (nn : Int)) W := len_own HO.out
        have hcv := own_string (P := Tryd.prog) (w := wr) Tryd.underlying37 Tryd.underlying5 Tryd.underlying9 HO.out
        go_wp2_with (fail)
        exact bodyPost_ret (v := .agg #[.int .i64 5, .string (strOfNums (ints (src.flatMap four))), .int .i64 k]) (by simp [results, Tryd.results100, go_sem, q0, q1, q2, q3, q4, q5]) rfl ⟨ret_tok (R := R) (by rw [HRR.out, ← HT2.out, if_neg HN.out, str_ints, HL.out]), qbelow HB.out⟩
end Go.Proofs.YtbeelgaganbblaaDoor.Tok

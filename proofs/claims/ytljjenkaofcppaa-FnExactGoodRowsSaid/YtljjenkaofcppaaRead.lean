/- spec.l1Read, by a walk: an int text's limbs. -/
import Derived.Test.YtljjenkaofcppaaLimbK
namespace Go.Proofs.Ytljjenkaofcppaa.Limb
open Go.RowKit Go.Proofs.YtljjenkaofcppaaW.PrintWords Go.Proofs.YtljjenkaofcppaaW.PrintLast Go.Proofs.Ytljjenkaofcppaa Go.Proofs.Ytljjenkaofcppaa.By Go.Proofs.Ytljjenkaofcppaa.Dig
set_option linter.unusedVariables false
set_option linter.unusedSimpArgs false
set_option maxRecDepth 100000
/-- the number that a text of digits spells -/
def num (l : List UInt8) : Nat := l.foldl (fun a b => 10 * a + (b.toNat - 48)) 0
theorem num_fold (l : List UInt8) : ∀ a : Nat, l.foldl (fun a b => 10 * a + (b.toNat - 48)) a = a * 10 ^ l.length + num l := by
  unfold num
  induction l with
  | nil => intro a; simp
  | cons x l ih =>
    intro a
    rw [List.foldl_cons, List.foldl_cons, ih, ih (10 * 0 + _), List.length_cons, Nat.pow_succ]
    have : (10 * a + (x.toNat - 48)) * 10 ^ l.length = a * (10 ^ l.length * 10) + (10 * 0 + (x.toNat - 48)) * 10 ^ l.length := by
      rw [Nat.add_mul, Nat.mul_zero, Nat.zero_add, Nat.mul_comm 10 a, Nat.mul_assoc, Nat.mul_comm 10]
    rw [this, Nat.add_assoc]
theorem num_append (a b : List UInt8) : num (a ++ b) = num a * 10 ^ b.length + num b := by
  have := num_fold b (num a)
  rw [← this]; unfold num; rw [List.foldl_append]
theorem num_snoc (l : List UInt8) (b : UInt8) : num (l ++ [b]) = 10 * num l + (b.toNat - 48) := by
  unfold num; rw [List.foldl_append]; rfl
theorem dig_dgt {b : UInt8} (h : dig b = true) : 48 ≤ b.toNat ∧ b.toNat ≤ 57 := by unfold dig at h; simpa using h
theorem num_lt : ∀ l : List UInt8, digs l = true → num l < 10 ^ l.length := by
  intro l
  induction l with
  | nil => intro _; simp [num]
  | cons x l ih =>
    intro h
    rw [digs_cons, Bool.and_eq_true] at h
    have h1 := dig_dgt h.1
    have h2 := ih h.2
    have e : num (x :: l) = (x.toNat - 48) * 10 ^ l.length + num l := by
      have := num_append [x] l
      rw [show [x] ++ l = x :: l from rfl] at this
      rw [this]; simp [num]
    rw [e, List.length_cons, Nat.pow_succ]
    have : (x.toNat - 48) * 10 ^ l.length ≤ 9 * 10 ^ l.length := Nat.mul_le_mul_right _ (by omega)
    omega
theorem digs_mem {l : List UInt8} (h : By.digs l = true) : ∀ b ∈ l, dig b = true := by unfold By.digs at h; exact List.all_eq_true.1 h
theorem digs_of {l : List UInt8} (h : ∀ b ∈ l, dig b = true) : By.digs l = true := by unfold By.digs; exact List.all_eq_true.2 h
theorem digs_sub {l m : List UInt8} (h : By.digs l = true) (hm : ∀ b ∈ m, b ∈ l) : By.digs m = true := digs_of fun b hb => digs_mem h b (hm b hb)
theorem num_pos : ∀ l : List UInt8, digs l = true → (∃ c m, l = c :: m ∧ c ≠ 48) → 0 < num l := by
  intro l h ⟨c, m, e, hc⟩
  subst e
  rw [digs_cons, Bool.and_eq_true] at h
  have h1 := dig_dgt h.1
  have e : num (c :: m) = (c.toNat - 48) * 10 ^ m.length + num m := by
    have := num_append [c] m
    rw [show [c] ++ m = c :: m from rfl] at this
    rw [this]; simp [num]
  have : c.toNat ≠ 48 := fun e => hc (by rw [← UInt8.ofNat_toNat (x := c), e]; rfl)
  have hp : 0 < 10 ^ m.length := Nat.pow_pos (by omega)
  have : 1 * 10 ^ m.length ≤ (c.toNat - 48) * 10 ^ m.length := Nat.mul_le_mul_right _ (by omega)
  omega
/-- a text of digits without a zero at its head is its number's decimal text -/
theorem num_text (l : List UInt8) (h : By.digs l = true) (hz : ∃ c m, l = c :: m ∧ c ≠ 48) : Lib.decDigits (num l) = l := by
  obtain ⟨n, hn⟩ : ∃ n, l.length = n := ⟨_, rfl⟩
  induction n generalizing l with
  | zero => obtain ⟨c, m, rfl, _⟩ := hz; simp at hn
  | succ n ih =>
    rcases List.eq_nil_or_concat l with rfl | ⟨m, b, rfl⟩
    · simp at hn
    rw [List.concat_eq_append] at h hz hn ⊢
    have hb := dig_dgt (digs_mem h b (by simp))
    have hm : By.digs m = true := digs_sub h (fun x hx => by simp [hx])
    have eb : dg8 (b.toNat - 48) = b := by
      unfold dg8
      rw [show 48 + (b.toNat - 48) = b.toNat by omega, UInt8.ofNat_toNat]
    rw [num_snoc]
    cases m with
    | nil =>
      rw [show num [] = 0 from rfl, Nat.mul_zero, Nat.zero_add, Lib.decDigits_one (by omega)]
      show [dg8 (b.toNat - 48)] = _
      rw [eb]; rfl
    | cons c m =>
      obtain ⟨c', m', e, hc⟩ := hz
      have hcc : c = c' := (List.cons.inj e).1
      subst hcc
      have hp := num_pos (c :: m) hm ⟨c, m, rfl, hc⟩
      rw [dec_step (by omega), show (10 * num (c :: m) + (b.toNat - 48)) / 10 = num (c :: m) by omega, show (10 * num (c :: m) + (b.toNat - 48)) % 10 = b.toNat - 48 by omega, eb, ih (c :: m) hm ⟨c, m, rfl, hc⟩ (by simp at hn ⊢; omega)]
theorem valB_snoc (ds : List Nat) (x : Nat) : valB (ds ++ [x]) = valB ds + 10 ^ (9 * ds.length) * x := by
  induction ds with
  | nil => simp [valB]
  | cons d l ih =>
    rw [List.cons_append, valB, valB, ih, List.length_cons, show 9 * (l.length + 1) = 9 * l.length + 9 by omega, Nat.pow_add, Nat.mul_add, Nat.mul_comm (10 ^ (9 * l.length)) (10 ^ 9), Nat.mul_assoc, ← Nat.add_assoc]
theorem read_step {t : List UInt8} {ds : List Nat} {e fr x : Nat} (he : e ≤ t.length) (hfe : fr ≤ e) (hl : 9 * ds.length + e = t.length) (hv : valB ds = num (t.drop e)) (hx : x = num ((t.take e).drop fr)) :
    valB (ds ++ [x]) = num (t.drop fr) := by
  have e1 : t.drop fr = (t.take e).drop fr ++ t.drop e := by
    conv => lhs; rw [← List.take_append_drop e t]
    rw [List.drop_append_of_le_length (by rw [List.length_take]; omega)]
  rw [e1, num_append, valB_snoc, hv, hx, List.length_drop, show t.length - e = 9 * ds.length by omega, Nat.mul_comm]
  omega
theorem take_next {t : List UInt8} {fr i : Nat} {b : UInt8} (h : t[i]? = some b) (hfi : fr ≤ i) : (t.take (i + 1)).drop fr = (t.take i).drop fr ++ [b] := by
  have hl : i < t.length := (List.getElem?_eq_some_iff.1 h).1
  rw [List.take_add_one, h]
  rw [List.drop_append_of_le_length (by rw [List.length_take]; omega)]; rfl
def u32s (l : List Nat) : List Value := l.map (fun d : Nat => Value.int .u32 (d : Int))
theorem u32s_snoc (l : List Nat) (d : Nat) : u32s l ++ [.int .u32 (d : Int)] = u32s (l ++ [d]) := by unfold u32s; simp
theorem u32s_at {l : List Nat} {j d : Nat} (h : l[j]? = some d) : (u32s l)[j]? = some (.int .u32 (d : Int)) := by unfold u32s; rw [List.getElem?_map, h]; rfl
/-- a step of an append of limbs -/
theorem r_step {B m : Nat} {W0 wr w1 : World} {v4 v' : Value} {ds : List Nat} {x : Nat} {o : Obj} (hown : wr.ownsRow B 80 1 v4 m (u32s ds)) (hbel : Below B W0 wr) (hsz : B ≤ wr.heap.size)
    (hown' : w1.ownsRow B 80 1 v' (m + 1) (u32s ds ++ [.int .u32 (x : Int)])) (hgrow : (wr.alloc o).grownBy w1 v4.ownBlock) :
    w1.ownsRow B 80 1 v' (m + 1) (u32s (ds ++ [x])) ∧ Below B W0 w1 ∧ B ≤ w1.heap.size :=
  ⟨by rw [← u32s_snoc]; exact hown', (hbel.alloc hsz o).grown hgrow (by simp; omega) (fun j hj => (hown.lt j hj).1), by have := hgrow.size; simp at this; omega⟩
/-- the loop over limbs keeps -/
def RRel (B n : Nat) (W0 : World) (t : List UInt8) (v4 v5 : Value) (wr : World) : Prop :=
  ∃ (k : Nat) (ds : List Nat), 9 * k < n + 9 ∧ v5 = .int .i64 ((n : Int) - 9 * k) ∧ ds.length = k ∧ valB ds = num (t.drop (n - 9 * k)) ∧ (∀ x ∈ ds, x < 1000000000) ∧ wr.ownsRow B 80 1 v4 k (u32s ds) ∧ Below B W0 wr ∧ B ≤ wr.heap.size
set_option maxHeartbeats 4000000 in
theorem spec_read (s : ByteArray) (hs0 : 0 < s.size) (hs : s.size ≤ 41) (sg : Bool) (t : List UInt8) (hsg : bt s 0 = 45 ↔ sg = true) (ht : t = if sg then (L s).drop 1 else L s) (ht0 : 0 < t.length) (hd : By.digs t = true) (w : World) :
    Calls Try.prog 50 #[.string s] w fun e w' => ∃ g c ds, e = .returned (kept sg g 0 c (top ds)) ∧ valB ds = num t ∧ ds.length < 100 ∧ (∀ x ∈ ds, x < 1000000000) ∧ ds.length ≤ c ∧ At w' g ds ∧ Below w.heap.size w w' := by
  obtain ⟨i0, hif, hz0, hz1, hz2⟩ := info_parts (show (Try.prog.info? 80).map (fun i => (i.zero, i.size, i.bytes)) = some (some (.int .u32 0), 1, 4) from by kernel_rfl)
  have HI : Hid (Try.prog.info? 80 = some i0 ∧ i0.zero = some (.int .u32 0) ∧ i0.size = 1 ∧ i0.bytes = 4) := ⟨hif, hz0, hz1, hz2⟩
  clear hif hz0 hz1 hz2
  have hx0 : ∀ h : 0 < s.size, ((s[0]'h).toNat : Int) = bt s 0 := bt_at s 0
  cases sg
  · have h45 : (bt s 0 == 45) = false := beq_eq_false_iff_ne.2 (fun e => by have := hsg.1 e; cases this)
    clear hsg
    go_enter Try.func50, Try.ntmps50
    go_wp2_with (fail)
    have hs2 : s.size = s.size := rfl
    have HT2 : Hid (L s = t) := by show L s = t; rw [ht]; rfl
    obtain ⟨n, hn⟩ : ∃ n, s.size = n := ⟨_, rfl⟩
    have hnt : t.length = n := by rw [← HT2.out, L_length]; exact hn
    have HN : Hid (s.size = n) := hn
    rw [hn] at hs hs0
    rw [hn]
    have HD : Hid (By.digs t = true) := hd
    have hn41 : n ≤ 41 := by omega
    rw [hnt] at ht0
    clear ht hd hs2
    have HB0 : Hid (Below (w.heap.size + 1) (w.alloc (Obj.cells #[Value.int IntKind.i64 0, Value.bool false, Value.slice none 0 0] 73)) (w.alloc (Obj.cells #[Value.int IntKind.i64 0, Value.bool false, Value.slice none 0 0] 73))) := Below.refl _ _
    go_loopw [4, 5] (fun v4 v5 wr => RRel (w.heap.size + 1) n (w.alloc (Obj.cells #[Value.int IntKind.i64 0, Value.bool false, Value.slice none 0 0] 73)) t v4 v5 wr) (fun _ v5 _ => (intOf v5 + 9).toNat)
    case atStart => exact ⟨0, [], by omega, by first | rfl | go_num | (simp), rfl, by rw [List.drop_eq_nil_of_le (by omega)]; rfl, by simp, World.ownsRow_nil _ _ _ _, Below.refl _ _, by simp⟩
    case round =>
      obtain ⟨k, ds, hk9, rfl, hk, hv, hlt, hown, hbel, hsz⟩ := hrel
      have HO : Hid (wr.ownsRow (w.heap.size + 1) 80 1 u4 k (u32s ds)) := hown
      have HB : Hid (Below (w.heap.size + 1) (w.alloc (Obj.cells #[Value.int IntKind.i64 0, Value.bool false, Value.slice none 0 0] 73)) wr) := hbel
      have HV : Hid (valB ds = num (t.drop (n - 9 * k))) := hv
      have HLT : Hid (∀ x ∈ ds, x < 1000000000) := hlt
      clear hown hbel hv hlt
      by_cases hend : 9 * k < n
      · obtain ⟨e, he⟩ : ∃ e : Nat, (n : Int) - 9 * k = e := ⟨n - 9 * k, by omega⟩
        rw [he]
        have hen : e + 9 * k = n := by omega
        have he0 : 0 < e := by omega
        clear he hend
        by_cases he9 : 9 ≤ e
        · obtain ⟨fr, rfl⟩ : ∃ fr, e = fr + 9 := ⟨e - 9, by omega⟩
          go_wp2_with (go_in)
          go_loop [7, 8] (fun v7 v8 => ∃ i : Nat, fr ≤ i ∧ i ≤ (fr + 9) ∧ v8 = .int .i64 i ∧ v7 = .int .u32 (num ((t.take i).drop fr) : Nat)) (fun _ v8 => (fr + 9) - (intOf v8).toNat)
          case atStart => exact ⟨fr, Nat.le_refl _, by omega, by first | rfl | go_num, by rw [List.drop_eq_nil_of_le (by rw [List.length_take]; omega)]; rfl⟩
          case round =>
            obtain ⟨i, hi1, hi2, rfl, rfl⟩ := hrel
            by_cases hie : i < (fr + 9)
            · obtain ⟨b, hb⟩ : ∃ b, t[i]? = some b := ⟨_, List.getElem?_eq_getElem (by omega)⟩
              have hbd := dig_dgt (digs_mem HD.out b (List.mem_of_getElem? hb))
              obtain ⟨c, hc⟩ : ∃ c, b.toNat = 48 + c := ⟨b.toNat - 48, by omega⟩
              have hc9 : c < 10 := by omega
              have HBT : Hid (t[i]? = some b) := hb
              have HCB : Hid (b.toNat = 48 + c) := hc
              have hxi : ∀ h : i < s.size, ((s[i]'h).toNat : Int) = 48 + (c : Int) := fun h => by
                have h1 := bt_at s (i : Int) h
                have h2 := bt_get s i h
                have h3 : (L s)[i]? = some b := by rw [HT2.out]; exact HBT.out
                rw [List.getElem?_eq_getElem (by rw [L_length]; exact h)] at h3
                rw [Option.some.inj h3, HCB.out] at h2
                have h4 : ((s[i]'h).toNat : Int) = bt s i := h1
                rw [h4, h2]; omega
              obtain ⟨x, hx⟩ : ∃ x, num ((t.take i).drop fr) = x := ⟨_, rfl⟩
              have HX : Hid (num ((t.take i).drop fr) = x) := hx
              have hx8 : x < 100000000 := by
                rw [← hx]
                refine Nat.lt_of_lt_of_le (num_lt _ (digs_sub HD.out (fun b hb => List.mem_of_mem_take (List.mem_of_mem_drop hb)))) ?_
                refine Nat.le_trans (Nat.pow_le_pow_right (by omega) (show _ ≤ 8 by rw [List.length_drop, List.length_take]; omega)) (by decide)
              rw [hx]
              clear hx hb hc hbd
              go_wp2_with (go_in)
              go_round
              case rel => exact ⟨i + 1, by omega, by omega, by go_num, by rw [take_next HBT.out hi1, num_snoc, HX.out, HCB.out]; go_num⟩
              case measure => simp [intOf]; omega
            · have hie2 : i = (fr + 9) := by omega
              subst i
              obtain ⟨x, hx⟩ : ∃ x, num ((t.take (fr + 9)).drop fr) = x := ⟨_, rfl⟩
              have HX : Hid (num ((t.take (fr + 9)).drop fr) = x) := hx
              rw [hx]
              clear hx
              go_wp2_with (first | (at_builtin; refine wpList_append_own _ rfl _ _ 71 rfl (w.heap.size + 1) 80 i0 (.int .u32 0) 1 4 Try.underlying71 HI.out.1 HI.out.2.1 HI.out.2.2.1 HI.out.2.2.2 rfl (by decide) _ _ _ rfl (HO.out.alloc _) ⟨wr.heap.size, 0, none⟩ 1 1 [_] rfl rfl (cell_one_new _ _ _) (by simp [Value.oneCell']) (by unfold maxLen; omega) (by omega) (by simp; omega) ?_; intro v' w9 hown' hgrow' _) | go_in)
              obtain ⟨ha, hb', hc'⟩ := r_step (x := x) HO.out HB.out hsz hown' hgrow'
              refine ⟨⟨k + 1, ds ++ [x], by omega, by simp only [Value.int.injEq, true_and]; omega, by rw [List.length_append, hk]; rfl, ?_, ?_, ha, hb', hc'⟩, by simp [intOf]; omega⟩
              · rw [show n - 9 * (k + 1) = fr by omega]
                exact read_step (e := (fr + 9)) (by omega) (by omega) (by rw [hk]; omega) (by rw [HV.out]; congr 2; omega) HX.out.symm
              · intro y hy
                rcases List.mem_append.1 hy with hy | hy
                · exact HLT.out y hy
                · rw [List.mem_singleton.1 hy, ← HX.out]
                  refine Nat.lt_of_lt_of_le (num_lt _ (digs_sub HD.out (fun b hb => List.mem_of_mem_take (List.mem_of_mem_drop hb)))) ?_
                  exact Nat.le_trans (Nat.pow_le_pow_right (by omega) (show _ ≤ 9 by rw [List.length_drop, List.length_take]; omega)) (by decide)
        · go_wp2_with (go_in)
          go_loop [7, 8] (fun v7 v8 => ∃ i : Nat, 0 ≤ i ∧ i ≤ e ∧ v8 = .int .i64 i ∧ v7 = .int .u32 (num ((t.take i).drop 0) : Nat)) (fun _ v8 => e - (intOf v8).toNat)
          case atStart => exact ⟨0, Nat.le_refl _, by omega, by first | rfl | go_num, by rw [List.drop_eq_nil_of_le (by rw [List.length_take]; omega)]; rfl⟩
          case round =>
            obtain ⟨i, hi1, hi2, rfl, rfl⟩ := hrel
            by_cases hie : i < e
            · obtain ⟨b, hb⟩ : ∃ b, t[i]? = some b := ⟨_, List.getElem?_eq_getElem (by omega)⟩
              have hbd := dig_dgt (digs_mem HD.out b (List.mem_of_getElem? hb))
              obtain ⟨c, hc⟩ : ∃ c, b.toNat = 48 + c := ⟨b.toNat - 48, by omega⟩
              have hc9 : c < 10 := by omega
              have HBT : Hid (t[i]? = some b) := hb
              have HCB : Hid (b.toNat = 48 + c) := hc
              have hxi : ∀ h : i < s.size, ((s[i]'h).toNat : Int) = 48 + (c : Int) := fun h => by
                have h1 := bt_at s (i : Int) h
                have h2 := bt_get s i h
                have h3 : (L s)[i]? = some b := by rw [HT2.out]; exact HBT.out
                rw [List.getElem?_eq_getElem (by rw [L_length]; exact h)] at h3
                rw [Option.some.inj h3, HCB.out] at h2
                have h4 : ((s[i]'h).toNat : Int) = bt s i := h1
                rw [h4, h2]; omega
              obtain ⟨x, hx⟩ : ∃ x, num ((t.take i).drop 0) = x := ⟨_, rfl⟩
              have HX : Hid (num ((t.take i).drop 0) = x) := hx
              have hx8 : x < 100000000 := by
                rw [← hx]
                refine Nat.lt_of_lt_of_le (num_lt _ (digs_sub HD.out (fun b hb => List.mem_of_mem_take (List.mem_of_mem_drop hb)))) ?_
                refine Nat.le_trans (Nat.pow_le_pow_right (by omega) (show _ ≤ 8 by rw [List.length_drop, List.length_take]; omega)) (by decide)
              rw [hx]
              clear hx hb hc hbd
              go_wp2_with (go_in)
              go_round
              case rel => exact ⟨i + 1, by omega, by omega, by go_num, by rw [take_next HBT.out hi1, num_snoc, HX.out, HCB.out]; go_num⟩
              case measure => simp [intOf]; omega
            · have hie2 : i = e := by omega
              subst i
              obtain ⟨x, hx⟩ : ∃ x, num ((t.take e).drop 0) = x := ⟨_, rfl⟩
              have HX : Hid (num ((t.take e).drop 0) = x) := hx
              rw [hx]
              clear hx
              go_wp2_with (first | (at_builtin; refine wpList_append_own _ rfl _ _ 71 rfl (w.heap.size + 1) 80 i0 (.int .u32 0) 1 4 Try.underlying71 HI.out.1 HI.out.2.1 HI.out.2.2.1 HI.out.2.2.2 rfl (by decide) _ _ _ rfl (HO.out.alloc _) ⟨wr.heap.size, 0, none⟩ 1 1 [_] rfl rfl (cell_one_new _ _ _) (by simp [Value.oneCell']) (by unfold maxLen; omega) (by omega) (by simp; omega) ?_; intro v' w9 hown' hgrow' _) | go_in)
              obtain ⟨ha, hb', hc'⟩ := r_step (x := x) HO.out HB.out hsz hown' hgrow'
              refine ⟨⟨k + 1, ds ++ [x], by omega, by simp only [Value.int.injEq, true_and]; omega, by rw [List.length_append, hk]; rfl, ?_, ?_, ha, hb', hc'⟩, by simp [intOf]; omega⟩
              · rw [show n - 9 * (k + 1) = 0 by omega]
                exact read_step (e := e) (by omega) (by omega) (by rw [hk]; omega) (by rw [HV.out]; congr 2; omega) HX.out.symm
              · intro y hy
                rcases List.mem_append.1 hy with hy | hy
                · exact HLT.out y hy
                · rw [List.mem_singleton.1 hy, ← HX.out]
                  refine Nat.lt_of_lt_of_le (num_lt _ (digs_sub HD.out (fun b hb => List.mem_of_mem_take (List.mem_of_mem_drop hb)))) ?_
                  exact Nat.le_trans (Nat.pow_le_pow_right (by omega) (show _ ≤ 9 by rw [List.length_drop, List.length_take]; omega)) (by decide)
      · have hk1 : 0 < k := by omega
        obtain ⟨g, cap, rfl⟩ : ∃ g cap, u4 = .slice (some ⟨g, 0, none⟩) k cap := by
          rcases HO.out.2 with ⟨_, h⟩ | ⟨g, cap, cur, rfl, _⟩
          · exact absurd h (by omega)
          · exact ⟨g, cap, rfl⟩
        have hgl := HO.out.lt g (by simp [Value.ownBlock])
        have hcap : k ≤ cap := by
          rcases HO.out.2 with ⟨h, _⟩ | ⟨g, cap', cur, h, _, _, h2, _⟩
          · cases h
          · cases h; exact h2
        have HR : Hid (∀ (j x : Nat), ds[j]? = some x → wr.cell? ⟨g, 0 + j, none⟩ = some (.int .u32 (x : Int))) := by
          intro j x hj
          have hjl := (List.getElem?_eq_some_iff.1 hj).1
          rw [Nat.zero_add, HO.out.cellAt j (by omega)]; exact u32s_at hj
        have HVT : Hid (valB ds = num t) := by show _ = _; rw [HV.out, show n - 9 * k = 0 by omega]; rfl
        have hkd : k = ds.length := hk.symm
        subst hkd
        have HM := spec_make false g 0 cap ds wr hgl.2 hcap (by omega) HLT.out HR.out
        have HMM : Hid (Calls Try.prog 55 #[.bool false, .slice (some ⟨g, 0, none⟩) ds.length cap] wr fun e w' => e = .returned (kept false g 0 cap (top ds)) ∧ Below wr.heap.size wr w') := HM
        clear HM
        obtain ⟨v, b, sl, l, kk, hkp⟩ := kept_cases false g 0 cap (top ds)
        have HK : Hid (kept false g 0 cap (top ds) = .agg #[.int .i64 v, .bool b, .slice sl l kk]) := hkp
        clear hkp
        go_wp2_with (fail)
        refine HMM.out.mono ?_
        rintro e w2 ⟨rfl, hb2⟩
        rw [HK.out]
        have hb1 : Below (w.heap.size + 1) (w.alloc (Obj.cells #[Value.int IntKind.i64 0, Value.bool false, Value.slice none 0 0] 73)) w2 := HB.out.trans (hb2.mono hsz)
        have q0 : w2.cell? ⟨w.heap.size, 0, none⟩ = some (.int .i64 0) := by rw [hb1.cell (p := ⟨w.heap.size, 0, none⟩) (by simp)]; exact World.cell?_alloc_at _ _ _ _ rfl
        have q3 : w2.frozen? ⟨w.heap.size, 0, none⟩ = false := by rw [hb1.frozen (p := ⟨w.heap.size, 0, none⟩) (by simp)]; exact World.frozen?_alloc_at _ _ _ _ rfl
        have q1 : w2.cell? ⟨w.heap.size, 1, none⟩ = some (.bool false) := by rw [hb1.cell (p := ⟨w.heap.size, 1, none⟩) (by simp)]; exact World.cell?_alloc_at _ _ _ _ rfl
        have q4 : w2.frozen? ⟨w.heap.size, 1, none⟩ = false := by rw [hb1.frozen (p := ⟨w.heap.size, 1, none⟩) (by simp)]; exact World.frozen?_alloc_at _ _ _ _ rfl
        have q2 : w2.cell? ⟨w.heap.size, 2, none⟩ = some (.slice none 0 0) := by rw [hb1.cell (p := ⟨w.heap.size, 2, none⟩) (by simp)]; exact World.cell?_alloc_at _ _ _ _ rfl
        have q5 : w2.frozen? ⟨w.heap.size, 2, none⟩ = false := by rw [hb1.frozen (p := ⟨w.heap.size, 2, none⟩) (by simp)]; exact World.frozen?_alloc_at _ _ _ _ rfl
        have HR2 : Hid (∀ (j x : Nat), ds[j]? = some x → w2.cell? ⟨g, 0 + j, none⟩ = some (.int .u32 (x : Int))) := fun j x hj => by
          rw [hb2.cell (p := ⟨g, 0 + j, none⟩) hgl.2]; exact HR.out j x hj
        have HB2 : Hid (Below (w.heap.size + 1) (w.alloc (Obj.cells #[Value.int IntKind.i64 0, Value.bool false, Value.slice none 0 0] 73)) w2) := hb1
        have hgz : g < w2.heap.size := Nat.lt_of_lt_of_le hgl.2 hb2.size
        have hgne : g ≠ w.heap.size := by omega
        clear hb1 hb2
        go_wp2_with (fail)
        exact bodyPost_ret (v := .agg #[.int .i64 v, .bool b, .slice sl l kk]) (by simp [results, Try.results50, go_sem, q0, q1, q2, q3, q4, q5]) rfl ⟨g, cap, ds, by rw [HK.out], HVT.out, by omega, HLT.out, hcap, ⟨by simp; omega, fun j x hj => by
          rw [← HR2.out j x hj]; simp [go_sem, hgne]⟩, qbelow HB2.out⟩
  · have h45 : bt s 0 = 45 := hsg.2 rfl
    clear hsg
    go_enter Try.func50, Try.ntmps50
    go_wp2_with (fail)
    obtain ⟨s2, hs2⟩ : ∃ s2, s.extract 1 s.size = s2 := ⟨_, rfl⟩
    have HT2 : Hid (L s2 = t) := by show L s2 = t; rw [ht, ← hs2, L_extract_end]; rfl
    obtain ⟨n, hn0⟩ : ∃ n, s.size - 1 = n := ⟨_, rfl⟩
    have hn : s2.size = n := by rw [← hs2, size_extract_end]; exact hn0
    have hnt : t.length = n := by rw [← HT2.out, L_length]; exact hn
    rw [hs2, hn0]
    have HD : Hid (By.digs t = true) := hd
    have hn41 : n ≤ 41 := by omega
    rw [hnt] at ht0
    clear ht hd hs2
    have HB0 : Hid (Below (w.heap.size + 1) (w.alloc (Obj.cells #[Value.int IntKind.i64 0, Value.bool false, Value.slice none 0 0] 73)) (w.alloc (Obj.cells #[Value.int IntKind.i64 0, Value.bool false, Value.slice none 0 0] 73))) := Below.refl _ _
    go_loopw [4, 5] (fun v4 v5 wr => RRel (w.heap.size + 1) n (w.alloc (Obj.cells #[Value.int IntKind.i64 0, Value.bool false, Value.slice none 0 0] 73)) t v4 v5 wr) (fun _ v5 _ => (intOf v5 + 9).toNat)
    case atStart => exact ⟨0, [], by omega, by first | rfl | go_num | (simp), rfl, by rw [List.drop_eq_nil_of_le (by omega)]; rfl, by simp, World.ownsRow_nil _ _ _ _, Below.refl _ _, by simp⟩
    case round =>
      obtain ⟨k, ds, hk9, rfl, hk, hv, hlt, hown, hbel, hsz⟩ := hrel
      have HO : Hid (wr.ownsRow (w.heap.size + 1) 80 1 u4 k (u32s ds)) := hown
      have HB : Hid (Below (w.heap.size + 1) (w.alloc (Obj.cells #[Value.int IntKind.i64 0, Value.bool false, Value.slice none 0 0] 73)) wr) := hbel
      have HV : Hid (valB ds = num (t.drop (n - 9 * k))) := hv
      have HLT : Hid (∀ x ∈ ds, x < 1000000000) := hlt
      clear hown hbel hv hlt
      by_cases hend : 9 * k < n
      · obtain ⟨e, he⟩ : ∃ e : Nat, (n : Int) - 9 * k = e := ⟨n - 9 * k, by omega⟩
        rw [he]
        have hen : e + 9 * k = n := by omega
        have he0 : 0 < e := by omega
        clear he hend
        by_cases he9 : 9 ≤ e
        · obtain ⟨fr, rfl⟩ : ∃ fr, e = fr + 9 := ⟨e - 9, by omega⟩
          go_wp2_with (go_in)
          go_loop [7, 8] (fun v7 v8 => ∃ i : Nat, fr ≤ i ∧ i ≤ (fr + 9) ∧ v8 = .int .i64 i ∧ v7 = .int .u32 (num ((t.take i).drop fr) : Nat)) (fun _ v8 => (fr + 9) - (intOf v8).toNat)
          case atStart => exact ⟨fr, Nat.le_refl _, by omega, by first | rfl | go_num, by rw [List.drop_eq_nil_of_le (by rw [List.length_take]; omega)]; rfl⟩
          case round =>
            obtain ⟨i, hi1, hi2, rfl, rfl⟩ := hrel
            by_cases hie : i < (fr + 9)
            · obtain ⟨b, hb⟩ : ∃ b, t[i]? = some b := ⟨_, List.getElem?_eq_getElem (by omega)⟩
              have hbd := dig_dgt (digs_mem HD.out b (List.mem_of_getElem? hb))
              obtain ⟨c, hc⟩ : ∃ c, b.toNat = 48 + c := ⟨b.toNat - 48, by omega⟩
              have hc9 : c < 10 := by omega
              have HBT : Hid (t[i]? = some b) := hb
              have HCB : Hid (b.toNat = 48 + c) := hc
              have hxi : ∀ h : i < s2.size, ((s2[i]'h).toNat : Int) = 48 + (c : Int) := fun h => by
                have h1 := bt_at s2 (i : Int) h
                have h2 := bt_get s2 i h
                have h3 : (L s2)[i]? = some b := by rw [HT2.out]; exact HBT.out
                rw [List.getElem?_eq_getElem (by rw [L_length]; exact h)] at h3
                rw [Option.some.inj h3, HCB.out] at h2
                have h4 : ((s2[i]'h).toNat : Int) = bt s2 i := h1
                rw [h4, h2]; omega
              obtain ⟨x, hx⟩ : ∃ x, num ((t.take i).drop fr) = x := ⟨_, rfl⟩
              have HX : Hid (num ((t.take i).drop fr) = x) := hx
              have hx8 : x < 100000000 := by
                rw [← hx]
                refine Nat.lt_of_lt_of_le (num_lt _ (digs_sub HD.out (fun b hb => List.mem_of_mem_take (List.mem_of_mem_drop hb)))) ?_
                refine Nat.le_trans (Nat.pow_le_pow_right (by omega) (show _ ≤ 8 by rw [List.length_drop, List.length_take]; omega)) (by decide)
              rw [hx]
              clear hx hb hc hbd
              go_wp2_with (go_in)
              go_round
              case rel => exact ⟨i + 1, by omega, by omega, by go_num, by rw [take_next HBT.out hi1, num_snoc, HX.out, HCB.out]; go_num⟩
              case measure => simp [intOf]; omega
            · have hie2 : i = (fr + 9) := by omega
              subst i
              obtain ⟨x, hx⟩ : ∃ x, num ((t.take (fr + 9)).drop fr) = x := ⟨_, rfl⟩
              have HX : Hid (num ((t.take (fr + 9)).drop fr) = x) := hx
              rw [hx]
              clear hx
              go_wp2_with (first | (at_builtin; refine wpList_append_own _ rfl _ _ 71 rfl (w.heap.size + 1) 80 i0 (.int .u32 0) 1 4 Try.underlying71 HI.out.1 HI.out.2.1 HI.out.2.2.1 HI.out.2.2.2 rfl (by decide) _ _ _ rfl (HO.out.alloc _) ⟨wr.heap.size, 0, none⟩ 1 1 [_] rfl rfl (cell_one_new _ _ _) (by simp [Value.oneCell']) (by unfold maxLen; omega) (by omega) (by simp; omega) ?_; intro v' w9 hown' hgrow' _) | go_in)
              obtain ⟨ha, hb', hc'⟩ := r_step (x := x) HO.out HB.out hsz hown' hgrow'
              refine ⟨⟨k + 1, ds ++ [x], by omega, by simp only [Value.int.injEq, true_and]; omega, by rw [List.length_append, hk]; rfl, ?_, ?_, ha, hb', hc'⟩, by simp [intOf]; omega⟩
              · rw [show n - 9 * (k + 1) = fr by omega]
                exact read_step (e := (fr + 9)) (by omega) (by omega) (by rw [hk]; omega) (by rw [HV.out]; congr 2; omega) HX.out.symm
              · intro y hy
                rcases List.mem_append.1 hy with hy | hy
                · exact HLT.out y hy
                · rw [List.mem_singleton.1 hy, ← HX.out]
                  refine Nat.lt_of_lt_of_le (num_lt _ (digs_sub HD.out (fun b hb => List.mem_of_mem_take (List.mem_of_mem_drop hb)))) ?_
                  exact Nat.le_trans (Nat.pow_le_pow_right (by omega) (show _ ≤ 9 by rw [List.length_drop, List.length_take]; omega)) (by decide)
        · go_wp2_with (go_in)
          go_loop [7, 8] (fun v7 v8 => ∃ i : Nat, 0 ≤ i ∧ i ≤ e ∧ v8 = .int .i64 i ∧ v7 = .int .u32 (num ((t.take i).drop 0) : Nat)) (fun _ v8 => e - (intOf v8).toNat)
          case atStart => exact ⟨0, Nat.le_refl _, by omega, by first | rfl | go_num, by rw [List.drop_eq_nil_of_le (by rw [List.length_take]; omega)]; rfl⟩
          case round =>
            obtain ⟨i, hi1, hi2, rfl, rfl⟩ := hrel
            by_cases hie : i < e
            · obtain ⟨b, hb⟩ : ∃ b, t[i]? = some b := ⟨_, List.getElem?_eq_getElem (by omega)⟩
              have hbd := dig_dgt (digs_mem HD.out b (List.mem_of_getElem? hb))
              obtain ⟨c, hc⟩ : ∃ c, b.toNat = 48 + c := ⟨b.toNat - 48, by omega⟩
              have hc9 : c < 10 := by omega
              have HBT : Hid (t[i]? = some b) := hb
              have HCB : Hid (b.toNat = 48 + c) := hc
              have hxi : ∀ h : i < s2.size, ((s2[i]'h).toNat : Int) = 48 + (c : Int) := fun h => by
                have h1 := bt_at s2 (i : Int) h
                have h2 := bt_get s2 i h
                have h3 : (L s2)[i]? = some b := by rw [HT2.out]; exact HBT.out
                rw [List.getElem?_eq_getElem (by rw [L_length]; exact h)] at h3
                rw [Option.some.inj h3, HCB.out] at h2
                have h4 : ((s2[i]'h).toNat : Int) = bt s2 i := h1
                rw [h4, h2]; omega
              obtain ⟨x, hx⟩ : ∃ x, num ((t.take i).drop 0) = x := ⟨_, rfl⟩
              have HX : Hid (num ((t.take i).drop 0) = x) := hx
              have hx8 : x < 100000000 := by
                rw [← hx]
                refine Nat.lt_of_lt_of_le (num_lt _ (digs_sub HD.out (fun b hb => List.mem_of_mem_take (List.mem_of_mem_drop hb)))) ?_
                refine Nat.le_trans (Nat.pow_le_pow_right (by omega) (show _ ≤ 8 by rw [List.length_drop, List.length_take]; omega)) (by decide)
              rw [hx]
              clear hx hb hc hbd
              go_wp2_with (go_in)
              go_round
              case rel => exact ⟨i + 1, by omega, by omega, by go_num, by rw [take_next HBT.out hi1, num_snoc, HX.out, HCB.out]; go_num⟩
              case measure => simp [intOf]; omega
            · have hie2 : i = e := by omega
              subst i
              obtain ⟨x, hx⟩ : ∃ x, num ((t.take e).drop 0) = x := ⟨_, rfl⟩
              have HX : Hid (num ((t.take e).drop 0) = x) := hx
              rw [hx]
              clear hx
              go_wp2_with (first | (at_builtin; refine wpList_append_own _ rfl _ _ 71 rfl (w.heap.size + 1) 80 i0 (.int .u32 0) 1 4 Try.underlying71 HI.out.1 HI.out.2.1 HI.out.2.2.1 HI.out.2.2.2 rfl (by decide) _ _ _ rfl (HO.out.alloc _) ⟨wr.heap.size, 0, none⟩ 1 1 [_] rfl rfl (cell_one_new _ _ _) (by simp [Value.oneCell']) (by unfold maxLen; omega) (by omega) (by simp; omega) ?_; intro v' w9 hown' hgrow' _) | go_in)
              obtain ⟨ha, hb', hc'⟩ := r_step (x := x) HO.out HB.out hsz hown' hgrow'
              refine ⟨⟨k + 1, ds ++ [x], by omega, by simp only [Value.int.injEq, true_and]; omega, by rw [List.length_append, hk]; rfl, ?_, ?_, ha, hb', hc'⟩, by simp [intOf]; omega⟩
              · rw [show n - 9 * (k + 1) = 0 by omega]
                exact read_step (e := e) (by omega) (by omega) (by rw [hk]; omega) (by rw [HV.out]; congr 2; omega) HX.out.symm
              · intro y hy
                rcases List.mem_append.1 hy with hy | hy
                · exact HLT.out y hy
                · rw [List.mem_singleton.1 hy, ← HX.out]
                  refine Nat.lt_of_lt_of_le (num_lt _ (digs_sub HD.out (fun b hb => List.mem_of_mem_take (List.mem_of_mem_drop hb)))) ?_
                  exact Nat.le_trans (Nat.pow_le_pow_right (by omega) (show _ ≤ 9 by rw [List.length_drop, List.length_take]; omega)) (by decide)
      · have hk1 : 0 < k := by omega
        obtain ⟨g, cap, rfl⟩ : ∃ g cap, u4 = .slice (some ⟨g, 0, none⟩) k cap := by
          rcases HO.out.2 with ⟨_, h⟩ | ⟨g, cap, cur, rfl, _⟩
          · exact absurd h (by omega)
          · exact ⟨g, cap, rfl⟩
        have hgl := HO.out.lt g (by simp [Value.ownBlock])
        have hcap : k ≤ cap := by
          rcases HO.out.2 with ⟨h, _⟩ | ⟨g, cap', cur, h, _, _, h2, _⟩
          · cases h
          · cases h; exact h2
        have HR : Hid (∀ (j x : Nat), ds[j]? = some x → wr.cell? ⟨g, 0 + j, none⟩ = some (.int .u32 (x : Int))) := by
          intro j x hj
          have hjl := (List.getElem?_eq_some_iff.1 hj).1
          rw [Nat.zero_add, HO.out.cellAt j (by omega)]; exact u32s_at hj
        have HVT : Hid (valB ds = num t) := by show _ = _; rw [HV.out, show n - 9 * k = 0 by omega]; rfl
        have hkd : k = ds.length := hk.symm
        subst hkd
        have HM := spec_make true g 0 cap ds wr hgl.2 hcap (by omega) HLT.out HR.out
        have HMM : Hid (Calls Try.prog 55 #[.bool true, .slice (some ⟨g, 0, none⟩) ds.length cap] wr fun e w' => e = .returned (kept true g 0 cap (top ds)) ∧ Below wr.heap.size wr w') := HM
        clear HM
        obtain ⟨v, b, sl, l, kk, hkp⟩ := kept_cases true g 0 cap (top ds)
        have HK : Hid (kept true g 0 cap (top ds) = .agg #[.int .i64 v, .bool b, .slice sl l kk]) := hkp
        clear hkp
        go_wp2_with (fail)
        refine HMM.out.mono ?_
        rintro e w2 ⟨rfl, hb2⟩
        rw [HK.out]
        have hb1 : Below (w.heap.size + 1) (w.alloc (Obj.cells #[Value.int IntKind.i64 0, Value.bool false, Value.slice none 0 0] 73)) w2 := HB.out.trans (hb2.mono hsz)
        have q0 : w2.cell? ⟨w.heap.size, 0, none⟩ = some (.int .i64 0) := by rw [hb1.cell (p := ⟨w.heap.size, 0, none⟩) (by simp)]; exact World.cell?_alloc_at _ _ _ _ rfl
        have q3 : w2.frozen? ⟨w.heap.size, 0, none⟩ = false := by rw [hb1.frozen (p := ⟨w.heap.size, 0, none⟩) (by simp)]; exact World.frozen?_alloc_at _ _ _ _ rfl
        have q1 : w2.cell? ⟨w.heap.size, 1, none⟩ = some (.bool false) := by rw [hb1.cell (p := ⟨w.heap.size, 1, none⟩) (by simp)]; exact World.cell?_alloc_at _ _ _ _ rfl
        have q4 : w2.frozen? ⟨w.heap.size, 1, none⟩ = false := by rw [hb1.frozen (p := ⟨w.heap.size, 1, none⟩) (by simp)]; exact World.frozen?_alloc_at _ _ _ _ rfl
        have q2 : w2.cell? ⟨w.heap.size, 2, none⟩ = some (.slice none 0 0) := by rw [hb1.cell (p := ⟨w.heap.size, 2, none⟩) (by simp)]; exact World.cell?_alloc_at _ _ _ _ rfl
        have q5 : w2.frozen? ⟨w.heap.size, 2, none⟩ = false := by rw [hb1.frozen (p := ⟨w.heap.size, 2, none⟩) (by simp)]; exact World.frozen?_alloc_at _ _ _ _ rfl
        have HR2 : Hid (∀ (j x : Nat), ds[j]? = some x → w2.cell? ⟨g, 0 + j, none⟩ = some (.int .u32 (x : Int))) := fun j x hj => by
          rw [hb2.cell (p := ⟨g, 0 + j, none⟩) hgl.2]; exact HR.out j x hj
        have HB2 : Hid (Below (w.heap.size + 1) (w.alloc (Obj.cells #[Value.int IntKind.i64 0, Value.bool false, Value.slice none 0 0] 73)) w2) := hb1
        have hgz : g < w2.heap.size := Nat.lt_of_lt_of_le hgl.2 hb2.size
        have hgne : g ≠ w.heap.size := by omega
        clear hb1 hb2
        go_wp2_with (fail)
        exact bodyPost_ret (v := .agg #[.int .i64 v, .bool b, .slice sl l kk]) (by simp [results, Try.results50, go_sem, q0, q1, q2, q3, q4, q5]) rfl ⟨g, cap, ds, by rw [HK.out], HVT.out, by omega, HLT.out, hcap, ⟨by simp; omega, fun j x hj => by
          rw [← HR2.out j x hj]; simp [go_sem, hgne]⟩, qbelow HB2.out⟩
end Go.Proofs.Ytljjenkaofcppaa.Limb

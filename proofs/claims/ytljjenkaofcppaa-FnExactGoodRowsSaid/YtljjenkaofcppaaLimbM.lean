/- spec.l1Make, by a walk: limbs without the zeros at the end; a number below 10^18 in one word. -/
import Derived.Test.YtljjenkaofcppaaLimbA
namespace Go.Proofs.Ytljjenkaofcppaa.Limb
open Go.RowKit Go.Proofs.YtljjenkaofcppaaW.PrintWords Go.Proofs.YtljjenkaofcppaaW.PrintLast Go.Proofs.Ytljjenkaofcppaa Go.Proofs.Ytljjenkaofcppaa.By Go.Proofs.Ytljjenkaofcppaa.Dig
set_option linter.unusedVariables false
set_option linter.unusedSimpArgs false
set_option maxRecDepth 100000
theorem top_take (xs : List Nat) {m x : Nat} (h : xs[m]? = some x) : top (xs.take (m + 1)) = if x = 0 then top (xs.take m) else xs.take (m + 1) := by
  have : xs.take (m + 1) = xs.take m ++ [x] := by rw [List.take_add_one, h]; rfl
  rw [this, top_snoc]
theorem valB_drop (xs : List Nat) {m x : Nat} (h : xs[m]? = some x) : valB (xs.drop m) = x + 1000000000 * valB (xs.drop (m + 1)) := by
  obtain ⟨hl, he⟩ := List.getElem?_eq_some_iff.1 h
  rw [List.drop_eq_getElem_cons hl, he, valB]
theorem valB_two {xs : List Nat} (hl : xs.length ≤ 2) (h : ∀ x ∈ xs, x < 1000000000) : valB xs < 1000000000000000000 := by
  match xs, hl, h with
  | [], _, _ => simp [valB]
  | [a], _, h => have := h a (by simp); simp [valB]; omega
  | [a, b], _, h => have := h a (by simp); have := h b (by simp); simp [valB]; omega
/-- the number as spec.l1Make keeps it -/
def kept (ng : Bool) (g o c : Nat) (t : List Nat) : Value :=
  if 2 < t.length then .agg #[.int .i64 0, .bool ng, .slice (some ⟨g, o, none⟩) t.length c] else .agg #[.int .i64 (if ng = true then -(valB t : Int) else (valB t : Int)), .bool false, .slice none 0 0]
theorem valB_one {xs : List Nat} (hl : xs.length ≤ 1) (h : ∀ x ∈ xs, x < 1000000000) : valB xs < 1000000000 := by
  match xs, hl, h with
  | [], _, _ => simp [valB]
  | [a], _, h => have := h a (by simp); simp [valB]; omega
theorem kept_small {ng : Bool} {g o c : Nat} {t t' : List Nat} (ht : t = t') (hl : t'.length ≤ 2) (hb : valB t' < 1000000000000000000) {V : Int} (hV : V = if ng = true then wrap64 (-(valB t' : Int)) else (valB t' : Int)) :
    Ending.returned (.agg #[.int .i64 V, .bool false, .slice none 0 0]) = .returned (kept ng g o c t) := by
  subst ht
  have e : wrap64 (-(valB t : Int)) = -(valB t : Int) := by unfold wrap64; omega
  rw [e] at hV
  subst hV
  unfold kept
  rw [if_neg (show ¬ 2 < t.length by omega)]
theorem kept_big {ng : Bool} {g o c m : Nat} {t t' : List Nat} (ht : t = t') (hl : t'.length = m + 1) (hm : 2 ≤ m) :
    Ending.returned (.agg #[.int .i64 0, .bool ng, .slice (some ⟨g, o, none⟩) (m + 1) c]) = .returned (kept ng g o c t) := by
  subst ht
  unfold kept
  rw [if_pos (by omega), hl]
set_option maxHeartbeats 4000000 in
theorem spec_make (ng : Bool) (g o c : Nat) (xs : List Nat) (w : World) (hg : g < w.heap.size) (hc : xs.length ≤ c) (hl : xs.length < 1000) (hlt : ∀ x ∈ xs, x < 1000000000) (hx : ∀ (j x : Nat), xs[j]? = some x → w.cell? ⟨g, o + j, none⟩ = some (.int .u32 (x : Int))) :
    Calls Try.prog 55 #[.bool ng, .slice (some ⟨g, o, none⟩) xs.length c] w fun e w' => e = .returned (kept ng g o c (top xs)) ∧ Below w.heap.size w w' := by
  obtain ⟨n, hn⟩ : ∃ n, xs.length = n := ⟨_, rfl⟩
  have HN : Hid (xs.length = n) := hn
  rw [hn] at hc hl ⊢
  have hne : g ≠ w.heap.size := Nat.ne_of_lt hg
  have HX : Hid (∀ (j x : Nat), xs[j]? = some x → w.cell? ⟨g, o + j, none⟩ = some (.int .u32 (x : Int))) := hx
  clear hx hn
  go_enter Try.func55, Try.ntmps55
  go_wp2_with (fail)
  go_loop [5] (fun v => ∃ m : Nat, m ≤ n ∧ v = .int .i64 m ∧ Hid (top (xs.take m) = top xs)) (fun v => (intOf v).toNat)
  case atStart => exact ⟨n, Nat.le_refl _, by first | rfl | go_num, by show _ = _; rw [← HN.out, List.take_length]⟩
  case round =>
    obtain ⟨m, hm, rfl, HT⟩ := hrel
    rcases m with _ | m
    · go_wp2_with (go_in)
      have HTop : Hid (top xs = []) := by show _ = _; rw [← HT.out, List.take_zero]; rfl
      have HB9 : Hid (valB [] < 1000000000000000000) := by show _ < _; decide
      go_loop [6, 7] (fun v6 v7 => ∃ (i : Int), -1 ≤ i ∧ i < (0 : Nat) ∧ v7 = .int .i64 i ∧ v6 = .int .i64 (valB ((xs.take 0).drop (i + 1).toNat) : Nat)) (fun _ v7 => (intOf v7 + 1).toNat)
      case atStart => exact ⟨((0 : Nat) : Int) - 1, by omega, by omega, by first | rfl | go_num, by rw [show (((0 : Nat) : Int) - 1 + 1).toNat = 0 by omega, List.drop_eq_nil_of_le (by rw [List.length_take]; omega)]; first | rfl | simp [valB]⟩
      case round =>
        obtain ⟨i, hi0, hi1, rfl, rfl⟩ := hrel
        by_cases hneg : i = -1
        · subst hneg
          cases ng
          · go_wp2_with (go_in)
            exact bodyPost_ret (v := .agg #[.int .i64 (valB ([] : List Nat) : Nat), .bool false, .slice none 0 0]) (by simp [results, Try.results55, go_sem]) rfl ⟨kept_small HTop.out (by first | (rw [List.length_take]; omega) | simp) HB9.out rfl, (Below.refl _ _).alloc (Nat.le_refl _) _⟩
          · go_wp2_with (go_in)
            exact bodyPost_ret (v := .agg #[.int .i64 (wrap64 (-((valB ([] : List Nat) : Nat) : Int))), .bool false, .slice none 0 0]) (by simp [results, Try.results55, go_sem]) rfl ⟨kept_small HTop.out (by first | (rw [List.length_take]; omega) | simp) HB9.out rfl, (Below.refl _ _).alloc (Nat.le_refl _) _⟩
        · obtain ⟨j, rfl⟩ : ∃ j : Nat, i = j := ⟨i.toNat, by omega⟩
          obtain ⟨y, hy⟩ : ∃ y, xs[j]? = some y := ⟨_, List.getElem?_eq_getElem (by have := HN.out; omega)⟩
          have hcell2 := HX.out j y hy
          have hy9 : y < 1000000000 := hlt y (List.mem_of_getElem? hy)
          have HY : Hid ((xs.take 0)[j]? = some y) := by show _ = _; rw [List.getElem?_take, if_pos (by omega)]; exact hy
          have HVB : Hid (valB ((xs.take 0).drop j) = y + 1000000000 * valB ((xs.take 0).drop (j + 1))) := valB_drop _ HY.out
          have hvb : valB ((xs.take 0).drop (j + 1)) < 1000000000 := valB_one (by rw [List.length_drop, List.length_take]; omega) (fun x hx => hlt x (List.mem_of_mem_take (List.mem_of_mem_drop hx)))
          clear hy
          exact absurd hi1 (by omega)
    · obtain ⟨x, hxm⟩ : ∃ x, xs[m]? = some x := ⟨_, List.getElem?_eq_getElem (by have := HN.out; omega)⟩
      have hcell := HX.out m x hxm
      have HXM : Hid (xs[m]? = some x) := hxm
      have hx9 : x < 1000000000 := hlt x (List.mem_of_getElem? hxm)
      clear hxm
      by_cases hz : x = 0
      · subst hz
        go_wp2_with (go_in)
        go_round
        case rel => exact ⟨m, by omega, by go_num, by show _ = _; rw [← HT.out, top_take xs HXM.out, if_pos rfl]⟩
        case measure => simp [intOf]
      · have hz1 : ((x : Int) == 0) = false := beq_eq_false_iff_ne.2 (by omega)
        have HTop : Hid (top xs = xs.take (m + 1)) := by show _ = _; rw [← HT.out, top_take xs HXM.out, if_neg hz]
        by_cases h2 : 2 ≤ m
        · go_wp2_with (go_in)
          exact bodyPost_ret (v := .agg #[.int .i64 0, .bool ng, .slice (some ⟨g, o, none⟩) (m + 1) c]) (by simp [results, Try.results55, go_sem]) rfl ⟨kept_big HTop.out (by rw [List.length_take]; have := HN.out; omega) h2, (Below.refl _ _).alloc (Nat.le_refl _) _⟩
        · go_wp2_with (go_in)
          have HB9 : Hid (valB (xs.take (m + 1)) < 1000000000000000000) := valB_two (by rw [List.length_take]; omega) (fun x hx => hlt x (List.mem_of_mem_take hx))
          go_loop [6, 7] (fun v6 v7 => ∃ (i : Int), -1 ≤ i ∧ i < ((m + 1) : Nat) ∧ v7 = .int .i64 i ∧ v6 = .int .i64 (valB ((xs.take (m + 1)).drop (i + 1).toNat) : Nat)) (fun _ v7 => (intOf v7 + 1).toNat)
          case atStart => exact ⟨(((m + 1) : Nat) : Int) - 1, by omega, by omega, by first | rfl | go_num, by rw [show ((((m + 1) : Nat) : Int) - 1 + 1).toNat = (m + 1) by omega, List.drop_eq_nil_of_le (by rw [List.length_take]; omega)]; first | rfl | simp [valB]⟩
          case round =>
            obtain ⟨i, hi0, hi1, rfl, rfl⟩ := hrel
            by_cases hneg : i = -1
            · subst hneg
              cases ng
              · go_wp2_with (go_in)
                exact bodyPost_ret (v := .agg #[.int .i64 (valB (xs.take (m + 1)) : Nat), .bool false, .slice none 0 0]) (by simp [results, Try.results55, go_sem]) rfl ⟨kept_small HTop.out (by first | (rw [List.length_take]; omega) | simp) HB9.out rfl, (Below.refl _ _).alloc (Nat.le_refl _) _⟩
              · go_wp2_with (go_in)
                exact bodyPost_ret (v := .agg #[.int .i64 (wrap64 (-((valB (xs.take (m + 1)) : Nat) : Int))), .bool false, .slice none 0 0]) (by simp [results, Try.results55, go_sem]) rfl ⟨kept_small HTop.out (by first | (rw [List.length_take]; omega) | simp) HB9.out rfl, (Below.refl _ _).alloc (Nat.le_refl _) _⟩
            · obtain ⟨j, rfl⟩ : ∃ j : Nat, i = j := ⟨i.toNat, by omega⟩
              obtain ⟨y, hy⟩ : ∃ y, xs[j]? = some y := ⟨_, List.getElem?_eq_getElem (by have := HN.out; omega)⟩
              have hcell2 := HX.out j y hy
              have hy9 : y < 1000000000 := hlt y (List.mem_of_getElem? hy)
              have HY : Hid ((xs.take (m + 1))[j]? = some y) := by show _ = _; rw [List.getElem?_take, if_pos (by omega)]; exact hy
              have HVB : Hid (valB ((xs.take (m + 1)).drop j) = y + 1000000000 * valB ((xs.take (m + 1)).drop (j + 1))) := valB_drop _ HY.out
              have hvb : valB ((xs.take (m + 1)).drop (j + 1)) < 1000000000 := valB_one (by rw [List.length_drop, List.length_take]; omega) (fun x hx => hlt x (List.mem_of_mem_take (List.mem_of_mem_drop hx)))
              clear hy
              go_wp2_with (go_in)
              refine ⟨⟨(j : Int) - 1, by omega, by omega, rfl, ?_⟩, by simp [intOf]⟩
              rw [show ((j : Int) - 1 + 1).toNat = j by omega, HVB.out]
              congr 1
              omega
theorem kept_cases (ng : Bool) (g o c : Nat) (t : List Nat) : ∃ (v : Int) (b : Bool) (s : Option Addr) (l k : Nat), kept ng g o c t = .agg #[.int .i64 v, .bool b, .slice s l k] := by
  unfold kept; split
  · exact ⟨_, _, some ⟨g, o, none⟩, t.length, c, rfl⟩
  · exact ⟨_, _, none, 0, 0, rfl⟩
theorem qbelow {w wr : World} {o : Obj} {a b c : Value} (h : Below (w.heap.size + 1) (w.alloc o) wr) :
    Below w.heap.size w (((wr.setCell ⟨w.heap.size, 0, none⟩ a).setCell ⟨w.heap.size, 1, none⟩ b).setCell ⟨w.heap.size, 2, none⟩ c) :=
  ((((((Below.refl _ _).alloc (Nat.le_refl _) o).trans (h.mono (by omega))).setCell (Nat.le_refl _) _).setCell (Nat.le_refl _) _).setCell (Nat.le_refl _) _)
end Go.Proofs.Ytljjenkaofcppaa.Limb

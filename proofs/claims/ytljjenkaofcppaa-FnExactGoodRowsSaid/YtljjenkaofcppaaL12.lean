/- spec.l1Digits and spec.l12Text, by walks: an int text of at most forty digits. -/
import Derived.Test.YtljjenkaofcppaaRead
import Derived.Test.YtljjenkaofcppaaPureFnExactIsInt
namespace Go.Proofs.Ytljjenkaofcppaa.Limb
open Go.RowKit Go.Proofs.YtljjenkaofcppaaW.PrintWords Go.Proofs.YtljjenkaofcppaaW.PrintLast Go.Proofs.Ytljjenkaofcppaa Go.Proofs.Ytljjenkaofcppaa.By Go.Proofs.Ytljjenkaofcppaa.Dig
set_option linter.unusedVariables false
set_option linter.unusedSimpArgs false
set_option maxRecDepth 100000
theorem neg_kept (ng : Bool) (g c : Nat) (t : List Nat) (w : World) (ht : top t = t) :
    Calls Try.prog 54 #[kept ng g 0 c t] w fun e w' => e = .returned (.bool (ng && valB t != 0)) ∧ Below w.heap.size w w' := by
  unfold kept
  by_cases h2 : 2 < t.length
  · rw [if_pos h2]
    have hpos : 0 < valB t := valB_pos (by intro e; rw [e] at h2; simp at h2) ht
    have : (valB t != 0) = true := bne_iff_ne.2 (by omega)
    rw [this, Bool.and_true]
    exact spec_neg_big 0 ng _ _ _ (by omega) w
  · rw [if_neg h2]
    refine (spec_neg_small _ false w).mono ?_
    rintro e w' ⟨rfl, hb⟩
    refine ⟨?_, hb⟩
    congr 2
    cases ng
    · rw [if_neg (by simp)]; exact decide_eq_false (by omega)
    · rw [if_pos rfl]
      by_cases h0 : valB t = 0
      · rw [h0]; rfl
      · rw [show (true && valB t != 0) = true from bne_iff_ne.2 h0]; exact decide_eq_true (by omega)
theorem decText_size (ng : Bool) (u : Nat) : (decText ng u).size = (if (ng && u != 0) = true then 1 else 0) + (Lib.decDigits u).length := by
  show (decText ng u).data.size = _
  unfold decText
  rw [List.size_toArray, List.length_append]
  split <;> rfl
theorem digits_kept (ng : Bool) (g c : Nat) (t : List Nat) (w : World) (hA : At w g t) (ht : top t = t) (hlen : t.length < 100) (hlt : ∀ x ∈ t, x < 1000000000) (hc : t.length ≤ c) (n : Nat) (hn : (Lib.decDigits (valB t)).length = n) (hn1 : n < 1000) :
    Calls Try.prog 49 #[kept ng g 0 c t] w fun e w' => e = .returned (.int .i64 n) ∧ Below w.heap.size w w' := by
  have hT : ∀ W, Below w.heap.size w W → Calls Try.prog 53 #[kept ng g 0 c t] W fun e w' => e = .returned (.string (decText ng (valB t))) ∧ Below W.heap.size W w' := fun W hW =>
    text_kept ng g c t W ⟨Nat.lt_of_lt_of_le hA.1 hW.size, fun j x hj => by rw [hW.cell (p := ⟨g, 0 + j, none⟩) hA.1]; exact hA.2 j x hj⟩ ht hlen hlt hc
  have hN : ∀ w, Calls Try.prog 54 #[kept ng g 0 c t] w fun e w' => e = .returned (.bool (ng && valB t != 0)) ∧ Below w.heap.size w w' := fun w => neg_kept ng g c t w ht
  have hs := decText_size ng (valB t)
  rw [hn] at hs
  obtain ⟨X, hX⟩ : ∃ X, decText ng (valB t) = X := ⟨_, rfl⟩
  obtain ⟨B, hB⟩ : ∃ B, (ng && valB t != 0) = B := ⟨_, rfl⟩
  rw [hX] at hs
  simp only [hX] at hT
  rw [hB] at hs
  simp only [hB] at hN
  obtain ⟨v, b, sl, l, k, hkept⟩ := kept_cases ng g 0 c t
  rw [hkept]
  simp only [hkept] at hN hT
  have HT : Hid (∀ W, Below w.heap.size w W → Calls Try.prog 53 #[.agg #[.int .i64 v, .bool b, .slice sl l k]] W fun e w' => e = .returned (.string X) ∧ Below W.heap.size W w') := hT
  have HN : Hid (∀ w, Calls Try.prog 54 #[.agg #[.int .i64 v, .bool b, .slice sl l k]] w fun e w' => e = .returned (.bool B) ∧ Below w.heap.size w w') := hN
  clear hT hN hkept hA ht hlen hlt hc hn hX hB
  go_enter Try.func49, Try.ntmps49
  go_wp2_with (fail)
  refine Calls.mono (HT.out _ ((Below.refl _ _).alloc (Nat.le_refl _) _)) ?_
  rintro e w1 ⟨rfl, hb1⟩
  have q0 : w1.cell? ⟨w.heap.size, 0, none⟩ = some (.int .i64 v) := by rw [hb1.cell (p := ⟨w.heap.size, 0, none⟩) (by simp)]; exact World.cell?_alloc_at _ _ _ _ rfl
  have q1 : w1.cell? ⟨w.heap.size, 1, none⟩ = some (.bool b) := by rw [hb1.cell (p := ⟨w.heap.size, 1, none⟩) (by simp)]; exact World.cell?_alloc_at _ _ _ _ rfl
  have q2 : w1.cell? ⟨w.heap.size, 2, none⟩ = some (.slice sl l k) := by rw [hb1.cell (p := ⟨w.heap.size, 2, none⟩) (by simp)]; exact World.cell?_alloc_at _ _ _ _ rfl
  have HB1 : Hid (Below w.heap.size w w1) := ((Below.refl _ _).alloc (Nat.le_refl _) _).trans (hb1.mono (by simp))
  clear hb1
  go_wp2_with (fail)
  refine Calls.mono (HN.out _) ?_
  rintro e w2 ⟨rfl, hb2⟩
  have HB2 : Hid (Below w.heap.size w w2) := HB1.out.trans (hb2.mono HB1.out.size)
  clear hb2
  cases B
  · go_wp2_with (go_in)
    go_ret
    exact ⟨rfl, HB2.out⟩
  · go_wp2_with (go_in)
    go_ret
    exact ⟨by show Ending.returned (Value.int .i64 (1 + (n : Int) - 1)) = _; congr 2; omega, HB2.out⟩
/-- the digits of an int text -/
def digLen (l : List UInt8) : Nat := if l[0]? = some 45 then l.length - 1 else l.length
def l12 (l : List UInt8) : Bool := decide (l.length ≤ 41) && (intText 2500 l && decide (digLen l ≤ 40))
theorem nat_facts {t : List UInt8} (h : natText 2500 t = true) : 0 < t.length ∧ By.digs t = true ∧ (Lib.decDigits (num t)).length = t.length := by
  unfold natText at h
  simp only [Bool.and_eq_true, decide_eq_true_eq, Bool.not_eq_true', Bool.and_eq_false_iff, decide_eq_false_iff_not] at h
  obtain ⟨⟨⟨h0, h1⟩, h2⟩, h3⟩ := h
  refine ⟨by omega, h3, ?_⟩
  cases t with
  | nil => simp at h0
  | cons c m =>
    by_cases hc : c = 48
    · subst hc
      have : m = [] := by
        rcases h2 with h2 | h2
        · simp at h2; exact h2
        · simp at h2
      subst this
      rw [show num [48] = 0 from rfl, Lib.decDigits_one (by omega)]; rfl
    · rw [num_text _ h3 ⟨c, m, rfl, hc⟩]
set_option maxHeartbeats 1000000 in
theorem spec_l12 (s : ByteArray) (w : World) :
    Calls Try.prog 38 #[.string s] w fun e w' => e = .returned (.bool (l12 (L s))) ∧ Below w.heap.size w w' := by
  by_cases h41 : s.size ≤ 41
  · have hI := PFnExactIsInt.spec_IsInt.calls (s.size + 4) s (intText 2500 (L s)) w (Pure.spec_IsInt_is s (by omega) _ (Nat.le_refl _))
    have HI : Hid (Calls Try.prog 8 #[.string s] w fun e w' => e = .returned (.bool (intText 2500 (L s))) ∧ Drawn0 w w') := hI
    clear hI
    have hl : (L s).length = s.size := L_length s
    obtain ⟨b, hb⟩ : ∃ b, intText 2500 (L s) = b := ⟨_, rfl⟩
    have HL : Hid (l12 (L s) = (b && decide (digLen (L s) ≤ 40))) := by
      show _ = _
      unfold l12; rw [hb, hl, decide_eq_true h41, Bool.true_and]
    have h41i : decide (41 < (s.size : Int)) = false := decide_eq_false (by omega)
    rw [hb] at HI
    cases b
    · rw [Bool.false_and] at HL
      clear hb hl
      go_enter Try.func38, Try.ntmps38
      go_wp2_with (fail)
      refine Calls.mono HI.out ?_
      rintro e w1 ⟨rfl, hd⟩
      go_wp2_with (go_in)
      go_ret
      exact ⟨by rw [HL.out]; rfl, hd.below⟩
    · rw [Bool.true_and] at HL
      obtain ⟨sg, t, hsg, ht, hn⟩ : ∃ sg t, (bt s 0 = 45 ↔ sg = true) ∧ t = (if sg = true then (L s).drop 1 else L s) ∧ natText 2500 t = true := by
        have h0 : 0 < s.size := by
          rcases Nat.eq_zero_or_pos s.size with h | h
          · rw [List.length_eq_zero_iff.1 (hl.trans h)] at hb; simp [intText, natText] at hb
          · exact h
        have hq := bt_eq_iff s 0 h0 45 (by omega)
        unfold intText at hb
        by_cases h3 : (L s)[0]? = some 45
        · rw [if_pos h3] at hb
          split at hb
          · cases hb
          · exact ⟨true, _, ⟨fun _ => rfl, fun _ => hq.2 h3⟩, rfl, hb⟩
        · rw [if_neg h3] at hb
          exact ⟨false, _, ⟨fun h => absurd (hq.1 h) h3, fun h => by cases h⟩, rfl, hb⟩
      obtain ⟨t0, td, tl⟩ := nat_facts hn
      have hlen : digLen (L s) = t.length := by
        unfold digLen
        have h0 : 0 < s.size := by
          rcases Nat.eq_zero_or_pos s.size with h | h
          · rw [List.length_eq_zero_iff.1 (hl.trans h)] at hb; simp [intText, natText] at hb
          · exact h
        have hq := bt_eq_iff s 0 h0 45 (by omega)
        cases sg
        · rw [if_neg (fun e => by have := hsg.1 (hq.2 e); cases this), ht]; rfl
        · rw [if_pos (show (L s)[0]? = some 45 from hq.1 (hsg.2 rfl)), ht, if_pos rfl, List.length_drop]
      have htl : t.length ≤ 41 := by rw [← hlen]; unfold digLen; split <;> omega
      have hpos : 0 < s.size := by
        rcases Nat.eq_zero_or_pos s.size with h | h
        · rw [List.length_eq_zero_iff.1 (hl.trans h)] at hb; simp [intText, natText] at hb
        · exact h
      have HR : Hid (∀ w, Calls Try.prog 50 #[.string s] w fun e w' => ∃ g c ds, e = .returned (kept sg g 0 c (top ds)) ∧ valB ds = num t ∧ ds.length < 100 ∧ (∀ x ∈ ds, x < 1000000000) ∧ ds.length ≤ c ∧ At w' g ds ∧ Below w.heap.size w w') :=
        fun w => spec_read s hpos h41 sg t hsg ht t0 td w
      clear hb hl hsg ht hn td
      rw [hlen] at HL
      clear hlen
      go_enter Try.func38, Try.ntmps38
      go_wp2_with (fail)
      refine Calls.mono HI.out ?_
      rintro e w1 ⟨rfl, hd⟩
      have HD : Hid (Below w.heap.size w w1) := hd.below
      clear hd
      go_wp2_with (fail)
      refine Calls.mono (HR.out _) ?_
      rintro e w2 ⟨g, c, ds, rfl, hv, hdl, hdx, hdc, hat, hb2⟩
      have hk := digits_kept sg g c (top ds) w2 ⟨hat.1, fun j x hj => hat.2 j x (top_get hj)⟩ (top_top _) (Nat.lt_of_le_of_lt (top_len _) hdl) (fun x hx => hdx x (top_mem hx)) (Nat.le_trans (top_len _) hdc) t.length (by rw [valB_top, hv]; exact tl) (by omega)
      have HB2 : Hid (Below w.heap.size w w2) := HD.out.trans (hb2.mono HD.out.size)
      obtain ⟨v, b, sl, l, k, hkept⟩ := kept_cases sg g 0 c (top ds)
      rw [hkept] at hk ⊢
      have HK : Hid (Calls Try.prog 49 #[.agg #[.int .i64 v, .bool b, .slice sl l k]] w2 fun e w' => e = .returned (.int .i64 t.length) ∧ Below w2.heap.size w2 w') := hk
      clear hkept hk hv hdl hdx hdc hat hb2 tl
      go_wp2_with (fail)
      refine Calls.mono HK.out ?_
      rintro e w3 ⟨rfl, hb3⟩
      have HB3 : Hid (Below w.heap.size w w3) := HB2.out.trans (hb3.mono HB2.out.size)
      clear hb3
      go_wp2_with (go_in)
      go_ret
      exact ⟨by rw [HL.out]; show Ending.returned (Value.bool _) = _; congr 2; exact decide_eq_decide.2 (by omega), HB3.out⟩
  · have HL : Hid (l12 (L s) = false) := by
      show _ = _
      unfold l12; rw [L_length, decide_eq_false h41, Bool.false_and]
    have h41i : decide (41 < (s.size : Int)) = true := decide_eq_true (by omega)
    go_enter Try.func38, Try.ntmps38
    go_wp2_with (go_in)
    go_ret
    exact ⟨by rw [HL.out]; rfl, Below.refl _ _⟩
end Go.Proofs.Ytljjenkaofcppaa.Limb
namespace Go.Proofs.Ytljjenkaofcppaa
open Go.RowKit Go.Proofs.YtljjenkaofcppaaW.PrintWords Go.Proofs.YtljjenkaofcppaaW.PrintLast Go.Proofs.Ytljjenkaofcppaa.Limb Go.Proofs.Ytljjenkaofcppaa.By
/-- a call of a function that a slot holds, as an arm of a walk -/
theorem goesT_ {P : Program} {ops : Array Oper} {Q : Exit → Act → World → Prop} {rest : List Oper} {oi : Oper} {a : Act} {w : World} (N : Option Tmp) (hd : oi.dst = N) (hg : oi.guard = none) {f : FuncId} {fn : Func} {xs : Array Operand} {ts : Array TypeId} {n : Tmp} (hf : P.funcs[f]? = some fn) (hname : (fn.name == "runtime.NumGoroutine") = false) (hb : fn.body.isSome = true) (args : Array Value)
    (hop : oi.op = .call { callee := .value (.tmp n), args := xs, argTypes := ts }) (hv : a.eval (.tmp n) = a.eval (.func f)) (hargs : xs.map a.eval = args)
    (h : Calls P f args w fun e w' => ∃ v, e = .returned v ∧ wpList P ops Q rest (a.put N v) w') : wpList P ops Q (oi :: rest) a w := by
  refine wpList_plain hg fun K hK => ?_
  have he := enters_ hf hname hb args w
  have hv' : a.tmps[n]?.getD undef = .func (.func f) #[] #[] := by simpa [Act.eval] using hv
  have hrun : (execOp a.eval oi).run P w = .ok (.enter f args) w := by
    unfold execOp
    simp [hop, resolve, Deferred.ofValue, invoke, Act.eval, hargs, he, hv']
  unfold Oper.wp
  rw [hrun, Oper.upon_enter]
  refine h.mono fun e w'' hh => ?_
  obtain ⟨v, rfl, hk⟩ := hh
  subst hd
  exact hK _ _ hk
def spec_l12Text.f (a0 : ByteArray) : Option Bool := some (l12 (L a0))
theorem spec_l12Text.calls (a0 : ByteArray) (r : Bool) (w : World) (h : spec_l12Text.f a0 = some r) :
    Calls Try.prog 38 #[.string a0] w fun e w' => e = .returned (.bool r) ∧ Below w.heap.size w w' := by
  obtain rfl := Option.some.inj h
  exact spec_l12 a0 w
end Go.Proofs.Ytljjenkaofcppaa

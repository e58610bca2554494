/- Parts of the proof, cut to what it uses: TrD, TrN. -/
import Derived.BigQuiet
import Derived.Deep.QuietTactic
import Derived.Handy
import Derived.Laws.BitsAllLaws
import Derived.Lib.Hide
import Derived.OneCell
import Derived.Outline
import Derived.OwnWalk
import Derived.Test.YtbeelgaganbblaaDoorV4
import Derived.Test.YtbeelgaganbblaaDoorV5
import Derived.Test.YtbeelgaganbblaaDoorV7
import Derived.WalkLawsBesides
import Derived.WalkSpells
namespace Go.Proofs.YtbeelgaganbblaaDoor.Dr
open Go.RowKit Go.Proofs.YtbeelgaganbblaaDoor Go.Proofs.YtbeelgaganbblaaDoorW.PrintWords Go.Proofs.YtbeelgaganbblaaDoor.By Go.Proofs.YtbeelgaganbblaaDoor.Tok Go.Proofs.YtbeelgaganbblaaDoor.Tree Go.Proofs.YtbeelgaganbblaaDoor.Gp Go.Proofs.YtbeelgaganbblaaDoor.PFnExactGoodTree
set_option linter.unusedVariables false
set_option linter.unusedSimpArgs false
set_option maxRecDepth 100000
def Cd (s : List Int) : Prop := ∀ x ∈ s, 0 ≤ x ∧ x ≤ 255
def NB (x : S43) : Prop := x.f1.size ≤ 9000 ∧ x.f2 ≤ 9223372036854775807
def NBs (l : List S43) : Prop := ∀ x ∈ l, NB x
theorem NBs.nil : NBs [] := fun x h => by cases h
theorem NBs.snoc {l : List S43} (h : NBs l) {x : S43} (hx : NB x) : NBs (l ++ [x]) := by
  intro y hy
  rcases List.mem_append.1 hy with hy | hy
  · exact h y hy
  · rw [List.mem_singleton] at hy; subst hy; exact hx
theorem u64_bd (x : Int) : 0 ≤ IntKind.u64.wrap x ∧ IntKind.u64.wrap x ≤ 18446744073709551615 := by
  have : IntKind.u64.wrap x = x % 18446744073709551616 := rfl; omega
theorem rd_mem {s : List Int} {a : Int} (h0 : 0 ≤ a) (h : a < (s.length : Int)) : rd s a ∈ s := by
  obtain ⟨i, rfl⟩ : ∃ i : Nat, a = i := ⟨a.toNat, by omega⟩; unfold rd; rw [Int.toNat_natCast, List.getD_eq_getElem?_getD, List.getElem?_eq_getElem (by omega)]; exact List.getElem_mem _
theorem rdOf_mem {s : List ByteArray} {a : Int} (h0 : 0 ≤ a) (h : a < (s.length : Int)) : rdOf ByteArray.empty s a ∈ s := by
  obtain ⟨i, rfl⟩ : ∃ i : Nat, a = i := ⟨a.toNat, by omega⟩; unfold rdOf; rw [Int.toNat_natCast, List.getD_eq_getElem?_getD, List.getElem?_eq_getElem (by omega)]; exact List.getElem_mem _
theorem next_tot {s : List Int} (hs : Cd s) (a sd : Int) (h0 : 0 ≤ a) (h1 : a ≤ 1000000000000) : ∃ z sd', ZM.f s a sd = some (z, a + 1, sd') ∧ 0 ≤ z ∧ z ≤ 255 := by
  have hw : wrap64 (a + 1) = a + 1 := wrap_ok (by omega) (by omega)
  have hb : ∀ X : Int, 0 ≤ wrap64 (Go.bits .and .u64 (IntKind.u64.wrap X / 1099511627776) 255) ∧ wrap64 (Go.bits .and .u64 (IntKind.u64.wrap X / 1099511627776) 255) ≤ 255 := by
    intro X; have hX := u64_bd X; rw [Go.u64_and _ _ (by omega) (by omega) (by decide) (by decide)]; have h : (IntKind.u64.wrap X / 1099511627776).toNat &&& (255 : Int).toNat ≤ 255 := Nat.and_le_right; rw [wrap_ok (by omega) (by omega)]; omega
  unfold ZM.f; rw [hw]
  by_cases c1 : a < (s.length : Int)
  · have hr := hs _ (rd_mem h0 c1); rw [if_pos c1, if_pos h0, if_pos (by omega), wrap_ok (z := rd s a) (by omega) (by omega)]; exact ⟨_, _, rfl, hr⟩
  · rw [if_neg c1, if_neg (by omega)]; exact ⟨_, _, rfl, hb _⟩
theorem pick_tot {s : List Int} (hs : Cd s) (a sd n : Int) (h0 : 0 ≤ a) (h1 : a ≤ 900000000000) : ∃ z a' sd', Zf.f s a sd n = some (z, a', sd') ∧ a ≤ a' ∧ a' ≤ a + 2 ∧ 0 ≤ z ∧ (1 < n → z < n) ∧ (n ≤ 1 → z = 0) := by
  unfold Zf.f
  by_cases c : n ≤ 1
  · rw [if_pos c]; exact ⟨0, a, sd, rfl, by omega, by omega, by omega, by omega, fun _ => rfl⟩
  · rw [if_neg c]; obtain ⟨z, sd1, e1, z0, z1⟩ := next_tot hs a sd h0 (by omega); rw [e1, Option.bind_some]
    by_cases c2 : n > 200
    · obtain ⟨y, sd2, e2, y0, y1⟩ := next_tot hs (a + 1) sd1 (by omega) (by omega); simp only; rw [if_pos c2, e2, Option.bind_some, if_neg (by omega)]
      have hw : wrap64 (wrap64 (z * 256) + y) = z * 256 + y := by rw [wrap_ok (z := z * 256) (by omega) (by omega), wrap_ok (by omega) (by omega)]
      simp only; rw [hw]; exact ⟨_, _, _, rfl, by omega, by omega, Int.tmod_nonneg _ (by omega), fun _ => Int.tmod_lt_of_pos _ (by omega), fun h => absurd h c⟩
    · simp only; rw [if_neg c2, if_neg (by omega)]; exact ⟨_, _, _, rfl, by omega, by omega, Int.tmod_nonneg _ z0, fun _ => Int.tmod_lt_of_pos _ (by omega), fun h => absurd h c⟩
theorem one2_tot {s : List Int} (hs : Cd s) (a sd : Int) (h0 : 0 ≤ a) (h1 : a ≤ 900000000000) : ∃ b a' sd', spec_l1Cur_one2.f s a sd = some (b, a', sd') ∧ a ≤ a' ∧ a' ≤ a + 2 := by
  obtain ⟨z, a', sd', e, h2, h3, _⟩ := pick_tot hs a sd 2 h0 h1; unfold spec_l1Cur_one2.f; rw [e, Option.bind_some]; exact ⟨_, _, _, rfl, h2, h3⟩
theorem deep_l0 {s : List Int} (n a sd : Int) (hn : n ≤ 300) : ∀ (d : Nat) (i : Int) (out : List S43), 0 ≤ i → (n - i).toNat = d → NBs out → out.length + d ≤ 1000 →
    ∃ l, Evt (fun k => ZP.l0 k out n i s a sd) (l, a, sd) ∧ NBs l ∧ l.length ≤ out.length + d + 1 := by
  intro d
  induction d with
  | zero =>
    intro i out hi hd hb hl; refine ⟨out ++ [⟨1, ⟨#[]⟩, 0, 0⟩], Evt.done (fun k => ?_), hb.snoc ⟨by decide, show (0 : Int) ≤ _ by decide⟩, by simp⟩; simp only [ZP.l0]; rw [if_neg (by omega), if_pos (by omega)]
  | succ d ih =>
    intro i out hi hd hb hl; have hw : wrap64 (i + 1) = i + 1 := wrap_ok (by omega) (by omega); obtain ⟨l, e, h1, h2⟩ := ih (i + 1) (out ++ [⟨1, ⟨#[]⟩, 1, 0⟩]) (by omega) (by omega) (hb.snoc ⟨by decide, show (1 : Int) ≤ _ by decide⟩) (by simp; omega); refine ⟨l, Evt.succ (fun k => ?_) e, h1, by rw [List.length_append] at h2; simp at h2; omega⟩; simp only [ZP.l0]; rw [if_pos (by omega), if_pos (by omega), hw]
theorem deep_tot {s : List Int} (hs : Cd s) (a sd : Int) (h0 : 0 ≤ a) (h1 : a ≤ 900000000000) : ∃ l a' sd', Evt (fun k => ZP.f k s a sd) (l, a', sd') ∧ NBs l ∧ l.length ≤ 10000 := by
  obtain ⟨z, a', sd', e, h2, h3, z0, z1, _⟩ := pick_tot hs a sd 3 h0 h1; have hz := z1 (by decide); have hw : wrap64 (199 + z) = 199 + z := wrap_ok (by omega) (by omega); obtain ⟨l, el, hb, hl⟩ := deep_l0 (s := s) (199 + z) a' sd' (by omega) (199 + z - 1).toNat 1 [] (by decide) rfl NBs.nil (by simp; omega); refine ⟨l, a', sd', Evt.same (fun k => ?_) el, hb, by simp at hl; omega⟩; unfold ZP.f; rw [e, Option.bind_some]; simp only; rw [hw]
theorem size_of {ys : List ByteArray} (h : (ys.all fun y => decide (y.size ≤ 9000)) = true) {y : ByteArray} (hy : y ∈ ys) : y.size ≤ 9000 := of_decide_eq_true (List.all_eq_true.1 h y hy)
theorem text_tot {s : List Int} (hs : Cd s) (a sd : Int) (h0 : 0 ≤ a) (h1 : a ≤ 900000000000) (ys : List ByteArray) (n : Int) (hn : n = (ys.length : Int)) (h2 : 2 ≤ ys.length) (hy : (ys.all fun y => decide (y.size ≤ 9000)) = true) :
    ∃ z a' sd', Zf.f s a sd n = some (z, a', sd') ∧ 0 ≤ z ∧ z < (ys.length : Int) ∧ (rdOf ByteArray.empty ys z).size ≤ 9000 ∧ a ≤ a' ∧ a' ≤ a + 2 := by
  obtain ⟨z, a', sd', e, h3, h4, z0, z1, _⟩ := pick_tot hs a sd n h0 h1; have hz := z1 (by omega); exact ⟨z, a', sd', e, z0, by omega, size_of hy (rdOf_mem z0 (by omega)), h3, h4⟩
theorem name_tot {s : List Int} (hs : Cd s) (a sd : Int) (h0 : 0 ≤ a) (h1 : a ≤ 900000000000) : ∃ t a' sd', ZO.f s a sd = some (t, a', sd') ∧ t.size ≤ 9000 ∧ a ≤ a' ∧ a' ≤ a + 2 := by
  unfold ZO.f; rw [Option.bind_some]; obtain ⟨z, a', sd', e, z0, z1, hz, h3, h4⟩ := text_tot hs a sd h0 h1 _ _ rfl (by decide) (show ([(⟨#[97]⟩ : ByteArray), (⟨#[98]⟩ : ByteArray), (⟨#[120]⟩ : ByteArray), (⟨#[121]⟩ : ByteArray), (⟨#[102]⟩ : ByteArray), (⟨#[112, 49]⟩ : ByteArray), (⟨#[60, 61]⟩ : ByteArray), (⟨#[45]⟩ : ByteArray), (⟨#[43, 120]⟩ : ByteArray), (⟨#[97, 32, 98]⟩ : ByteArray), (⟨#[]⟩ : ByteArray), (⟨#[40]⟩ : ByteArray), (⟨#[108, 101, 116]⟩ : ByteArray), (⟨#[120, 46, 121]⟩ : ByteArray), (⟨#[53]⟩ : ByteArray), (⟨#[98, 118, 97, 100, 100]⟩ : ByteArray), (⟨#[64, 49]⟩ : ByteArray), (⟨#[65, 59]⟩ : ByteArray)].all fun y => decide (y.size ≤ 9000)) = true by decide); rw [e, Option.bind_some]; simp only; rw [if_pos z0, if_pos z1]; exact ⟨_, _, _, rfl, hz, h3, h4⟩
theorem leaf_tot {s : List Int} (hs : Cd s) (a sd : Int) (h0 : 0 ≤ a) (h1 : a ≤ 800000000000) : ∃ kd t a' sd', ZN.f s a sd = some (kd, t, 0, 0, a', sd') ∧ t.size ≤ 9000 ∧ a ≤ a' ∧ a' ≤ a + 4 := by
  obtain ⟨z, a1, sd1, e, q1, q2, z0, z1, _⟩ := pick_tot hs a sd 9 h0 (by omega); unfold ZN.f; rw [e, Option.bind_some]; simp only
  by_cases c0 : z = 0
  · rw [if_pos c0, Option.bind_some]; obtain ⟨y, a2, sd2, e2, y0, y1, hy, q3, q4⟩ := text_tot hs a1 sd1 (by omega) (by omega) [(⟨#[48]⟩ : ByteArray), (⟨#[55]⟩ : ByteArray), (⟨#[49, 50]⟩ : ByteArray), (⟨#[51, 48, 53]⟩ : ByteArray)] 4 rfl (by decide) (by decide); rw [e2, Option.bind_some]; simp only; rw [if_pos y0, if_pos y1]; exact ⟨_, _, _, _, rfl, hy, by omega, by omega⟩
  by_cases c1 : z = 1
  · rw [if_neg c0, if_pos c1, Option.bind_some]; obtain ⟨y, a2, sd2, e2, y0, y1, hy, q3, q4⟩ := text_tot hs a1 sd1 (by omega) (by omega) [(⟨#[48, 46, 48]⟩ : ByteArray), (⟨#[49, 46, 53, 48]⟩ : ByteArray), (⟨#[49, 50, 46, 48, 48, 55]⟩ : ByteArray)] 3 rfl (by decide) (by decide); rw [e2, Option.bind_some]; simp only; rw [if_pos y0, if_pos y1]; exact ⟨_, _, _, _, rfl, hy, by omega, by omega⟩
  by_cases c2 : z = 2
  · rw [if_neg c0, if_neg c1, if_pos c2, Option.bind_some]; obtain ⟨y, a2, sd2, e2, y0, y1, hy, q3, q4⟩ := text_tot hs a1 sd1 (by omega) (by omega) [(⟨#[48]⟩ : ByteArray), (⟨#[49, 48, 49, 49]⟩ : ByteArray), (⟨#[49, 49, 49, 49, 48, 48, 48, 48]⟩ : ByteArray)] 3 rfl (by decide) (by decide); rw [e2, Option.bind_some]; simp only; rw [if_pos y0, if_pos y1]; exact ⟨_, _, _, _, rfl, hy, by omega, by omega⟩
  by_cases c3 : z = 3
  · rw [if_neg c0, if_neg c1, if_neg c2, if_pos c3, Option.bind_some]; obtain ⟨y, a2, sd2, e2, y0, y1, hy, q3, q4⟩ := text_tot hs a1 sd1 (by omega) (by omega) [(⟨#[]⟩ : ByteArray), (⟨#[115, 97, 121, 32, 34, 105, 116, 34]⟩ : ByteArray), (⟨#[116, 119, 111, 10, 108, 105, 110, 101, 115]⟩ : ByteArray), (⟨#[34]⟩ : ByteArray)] 4 rfl (by decide) (by decide); rw [e2, Option.bind_some]; simp only; rw [if_pos y0, if_pos y1]; exact ⟨_, _, _, _, rfl, hy, by omega, by omega⟩
  by_cases c4 : z = 4
  · rw [if_neg c0, if_neg c1, if_neg c2, if_neg c3, if_pos c4, Option.bind_some]; obtain ⟨y, a2, sd2, e2, y0, y1, hy, q3, q4⟩ := text_tot hs a1 sd1 (by omega) (by omega) [(⟨#[110, 97, 109, 101, 100]⟩ : ByteArray), (⟨#[107, 49]⟩ : ByteArray), (⟨#[45]⟩ : ByteArray)] 3 rfl (by decide) (by decide); rw [e2, Option.bind_some]; simp only; rw [if_pos y0, if_pos y1]; exact ⟨_, _, _, _, rfl, hy, by omega, by omega⟩
  · rw [if_neg c0, if_neg c1, if_neg c2, if_neg c3, if_neg c4]; obtain ⟨t, a2, sd2, e2, ht, q3, q4⟩ := name_tot hs a1 sd1 (by omega) (by omega); rw [e2, Option.bind_some]; exact ⟨2, t, a2, sd2, rfl, ht, by omega, by omega⟩
def sm (st : List Int) : Nat := (st.map Int.toNat).sum
theorem sm_cons (y : Int) (st : List Int) : sm (y :: st) = y.toNat + sm st := by unfold sm; simp
def F4 (st : List Int) : Prop := ∀ y ∈ st, 0 ≤ y ∧ y ≤ 4
theorem F4.tail {y : Int} {st : List Int} (h : F4 (y :: st)) : F4 st := fun z hz => h z (List.mem_cons_of_mem _ hz)
theorem F4.head {y : Int} {st : List Int} (h : F4 (y :: st)) : 0 ≤ y ∧ y ≤ 4 := h y (List.mem_cons_self ..)
theorem F4.cons {y : Int} {st : List Int} (h : F4 st) (h0 : 0 ≤ y) (h1 : y ≤ 4) : F4 (y :: st) := by
  intro z hz
  rcases List.mem_cons.1 hz with rfl | hz
  · exact ⟨h0, h1⟩
  · exact h z hz
theorem fill_tot {s : List Int} (hs : Cd s) : ∀ (N : Nat) (st : List Int) (out : List S43) (a sd : Int), sm st + st.length ≤ N → F4 st → NBs out → st.length ≤ 1000000 → out.length + sm st ≤ 1000000 → 0 ≤ a → a + 4 * sm st ≤ 700000000000 →
    ∃ l a' sd', Evt (fun k => Zc.l3 k out st.reverse s a sd) (l, a', sd') ∧ NBs l ∧ l.length ≤ out.length + sm st ∧ a ≤ a' ∧ a' ≤ a + 4 * sm st := by
  intro N
  induction N with
  | zero =>
    intro st out a sd hN hf hb hl ho h0 h1; have : st = [] := List.length_eq_zero_iff.1 (by omega); subst this; refine ⟨out, a, sd, Evt.done (fun k => ?_), hb, by omega, by omega, by omega⟩; simp only [Zc.l3]; rw [if_neg (by simp), if_pos (by simp)]
  | succ N ih =>
    intro st out a sd hN hf hb hl ho h0 h1
    cases st with
    | nil =>
      refine ⟨out, a, sd, Evt.done (fun k => ?_), hb, by omega, by omega, by omega⟩; simp only [Zc.l3]; rw [if_neg (by simp), if_pos (by simp)]
    | cons y r =>
      have g1 := top_idx y r (by rw [List.length_cons] at hl; omega); have g2 := len_rev y r; have hy := hf.head; rw [List.length_cons] at hN hl; rw [sm_cons] at hN ho h1
      by_cases hz : y = 0
      · obtain ⟨l, a', sd', e, r1, r2, r3, r4⟩ := ih r out a sd (by omega) hf.tail hb (by omega) (by omega) h0 (by omega); refine ⟨l, a', sd', Evt.succ (fun k => ?_) e, r1, by rw [sm_cons]; omega, r3, by rw [sm_cons]; omega⟩; simp only [Zc.l3]; rw [if_pos (by omega), g1, if_pos (by omega), if_pos (by omega), rd_top, if_pos hz, if_pos (by omega), take_top]
      · obtain ⟨kd, t, a1, sd1, e1, ht, q1, q2⟩ := leaf_tot hs a sd h0 (by omega); have hw : wrap64 (y - 1) = y - 1 := wrap_ok (by omega) (by omega)
        have hsm : sm ((y - 1) :: r) + 1 = y.toNat + sm r := by rw [sm_cons]; omega
        obtain ⟨l, a', sd', e, r1, r2, r3, r4⟩ := ih ((y - 1) :: r) (out ++ [⟨kd, t, 0, 0⟩]) a1 sd1 (by rw [List.length_cons]; omega) (hf.tail.cons (by omega) (by omega)) (hb.snoc ⟨ht, show (0 : Int) ≤ _ by decide⟩) (by rw [List.length_cons]; omega) (by rw [List.length_append]; simp; omega) (by omega) (by omega); rw [List.length_append] at r2; simp only [List.length_cons, List.length_nil] at r2; refine ⟨l, a', sd', Evt.succ (g := fun k => Zc.l2 k (out ++ [⟨kd, t, 0, 0⟩]) ((y - 1) :: r).reverse s a1 sd1) (fun k => ?_) (Evt.succ (fun k => by simp only [Zc.l2]) e), r1, by rw [sm_cons]; omega, by omega, by rw [sm_cons]; omega⟩; simp only [Zc.l3]; rw [if_pos (by omega), g1, if_pos (by omega), if_pos (by omega), rd_top, if_neg hz, if_neg (by omega), e1, Option.bind_some]; simp only; rw [if_pos (by omega), hw, set_top]
theorem pop_l1 {s : List Int} {r : List S43 × Int × Int} (n i : Int) (out : List S43) (a sd : Int) : ∀ (st : List Int), st.length ≤ 1000000 → Evt (fun k => Zc.j2 k n out (popZ st).reverse i s a sd) r → Evt (fun k => Zc.l1 k n out st.reverse i s a sd) r
  | [], hl, h => Evt.succ (fun k => by simp only [Zc.l1]; rw [if_neg (by simp)]; rfl) h
  | y :: st, hl, h => by
    rw [List.length_cons] at hl; have g1 := top_idx y st (by omega); have g2 := len_rev y st; unfold popZ at h
    by_cases hy : y = 0
    · rw [if_pos hy] at h; exact Evt.succ (fun k => by simp only [Zc.l1]; rw [if_pos (by omega), g1, if_pos (by omega), if_pos (by omega), rd_top, if_pos hy, if_pos (by omega), take_top]) (pop_l1 n i out a sd st (by omega) h)
    · rw [if_neg hy] at h; exact Evt.succ (fun k => by simp only [Zc.l1]; rw [if_pos (by omega), g1, if_pos (by omega), if_pos (by omega), rd_top, if_neg hy]) h
theorem popZ_f4 : ∀ {st : List Int}, F4 st → F4 (popZ st) ∧ (popZ st).length ≤ st.length ∧ sm (popZ st) = sm st ∧ ∀ y r, popZ st = y :: r → 1 ≤ y
  | [], h => ⟨h, Nat.le_refl _, rfl, fun y r e => by cases e⟩
  | y :: st, h => by
    unfold popZ
    split
    · next hz =>
      obtain ⟨h1, h2, h3, h4⟩ := popZ_f4 h.tail; exact ⟨h1, by rw [List.length_cons]; omega, by rw [sm_cons, h3, hz]; simp, h4⟩
    · next hz =>
      refine ⟨h, Nat.le_refl _, rfl, fun z r e => ?_⟩; obtain ⟨rfl, _⟩ := List.cons.inj e; have := h.head; omega
theorem dec1_f4 {st : List Int} (h : F4 st) (h1 : ∀ y r, st = y :: r → 1 ≤ y) : F4 (dec1 st) ∧ (dec1 st).length = st.length ∧ sm (dec1 st) ≤ sm st := by
  cases st with
  | nil => exact ⟨h, rfl, Nat.le_refl _⟩
  | cons y r =>
    have := h1 y r rfl; have hy := h.head; exact ⟨h.tail.cons (by omega) (by omega), rfl, by show sm ((y - 1) :: r) ≤ _; rw [sm_cons, sm_cons]; omega⟩
theorem trees_l0 {s : List Int} (hs : Cd s) (n : Nat) (hn : n ≤ 1000) : ∀ (d i : Nat) (st : List Int) (out : List S43) (a sd : Int), n - i = d → i ≤ n → F4 st → st.length ≤ i → sm st ≤ 4 * i → NBs out → out.length ≤ i → 0 ≤ a → a ≤ 100000000000 + 10 * i →
    ∃ l a' sd', Evt (fun k => Zc.l0 k (n : Int) out st.reverse (i : Int) s a sd) (l, a', sd') ∧ NBs l ∧ l.length ≤ 5 * n ∧ 0 ≤ a' ∧ a' ≤ 200000000000 := by
  intro d
  induction d with
  | zero =>
    intro i st out a sd hd hi hf hl hsm hb ho h0 h1; obtain ⟨l, a', sd', e, r1, r2, r3, r4⟩ := fill_tot hs _ st out a sd (Nat.le_refl _) hf hb (by omega) (by omega) h0 (by omega); refine ⟨l, a', sd', Evt.succ (g := fun k => Zc.l2 k out st.reverse s a sd) (fun k => ?_) (Evt.succ (fun k => by simp only [Zc.l2]) e), r1, by omega, by omega, by omega⟩; simp only [Zc.l0]; rw [if_neg (by omega)]
  | succ d ih =>
    intro i st out a sd hd hi hf hl hsm hb ho h0 h1; obtain ⟨p1, p2, p3, p4⟩ := popZ_f4 hf; obtain ⟨d1, d2, d3⟩ := dec1_f4 p1 p4; have HW1 : Hid (wrap64 ((i : Int) + 1) = ((i + 1 : Nat) : Int)) := wrap_ok (by omega) (by omega); obtain ⟨z, a1, sd1, e1, q1, q2, z0, z1, _⟩ := pick_tot hs a sd 3 h0 (by omega)
 
    have hj4 : ∀ b : Bool, ∃ l a' sd', Evt (fun k => Zc.j4 k (n : Int) out (dec1 (popZ st)).reverse (i : Int) b s a1 sd1) (l, a', sd') ∧ NBs l ∧ l.length ≤ 5 * n ∧ 0 ≤ a' ∧ a' ≤ 200000000000 := by
      intro b
      cases b with
      | true =>
        obtain ⟨y, a2, sd2, e2, q3, q4, y0, y1, _⟩ := pick_tot hs a1 sd1 5 (by omega) (by omega); have hy := y1 (by decide); obtain ⟨l, a', sd', e, r⟩ := ih (i + 1) (y :: dec1 (popZ st)) (out ++ [⟨1, ⟨#[]⟩, y, 0⟩]) a2 sd2 (by omega) (by omega) (d1.cons y0 (by omega)) (by rw [List.length_cons]; omega) (by rw [sm_cons]; omega) (hb.snoc (x := (⟨1, ⟨#[]⟩, y, 0⟩ : S43)) ⟨by show (0 : Nat) ≤ 9000; decide, by show y ≤ _; omega⟩) (by rw [List.length_append]; simp; omega) (by omega) (by omega); refine ⟨l, a', sd', Evt.succ (fun k => ?_) e, r⟩; simp only [Zc.j4]; rw [if_pos trivial, e2, Option.bind_some]; simp only; rw [if_pos (by omega), if_pos (by rw [List.length_reverse]; omega), HW1.out, List.reverse_cons]
      | false =>
        obtain ⟨kd, t, a2, sd2, e2, ht, q3, q4⟩ := leaf_tot hs a1 sd1 (by omega) (by omega); obtain ⟨l, a', sd', e, r⟩ := ih (i + 1) (dec1 (popZ st)) (out ++ [⟨kd, t, 0, 0⟩]) a2 sd2 (by omega) (by omega) d1 (by omega) (by omega) (hb.snoc ⟨ht, show (0 : Int) ≤ _ by decide⟩) (by rw [List.length_append]; simp; omega) (by omega) (by omega); refine ⟨l, a', sd', Evt.succ (fun k => ?_) e, r⟩; simp only [Zc.j4]; rw [if_neg (by decide), e2, Option.bind_some]; simp only; rw [if_pos (by omega), HW1.out]
    have hj3 : ∃ l a' sd', Evt (fun k => Zc.j3 k (n : Int) out (dec1 (popZ st)).reverse (i : Int) s a sd) (l, a', sd') ∧ NBs l ∧ l.length ≤ 5 * n ∧ 0 ≤ a' ∧ a' ≤ 200000000000 := by
      by_cases hz : z = 0
      · obtain ⟨l, a', sd', e, r⟩ := hj4 (decide (((dec1 (popZ st)).reverse.length : Int) < 200)); refine ⟨l, a', sd', Evt.succ (fun k => ?_) e, r⟩; simp only [Zc.j3]; rw [e1, Option.bind_some, if_pos hz]
      · obtain ⟨l, a', sd', e, r⟩ := hj4 false; refine ⟨l, a', sd', Evt.succ (fun k => ?_) e, r⟩; simp only [Zc.j3]; rw [e1, Option.bind_some, if_neg hz]
    obtain ⟨l, a', sd', e, r⟩ := hj3; refine ⟨l, a', sd', ?_, r⟩; refine Evt.succ (g := fun k => Zc.l1 k (n : Int) out st.reverse (i : Int) s a sd) (fun k => by simp only [Zc.l0]; rw [if_pos (by omega)]) ?_; refine pop_l1 _ _ _ _ _ st (by omega) ?_
    cases hp : popZ st with
    | nil =>
      rw [hp] at e; exact Evt.succ (fun k => by simp only [Zc.j2]; rw [if_neg (by simp)]; rfl) e
    | cons y r =>
      rw [hp] at e p2; rw [List.length_cons] at p2; have g1 := top_idx y r (by omega); have g2 := len_rev y r; have hy := p4 y r hp; have hy4 := (hp ▸ p1 : F4 (y :: r)).head; have hw : wrap64 (y - 1) = y - 1 := wrap_ok (by omega) (by omega); refine Evt.succ (fun k => ?_) e; simp only [Zc.j2]; rw [if_pos (by omega), g1, if_pos (by omega), if_pos (by omega), rd_top, hw, set_top]; rfl
theorem trees_tot {s : List Int} (hs : Cd s) (a sd : Int) (n : Nat) (hn : n ≤ 1000) (h0 : 0 ≤ a) (h1 : a ≤ 100000000000) : ∃ l a' sd', Evt (fun k => Zc.f k s a sd (n : Int)) (l, a', sd') ∧ NBs l ∧ l.length ≤ 10000 ∧ 0 ≤ a' ∧ a' ≤ 200000000000 := by
  obtain ⟨l, a', sd', e, r1, r2, r3⟩ := trees_l0 hs n hn n 0 [] [] a sd rfl (by omega) (fun y h => by cases h) (by simp) (by decide) NBs.nil (by simp) h0 (by omega); exact ⟨l, a', sd', Evt.same (fun k => by unfold Zc.f; rfl) e, r1, by omega, r3⟩
theorem NBs.set {l : List S43} (h : NBs l) (i : Nat) {x : S43} (hx : NB x) : NBs (l.set i x) := by
  intro y hy
  rcases List.mem_or_eq_of_mem_set hy with hy | rfl
  · exact h y hy
  · exact hx
theorem rdT_mem {l : List S43} {a : Int} (h0 : 0 ≤ a) (h : a < (l.length : Int)) : Z5 l a ∈ l := by
  obtain ⟨i, rfl⟩ : ∃ i : Nat, a = i := ⟨a.toNat, by omega⟩; unfold Z5; rw [Int.toNat_natCast, List.getD_eq_getElem?_getD, List.getElem?_eq_getElem (by omega)]; exact List.getElem_mem _
theorem wrap_le (z : Int) : wrap64 z ≤ 9223372036854775807 := by unfold wrap64; omega
theorem spoilt_tot {s : List Int} (hs : Cd s) (a sd : Int) (h0 : 0 ≤ a) (h1 : a ≤ 300000000000) (l : List S43) (hl : l.length ≤ 10000) (hb : NBs l) : ∃ r a' sd', Zv.f s a sd l = some (r, a', sd') ∧ NBs r ∧ r.length ≤ 10000 := by
  unfold Zv.f
  by_cases c : (l.length : Int) = 0
  · rw [if_pos c]; exact ⟨l, a, sd, rfl, hb, hl⟩
  rw [if_neg c]; obtain ⟨i, a1, sd1, e1, q1, q2, i0, i1, i2⟩ := pick_tot hs a sd (l.length : Int) h0 (by omega)
  have hi : i < (l.length : Int) := by
    by_cases c1 : 1 < (l.length : Int)
    · exact i1 c1
    · have := i2 (by omega); omega
  have hx := hb _ (rdT_mem i0 hi); rw [e1, Option.bind_some]; simp only; rw [if_pos i0, if_pos hi]; obtain ⟨z, a2, sd2, e2, q3, q4, z0, z1, _⟩ := pick_tot hs a1 sd1 4 (by omega) (by omega); rw [e2, Option.bind_some]; simp only
  by_cases c0 : z = 0
  · rw [if_pos c0]; obtain ⟨y, a3, sd3, e3, _⟩ := pick_tot hs a2 sd2 9 (by omega) (by omega); rw [e3, Option.bind_some]; exact ⟨_, _, _, rfl, hb.set _ hx, by rw [List.length_set]; exact hl⟩
  rw [if_neg c0]
  by_cases c1 : z = 1
  · rw [if_pos c1]; obtain ⟨y, a3, sd3, e3, _⟩ := pick_tot hs a2 sd2 3 (by omega) (by omega); rw [e3, Option.bind_some]; exact ⟨_, _, _, rfl, hb.set _ ⟨hx.1, wrap_le _⟩, by rw [List.length_set]; exact hl⟩
  rw [if_neg c1]
  by_cases c2 : z = 2
  · rw [if_pos c2, Option.bind_some]; obtain ⟨y, a3, sd3, e3, y0, y1, hy, _⟩ := text_tot hs a2 sd2 (by omega) (by omega) [(⟨#[]⟩ : ByteArray), (⟨#[124]⟩ : ByteArray), (⟨#[97, 92]⟩ : ByteArray), (⟨#[48, 49]⟩ : ByteArray), (⟨#[49, 46]⟩ : ByteArray), (⟨#[50]⟩ : ByteArray), (⟨#[7]⟩ : ByteArray), (⟨#[34]⟩ : ByteArray), (⟨#[49, 97]⟩ : ByteArray)] _ rfl (by decide) (by decide); rw [e3, Option.bind_some]; simp only; rw [if_pos y0, if_pos y1]; exact ⟨_, _, _, rfl, hb.set _ ⟨hy, hx.2⟩, by rw [List.length_set]; exact hl⟩
  rw [if_neg c2]; have hw : wrap64 (i + 1) = i + 1 := wrap_ok (by omega) (by omega); rw [hw, if_pos (by omega), if_pos (by omega), if_pos (by omega)]; exact ⟨_, _, _, rfl, fun y hy => hb y (List.mem_of_mem_eraseIdx hy), Nat.le_trans (List.length_eraseIdx_le ..) hl⟩
theorem size_tot (l : List Int) (hl : l.length ≤ 140737488355328) : ∃ n : Nat, spec_l1Size.f l 6 60 = some (n : Int) ∧ n ≤ 60 := by
  unfold spec_l1Size.f; have hw : wrap64 ((l.length : Int) / 6) = (l.length : Int) / 6 := wrap_ok (by omega) (by omega); rw [if_neg (by decide), hw]
  by_cases c : (l.length : Int) / 6 > 60
  · exact ⟨60, by rw [if_pos c]; rfl, Nat.le_refl _⟩
  · exact ⟨((l.length : Int) / 6).toNat, by rw [if_neg c, Int.toNat_of_nonneg (by omega)], by omega⟩
end Go.Proofs.YtbeelgaganbblaaDoor.Dr
namespace Go.Proofs.YtbeelgaganbblaaDoor.Dr
open Go.RowKit Go.Proofs.YtbeelgaganbblaaDoor Go.Proofs.YtbeelgaganbblaaDoorW.PrintWords Go.Proofs.YtbeelgaganbblaaDoorW.PrintLast Go.Proofs.YtbeelgaganbblaaDoor.By Go.Proofs.YtbeelgaganbblaaDoor.Gp Go.Proofs.YtbeelgaganbblaaDoor.PFnExactGoodTree
set_option linter.unusedVariables false
set_option linter.unusedSimpArgs false
set_option maxRecDepth 100000
def Out (w : World) (e : Ending) (w' : World) : Prop := ∃ v l, e = .returned v ∧ Kd.R k43 43 w' w.heap.size (fun _ => True) v l ∧ NBs l ∧ l.length ≤ 10000 ∧ Below w.heap.size w w'
theorem Out.of {w w' : World} {e : Ending} {v : Value} {l : List S43} (he : e = .returned v) (hR : Kd.R k43 43 w' w.heap.size (fun _ => True) v l) (hb : NBs l) (hl : l.length ≤ 10000) (hB : Below w.heap.size w w') : Out w e w' := ⟨v, l, he, hR, hb, hl, hB⟩
theorem strOf_size (xs : List Int) : (strOfNums xs).size = xs.length := by unfold strOfNums; show (List.toArray _).size = _; simp
section
variable {W : World} {base g cap n e : Nat} {ok : Nat → Prop}
theorem int_cell {k : IntKind} {ys : List Int} (h : (Kd.int k).R e W base ok (.slice (some ⟨g, 0, none⟩) n cap) ys) (j : Nat) (hj : j < n) : (∃ x, W.cell? ⟨g, j, none⟩ = some (.int k x)) ∧ W.frozen? ⟨g, j, none⟩ = false := by
  obtain ⟨rfl, _⟩ := Kd.R_reads' h; have := Kd.R_cell (enc := Value.int k) (h1 := fun _ => rfl) (0 : Int) h (j : Int) (by omega) (by omega); exact ⟨⟨_, this.1⟩, this.2⟩
theorem int_put {k : IntKind} {ys : List Int} (h : (Kd.int k).R e W base ok (.slice (some ⟨g, 0, none⟩) n cap) ys) (j : Nat) (x : Int) :
    (Kd.int k).R e (W.setCell ⟨g, j, none⟩ (.int k x)) base ok (.slice (some ⟨g, 0, none⟩) n cap) (ys.set j x) ∧ W.grownBy (W.setCell ⟨g, j, none⟩ (.int k x)) (some g) :=
  Kd.R_putg (enc := Value.int k) (h1 := fun _ => rfl) h (j : Int) x
variable {xs : List S43}
theorem node_cells (h : Kd.R k43 43 W base ok (.slice (some ⟨g, 0, none⟩) n cap) xs) (j : Nat) (hj : j < n) : ∃ x, xs[j]? = some x ∧ W.cell? ⟨g, j * 4, none⟩ = some (.int .i64 x.f0) ∧ W.cell? ⟨g, j * 4 + 1, none⟩ = some (.string x.f1) ∧ W.cell? ⟨g, j * 4 + 2, none⟩ = some (.int .i64 x.f2) ∧ W.cell? ⟨g, j * 4 + 3, none⟩ = some (.int .i64 x.f3) ∧
    W.frozen? ⟨g, j * 4, none⟩ = false ∧ W.frozen? ⟨g, j * 4 + 1, none⟩ = false ∧ W.frozen? ⟨g, j * 4 + 2, none⟩ = false ∧ W.frozen? ⟨g, j * 4 + 3, none⟩ = false := by
  obtain ⟨hn, _⟩ := Kd.R_reads' h; obtain ⟨c, hcl, hM, hcc, hfr⟩ := Kd.R_elem h z43 (j : Int) (by omega) (by omega); obtain rfl := k43_openM hM
  have hx : xs[j]? = some (xs.getD (j : Int).toNat z43) := by
    rw [Int.toNat_natCast, List.getD_eq_getElem?_getD, List.getElem?_eq_getElem (by omega)]; rfl
  exact ⟨_, hx, hcc 0 _ rfl, hcc 1 _ rfl, hcc 2 _ rfl, hcc 3 _ rfl, hfr 0, hfr 1, hfr 2, hfr 3⟩
theorem node_put (h : Kd.R k43 43 W base ok (.slice (some ⟨g, 0, none⟩) n cap) xs) (j : Nat) (hj : j < n) (y : S43) :
    Kd.R k43 43 ((((W.setCell ⟨g, j * 4, none⟩ (.int .i64 y.f0)).setCell ⟨g, j * 4 + 1, none⟩ (.string y.f1)).setCell ⟨g, j * 4 + 2, none⟩ (.int .i64 y.f2)).setCell ⟨g, j * 4 + 3, none⟩ (.int .i64 y.f3)) base ok (.slice (some ⟨g, 0, none⟩) n cap) (xs.set j y) ∧
    W.grownBy ((((W.setCell ⟨g, j * 4, none⟩ (.int .i64 y.f0)).setCell ⟨g, j * 4 + 1, none⟩ (.string y.f1)).setCell ⟨g, j * 4 + 2, none⟩ (.int .i64 y.f2)).setCell ⟨g, j * 4 + 3, none⟩ (.int .i64 y.f3)) (some g) := by
  obtain ⟨c, hcl, hM, hcc, hfr⟩ := Kd.R_elem h z43 (j : Int) (by omega) (by omega); obtain rfl := k43_openM hM; exact Kd.R_seg h (j : Int) (by omega) (by omega) (seg := [.int .i64 y.f0, .string y.f1, .int .i64 y.f2, .int .i64 y.f3]) (j := 0) hcl hcc (show 4 ≤ 4 from by decide) (x' := y) (k43_mkM _ _ _ y) (fun _ hk => hk)
theorem node_text (h : Kd.R k43 43 W base ok (.slice (some ⟨g, 0, none⟩) n cap) xs) (j : Nat) (hj : j < n) {x : S43} (hx : xs[j]? = some x) (t : ByteArray) :
    Kd.R k43 43 (W.setCell ⟨g, j * 4 + 1, none⟩ (.string t)) base ok (.slice (some ⟨g, 0, none⟩) n cap) (xs.set j ⟨x.f0, t, x.f2, x.f3⟩) ∧ W.grownBy (W.setCell ⟨g, j * 4 + 1, none⟩ (.string t)) (some g) := by
  obtain ⟨c, hcl, hM, hcc, hfr⟩ := Kd.R_elem h z43 (j : Int) (by omega) (by omega)
  have hxe : xs.getD (j : Int).toNat z43 = x := by
    rw [Int.toNat_natCast, List.getD_eq_getElem?_getD, hx]; rfl
  rw [hxe] at hM; obtain rfl := k43_openM hM; exact Kd.R_seg h (j : Int) (by omega) (by omega) (seg := [.string t]) (j := 1) hcl hcc (show 2 ≤ 4 from by decide) (x' := (⟨x.f0, t, x.f2, x.f3⟩ : S43)) (k43_mkM _ _ _ (⟨x.f0, t, x.f2, x.f3⟩ : S43)) (fun _ hk => hk)
end
theorem info5' : (Tryd.prog.info? 5).map (fun i => (i.zero, i.size, i.bytes)) = some (some (.int .u8 0), 1, 1) := by kernel_rfl
set_option maxHeartbeats 8000000 in
theorem nodes_any (A0 : Option Addr) (c0 : Nat) (l : List Int) (w : World) (hr0 : Kd.C (Kd.int .u8) w A0 l.length l) (hc0 : l.length ≤ c0) (hcd : Cd l) (hl : l.length ≤ 140737488355328) :
    Calls Tryd.prog 42 #[.slice A0 l.length c0] w (Out w) := by
  obtain ⟨n, hn, hn60⟩ := size_tot l hl; have HR0 := Lib.hid hr0; have HC0 := Lib.hid hc0; have HCD := Lib.hid hcd; have HN := Lib.hid hn; have hI0 : Hid (Z1 w (w.alloc (.cells #[.slice A0 l.length c0, .int .i64 0, .int .u64 0] 102)) w.heap.size l 0 0) := Z1.new w w A0 c0 l 0 0 (Below.refl _ _) hr0; have hB0 : Hid (Below w.heap.size w (w.alloc (.cells #[.slice A0 l.length c0, .int .i64 0, .int .u64 0] 102))) := Z3 (Below.refl _ _) _; clear hr0 hc0 hcd hn hl; have hu43 := Tryd.underlying43; go_enter Tryd.func42, Tryd.ntmps42; go_wp2_with (fail); refine (spec_l1Size.calls A0 c0 l 6 60 n _ (Kd.C_alloc HR0.out _) HC0.out HN.out).mono ?_; rintro e w1 ⟨rfl, ⟨nd, rfl⟩⟩; obtain ⟨z, a1, sd1, e1, q1, q2, z0, z1, _⟩ := pick_tot HCD.out 0 0 12 (by decide) (by decide); have hz12 := z1 (by decide); have HE1 := Lib.hid e1; clear e1 z1; go_wp2_with (fail); refine (Zf.calls w.heap.size l 0 0 12 z a1 sd1 w _ (hI0.out.drewN nd) (Z0 hB0.out nd) HE1.out).mono ?_; rintro e w2 ⟨rfl, hI2, hB2, -⟩; have HI2 := Lib.hid hI2; have HB2 := Lib.hid hB2; clear hI2 hB2 hI0 hB0 HE1 HN HR0 HC0
  by_cases k0 : z = 0
  · subst k0; obtain ⟨dl, a2, sd2, ⟨kk, hk⟩, hnb, hlen⟩ := deep_tot HCD.out a1 sd1 (by omega) (by omega); have HK : Hid (ZP.f kk l a1 sd1 = some (dl, a2, sd2)) := hk kk (Nat.le_refl _); have HNB := Lib.hid hnb; clear hk hnb; go_wp2_with (fail); refine (ZP.calls kk w.heap.size l a1 sd1 dl a2 sd2 w _ HI2.out HB2.out HK.out).mono ?_; rintro e w3 ⟨v, rfl, hR, hI3, hB3, -⟩; have HR := Lib.hid (Kd.R_lower hR HB2.out.size); have HB3 := Lib.hid hB3; clear hR hI3 hB3; go_wp2_with (fail); go_ret; exact Out.of rfl HR.out HNB.out hlen HB3.out
  have t0 : (z == 0) = false := beq_eq_false_iff_ne.2 k0
  by_cases k1 : z = 1
  · subst k1; obtain ⟨y, a3, sd3, e3, q3, q4, y0, y1, _⟩ := pick_tot HCD.out a1 sd1 3 (by omega) (by omega); have hy3 := y1 (by decide); have HE3 := Lib.hid e3; clear e3 y1; go_wp2_with (fail); refine (Zf.calls w.heap.size l a1 sd1 3 y a3 sd3 w _ HI2.out HB2.out HE3.out).mono ?_; rintro e w3 ⟨rfl, hI3, hB3, -⟩; have HB3 := Lib.hid hB3; clear hI3 hB3 HI2 HB2 HE3; obtain ⟨N, hN⟩ : ∃ N : Nat, (7999 + y).toNat = N := ⟨_, rfl⟩; have hN1 : 7999 + y = (N : Int) := (by omega); go_wp2_with (first | ((with_reducible refine ZE (N := 70) rfl ?_); refine Kd.R_make k43 w.heap.size 43 rfl (N := 70) rfl 25 _ _ rfl (N : Int) (by first | rfl | (rw [← hN1]; rfl)) (by first | rfl | (rw [← hN1]; rfl)) Tryd.underlying25 (.agg #[(.int .i64 0), (.string ⟨#[]⟩), (.int .i64 0), (.int .i64 0)]) 40 info43 rfl (by decide) (by decide) z43 (ok := fun _ => True) (okp := fun _ => True) (k43_mkM _ _ _ z43) (fun _ hk => hk) trivial (by omega) (by omega) HB3.out HB3.out.size ?_; intro v9 w4 hR9 hB9 hg9 hn9; rw [Int.toNat_natCast] at hR9; obtain ⟨g9, cap9, ev9, hgb9, hgl9, _⟩ := Kd.R_form hR9 (by rw [List.length_replicate]; omega); rw [List.length_replicate] at ev9; subst ev9; have hcap9 : N ≤ cap9 := (Kd.R_reads' hR9).2.1)); have hN2 : N ≤ 8001 := (by omega); have hR9x : Hid (∃ xs, xs.length = N ∧ NBs xs ∧ Kd.R k43 43 w4 w.heap.size (fun _ => True) (.slice (some ⟨g9, 0, none⟩) N cap9) xs) := ⟨_, List.length_replicate, fun x hx => by rw [List.eq_of_mem_replicate hx]; exact ⟨by decide, by decide⟩, hR9⟩; have HB9 := Lib.hid hB9; clear hR9 hB9 hg9 hn9 hgl9 HB3 hN1 hN; go_loopw [73] (fun v73 wi => ∃ j : Nat, j ≤ N ∧ v73 = .int .i64 j ∧ Hid (∃ xs, xs.length = N ∧ NBs xs ∧ Kd.R k43 43 wi w.heap.size (fun _ => True) (.slice (some ⟨g9, 0, none⟩) N cap9) xs) ∧ Hid (Below w.heap.size w wi)) (fun v73 _ => N - (intOf v73).toNat)
    case atStart => exact ⟨0, Nat.zero_le _, by first | rfl | go_num, hR9x.out, HB9.out⟩
    case round =>
      obtain ⟨j, hj, rfl, HXi, HBi⟩ := hrel; clear hR9x HB9
      by_cases hlj : j < N
      · obtain ⟨xs, hxl, hxn, hxs⟩ := HXi.out; obtain ⟨x, hx, c0, c1, c2, c3, f0, f1, f2, f3⟩ := node_cells hxs j hlj; have HXS := Lib.hid hxs; have HXL := Lib.hid hxl; have HXN := Lib.hid hxn; clear HXi hxs hxl hxn hx; go_wp2_with (fail); obtain ⟨hp1, hp2⟩ := node_put HXS.out j hlj (⟨2, ⟨#[97]⟩, 0, 0⟩ : S43); go_round
        case rel => exact ⟨j + 1, by omega, by go_num, ⟨_, by rw [List.length_set]; exact HXL.out, HXN.out.set j ⟨by decide, by decide⟩, hp1⟩, (((HBi.out.setCell (p := ⟨g9, j * 4, none⟩) hgb9 _).setCell (p := ⟨g9, j * 4 + 1, none⟩) hgb9 _).setCell (p := ⟨g9, j * 4 + 2, none⟩) hgb9 _).setCell (p := ⟨g9, j * 4 + 3, none⟩) hgb9 _⟩
        case measure => simp [intOf]; omega
      · obtain ⟨xs, hxl, hxn, hxs⟩ := HXi.out; have HXS := Lib.hid hxs; have HXN := Lib.hid hxn; have hlen : xs.length ≤ 10000 := (by omega); clear HXi hxs hxl hxn; go_wp2_with (fail); go_ret; exact Out.of rfl HXS.out HXN.out hlen HBi.out
  have t1 : (z == 1) = false := beq_eq_false_iff_ne.2 k1
  by_cases k2 : z = 2
  · subst k2; obtain ⟨b, a3, sd3, e3, q3, q4⟩ := one2_tot HCD.out a1 sd1 (by omega) (by omega); have HE3 := Lib.hid e3; clear e3; go_wp2_with (fail); refine (spec_l1Cur_one2.calls w.heap.size l a1 sd1 b a3 sd3 w _ HI2.out HB2.out HE3.out).mono ?_; rintro e w3 ⟨rfl, hI3, hB3, -⟩; have HI3 := Lib.hid hI3; have HB3 := Lib.hid hB3; clear hI3 hB3 HI2 HB2 HE3; cases b
    · -- trees, long names
      obtain ⟨tl, a4, sd4, ⟨kk, hk⟩, hnb, hlen, a40, a41⟩ := trees_tot HCD.out a3 sd3 (3 + n) (by omega) (by omega) (by omega)
      have HK : Hid (Zc.f kk l a3 sd3 (3 + (n : Int)) = some (tl, a4, sd4)) := by show _ = _; rw [show (3 + (n : Int)) = ((3 + n : Nat) : Int) by omega]; exact hk kk (Nat.le_refl _)
      have HNB := Lib.hid hnb; clear hk hnb; go_wp2_with (fail); refine (Zc.calls kk w.heap.size l a3 sd3 (3 + (n : Int)) tl a4 sd4 w _ HI3.out HB3.out HK.out).mono ?_; rintro e w4 ⟨v, rfl, hR, hI4, hB4, -⟩; have HR := Lib.hid (Kd.R_lower hR HB3.out.size); have HB4 := Lib.hid hB4; have HI4 := Lib.hid hI4; clear hR hI4 hB4; obtain ⟨Av, cv, rfl⟩ := Kd.R_slice HR.out; have hcapv : tl.length ≤ cv := (Kd.R_reads' HR.out).2.1; go_wp2_with (first | ((with_reducible refine ZE (N := 87) rfl ?_); refine Kd.R_make (Kd.int .u8) w.heap.size 5 rfl (N := 87) rfl 37 _ _ rfl ((400 : Int)) rfl rfl Tryd.underlying37 (.int .u8 0) 1 info5' rfl (by decide) (by decide) (0 : Int) (ok := fun _ => True) (okp := fun _ => True) rfl (fun _ hk => hk) trivial (by omega) (by omega) HB4.out HB4.out.size ?_; intro v9 w4 hR9 hB9 hg9 hn9; obtain ⟨g9, cap9, ev9, hgb9, hgl9, _⟩ := Kd.R_form hR9 (by rw [List.length_replicate]; omega); rw [List.length_replicate, show ((400 : Int)).toNat = 400 from rfl] at ev9; subst ev9; have hcap9 : 400 ≤ cap9 := (Kd.R_reads' hR9).2.1)); have hR9x : Hid (∃ ys, ys.length = 400 ∧ (Kd.int .u8).R 5 w4 w.heap.size (fun _ => True) (.slice (some ⟨g9, 0, none⟩) 400 cap9) ys) := ⟨_, by rw [List.length_replicate, show ((400 : Int)).toNat = 400 from rfl], hR9⟩; clear hR9 hn9 hgl9; have HB9 := Lib.hid hB9; have HX9 := Lib.hid (Kd.R_grown HR.out hg9 (fun _ _ => by simp)); have HI9 := Lib.hid (HI4.out.grown hg9 (by simp)); clear hB9 hg9 HB4 HR HI4; go_loopw [90] (fun v90 wi => ∃ j : Nat, j ≤ 400 ∧ v90 = .int .i64 j ∧ Hid (∃ ys, ys.length = 400 ∧ (Kd.int .u8).R 5 wi w.heap.size (fun _ => True) (.slice (some ⟨g9, 0, none⟩) 400 cap9) ys) ∧ Hid (Below w.heap.size w wi) ∧ Hid (Kd.R k43 43 wi w.heap.size (fun _ => True) (.slice Av tl.length cv) tl) ∧ Hid (Z1 w wi w.heap.size l a4 sd4)) (fun v90 _ => 400 - (intOf v90).toNat)
      case atStart => exact ⟨0, Nat.zero_le _, by first | rfl | go_num, hR9x.out, HB9.out, HX9.out, HI9.out⟩
      case round =>
        obtain ⟨j, hj, rfl, HYi, HBi, HE0, HE1⟩ := hrel; clear hR9x HB9
        by_cases hlj : j < 400
        · obtain ⟨ys, hyl, hys⟩ := HYi.out; obtain ⟨⟨x0, hc0⟩, hf0⟩ := int_cell hys j hlj; have HYS := Lib.hid hys; have HYL := Lib.hid hyl; clear HYi hys hyl; go_wp2_with (fail); obtain ⟨hp1, hp2⟩ := int_put HYS.out j 122; go_round
          case rel => exact ⟨j + 1, by omega, by go_num, ⟨_, by rw [List.length_set]; exact HYL.out, hp1⟩, HBi.out.setCell (p := ⟨g9, j, none⟩) hgb9 _, Kd.R_over HE0.out HYS.out (by decide) hp2, HE1.out.grown hp2 (HE1.out.own_ne HYS.out (by decide))⟩
          case measure => simp [intOf]; omega
        · have hin : j = 400 := (by omega); subst hin; clear hlj hj; have HXi : Hid (∃ xs, xs.length = tl.length ∧ NBs xs ∧ Kd.R k43 43 wr w.heap.size (fun _ => True) (.slice Av tl.length cv) xs) := ⟨tl, rfl, HNB.out, HE0.out⟩; clear HX9 HI9 HE0 HNB; go_wp2_with (fail); go_loopw [16] (fun v16 wr => ∃ j : Nat, j ≤ 50 ∧ v16 = .int .i64 j ∧ Hid (∃ xs, xs.length = tl.length ∧ NBs xs ∧ Kd.R k43 43 wr w.heap.size (fun _ => True) (.slice Av tl.length cv) xs) ∧ Hid (∃ ys, ys.length = 400 ∧ (Kd.int .u8).R 5 wr w.heap.size (fun _ => True) (.slice (some ⟨g9, 0, none⟩) 400 cap9) ys) ∧ Hid (Below w.heap.size w wr) ∧ Hid (Z1 w wr w.heap.size l a4 sd4)) (fun v16 _ => 50 - (intOf v16).toNat)
          case atStart => exact ⟨0, Nat.zero_le _, by first | rfl | go_num, HXi.out, HYi.out, HBi.out, HE1.out⟩
          case round =>
            obtain ⟨j, hj, rfl, HXr, HYr, HBr, HIr⟩ := hrel; clear HXi HYi HBi HE1
            by_cases hj50 : j < 50
            · have d1 : decide ((j : Int) < 50) = true := decide_eq_true (by omega)
              by_cases hjl : j < tl.length
              · have d2 : decide (j < tl.length) = true := decide_eq_true hjl; have d3 : decide ((j : Int) < (tl.length : Int)) = true := decide_eq_true (by omega); obtain ⟨xs, hxl, hxn, hxs⟩ := HXr.out; obtain ⟨gv, capv, ev, hgbv, hglv, _⟩ := Kd.R_form hxs (by omega)
                injection ev with ev1 ev2 ev3
                subst ev1; subst ev3; obtain ⟨x, hx, c0, c1, c2, c3, f0, f1, f2, f3⟩ := node_cells hxs j hjl; obtain ⟨ys, hyl, hys⟩ := HYr.out; obtain ⟨-, -, hCy⟩ := Kd.R_reads' hys; have hcv0 := Kd.C_string (P := Tryd.prog) (src := 37) (dst := 9) (c := cap9) Tryd.underlying37 Tryd.underlying5 Tryd.underlying9 hCy; rw [hyl] at hcv0; obtain ⟨T, hT⟩ : ∃ T, strOfNums ys = T := ⟨_, rfl⟩
                have hTs : T.size ≤ 9000 := by rw [← hT, strOf_size, hyl]; decide
                rw [hT] at hcv0; have HXS := Lib.hid hxs; have HXL := Lib.hid hxl; have HXN := Lib.hid hxn; have HXX := Lib.hid hx; have HYS := Lib.hid hys; have HYL := Lib.hid hyl; clear HXr HYr hxs hxl hxn hx hys hyl hCy hT ev2
                by_cases hk2 : x.f0 = 2
                · have d4 : (x.f0 == 2) = true := beq_iff_eq.2 hk2; clear hk2; go_wp2_with (fail); obtain ⟨hp1, hp2⟩ := node_text HXS.out j hjl HXX.out T; go_round
                  case rel => exact ⟨j + 1, by omega, by go_num, ⟨_, by rw [List.length_set]; exact HXL.out, HXN.out.set j (x := (⟨x.f0, T, x.f2, x.f3⟩ : S43)) ⟨hTs, (HXN.out x (List.mem_of_getElem? HXX.out)).2⟩, hp1⟩, ⟨ys, HYL.out, Kd.R_over HYS.out HXS.out (by decide) hp2⟩, HBr.out.setCell (p := ⟨gv, j * 4 + 1, none⟩) hgbv _, HIr.out.grown hp2 (HIr.out.own_ne HXS.out (by decide))⟩
                  case measure => simp [intOf]; omega
                · have d4 : (x.f0 == 2) = false := beq_eq_false_iff_ne.2 hk2; clear hk2; go_wp2_with (fail); go_round
                  case rel => exact ⟨j + 1, by omega, by go_num, ⟨xs, HXL.out, HXN.out, HXS.out⟩, ⟨ys, HYL.out, HYS.out⟩, HBr.out, HIr.out⟩
                  case measure => simp [intOf]; omega
              · have d2 : decide (j < tl.length) = false := decide_eq_false hjl; have d3 : decide ((j : Int) < (tl.length : Int)) = false := decide_eq_false (by omega); obtain ⟨xs, hxl, hxn, hxs⟩ := HXr.out; have HXS := Lib.hid hxs; have HXN := Lib.hid hxn; have hxl2 : xs.length ≤ 10000 := (by omega); clear HXr hxs hxn hxl; obtain ⟨sl, a5, sd5, hsp, hnb5, hlen5⟩ := spoilt_tot HCD.out a4 sd4 (by omega) (by omega) xs (by omega) HXN.out; have HSP := Lib.hid hsp; have HN5 := Lib.hid hnb5; clear hsp hnb5; go_wp2_with (fail); refine (Zv.calls w.heap.size l a4 sd4 (fun _ => True) _ xs sl a5 sd5 w _ HIr.out HBr.out HXS.out HSP.out).mono ?_; rintro e w6 ⟨v6, rfl, hR6, hI6, hB6, -⟩; have HR6 := Lib.hid (Kd.R_mono hR6 (fun _ _ => trivial)); have HB6 := Lib.hid hB6; clear hR6 hI6 hB6; go_wp2_with (fail); go_ret; exact Out.of rfl HR6.out HN5.out hlen5 HB6.out
            · have d1 : decide ((j : Int) < 50) = false := decide_eq_false (by omega); obtain ⟨xs, hxl, hxn, hxs⟩ := HXr.out; have HXS := Lib.hid hxs; have HXN := Lib.hid hxn; have hxl2 : xs.length ≤ 10000 := (by omega); clear HXr hxs hxn hxl; obtain ⟨sl, a5, sd5, hsp, hnb5, hlen5⟩ := spoilt_tot HCD.out a4 sd4 (by omega) (by omega) xs (by omega) HXN.out; have HSP := Lib.hid hsp; have HN5 := Lib.hid hnb5; clear hsp hnb5; go_wp2_with (fail); refine (Zv.calls w.heap.size l a4 sd4 (fun _ => True) _ xs sl a5 sd5 w _ HIr.out HBr.out HXS.out HSP.out).mono ?_; rintro e w6 ⟨v6, rfl, hR6, hI6, hB6, -⟩; have HR6 := Lib.hid (Kd.R_mono hR6 (fun _ _ => trivial)); have HB6 := Lib.hid hB6; clear hR6 hI6 hB6; go_wp2_with (fail); go_ret; exact Out.of rfl HR6.out HN5.out hlen5 HB6.out
    · -- long texts
      obtain ⟨y, a4, sd4, e4, q5, q6, y0, y1, _⟩ := pick_tot HCD.out a3 sd3 80 (by omega) (by omega); have hy80 := y1 (by decide); have HE4 := Lib.hid e4; clear e4 y1; go_wp2_with (fail); refine (Zf.calls w.heap.size l a3 sd3 80 y a4 sd4 w _ HI3.out HB3.out HE4.out).mono ?_; rintro e w3' ⟨rfl, hI4, hB4, -⟩; have HB4 := Lib.hid hB4; clear hI4 hB4 HI3 HB3 HE4; go_wp2_with (fail); go_loopw [6, 7] (fun v6 v7 wr => ∃ (xs : List S43) (lf : Int), v7 = .int .i64 lf ∧ -3 ≤ lf ∧ lf ≤ 20039 ∧ 4 * (xs.length : Int) + lf ≤ 20039 ∧ Hid (Kd.R k43 43 wr w.heap.size (fun _ => True) v6 xs) ∧ Hid (NBs xs) ∧ Hid (Below w.heap.size w wr)) (fun _ v7 _ => (intOf v7).toNat)
      case atStart => exact ⟨[], 19960 + y, by first | rfl | go_num, by omega, by omega, by simp; omega, Kd.R_nil _ _ _ _ _, NBs.nil, HB4.out⟩
      case round =>
        obtain ⟨xs, lf, rfl, h1, h2, h3, HRx, HNB, HBW⟩ := hrel; clear HB4
        by_cases hpos : 0 < lf
        · have g1 : decide (0 < lf) = true := decide_eq_true hpos
          by_cases h9 : 9000 < lf
          · have g2 : decide (9000 < lf) = true := decide_eq_true h9; go_wp2_with (first | ((with_reducible refine ZE (N := 44) rfl ?_); refine Kd.R_make (Kd.int .u8) w.heap.size 5 rfl (N := 44) rfl 37 _ _ rfl ((9000 : Int)) rfl rfl Tryd.underlying37 (.int .u8 0) 1 info5' rfl (by decide) (by decide) (0 : Int) (ok := fun _ => True) (okp := fun _ => True) rfl (fun _ hk => hk) trivial (by omega) (by omega) HBW.out HBW.out.size ?_; intro v9 w4 hR9 hB9 hg9 hn9; obtain ⟨g9, cap9, ev9, hgb9, hgl9, _⟩ := Kd.R_form hR9 (by rw [List.length_replicate]; omega); rw [List.length_replicate, show ((9000 : Int)).toNat = 9000 from rfl] at ev9; subst ev9; have hcap9 : 9000 ≤ cap9 := (Kd.R_reads' hR9).2.1)); have hR9x : Hid (∃ ys, ys.length = 9000 ∧ (Kd.int .u8).R 5 w4 w.heap.size (fun _ => True) (.slice (some ⟨g9, 0, none⟩) 9000 cap9) ys) := ⟨_, by rw [List.length_replicate, show ((9000 : Int)).toNat = 9000 from rfl], hR9⟩; clear hR9 hn9 hgl9; have HB9 := Lib.hid hB9; have HX9 := Lib.hid (Kd.R_grown HRx.out hg9 (fun _ _ => by simp)); clear hB9 hg9 HBW HRx; go_loopw [47] (fun v47 wi => ∃ j : Nat, j ≤ 9000 ∧ v47 = .int .i64 j ∧ Hid (∃ ys, ys.length = 9000 ∧ (Kd.int .u8).R 5 wi w.heap.size (fun _ => True) (.slice (some ⟨g9, 0, none⟩) 9000 cap9) ys) ∧ Hid (Below w.heap.size w wi) ∧ Hid (Kd.R k43 43 wi w.heap.size (fun _ => True) u6 xs)) (fun v47 _ => 9000 - (intOf v47).toNat)
            case atStart => exact ⟨0, Nat.zero_le _, by first | rfl | go_num, hR9x.out, HB9.out, HX9.out⟩
            case round =>
              obtain ⟨j, hj, rfl, HYi, HBi, HE0⟩ := hrel; clear hR9x HB9
              by_cases hlj : j < 9000
              · obtain ⟨ys, hyl, hys⟩ := HYi.out; obtain ⟨⟨x0, hc0⟩, hf0⟩ := int_cell hys j hlj; have HYS := Lib.hid hys; have HYL := Lib.hid hyl; clear HYi hys hyl; go_wp2_with (fail); obtain ⟨hp1, hp2⟩ := int_put HYS.out j 97; go_round
                case rel => exact ⟨j + 1, by omega, by go_num, ⟨_, by rw [List.length_set]; exact HYL.out, hp1⟩, HBi.out.setCell (p := ⟨g9, j, none⟩) hgb9 _, Kd.R_over HE0.out HYS.out (by decide) hp2⟩
                case measure => simp [intOf]; omega
              · have hin : j = 9000 := (by omega); subst hin; obtain ⟨ys, hyl, hys⟩ := HYi.out; obtain ⟨-, -, hCy⟩ := Kd.R_reads' hys; have hcv0 := Kd.C_string (P := Tryd.prog) (src := 37) (dst := 9) (c := cap9) Tryd.underlying37 Tryd.underlying5 Tryd.underlying9 hCy; rw [hyl] at hcv0; obtain ⟨T, hT⟩ : ∃ T, strOfNums ys = T := ⟨_, rfl⟩
                have hTs : T.size ≤ 9000 := by rw [← hT, strOf_size, hyl]; omega
                rw [hT] at hcv0; clear HYi hys hyl hCy hT hlj hj; go_wp2_with (at_builtin; refine Kd.R_append k43 (w0 := w) w.heap.size rfl (.tmp 54) (.tmp 58) 25 43 (.agg #[(.int .i64 0), (.string ⟨#[]⟩), (.int .i64 0), (.int .i64 0)]) 40 rfl Tryd.underlying25 info43 rfl (by decide) (by decide) _ xs (⟨6, T, 0, 0⟩ : S43) [.int .i64 6, .string T, .int .i64 0, .int .i64 0] (fun _ => True) (fun _ => False) rfl rfl ?aP (fun _ hk => hk.elim) (fun _ _ => trivial) HE0.out HBi.out HBi.out.size (by omega) ?_)
                case aP => exact k43_mkM _ _ _ (⟨6, T, 0, 0⟩ : S43)
                intro v1 w5 hR5 hB5 hg5 _; have HR5 := Lib.hid hR5; have HB5 := Lib.hid hB5; have HN5 := Lib.hid (HNB.out.snoc (x := (⟨6, T, 0, 0⟩ : S43)) ⟨hTs, show (0 : Int) ≤ _ by decide⟩); clear hR5 hB5 hg5 hcv0; go_wp2_with (fail); go_round
                case rel => exact ⟨_, _, by first | rfl | go_num, by omega, by omega, by rw [List.length_append]; simp; omega, HR5.out, HN5.out, HB5.out⟩
                case measure => simp [intOf]; omega
          · have g2 : decide (9000 < lf) = false := decide_eq_false h9; go_wp2_with (first | ((with_reducible refine ZE (N := 44) rfl ?_); refine Kd.R_make (Kd.int .u8) w.heap.size 5 rfl (N := 44) rfl 37 _ _ rfl (lf) rfl rfl Tryd.underlying37 (.int .u8 0) 1 info5' rfl (by decide) (by decide) (0 : Int) (ok := fun _ => True) (okp := fun _ => True) rfl (fun _ hk => hk) trivial (by omega) (by omega) HBW.out HBW.out.size ?_; intro v9 w4 hR9 hB9 hg9 hn9; obtain ⟨g9, cap9, ev9, hgb9, hgl9, _⟩ := Kd.R_form hR9 (by rw [List.length_replicate]; omega); rw [List.length_replicate, show (lf).toNat = lf.toNat from rfl] at ev9; subst ev9; have hcap9 : lf.toNat ≤ cap9 := (Kd.R_reads' hR9).2.1)); have hR9x : Hid (∃ ys, ys.length = lf.toNat ∧ (Kd.int .u8).R 5 w4 w.heap.size (fun _ => True) (.slice (some ⟨g9, 0, none⟩) lf.toNat cap9) ys) := ⟨_, by rw [List.length_replicate, show (lf).toNat = lf.toNat from rfl], hR9⟩; clear hR9 hn9 hgl9; have HB9 := Lib.hid hB9; have HX9 := Lib.hid (Kd.R_grown HRx.out hg9 (fun _ _ => by simp)); clear hB9 hg9 HBW HRx; go_loopw [47] (fun v47 wi => ∃ j : Nat, j ≤ lf.toNat ∧ v47 = .int .i64 j ∧ Hid (∃ ys, ys.length = lf.toNat ∧ (Kd.int .u8).R 5 wi w.heap.size (fun _ => True) (.slice (some ⟨g9, 0, none⟩) lf.toNat cap9) ys) ∧ Hid (Below w.heap.size w wi) ∧ Hid (Kd.R k43 43 wi w.heap.size (fun _ => True) u6 xs)) (fun v47 _ => lf.toNat - (intOf v47).toNat)
            case atStart => exact ⟨0, Nat.zero_le _, by first | rfl | go_num, hR9x.out, HB9.out, HX9.out⟩
            case round =>
              obtain ⟨j, hj, rfl, HYi, HBi, HE0⟩ := hrel; clear hR9x HB9
              by_cases hlj : j < lf.toNat
              · obtain ⟨ys, hyl, hys⟩ := HYi.out; obtain ⟨⟨x0, hc0⟩, hf0⟩ := int_cell hys j hlj; have HYS := Lib.hid hys; have HYL := Lib.hid hyl; clear HYi hys hyl; go_wp2_with (fail); obtain ⟨hp1, hp2⟩ := int_put HYS.out j 97; go_round
                case rel => exact ⟨j + 1, by omega, by go_num, ⟨_, by rw [List.length_set]; exact HYL.out, hp1⟩, HBi.out.setCell (p := ⟨g9, j, none⟩) hgb9 _, Kd.R_over HE0.out HYS.out (by decide) hp2⟩
                case measure => simp [intOf]; omega
              · have hin : j = lf.toNat := (by omega); subst hin; obtain ⟨ys, hyl, hys⟩ := HYi.out; obtain ⟨-, -, hCy⟩ := Kd.R_reads' hys; have hcv0 := Kd.C_string (P := Tryd.prog) (src := 37) (dst := 9) (c := cap9) Tryd.underlying37 Tryd.underlying5 Tryd.underlying9 hCy; rw [hyl] at hcv0; obtain ⟨T, hT⟩ : ∃ T, strOfNums ys = T := ⟨_, rfl⟩
                have hTs : T.size ≤ 9000 := by rw [← hT, strOf_size, hyl]; omega
                rw [hT] at hcv0; clear HYi hys hyl hCy hT hlj hj; go_wp2_with (at_builtin; refine Kd.R_append k43 (w0 := w) w.heap.size rfl (.tmp 54) (.tmp 58) 25 43 (.agg #[(.int .i64 0), (.string ⟨#[]⟩), (.int .i64 0), (.int .i64 0)]) 40 rfl Tryd.underlying25 info43 rfl (by decide) (by decide) _ xs (⟨6, T, 0, 0⟩ : S43) [.int .i64 6, .string T, .int .i64 0, .int .i64 0] (fun _ => True) (fun _ => False) rfl rfl ?aP (fun _ hk => hk.elim) (fun _ _ => trivial) HE0.out HBi.out HBi.out.size (by omega) ?_)
                case aP => exact k43_mkM _ _ _ (⟨6, T, 0, 0⟩ : S43)
                intro v1 w5 hR5 hB5 hg5 _; have HR5 := Lib.hid hR5; have HB5 := Lib.hid hB5; have HN5 := Lib.hid (HNB.out.snoc (x := (⟨6, T, 0, 0⟩ : S43)) ⟨hTs, show (0 : Int) ≤ _ by decide⟩); clear hR5 hB5 hg5 hcv0; go_wp2_with (fail); go_round
                case rel => exact ⟨_, _, by first | rfl | go_num, by omega, by omega, by rw [List.length_append]; simp; omega, HR5.out, HN5.out, HB5.out⟩
                case measure => simp [intOf]; omega
        · have g1 : decide (0 < lf) = false := decide_eq_false hpos; have hlen : xs.length ≤ 10000 := (by omega); go_wp2_with (fail); go_ret; exact Out.of rfl HRx.out HNB.out hlen HBW.out
  have t2 : (z == 2) = false := beq_eq_false_iff_ne.2 k2; obtain ⟨tl, a3, sd3, ⟨kk, hk⟩, hnb, hlen, a30, a31⟩ := trees_tot HCD.out a1 sd1 (3 + n) (by omega) (by omega) (by omega)
  have HK : Hid (Zc.f kk l a1 sd1 (3 + (n : Int)) = some (tl, a3, sd3)) := by show _ = _; rw [show (3 + (n : Int)) = ((3 + n : Nat) : Int) by omega]; exact hk kk (Nat.le_refl _)
  have HNB := Lib.hid hnb; clear hk hnb; go_wp2_with (fail); refine (Zc.calls kk w.heap.size l a1 sd1 (3 + (n : Int)) tl a3 sd3 w _ HI2.out HB2.out HK.out).mono ?_; rintro e w4 ⟨v, rfl, hR, hI4, hB4, -⟩; have HR := Lib.hid (Kd.R_lower hR HB2.out.size); have HB4 := Lib.hid hB4; have HI4 := Lib.hid hI4; clear hR hI4 hB4
  by_cases k6 : z < 6
  · have t6 : decide (z < 6) = true := decide_eq_true k6; obtain ⟨sl, a5, sd5, hsp, hnb5, hlen5⟩ := spoilt_tot HCD.out a3 sd3 (by omega) (by omega) tl (by omega) HNB.out; have HSP := Lib.hid hsp; have HN5 := Lib.hid hnb5; clear hsp hnb5; go_wp2_with (fail); refine (Zv.calls w.heap.size l a3 sd3 (fun _ => True) _ tl sl a5 sd5 w _ HI4.out HB4.out HR.out HSP.out).mono ?_; rintro e w6 ⟨v6, rfl, hR6, hI6, hB6, -⟩; have HR6 := Lib.hid (Kd.R_mono hR6 (fun _ _ => trivial)); have HB6 := Lib.hid hB6; clear hR6 hI6 hB6; go_wp2_with (fail); go_ret; exact Out.of rfl HR6.out HN5.out hlen5 HB6.out
  · have t6 : decide (z < 6) = false := decide_eq_false k6; go_wp2_with (fail); go_ret; exact Out.of rfl HR.out HNB.out hlen HB4.out
end Go.Proofs.YtbeelgaganbblaaDoor.Dr

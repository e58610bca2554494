/- impl.WriteTree writes a row of trees: what each call of the closure `write` adds to the builder, by walks; then the whole. Conditions: a row of trees as Tree tells it, texts of at most 2^20 bytes; the cell of bytealg.MaxLen is there. -/
import Derived.Test.YtbeelgaganbblaaDoorGoodP
import Derived.Outline
import Derived.OwnWalk
import Derived.Deep.QuietTactic
import Derived.BigQuiet
import Derived.Lib.BufferKept
import Derived.Lib.Hide
import Derived.Lib.Replace
import Derived.Laws.EntriesVeiled
namespace Go.Proofs.YtbeelgaganbblaaDoor.Wt
open Go.RowKit Go.Proofs.YtbeelgaganbblaaDoor Go.Proofs.YtbeelgaganbblaaDoorW.PrintWords Go.Proofs.YtbeelgaganbblaaDoor.Gp Go.Proofs.YtbeelgaganbblaaDoor.By Go.Proofs.YtbeelgaganbblaaDoor.Tok Go.Proofs.YtbeelgaganbblaaDoor.Tree Go.Proofs.YtbeelgaganbblaaDoor.Gn Go.Proofs.YtbeelgaganbblaaDoor.PFnExactGoodTree
set_option linter.unusedVariables false
set_option linter.unusedSimpArgs false
set_option maxRecDepth 100000
theorem builder_below {T e : TypeId} {B b : Nat} {bs : List Value} {W W' : World} (h : Lib.IsBuilderF T e B b bs W) (hb : Below W.heap.size W W') : Lib.IsBuilderF T e B b bs W' := by
  have one : ∀ p, Lib.BuilderAtF T e B b p bs W → Lib.BuilderAtF T e B b p bs W' := by
    intro p h
    have hlt := h.lt
    obtain ⟨hB, v, hv, hown, hne⟩ := h
    exact ⟨hB, v, (hb.block b hlt).trans hv, hown.kept (row := none) ⟨hb.os, hb.tape, hb.output, hb.size, fun k hk _ => hb.block k hk⟩ (Classical.em _), hne⟩
  exact h.elim (fun x => .inl (one _ x)) (fun x => .inr (one _ x))
theorem repl_quote : ∀ l : List UInt8, Lib.replaceK [34] [34, 34] (Lib.count l [34]) l = l.flatMap (fun c => if c = 34 then [34, 34] else [c])
  | [] => by rw [Lib.count_one]; rfl
  | c :: l => by
    have ih := repl_quote l
    rw [List.flatMap_cons]
    by_cases hc : c = 34
    · subst hc
      have hi : Lib.index ((34 : UInt8) :: l) [34] = ((0 : Nat) : Int) := by rw [Lib.index_one]; simp [Lib.indexByte]
      rw [Lib.count_cons_eq, Nat.add_comm, Lib.replaceK_hit _ _ _ _ 0 hi, if_pos rfl, ← ih]
      rfl
    · rw [Lib.count_cons_ne c 34 l hc, if_neg hc, ← ih]
      cases hk : Lib.count l [34] with
      | zero => rfl
      | succ k =>
        obtain ⟨i, hi⟩ := Lib.index_of_count (show 0 < Lib.count l [34] by omega)
        have hi2 : Lib.index (c :: l) [34] = ((i + 1 : Nat) : Int) := by
          rw [Lib.index_one] at hi ⊢
          have e : (c == (34 : UInt8)) = false := beq_eq_false_iff_ne.2 hc
          unfold Lib.indexByte
          simp only [e]
          simp [hi]
        rw [Lib.replaceK_hit _ _ _ _ (i + 1) hi2, Lib.replaceK_hit _ _ _ _ i hi]
        rfl
theorem repl_all (l : List UInt8) : Lib.replaceAll l [34] [34, 34] = l.flatMap (fun c => if c = 34 then [34, 34] else [c]) := by
  unfold Lib.replaceAll Lib.replace Lib.replaceNum
  rw [if_neg (by decide), if_pos (.inl (by decide)), repl_quote]
/-- what holds while the closure writes: the row's cell, the closure's own cell, the builder -/
structure St (W0 : World) (A0 : Option Addr) (c0 n : Nat) (b1 b2 b3 : Nat) (out : List UInt8) (w : World) : Prop where
  bel : Below W0.heap.size W0 w
  n1 : w.heap[b1]? = some (.cells #[.slice A0 n c0] 25 (0, 0))
  n3 : w.heap[b3]? = some (.cells #[.func (.func 27) #[] #[.pointer (some ⟨b1, 0, none⟩), .pointer (some ⟨b2, 0, none⟩), .pointer (some ⟨b3, 0, none⟩)]] 52 (0, 0))
  bu : Lib.IsBuilderF 51 5 W0.heap.size b2 (Lib.byteCells out) w
theorem lt_of_some {w : World} {b : Nat} {o : Obj} (h : w.heap[b]? = some o) : b < w.heap.size := by
  rcases Nat.lt_or_ge b w.heap.size with h' | h'
  · exact h'
  · rw [Array.getElem?_eq_none h'] at h; cases h
section
variable {W0 : World} {A0 : Option Addr} {c0 n b1 b2 b3 : Nat} {out : List UInt8} {w w' : World}
theorem St.below (h : St W0 A0 c0 n b1 b2 b3 out w) (hb : Below w.heap.size w w') : St W0 A0 c0 n b1 b2 b3 out w' :=
  ⟨h.bel.trans (hb.mono h.bel.size), (hb.block b1 (lt_of_some h.n1)).trans h.n1, (hb.block b3 (lt_of_some h.n3)).trans h.n3, builder_below h.bu hb⟩
theorem St.alloc (h : St W0 A0 c0 n b1 b2 b3 out w) (o : Obj) : St W0 A0 c0 n b1 b2 b3 out (w.alloc o) := h.below ((Below.refl _ _).alloc (Nat.le_refl _) o)
theorem ne_builder (h : St W0 A0 c0 n b1 b2 b3 out w) : b1 ≠ b2 ∧ b3 ≠ b2 := by
  obtain ⟨p, hB, v, hv, _, _⟩ : ∃ p, Lib.BuilderAtF 51 5 W0.heap.size b2 p (Lib.byteCells out) w := h.bu.elim (fun x => ⟨_, x⟩) (fun x => ⟨_, x⟩)
  constructor
  · intro e; subst e; have := h.n1.symm.trans hv; injection this with this; injection this with _ this _; exact absurd this (by decide)
  · intro e; subst e; have := h.n3.symm.trans hv; injection this with this; injection this with _ this _; exact absurd this (by decide)
theorem St.wrote {bs : List Value} {o2 : List UInt8} (h : St W0 A0 c0 n b1 b2 b3 out w) (hbu : Lib.BuilderAtF 51 5 W0.heap.size b2 (.pointer (some ⟨b2, 0, none⟩)) bs w') (hbe : Below W0.heap.size w w') (hk : Lib.OthersKept 5 (some b2) w w') (e : bs = Lib.byteCells o2) : St W0 A0 c0 n b1 b2 b3 o2 w' := by
  obtain ⟨e1, e3⟩ := ne_builder h
  refine ⟨h.bel.trans hbe, hk _ _ h.n1 (fun h => e1 (Option.some.inj h)) ?_, hk _ _ h.n3 (fun h => e3 (Option.some.inj h)) ?_, .inr (e ▸ hbu)⟩
  · intro c fz h; injection h with _ h _; exact absurd h (by decide)
  · intro c fz h; injection h with _ h _; exact absurd h (by decide)
end
theorem cells_byte (l : List UInt8) (c : UInt8) : Lib.byteCells l ++ [.int .u8 (c.toNat : Int)] = Lib.byteCells (l ++ [c]) := by
  unfold Lib.byteCells; rw [List.map_append]; rfl
theorem cells_str (l : List UInt8) (s : ByteArray) : Lib.byteCells l ++ Lib.strCells s = Lib.byteCells (l ++ L s) := by
  unfold Lib.byteCells Lib.strCells; rw [List.map_append]; rfl
section
variable {W0 w : World} {A0 : Option Addr} {c0 b1 b2 b3 : Nat} {l0 : List S43} {out : List UInt8}
-- LEAVES
theorem wr_k3 (hr0 : Kd.C k43 W0 A0 l0.length l0) (i : Int) (h0 : 0 ≤ i) (h1 : i < l0.length) (t : ByteArray) (n a : Int) (hx : rd_T43 l0 i = ⟨3, t, n, a⟩)
    (hs : St W0 A0 c0 l0.length b1 b2 b3 out w) (ht : t.size ≤ 1048576) (hsz : out.length + 2 * t.size ≤ 100000000) (hl : l0.length ≤ 1048576) :
    Calls Tryd.prog 27 #[.int .i64 i, .pointer (some ⟨b1, 0, none⟩), .pointer (some ⟨b2, 0, none⟩), .pointer (some ⟨b3, 0, none⟩)] w fun e w' => e = .returned (.int .i64 (i + 1)) ∧ St W0 A0 c0 l0.length b1 b2 b3 (out ++ L t) w' := by
  obtain ⟨ad, eA, hx0, hx1, hx2, hx3⟩ := at_T43 (Kd.C_below hr0 hs.bel) i h0 h1
  subst eA
  rw [hx] at hx0 hx1 hx2 hx3
  have cN := cell_of_one hs.n1
  have HS := Lib.hid hs
  clear hs hx
  have hB : W0.heap.size ≤ w.heap.size := HS.out.bel.size
  go_enter Tryd.func27, Tryd.ntmps27
  go_wp2_with (go_at_call 29; refine (Tryd.Builder_WriteString_k W0.heap.size b2 (Lib.byteCells out) t _ (HS.out.alloc _).bu (by rw [Lib.byteCells_length]; omega) (by have := hB; simp; omega)).mono ?_; rintro e w1 ⟨rfl, hbu, hbe, hok⟩)
  go_ret
  exact ⟨rfl, (HS.out.alloc _).wrote hbu hbe hok (by rw [cells_str])⟩
theorem wr_k4 (hr0 : Kd.C k43 W0 A0 l0.length l0) (i : Int) (h0 : 0 ≤ i) (h1 : i < l0.length) (t : ByteArray) (n a : Int) (hx : rd_T43 l0 i = ⟨4, t, n, a⟩)
    (hs : St W0 A0 c0 l0.length b1 b2 b3 out w) (ht : t.size ≤ 1048576) (hsz : out.length + 2 * t.size ≤ 100000000) (hl : l0.length ≤ 1048576) :
    Calls Tryd.prog 27 #[.int .i64 i, .pointer (some ⟨b1, 0, none⟩), .pointer (some ⟨b2, 0, none⟩), .pointer (some ⟨b3, 0, none⟩)] w fun e w' => e = .returned (.int .i64 (i + 1)) ∧ St W0 A0 c0 l0.length b1 b2 b3 (out ++ L t) w' := by
  obtain ⟨ad, eA, hx0, hx1, hx2, hx3⟩ := at_T43 (Kd.C_below hr0 hs.bel) i h0 h1
  subst eA
  rw [hx] at hx0 hx1 hx2 hx3
  have cN := cell_of_one hs.n1
  have HS := Lib.hid hs
  clear hs hx
  have hB : W0.heap.size ≤ w.heap.size := HS.out.bel.size
  go_enter Tryd.func27, Tryd.ntmps27
  go_wp2_with (go_at_call 29; refine (Tryd.Builder_WriteString_k W0.heap.size b2 (Lib.byteCells out) t _ (HS.out.alloc _).bu (by rw [Lib.byteCells_length]; omega) (by have := hB; simp; omega)).mono ?_; rintro e w1 ⟨rfl, hbu, hbe, hok⟩)
  go_ret
  exact ⟨rfl, (HS.out.alloc _).wrote hbu hbe hok (by rw [cells_str])⟩
theorem wr_k5 (hr0 : Kd.C k43 W0 A0 l0.length l0) (i : Int) (h0 : 0 ≤ i) (h1 : i < l0.length) (t : ByteArray) (n a : Int) (hx : rd_T43 l0 i = ⟨5, t, n, a⟩)
    (hs : St W0 A0 c0 l0.length b1 b2 b3 out w) (ht : t.size ≤ 1048576) (hsz : out.length + 2 * t.size ≤ 100000000) (hl : l0.length ≤ 1048576) :
    Calls Tryd.prog 27 #[.int .i64 i, .pointer (some ⟨b1, 0, none⟩), .pointer (some ⟨b2, 0, none⟩), .pointer (some ⟨b3, 0, none⟩)] w fun e w' => e = .returned (.int .i64 (i + 1)) ∧ St W0 A0 c0 l0.length b1 b2 b3 (out ++ (35 :: 98 :: L t)) w' := by
  obtain ⟨ad, eA, hx0, hx1, hx2, hx3⟩ := at_T43 (Kd.C_below hr0 hs.bel) i h0 h1
  subst eA
  rw [hx] at hx0 hx1 hx2 hx3
  have cN := cell_of_one hs.n1
  have HS := Lib.hid hs
  clear hs hx
  have hB : W0.heap.size ≤ w.heap.size := HS.out.bel.size
  go_enter Tryd.func27, Tryd.ntmps27
  go_wp2_with (go_at_call 29; refine (Tryd.Builder_WriteString_k W0.heap.size b2 (Lib.byteCells out) ((⟨#[35, 98]⟩ : ByteArray) ++ t) _ (HS.out.alloc _).bu (by rw [Lib.byteCells_length]; rw [ByteArray.size_append, show (⟨#[35, 98]⟩ : ByteArray).size = 2 from rfl]; omega) (by have := hB; simp; omega)).mono ?_; rintro e w1 ⟨rfl, hbu, hbe, hok⟩)
  go_ret
  exact ⟨rfl, (HS.out.alloc _).wrote hbu hbe hok (by rw [cells_str, L_append]; rfl)⟩
theorem wr_k7 (hr0 : Kd.C k43 W0 A0 l0.length l0) (i : Int) (h0 : 0 ≤ i) (h1 : i < l0.length) (t : ByteArray) (n a : Int) (hx : rd_T43 l0 i = ⟨7, t, n, a⟩)
    (hs : St W0 A0 c0 l0.length b1 b2 b3 out w) (ht : t.size ≤ 1048576) (hsz : out.length + 2 * t.size ≤ 100000000) (hl : l0.length ≤ 1048576) :
    Calls Tryd.prog 27 #[.int .i64 i, .pointer (some ⟨b1, 0, none⟩), .pointer (some ⟨b2, 0, none⟩), .pointer (some ⟨b3, 0, none⟩)] w fun e w' => e = .returned (.int .i64 (i + 1)) ∧ St W0 A0 c0 l0.length b1 b2 b3 (out ++ (58 :: L t)) w' := by
  obtain ⟨ad, eA, hx0, hx1, hx2, hx3⟩ := at_T43 (Kd.C_below hr0 hs.bel) i h0 h1
  subst eA
  rw [hx] at hx0 hx1 hx2 hx3
  have cN := cell_of_one hs.n1
  have HS := Lib.hid hs
  clear hs hx
  have hB : W0.heap.size ≤ w.heap.size := HS.out.bel.size
  go_enter Tryd.func27, Tryd.ntmps27
  go_wp2_with (go_at_call 29; refine (Tryd.Builder_WriteString_k W0.heap.size b2 (Lib.byteCells out) ((⟨#[58]⟩ : ByteArray) ++ t) _ (HS.out.alloc _).bu (by rw [Lib.byteCells_length]; rw [ByteArray.size_append, show (⟨#[58]⟩ : ByteArray).size = 1 from rfl]; omega) (by have := hB; simp; omega)).mono ?_; rintro e w1 ⟨rfl, hbu, hbe, hok⟩)
  go_ret
  exact ⟨rfl, (HS.out.alloc _).wrote hbu hbe hok (by rw [cells_str, L_append]; rfl)⟩
theorem wr_k2 (hr0 : Kd.C k43 W0 A0 l0.length l0) (i : Int) (h0 : 0 ≤ i) (h1 : i < l0.length) (t : ByteArray) (n a : Int) (hx : rd_T43 l0 i = ⟨2, t, n, a⟩)
    (hs : St W0 A0 c0 l0.length b1 b2 b3 out w) (ht : t.size ≤ 1048576) (hsz : out.length + 2 * t.size ≤ 100000000) (hl : l0.length ≤ 1048576) :
    Calls Tryd.prog 27 #[.int .i64 i, .pointer (some ⟨b1, 0, none⟩), .pointer (some ⟨b2, 0, none⟩), .pointer (some ⟨b3, 0, none⟩)] w fun e w' => e = .returned (.int .i64 (i + 1)) ∧ St W0 A0 c0 l0.length b1 b2 b3 (out ++ leafT ⟨2, L t, n⟩) w' := by
  obtain ⟨ad, eA, hx0, hx1, hx2, hx3⟩ := at_T43 (Kd.C_below hr0 hs.bel) i h0 h1
  subst eA
  rw [hx] at hx0 hx1 hx2 hx3
  have cN := cell_of_one hs.n1
  have HS := Lib.hid hs
  clear hs hx
  have hB : W0.heap.size ≤ w.heap.size := HS.out.bel.size
  obtain ⟨r, hev, hr⟩ := sym_is t ht n
  obtain ⟨kr, hkr⟩ := hev.get
  have hrs : r.size ≤ 2 * t.size + 7 := by
    have := leaf_len ⟨2, L t, n⟩
    rw [← hr, L_length] at this
    simp only [L_length] at this
    omega
  have HR := Lib.hid hr
  have HY : Hid (∀ W, Calls Tryd.prog 30 #[.string t] W fun e w' => e = .returned (.string r) ∧ Drawn0 W w') := fun W => impl_symText.calls kr t r W hkr
  clear hr hkr hev
  go_enter Tryd.func27, Tryd.ntmps27
  go_wp2_with (first | (go_at_call 30; refine (HY.out _).mono ?_; rintro e w' ⟨rfl, ⟨nq, rfl⟩⟩) | (go_at_call 29; refine (Tryd.Builder_WriteString_k W0.heap.size b2 (Lib.byteCells out) r _ ((HS.out.alloc _).below (pw_below_drewN (Below.refl _ _) _)).bu (by rw [Lib.byteCells_length]; omega) (by have := hB; simp; omega)).mono ?_; rintro e w1 ⟨rfl, hbu, hbe, hok⟩))
  go_ret
  exact ⟨rfl, ((HS.out.alloc _).below (pw_below_drewN (Below.refl _ _) _)).wrote hbu hbe hok (by rw [cells_str, HR.out])⟩
theorem wr_k6 (hr0 : Kd.C k43 W0 A0 l0.length l0) (i : Int) (h0 : 0 ≤ i) (h1 : i < l0.length) (t : ByteArray) (n a : Int) (hx : rd_T43 l0 i = ⟨6, t, n, a⟩)
    (hs : St W0 A0 c0 l0.length b1 b2 b3 out w) (ht : t.size ≤ 1048576) (hsz : out.length + 2 * t.size ≤ 100000000) (hl : l0.length ≤ 1048576) (hT : Tab W0) :
    Calls Tryd.prog 27 #[.int .i64 i, .pointer (some ⟨b1, 0, none⟩), .pointer (some ⟨b2, 0, none⟩), .pointer (some ⟨b3, 0, none⟩)] w fun e w' => e = .returned (.int .i64 (i + 1)) ∧ St W0 A0 c0 l0.length b1 b2 b3 (out ++ leafT ⟨6, L t, n⟩) w' := by
  obtain ⟨ad, eA, hx0, hx1, hx2, hx3⟩ := at_T43 (Kd.C_below hr0 hs.bel) i h0 h1
  subst eA
  rw [hx] at hx0 hx1 hx2 hx3
  have cN := cell_of_one hs.n1
  have HS := Lib.hid hs
  clear hs hx
  have hB : W0.heap.size ≤ w.heap.size := HS.out.bel.size
  obtain ⟨m, hm⟩ := hT.here HS.out.bel
  have hwl := (hT.here HS.out.bel).lt
  obtain ⟨r, hr⟩ : ∃ r : ByteArray, (⟨(Lib.replaceAll t.data.toList (⟨#[34]⟩ : ByteArray).data.toList (⟨#[34, 34]⟩ : ByteArray).data.toList).toArray⟩ : ByteArray) = r := ⟨_, rfl⟩
  have hL : L r = (L t).flatMap (fun c => if c = 34 then [34, 34] else [c]) := by rw [← hr, L_mk]; exact repl_all (L t)
  have hrs : r.size ≤ 2 * t.size := by rw [← L_length, hL]; have := quote_len (L t); rw [L_length] at this; exact this
  have HR : Hid (leafT ⟨6, L t, n⟩ = 34 :: (L r ++ [34])) := by show leafT ⟨6, L t, n⟩ = 34 :: (L r ++ [34]); rw [hL]; unfold leafT; rfl
  have HY : Hid (∀ W, W.cell? ⟨0, 0, none⟩ = some (.int .i64 m) → Calls Tryd.prog 31 #[.string t, .string ⟨#[34]⟩, .string ⟨#[34, 34]⟩] W fun e w' => e = .returned (.string r) ∧ Below W.heap.size W w') := fun W hW => by
    have := Tryd.strings_ReplaceAll t ⟨#[34]⟩ ⟨#[34, 34]⟩ m W (by omega) hW (by decide) (by
      have := Lib.countB_le ⟨#[34]⟩ (by decide) t.size t (Nat.le_refl _)
      rw [show (⟨#[34, 34]⟩ : ByteArray).size = 2 from rfl]; omega)
    rw [hr] at this
    exact this
  have ARM : Hid (∀ cs T, (w.alloc (.cells cs T)).cell? ⟨0, 0, none⟩ = some (.int .i64 m)) := fun cs T => (((Below.refl w.heap.size w).alloc (Nat.le_refl _) _).cell hwl).trans hm
  clear hL hr hm hwl hT
  go_enter Tryd.func27, Tryd.ntmps27
  go_wp2_with fail
  refine (HY.out _ (ARM.out _ _)).mono ?_
  rintro e w2 ⟨rfl, hb2⟩
  have h9 : ¬ 9223372036854775807 < 1 + r.size := by omega
  have h9b : ¬ 9223372036854775807 < 1 + r.size + 1 := by omega
  have HB2 := Lib.hid hb2
  have hz : W0.heap.size ≤ w2.heap.size := by have h3 := hb2.size; simp at h3; omega
  clear hb2
  go_wp2_with fail
  refine (Tryd.Builder_WriteString_k W0.heap.size b2 (Lib.byteCells out) ((⟨#[34]⟩ : ByteArray) ++ r ++ (⟨#[34]⟩ : ByteArray)) _ ((HS.out.alloc _).below HB2.out).bu (by rw [Lib.byteCells_length, ByteArray.size_append, ByteArray.size_append, show (⟨#[34]⟩ : ByteArray).size = 1 from rfl]; omega) hz).mono ?_
  rintro e w1 ⟨rfl, hbu, hbe, hok⟩
  go_wp2
  go_ret
  exact ⟨rfl, ((HS.out.alloc _).below HB2.out).wrote hbu hbe hok (by rw [cells_str, HR.out, L_append, L_append]; rfl)⟩
-- END LEAVES
end
/-- what holds at the head of each round of the loop over a list's members -/
def LRel (W0 : World) (A0 : Option Addr) (c0 N b1 b2 b3 : Nat) (ND l1 r : List Nd) (ts : List (List UInt8)) (out : List UInt8) (n : Int) (v0 v24 : Value) (wr : World) : Prop :=
  ∃ (K J : Int) (m : Nat) (l' : List Nd) (ts' : List (List UInt8)) (P : List UInt8), 0 ≤ K ∧ K + m = n ∧ v24 = .int .i64 K ∧ v0 = .int .i64 J ∧ J = (N : Int) - l'.length ∧ l'.length ≤ N ∧ Tree.Kids m l' r ts' ∧
    P ++ (if K = 0 then joinS ts' else ts'.flatMap (fun u => 32 :: u)) = joinS ts ∧ (K = 0 → P = []) ∧ ND.drop J.toNat = l' ∧ l'.length ≤ l1.length ∧ P.length + cost l' ≤ cost l1 ∧ St W0 A0 c0 N b1 b2 b3 (out ++ 40 :: P) wr
theorem ret_i {a b : Int} (h : a = b) : Ending.returned (.int .i64 a) = .returned (.int .i64 b) := by rw [h]
theorem texts_cons {m : Nat} {l r : List Nd} {ts : List (List UInt8)} (h : Tree.Kids (m + 1) l r ts) : ∃ u us, ts = u :: us := by
  have := kids_texts h
  cases ts with
  | nil => simp at this
  | cons u us => exact ⟨u, us, rfl⟩
theorem texts_nil {l r : List Nd} {ts : List (List UInt8)} (h : Tree.Kids 0 l r ts) : ts = [] ∧ l = r := by
  cases h; exact ⟨rfl, rfl⟩
theorem one_len {l m : List Nd} {u : List UInt8} (h : Tree.Kids 1 l m [u]) : m.length < l.length ∧ u.length + 1 + cost m ≤ cost l := by
  obtain ⟨p, e, hp⟩ := kids_drop h
  have := kids_cost h
  rw [sumL_cons] at this
  refine ⟨by rw [e, List.length_append]; omega, by simp [sumL] at this; omega⟩
theorem drop_next {ND l m p : List Nd} {J N : Nat} (hN : ND.length = N) (h : ND.drop J = l) (e : l = p ++ m) : ND.drop (N - m.length) = m := by
  have hl : l.length = N - J := by rw [← h, List.length_drop, hN]
  by_cases hJ : J ≤ N
  · have e2 : N - m.length = J + p.length := by rw [e, List.length_append] at hl; omega
    rw [e2, ← List.drop_drop, h, e, List.drop_left]
  · have : l = [] := List.eq_nil_of_length_eq_zero (by omega)
    rw [this] at e
    have hm : m = [] := (List.append_eq_nil_iff.1 e.symm).2
    rw [hm]; simp [← hN]
theorem new_kept {W0 w w1 : World} {A0 : Option Addr} {c0 N b1 b2 b3 : Nat} {out : List UInt8} (h : St W0 A0 c0 N b1 b2 b3 out w) (cs : Array Value) (hk : Lib.OthersKept 5 (some b2) (w.alloc (.cells cs 43)) w1) : w1.heap[w.heap.size]? = some (.cells cs 43 (0, 0)) := by
  have hb : b2 < w.heap.size := h.bu.elim (fun x => x.lt) (fun x => x.lt)
  refine hk _ _ ?_ (fun e => ?_) ?_
  · show (w.heap.push _)[w.heap.size]? = _
    rw [Array.getElem?_push, if_pos rfl]
  · have := Option.some.inj e; omega
  · intro c fz h; injection h with _ h _; exact absurd h (by decide)
section
variable {W0 w : World} {A0 : Option Addr} {c0 b1 b2 b3 : Nat} {l0 : List S43} {out : List UInt8}
/-- the closure at a list's node -/
theorem wr_list (hr0 : Kd.C k43 W0 A0 l0.length l0) (i : Int) (h0 : 0 ≤ i) (h1 : i < l0.length) (t : ByteArray) (n a : Int) (hx : rd_T43 l0 i = ⟨1, t, n, a⟩) (hn : 0 ≤ n) (hn2 : n ≤ 1048576)
    (l1 r : List Nd) (ts : List (List UInt8)) (hl1 : (nds l0).drop (i + 1).toNat = l1) (hK : Tree.Kids n.toNat l1 r ts) (hl : l0.length ≤ 1048576) (hr : r.length ≤ l1.length)
    (hs : St W0 A0 c0 l0.length b1 b2 b3 out w) (hsz : out.length + 2 + cost l1 ≤ 100000000)
    (IH : ∀ (l' m : List Nd) (u : List UInt8), l'.length ≤ l1.length → Tree.Kids 1 l' m [u] → ∀ (j : Int) (o : List UInt8) (W : World), 0 ≤ j → (nds l0).drop j.toNat = l' → St W0 A0 c0 l0.length b1 b2 b3 o W → o.length + cost l' ≤ 100000000 →
      Calls Tryd.prog 27 #[.int .i64 j, .pointer (some ⟨b1, 0, none⟩), .pointer (some ⟨b2, 0, none⟩), .pointer (some ⟨b3, 0, none⟩)] W fun e w' => e = .returned (.int .i64 ((l0.length : Int) - m.length)) ∧ St W0 A0 c0 l0.length b1 b2 b3 (o ++ u) w') :
    Calls Tryd.prog 27 #[.int .i64 i, .pointer (some ⟨b1, 0, none⟩), .pointer (some ⟨b2, 0, none⟩), .pointer (some ⟨b3, 0, none⟩)] w fun e w' => e = .returned (.int .i64 ((l0.length : Int) - r.length)) ∧ St W0 A0 c0 l0.length b1 b2 b3 (out ++ 40 :: (joinS ts ++ [41])) w' := by
  obtain ⟨ad, eA, hx0, hx1, hx2, hx3⟩ := at_T43 (Kd.C_below hr0 hs.bel) i h0 h1
  subst eA
  rw [hx] at hx0 hx1 hx2 hx3
  have cN := cell_of_one hs.n1
  have HS := Lib.hid hs
  have hND : (nds l0).length = l0.length := by unfold nds; rw [List.length_map]
  have hlen : l1.length = l0.length - (i + 1).toNat := by rw [← hl1, List.length_drop, hND]
  have hi1 : i + 1 = (l0.length : Int) - l1.length := by omega
  have HND := Lib.hid hND
  have HL1 := Lib.hid hl1
  have HKK := Lib.hid hK
  have HI := Lib.hid hi1
  have HIH := Lib.hid IH
  clear hs hx hND hl1 hK hi1 IH hlen
  have hB : W0.heap.size ≤ w.heap.size := HS.out.bel.size
  go_enter Tryd.func27, Tryd.ntmps27
  go_wp2_with (go_at_call 28; refine (Tryd.Builder_WriteByte_k W0.heap.size b2 (Lib.byteCells out) _ _ (HS.out.alloc _).bu (by rw [Lib.byteCells_length]; omega) (by have := hB; simp; omega)).mono ?_; rintro e w1 ⟨rfl, hbu, hbe, hok⟩; have cK : w1.cell? ⟨w.heap.size, 2, none⟩ = some (.int .i64 n) := by rw [Lib.cell_of_heap (new_kept HS.out _ hok)]; rfl)
  have HS1 := Lib.hid ((HS.out.alloc _).wrote hbu hbe hok (cells_byte out 40))
  clear hbu hbe hok HS hB cN
  go_loopw [0, 24] (fun v0 v24 wr => LRel W0 (some ad) c0 l0.length b1 b2 b3 (nds l0) l1 r ts out n v0 v24 wr) (fun v0 v24 _ => (n - intOf v24).toNat)
  case atStart => exact ⟨0, i + 1, n.toNat, l1, ts, [], by omega, by omega, rfl, rfl, HI.out, by have := HI.out; omega, HKK.out, by simp, fun _ => rfl, HL1.out, Nat.le_refl _, by simp, HS1.out⟩
  case round =>
    obtain ⟨K, J, m, l', ts', P, hK0, hKm, rfl, rfl, hJ, hlN, hk1, hP, hP0, hdr, hll, hcost, hst⟩ := hrel
    have HST := Lib.hid hst
    have HJ := Lib.hid hJ
    have hJ0 : 0 ≤ J := by omega
    clear hst hJ
    by_cases hlt : K < n
    · obtain ⟨m', rfl⟩ : ∃ m', m = m' + 1 := ⟨m - 1, by omega⟩
      obtain ⟨u, us, rfl⟩ := texts_cons hk1
      obtain ⟨mm, ku, kr⟩ := kids_split hk1
      obtain ⟨hml, hcm⟩ := one_len ku
      obtain ⟨p, hp, _⟩ := kids_drop ku
      have HNX := Lib.hid (drop_next HND.out hdr hp)
      have HC : Hid (∀ (o : List UInt8) (W : World), St W0 (some ad) c0 l0.length b1 b2 b3 o W → o.length + cost l' ≤ 100000000 →
          Calls Tryd.prog 27 #[.int .i64 J, .pointer (some ⟨b1, 0, none⟩), .pointer (some ⟨b2, 0, none⟩), .pointer (some ⟨b3, 0, none⟩)] W fun e w' => e = .returned (.int .i64 ((l0.length : Int) - mm.length)) ∧ St W0 (some ad) c0 l0.length b1 b2 b3 (o ++ u) w') :=
        fun o W h1 h2 => HIH.out l' mm u hll ku J o W hJ0 hdr h1 h2
      have HKR := Lib.hid kr
      have cW := cell_of_one HST.out.n3
      have hKm' : K + 1 + (m' : Int) = n := by omega
      have hout : (out ++ 40 :: P).length = out.length + 1 + P.length := by simp; omega
      have HO := Lib.hid hout
      have hmN : mm.length ≤ l0.length := by omega
      have hmm : mm.length ≤ l1.length := by omega
      have HDJ : Hid ((nds l0).drop ((l0.length : Int) - mm.length).toNat = mm) := by
        show (nds l0).drop ((l0.length : Int) - mm.length).toNat = mm
        rw [show ((l0.length : Int) - mm.length).toNat = l0.length - mm.length by omega]; exact HNX.out
      clear hk1 hp hdr kr ku hout HNX hJ0
      rcases (by omega : K = 0 ∨ 0 < K) with hz | hz
      · have hPn := hP0 hz
        subst hz hPn
        have HPP := Lib.hid (show u ++ us.flatMap (fun u => 32 :: u) = joinS ts from hP)
        clear hP hP0
        go_wp2_with (go_at_call 27; refine (HC.out _ _ HST.out (by rw [HO.out]; simp; omega)).mono ?_; rintro e w2 ⟨rfl, hs2⟩)
        go_roundw
        case rel => exact ⟨1, (l0.length : Int) - mm.length, m', mm, us, u, by omega, by omega, by first | rfl | go_num, rfl, rfl, hmN, HKR.out, by rw [if_neg (by decide)]; exact HPP.out, fun h => absurd h (by decide), HDJ.out, hmm, by omega, by have := hs2; simpa using this⟩
        case measure => simp [intOf]; omega
      · have HPP := Lib.hid (show P ++ (u :: us).flatMap (fun u => 32 :: u) = joinS ts by rw [if_neg (by omega)] at hP; exact hP)
        clear hP hP0
        have hBr : W0.heap.size ≤ wr.heap.size := HST.out.bel.size
        go_wp2_with (first | (go_at_call 27; refine (HC.out _ _ HS2 (by rw [List.length_append, HO.out]; simp; omega)).mono ?_; rintro e w2 ⟨rfl, hs2⟩) | (go_at_call 28; refine (Tryd.Builder_WriteByte_k W0.heap.size b2 (Lib.byteCells (out ++ 40 :: P)) _ _ HST.out.bu (by rw [Lib.byteCells_length, HO.out]; omega) hBr).mono ?_; rintro e w1 ⟨rfl, hbu, hbe, hok⟩; have HS2 := HST.out.wrote hbu hbe hok (cells_byte (out ++ 40 :: P) 32); clear hbu hbe hok; have cW1 := cell_of_one HS2.n3))
        go_roundw
        case rel => exact ⟨K + 1, (l0.length : Int) - mm.length, m', mm, us, P ++ 32 :: u, by omega, hKm', by first | rfl | go_num, rfl, rfl, hmN, HKR.out, by rw [if_neg (by omega)]; have := HPP.out; simpa using this, fun h => absurd h (by omega), HDJ.out, hmm, by rw [List.length_append, List.length_cons]; omega, by have := hs2; simpa using this⟩
        case measure => simp [intOf]; omega
    · obtain rfl : m = 0 := by omega
      obtain ⟨rfl, rfl⟩ := texts_nil hk1
      have hPP : P = joinS ts := by
        have := hP
        by_cases hz : K = 0
        · rw [if_pos hz] at this; simpa [joinS] using this
        · rw [if_neg hz] at this; simpa using this
      have HPP := Lib.hid hPP
      have hout : (out ++ 40 :: P).length = out.length + 1 + P.length := by simp; omega
      have HO := Lib.hid hout
      have hBr : W0.heap.size ≤ wr.heap.size := HST.out.bel.size
      clear hP hP0 hdr hk1 hPP hout
      go_wp2_with (go_at_call 28; refine (Tryd.Builder_WriteByte_k W0.heap.size b2 (Lib.byteCells (out ++ 40 :: P)) _ _ HST.out.bu (by rw [Lib.byteCells_length, HO.out]; omega) hBr).mono ?_; rintro e w2 ⟨rfl, hbu, hbe, hok⟩)
      go_ret
      exact ⟨ret_i HJ.out, by have := HST.out.wrote hbu hbe hok (cells_byte (out ++ 40 :: P) 41); rw [HPP.out] at this; simpa using this⟩
theorem head_of {j : Int} {x : Nd} {r : List Nd} (h0 : 0 ≤ j) (h : (nds l0).drop j.toNat = x :: r) : j < l0.length ∧ nd (rd_T43 l0 j) = x ∧ rd_T43 l0 j ∈ l0 ∧ (nds l0).drop (j + 1).toNat = r ∧ (l0.length : Int) - r.length = j + 1 := by
  have hl : (nds l0).length = l0.length := by unfold nds; rw [List.length_map]
  have h1 : ((nds l0).drop j.toNat).length = r.length + 1 := by rw [h]; rfl
  rw [List.length_drop, hl] at h1
  have hj : j.toNat < l0.length := by omega
  have hg : (nds l0)[j.toNat]? = some x := by
    have := congrArg (fun l => l[0]?) h
    simpa using this
  have hr : rd_T43 l0 j = l0[j.toNat] := by
    unfold rd_T43
    rw [List.getD_eq_getElem?_getD, List.getElem?_eq_getElem hj]; rfl
  refine ⟨by omega, ?_, by rw [hr]; exact List.getElem_mem hj, ?_, by omega⟩
  · unfold nds at hg
    rw [List.getElem?_map, List.getElem?_eq_getElem hj] at hg
    rw [hr]; exact Option.some.inj hg
  · rw [show (j + 1).toNat = j.toNat + 1 by omega, ← List.drop_drop, h]; rfl
/-- the closure at any node -/
theorem write_one (hr0 : Kd.C k43 W0 A0 l0.length l0) (hT : Tab W0) (hl : l0.length ≤ 1048576) (ht : ∀ x ∈ l0, x.f1.size ≤ 1048576) : ∀ (d : Nat) (l r : List Nd) (u : List UInt8), l.length ≤ d → Tree.Kids 1 l r [u] →
    ∀ (j : Int) (o : List UInt8) (W : World), 0 ≤ j → (nds l0).drop j.toNat = l → St W0 A0 c0 l0.length b1 b2 b3 o W → o.length + cost l ≤ 100000000 →
      Calls Tryd.prog 27 #[.int .i64 j, .pointer (some ⟨b1, 0, none⟩), .pointer (some ⟨b2, 0, none⟩), .pointer (some ⟨b3, 0, none⟩)] W fun e w' => e = .returned (.int .i64 ((l0.length : Int) - r.length)) ∧ St W0 A0 c0 l0.length b1 b2 b3 (o ++ u) w'
  | 0, l, r, u, hd, hk, _, _, _, _, _, _, _ => by have := (one_len hk).1; omega
  | d + 1, l, r, u, hd, hk, j, o, W, h0, hdr, hs, hsz => by
    rcases kids_one hk with ⟨x, rfl, hx1, hg, rfl⟩ | ⟨x, l1, ts, rfl, hx1, hg, hk1, rfl⟩
    · obtain ⟨hj, hx, hmem, hd2, hlen⟩ := head_of h0 hdr
      have hty := ht _ hmem
      rw [hlen]
      rw [cost_cons] at hsz
      subst hx
      obtain ⟨k, t, n, a, hy⟩ : ∃ k t n a, rd_T43 l0 j = ⟨k, t, n, a⟩ := ⟨_, _, _, _, rfl⟩
      rw [hy] at hty hx1 hg hsz ⊢
      simp only [nd] at hx1 hg hsz ⊢
      simp only [L_length] at hsz
      simp only at hty
      have hw : word k (L t) = true := by
        unfold goodN at hg
        rw [Bool.and_eq_true] at hg
        exact hg.2
      unfold word at hw
      rw [if_neg hx1] at hw
      by_cases h2 : k = 2
      · subst h2; exact wr_k2 hr0 j h0 hj t n a hy hs hty (by omega) hl
      rw [if_neg h2] at hw
      by_cases h3 : k = 3
      · subst h3; have := wr_k3 hr0 j h0 hj t n a hy hs hty (by omega) hl; exact this
      rw [if_neg h3] at hw
      by_cases h4 : k = 4
      · subst h4; have := wr_k4 hr0 j h0 hj t n a hy hs hty (by omega) hl; exact this
      rw [if_neg h4] at hw
      by_cases h5 : k = 5
      · subst h5; have := wr_k5 hr0 j h0 hj t n a hy hs hty (by omega) hl; exact this
      rw [if_neg h5] at hw
      by_cases h6 : k = 6
      · subst h6; exact wr_k6 hr0 j h0 hj t n a hy hs hty (by omega) hl hT
      rw [if_neg h6] at hw
      by_cases h7 : k = 7
      · subst h7; have := wr_k7 hr0 j h0 hj t n a hy hs hty (by omega) hl; exact this
      rw [if_neg h7] at hw
      cases hw
    · obtain ⟨hj, hx, hmem, hd2, hlen⟩ := head_of h0 hdr
      rw [cost_cons] at hsz
      subst hx
      obtain ⟨k, t, n, a, hy⟩ : ∃ k t n a, rd_T43 l0 j = ⟨k, t, n, a⟩ := ⟨_, _, _, _, rfl⟩
      rw [hy] at hx1 hg hsz hk1
      simp only [nd] at hx1 hg hsz hk1
      subst hx1
      have hn : 0 ≤ n := by
        unfold goodN at hg
        simp only [Bool.and_eq_true, decide_eq_true_eq] at hg
        exact hg.1.1
      obtain ⟨p, hp, hpl⟩ := kids_drop hk1
      have hlp : p.length + r.length = l1.length := by rw [hp, List.length_append]
      rw [List.length_cons] at hd
      exact wr_list hr0 j h0 hj t n a hy hn (by omega) l1 r ts hd2 hk1 hl (by omega) hs (by omega)
        (fun l' m v hll hkv j' o' W' hj' hdr' hs' hsz' => write_one hr0 hT hl ht d l' m v (by omega) hkv j' o' W' hj' hdr' hs' hsz')
end
/-- what holds at the head of each round of the loop over the trees -/
def TRel (W0 : World) (A0 : Option Addr) (c0 N b1 b2 b3 : Nat) (ND : List Nd) (T : List UInt8) (v5 : Value) (wr : World) : Prop :=
  ∃ (J : Int) (m : Nat) (l' : List Nd) (ts' : List (List UInt8)) (out : List UInt8), v5 = .int .i64 J ∧ J = (N : Int) - l'.length ∧ l'.length ≤ N ∧ Tree.Kids m l' [] ts' ∧ out ++ ts'.flatMap (fun t => t ++ [10]) = T ∧ ND.drop J.toNat = l' ∧ out.length + cost l' ≤ 1000000 ∧ St W0 A0 c0 N b1 b2 b3 out wr
theorem kids_end {m : Nat} {l : List Nd} {ts : List (List UInt8)} (h : Tree.Kids m l [] ts) : (l = [] ∧ ts = []) ∨ (∃ m', m = m' + 1 ∧ l ≠ []) := by
  cases m with
  | zero => obtain ⟨h1, h2⟩ := texts_nil h; exact .inl ⟨h2, h1⟩
  | succ m' =>
    refine .inr ⟨m', rfl, fun e => ?_⟩
    obtain ⟨p, hp, hl⟩ := kids_drop h
    rw [e] at hp
    have := (List.append_eq_nil_iff.1 hp.symm).1
    rw [this] at hl; simp at hl
theorem ret_s {a b : ByteArray} (h : a = b) : Ending.returned (.string a) = .returned (.string b) := by rw [h]
theorem heap_new (w : World) (o : Obj) : (w.alloc o).heap[w.heap.size]? = some o := by
  show (w.heap.push _)[w.heap.size]? = _
  rw [Array.getElem?_push, if_pos rfl]
theorem fresh_at (B : Nat) (W : World) (hB : B ≤ W.heap.size) : Lib.IsBuilderF 51 5 B W.heap.size (Lib.byteCells []) (W.alloc (.cells #[.pointer none, .slice none 0 0] 51)) :=
  .inl ⟨hB, .slice none 0 0, heap_new _ _, ⟨rfl, .inl ⟨rfl, rfl⟩⟩, by simp [Value.ownBlock]⟩
theorem St.start {W0 w1 : World} {A0 : Option Addr} {c0 N : Nat} (hb1 : Below (W0.alloc (.cells #[.slice A0 N c0] 25)).heap.size (W0.alloc (.cells #[.slice A0 N c0] 25)) w1) :
    St W0 A0 c0 N W0.heap.size w1.heap.size (w1.heap.size + 1) [] ((w1.alloc (.cells #[.pointer none, .slice none 0 0] 51)).alloc
      (.cells #[.func (.func 27) #[] #[.pointer (some ⟨W0.heap.size, 0, none⟩), .pointer (some ⟨w1.heap.size, 0, none⟩), .pointer (some ⟨w1.heap.size + 1, 0, none⟩)]] 52)) := by
  have hz : W0.heap.size + 1 ≤ w1.heap.size := by have := hb1.size; simp at this; exact this
  refine ⟨?_, ?_, ?_, ?_⟩
  · exact ((((Below.refl _ _).alloc (Nat.le_refl _) _).trans (hb1.mono (by simp))).alloc (by omega) _).alloc (by simp; omega) _
  · rw [Below.heap_alloc _ _ _ (by simp; omega), Below.heap_alloc _ _ _ (by omega), hb1.block _ (by simp)]
    exact heap_new _ _
  · have := heap_new (w1.alloc (.cells #[.pointer none, .slice none 0 0] 51)) (.cells #[.func (.func 27) #[] #[.pointer (some ⟨W0.heap.size, 0, none⟩), .pointer (some ⟨w1.heap.size, 0, none⟩), .pointer (some ⟨w1.heap.size + 1, 0, none⟩)]] 52)
    rw [show (w1.alloc (.cells #[.pointer none, .slice none 0 0] 51)).heap.size = w1.heap.size + 1 by simp] at this
    exact this
  · exact (fresh_at _ _ (by omega)).alloc _
section
variable {w : World} {A0 : Option Addr} {c0 : Nat} {l0 : List S43}
theorem writeTree_any (hr0 : Kd.C k43 w A0 l0.length l0) (hc0 : l0.length ≤ c0) (hT : Tab w) (hl : l0.length ≤ 1048576) (hB : ∀ x ∈ l0, x.f1.size ≤ 1048576 ∧ x.f2 ≤ 9223372036854775807) :
    Calls Tryd.prog 13 #[.slice A0 l0.length c0] w fun e w' => e = .returned (.string ⟨(treeText (nds l0)).toArray⟩) ∧ Below w.heap.size w w' := by
  have hmf : ∀ (fn : Fn) (first cap : Array Value) (w : World), (Instr.makeFunc fn first cap).run Tryd.prog w = .ok (.func fn first cap) w := fun _ _ _ _ => rfl
  obtain ⟨kr, hkr⟩ := (right_is hB).get
  have hnl : (nds l0).length = l0.length := by unfold nds; rw [List.length_map]
  have HR : Hid (∀ W, Below w.heap.size w W → Calls Tryd.prog 25 #[.slice A0 l0.length c0] W fun e w' => e = .returned (.bool (decide (l0.length ≤ 8000) && implR (nds l0) [] 0)) ∧ Below W.heap.size W w') :=
    fun W hb => impl_rightTree.calls kr A0 c0 l0 _ W (hT.here hb) (Kd.C_below hr0 hb) hc0 hkr
  clear hkr
  cases hv : (decide (l0.length ≤ 8000) && implR (nds l0) [] 0) with
  | false =>
    rw [hv] at HR
    have e : treeText (nds l0) = [] := by unfold treeText; rw [hnl, hv]; rfl
    rw [e]
    clear hv e hnl
    go_enter Tryd.func13, Tryd.ntmps13
    go_wp2_with (go_at_call 25; refine (HR.out _ ((Below.refl _ _).alloc (Nat.le_refl _) _)).mono ?_; rintro e w1 ⟨rfl, hb1⟩)
    go_ret
    exact ⟨rfl, ((Below.refl _ _).alloc (Nat.le_refl _) _).trans (hb1.mono (by simp))⟩
  | true =>
    rw [hv] at HR
    have e : treeText (nds l0) = specW (nds l0) [] [] := by unfold treeText; rw [hnl, hv]; rfl
    rw [e]
    rw [Bool.and_eq_true, decide_eq_true_eq, ← form_right] at hv
    obtain ⟨n, ts, hK⟩ := form_kids hv.2
    have hW := spec_whole hK
    have htot := form_total _ _ _ (by omega) hv.2
    rw [hnl] at htot
    have hl8 := hv.1
    rw [hW]
    clear e hv hW
    go_enter Tryd.func13, Tryd.ntmps13
    go_wp2_with (go_at_call 25; refine (HR.out _ ((Below.refl _ _).alloc (Nat.le_refl _) _)).mono ?_; rintro e w1 ⟨rfl, hb1⟩)
    have HS := Lib.hid (St.start hb1)
    have HND := Lib.hid hnl
    have HK := Lib.hid hK
    clear hb1 HR hnl hK
    go_loopw [5] (fun v5 wr => TRel w A0 c0 l0.length w.heap.size w1.heap.size (w1.heap.size + 1) (nds l0) (ts.flatMap (fun t => t ++ [10])) v5 wr) (fun v5 _ => l0.length - (intOf v5).toNat)
    case atStart => exact ⟨0, n, nds l0, ts, [], rfl, by rw [HND.out]; omega, by rw [HND.out]; omega, HK.out, rfl, rfl, by simp; omega, HS.out⟩
    case round =>
      obtain ⟨J, m, l', ts', out, rfl, hJ, hlN, hk1, hT2, hdr, hcost, hst⟩ := hrel
      have HST := Lib.hid hst
      have hJ0 : 0 ≤ J := by omega
      have cN := cell_of_one hst.n1
      have cW := cell_of_one hst.n3
      clear hst
      rcases kids_end hk1 with ⟨rfl, rfl⟩ | ⟨m', rfl, hne⟩
      · have hJN : J = (l0.length : Int) := by simpa using hJ
        have HT2 := Lib.hid (show out = ts.flatMap (fun t => t ++ [10]) by simpa using hT2)
        clear hT2 hdr hk1 hJ
        have hge : ¬ J < (l0.length : Int) := by omega
        have hB2 : w.heap.size ≤ wr.heap.size := HST.out.bel.size
        clear hJN
        go_wp2_with (go_at_call 32; refine (Tryd.Builder_String_any_k w.heap.size w1.heap.size out _ HST.out.bu hB2).mono ?_; rintro e w2 ⟨rfl, hbu, hbe, hok⟩)
        go_ret
        exact ⟨ret_s (by rw [HT2.out]), HST.out.bel.trans hbe⟩
      · obtain ⟨u, us, rfl⟩ := texts_cons hk1
        obtain ⟨mm, ku, kr⟩ := kids_split hk1
        obtain ⟨hml, hcm⟩ := one_len ku
        obtain ⟨p, hp, _⟩ := kids_drop ku
        have hlt : J < (l0.length : Int) := by omega
        have HNX := Lib.hid (drop_next HND.out hdr hp)
        have HC : Hid (∀ (o : List UInt8) (W : World), St w A0 c0 l0.length w.heap.size w1.heap.size (w1.heap.size + 1) o W → o.length + cost l' ≤ 100000000 →
            Calls Tryd.prog 27 #[.int .i64 J, .pointer (some ⟨w.heap.size, 0, none⟩), .pointer (some ⟨w1.heap.size, 0, none⟩), .pointer (some ⟨w1.heap.size + 1, 0, none⟩)] W fun e w' => e = .returned (.int .i64 ((l0.length : Int) - mm.length)) ∧ St w A0 c0 l0.length w.heap.size w1.heap.size (w1.heap.size + 1) (o ++ u) w') :=
          fun o W h1 h2 => write_one hr0 hT hl (fun x hx => (hB x hx).1) l'.length l' mm u (Nat.le_refl _) ku J o W hJ0 hdr h1 h2
        have HKR := Lib.hid kr
        have hmN : mm.length ≤ l0.length := by omega
        have HDJ : Hid ((nds l0).drop ((l0.length : Int) - mm.length).toNat = mm) := by
          show (nds l0).drop ((l0.length : Int) - mm.length).toNat = mm
          rw [show ((l0.length : Int) - mm.length).toNat = l0.length - mm.length by omega]; exact HNX.out
        have HT2 := Lib.hid (show out ++ u ++ [10] ++ us.flatMap (fun t => t ++ [10]) = ts.flatMap (fun t => t ++ [10]) by rw [← hT2]; simp)
        have hB2 : w.heap.size ≤ wr.heap.size := HST.out.bel.size
        have HJ := Lib.hid hJ
        have hou : (out ++ u).length = out.length + u.length := by simp
        have HOU := Lib.hid hou
        clear hk1 hp hdr kr ku HNX hT2 hJ hou
        go_wp2_with (first | (go_at_call 27; refine (HC.out _ _ HST.out (by omega)).mono ?_; rintro e w2 ⟨rfl, hs2⟩; have HS2 := Lib.hid hs2; have hz2 : w.heap.size ≤ w2.heap.size := hs2.bel.size; clear hs2) | (go_at_call 28; refine (Tryd.Builder_WriteByte_k w.heap.size w1.heap.size (Lib.byteCells (out ++ u)) _ _ HS2.out.bu (by rw [Lib.byteCells_length, HOU.out]; omega) hz2).mono ?_; rintro e w3 ⟨rfl, hbu, hbe, hok⟩))
        go_roundw
        case rel => exact ⟨(l0.length : Int) - mm.length, m', mm, us, out ++ u ++ [10], rfl, rfl, hmN, HKR.out, HT2.out, HDJ.out, by rw [List.length_append, HOU.out]; simp; omega, HS2.out.wrote hbu hbe hok (cells_byte (out ++ u) 10)⟩
        case measure => have := HJ.out; simp [intOf]; omega
end
end Go.Proofs.YtbeelgaganbblaaDoor.Wt
namespace Go.Proofs.YtbeelgaganbblaaDoor
open Go.RowKit Go.Proofs.YtbeelgaganbblaaDoorW.PrintWords Go.Proofs.YtbeelgaganbblaaDoor.By Go.Proofs.YtbeelgaganbblaaDoor.Tree Go.Proofs.YtbeelgaganbblaaDoor.Gn Go.Proofs.YtbeelgaganbblaaDoor.Gp Go.Proofs.YtbeelgaganbblaaDoor.PFnExactGoodTree
/-- impl.WriteTree, as the print wants it -/
def impl_WriteTree.f (l0 : List S43) : Option ByteArray := if l0.length ≤ 1048576 ∧ (∀ x ∈ l0, x.f1.size ≤ 1048576 ∧ x.f2 ≤ 9223372036854775807) then some (⟨(treeText (nds l0)).toArray⟩ : ByteArray) else none
theorem impl_WriteTree.calls (A0 : Option Addr) (c0 : Nat) (l0 : List S43) (r : ByteArray) (w : World) (hT : Tab w) (hr0 : Kd.C k43 w A0 l0.length l0) (hc0 : l0.length ≤ c0) (h : impl_WriteTree.f l0 = some r) :
    Calls Tryd.prog 13 #[.slice A0 l0.length c0] w fun e w' => e = .returned (.string r) ∧ Below w.heap.size w w' := by
  unfold impl_WriteTree.f at h
  split at h
  · rename_i hc
    rw [← Option.some.inj h]
    exact Wt.writeTree_any hr0 hc0 hT hc.1 hc.2
  · cases h
end Go.Proofs.YtbeelgaganbblaaDoor

/- Parts of the proof, cut to what it uses: WWords, Bytes, Shelf, TokA, TokP, TokS, TokQ, TokB, TokN, TokE, Tree. -/
import Derived.ArgAppend
import Derived.Below
import Derived.BigQuiet
import Derived.Deep.AppendLies
import Derived.Deep.CutBlock
import Derived.Deep.DeepCutAuto
import Derived.Deep.Draws
import Derived.Deep.LoopGhost
import Derived.Deep.OwnRows
import Derived.Deep.QuietTactic
import Derived.Deep.RegionHeld3
import Derived.Handy
import Derived.KernelRfl
import Derived.Laws.AppendOwn
import Derived.Laws.BytesArg
import Derived.Laws.IdiomCopy
import Derived.Laws.MakeOwn
import Derived.Laws.OwnMore
import Derived.Laws.Rows
import Derived.Laws.Slices
import Derived.Lib.AppendStr
import Derived.Lib.ConvBytes
import Derived.Lib.IndexMore
import Derived.Lib.Strings
import Derived.Maps.AppendAt
import Derived.Outline
import Derived.OwnWalk
import Derived.RowKit
import Derived.RowKit3
import Derived.Shelf.LaysM
import Derived.Shelf.Small.Strs
import Derived.Shelf.Strings.Builder1
import Derived.Shelf.Strings.Count
import Derived.Shelf.Strings.Cut
import Derived.Shelf.Strings.Search1
import Derived.Shelf.Strings.Search2
import Derived.Shelf.Strings.Search3
import Derived.Shelf.Strings.Shaped
import Derived.Shelf.Strings.Split
import Derived.Shelf.Unicode.DecodeSlow
import Derived.Tactics
import Derived.Test.YtbeelgaganbblaaDoorProg
import Derived.WalkKit
import Derived.WalkLawsBesides
import Derived.WalkSmall
import Derived.WalkSpells
import Derived.WideLaws
set_option linter.unusedVariables false
set_option linter.unusedSimpArgs false
namespace Go.Proofs.YtbeelgaganbblaaDoorW.PrintWords
open Go.RowKit
structure Z2 (p : Prop) : Prop where mk :: (out : p)
structure Drawn0 (w w' : World) : Prop where mk :: (out : ∃ n, w' = w.drewN n)
theorem Drawn0.refl (w : World) : Drawn0 w w := ⟨⟨0, rfl⟩⟩
theorem Drawn0.step {w w' : World} (h : Drawn0 w w') (n : Nat) : Drawn0 w (w'.drewN n) := by
  obtain ⟨m, rfl⟩ := h; exact ⟨⟨m + n, World.drewN_drewN ..⟩⟩
theorem Drawn0.grown {w w' : World} (h : Drawn0 w w') : Grown w w' := by
  obtain ⟨n, rfl⟩ := h
  induction n with
  | zero => exact Grown.refl _
  | succ n ih => rw [← World.drew_drewN]; exact Grown.drew ih
theorem Drawn0.below {w w' : World} (h : Drawn0 w w') : Below w.heap.size w w' := by
  obtain ⟨n, rfl⟩ := h
  induction n with
  | zero => exact Below.refl _ _
  | succ n ih => rw [← World.drew_drewN]; exact ih.drew
def rd (xs : List Int) (i : Int) : Int := xs.getD i.toNat 0
def bt (s : ByteArray) (i : Int) : Int := if h : i.toNat < s.size then ((s[i.toNat]'h).toNat : Int) else 0
theorem ZH (s : ByteArray) (i : Int) : ∀ h : i.toNat < s.size, ((s[i.toNat]'h).toNat : Int) = bt s i := fun h => by simp [bt, h]
theorem bt_range (s : ByteArray) (i : Int) : 0 ≤ bt s i ∧ bt s i ≤ 255 := by
  unfold bt
  split
  · rename_i h
    have := (s[i.toNat]'h).toNat_lt; omega
  · omega
def nums (k : IntKind) (xs : List Int) : List Value := xs.map fun x => .int k x
theorem nums_append (k : IntKind) (xs ys : List Int) : nums k (xs ++ ys) = nums k xs ++ nums k ys := by simp [nums]
theorem Z3 {w W : World} (h : Below w.heap.size w W) (o : Obj) : Below w.heap.size w (W.alloc o) := h.alloc h.size o
theorem below_drew {B : Nat} {w W : World} (h : Below B w W) : Below B w W.drew := ⟨h.os, h.tape, h.output, h.size, h.block⟩
theorem Z0 {B : Nat} {w W : World} (h : Below B w W) (n : Nat) : Below B w (W.drewN n) := ⟨h.os, h.tape, h.output, h.size, h.block⟩
theorem below_then {B : Nat} {w w1 w2 : World} (h : Below B w w1) (hB : B ≤ w1.heap.size) (k : Below w1.heap.size w1 w2) : Below B w w2 :=
  h.trans ⟨k.os, k.tape, k.output, k.size, fun i hi => k.block i (Nat.lt_of_lt_of_le hi hB)⟩
theorem grown_of_below {w w1 : World} (h : Below w.heap.size w w1) (row : Option Nat) : w.grownBy w1 row := ⟨h.os, h.tape, h.output, h.size, fun i hi _ => h.block i hi⟩
theorem pw_cell_below {w w1 : World} (h : Below w.heap.size w w1) {a : Addr} {v : Value} (hc : w.cell? a = some v) : w1.cell? a = some v := (h.cell (World.block_lt_of_cell? w a hc)).trans hc
theorem ZF (g j : Nat) : (⟨g, 0, none⟩ : Addr).add j = ⟨g, j, none⟩ := by unfold Addr.add; split <;> simp_all
def ReadsInt (w : World) (k : IntKind) (A : Option Addr) (n : Nat) (xs : List Int) : Prop :=
  xs.length = n ∧ n ≤ 9223372036854775807 ∧ (0 < n → ∃ ad, A = some ad ∧ ∀ j, j < n → w.cell? (ad.add j) = some (.int k (xs.getD j 0)))
theorem ReadsInt.below {w w1 : World} {k : IntKind} {A : Option Addr} {n : Nat} {xs : List Int} (h : ReadsInt w k A n xs) (hb : Below w.heap.size w w1) : ReadsInt w1 k A n xs :=
  ⟨h.1, h.2.1, fun hn => by
    obtain ⟨ad, e, hc⟩ := h.2.2 hn
    exact ⟨ad, e, fun j hj => pw_cell_below hb (hc j hj)⟩⟩
theorem own_nil (W : World) (base : Nat) (e : TypeId) (size : Nat) : W.ownsRow base e size (.slice none 0 0) 0 [] := ⟨by simp, .inl ⟨rfl, rfl⟩⟩
theorem own_base {w : World} {base : Nat} {e : TypeId} {size n : Nat} {v : Value} {xs : List Value} (h : w.ownsRow base e size v n xs) (k : Nat) (hk : v.ownBlock = some k) : base ≤ k := by
  rcases h.2 with ⟨rfl, _⟩ | ⟨g, cap, cur, rfl, hb, _⟩
  · simp [Value.ownBlock] at hk
  · have : g = k := by simpa [Value.ownBlock] using hk
    omega
theorem own_lt {w : World} {base : Nat} {e : TypeId} {size n : Nat} {v : Value} {xs : List Value} (h : w.ownsRow base e size v n xs) (k : Nat) (hk : v.ownBlock = some k) : k < w.heap.size := by
  rcases h.2 with ⟨rfl, _⟩ | ⟨g, cap, cur, rfl, hb, hh, _⟩
  · simp [Value.ownBlock] at hk
  · have : g = k := by simpa [Value.ownBlock] using hk
    subst this; exact (Array.getElem?_eq_some_iff.1 hh).1
theorem pw_own_below {w w1 : World} {base : Nat} {e : TypeId} {size n : Nat} {v : Value} {xs : List Value} (h : w.ownsRow base e size v n xs) (hb : Below w.heap.size w w1) : w1.ownsRow base e size v n xs :=
  h.kept (grown_of_below hb none) (by cases v.ownBlock <;> simp)
theorem own_slice {w : World} {base n : Nat} {e : TypeId} {size : Nat} {v : Value} {xs : List Value} (h : w.ownsRow base e size v n xs) : ∃ A c, v = .slice A n c := by
  rcases h.2 with ⟨rfl, rfl⟩ | ⟨g, cap, cur, rfl, _⟩
  · exact ⟨none, 0, rfl⟩
  · exact ⟨_, cap, rfl⟩
theorem own_string {P : Program} {w : World} {base n : Nat} {e' src dst e : TypeId} {v : Value} {xs : List Int} (hs : P.underlying src = some (.slice e)) (he : P.underlying e = some (.int .u8)) (hd : P.underlying dst = some .string)
    (h : w.ownsRow base e' 1 v n (nums .u8 xs)) : (convert src dst v).run P w = .ok (.string (strOfNums xs)) w := by
  have hl : xs.length = n := by have := h.1; simp [nums] at this; exact this
  rcases h.2 with ⟨rfl, rfl⟩ | ⟨g, cap, cur, rfl, _⟩
  · obtain rfl : xs = [] := List.eq_nil_of_length_eq_zero hl; exact run_convert_bytes_nil w src e hs he 0 0 dst hd
  · refine run_convert_bytes_arg w src e hs he g 0 n cap xs hl (fun i hi => ?_) dst hd; have hc := h.cells (g := g) rfl i (.int .u8 (xs.getD i 0)) (by simp [nums, List.getElem?_eq_getElem (show i < xs.length by omega), List.getD_eq_getElem?_getD])
    have ha : (⟨g, 0, none⟩ : Addr).add i = ⟨g, 0 + i, none⟩ := by unfold Addr.add; split <;> simp_all
    rwa [ha] at hc
def bytesOf (s : ByteArray) : List Int := s.data.toList.map fun b => (b.toNat : Int)
theorem data_length (s : ByteArray) : s.data.toList.length = s.size := by rw [Array.length_toList]; rfl
theorem bytesOf_length (s : ByteArray) : (bytesOf s).length = s.size := by rw [bytesOf, List.length_map, data_length]
def LeO {α : Type} (a b : Option α) : Prop := ∀ r, a = some r → b = some r
theorem LeO.refl {α : Type} (a : Option α) : LeO a a := fun _ h => h
theorem LeO.trans {α : Type} {a b c : Option α} (h : LeO a b) (k : LeO b c) : LeO a c := fun r hr => k r (h r hr)
theorem LeO.bind {α β : Type} {a a' : Option α} {f f' : α → Option β} (h : LeO a a') (k : ∀ x, LeO (f x) (f' x)) : LeO (a.bind f) (a'.bind f') := by
  intro r hr; obtain ⟨x, hx, hf⟩ := Option.bind_eq_some_iff.1 hr; exact Option.bind_eq_some_iff.2 ⟨x, h x hx, k x r hf⟩
theorem LeO.map {α β : Type} {a a' : Option α} (f : α → β) (h : LeO a a') : LeO (a.map f) (a'.map f) := by
  intro r hr; obtain ⟨x, hx, hf⟩ := Option.map_eq_some_iff.1 hr; exact Option.map_eq_some_iff.2 ⟨x, h x hx, hf⟩
def Reps {α : Type} (R : α → List Value → Prop) (size : Nat) (ps : List α) (cs : List Value) : Prop :=
  cs.length = ps.length * size ∧ ∀ j p, ps[j]? = some p → R p ((cs.drop (j * size)).take size)
theorem Reps.none {α : Type} (R : α → List Value → Prop) (size : Nat) : Reps R size [] [] := ⟨by simp, fun j p h => by simp at h⟩
theorem Reps.snoc {α : Type} {R : α → List Value → Prop} {size : Nat} {ps : List α} {cs c : List Value} {p : α} (h : Reps R size ps cs) (hp : R p c) (hc : c.length = size) : Reps R size (ps ++ [p]) (cs ++ c) := by
  refine ⟨by rw [List.length_append, h.1, hc, List.length_append, List.length_singleton, Nat.add_mul, Nat.one_mul], fun j q hq => ?_⟩
  rcases Nat.lt_or_ge j ps.length with hj | hj
  · rw [List.getElem?_append_left hj] at hq
    have h1 : j * size + size ≤ cs.length := by rw [h.1, ← Nat.succ_mul]; exact Nat.mul_le_mul_right _ hj
    have h2 := h.2 j q hq; rw [List.drop_append_of_le_length (by omega), List.take_append_of_le_length (by rw [List.length_drop]; omega)]; exact h2
  · have hj' : j = ps.length := by
      have := (List.getElem?_eq_some_iff.1 hq).1; rw [List.length_append, List.length_singleton] at this; omega
    subst hj'
    have hq' : p = q := by simpa using hq
    subst hq'; rw [← h.1, List.drop_left, ← hc, List.take_length]; exact hp
theorem Reps.imp_ {α : Type} {R R' : α → List Value → Prop} {size : Nat} {ps : List α} {cs : List Value} (h : Reps R size ps cs) (hR : ∀ p c, R p c → R' p c) : Reps R' size ps cs := ⟨h.1, fun j p hj => hR _ _ (h.2 j p hj)⟩
def ReadsRow {α : Type} (R : α → List Value → Prop) (size : Nat) (w : World) (A : Option Addr) (n : Nat) (ps : List α) : Prop :=
  ps.length = n ∧ n ≤ 9223372036854775807 ∧ (0 < n → ∃ ad, A = some ad ∧ ∀ j p, ps[j]? = some p → ∃ c, c.length = size ∧ R p c ∧ ∀ i u, c[i]? = some u → w.cell? (ad.add (j * size + i)) = some u)
theorem ReadsRow.get_ {α : Type} {R : α → List Value → Prop} {size : Nat} {w : World} {A : Option Addr} {n : Nat} {ps : List α} (h : ReadsRow R size w A n ps) (d : α) (i : Int) (h0 : 0 ≤ i) (h1 : i < n) :
    ∃ ad c, A = some ad ∧ c.length = size ∧ R (ps.getD i.toNat d) c ∧ ∀ j u, c[j]? = some u → w.cell? (ad.add (i.toNat * size + j)) = some u := by
  obtain ⟨ad, e, hc⟩ := h.2.2 (by omega)
  have hl : i.toNat < ps.length := by have := h.1; omega
  obtain ⟨c, hs, hr, hcell⟩ := hc i.toNat _ (List.getElem?_eq_getElem hl); refine ⟨ad, c, e, hs, ?_, hcell⟩; rw [List.getD_eq_getElem?_getD, List.getElem?_eq_getElem hl]; exact hr
theorem ReadsRow.imp_ {α : Type} {R R' : α → List Value → Prop} {size : Nat} {w w1 : World} {A : Option Addr} {n : Nat} {ps : List α} (h : ReadsRow R size w A n ps) (hb : Below w.heap.size w w1) (hR : ∀ p c, R p c → R' p c) : ReadsRow R' size w1 A n ps :=
  ⟨h.1, h.2.1, fun hn => by
    obtain ⟨ad, e, hc⟩ := h.2.2 hn; refine ⟨ad, e, fun j p hj => ?_⟩; obtain ⟨c, hs, hr, hcell⟩ := hc j p hj
    exact ⟨c, hs, hR _ _ hr, fun i u hu => pw_cell_below hb (hcell i u hu)⟩⟩
theorem own_reads_row {α : Type} {R : α → List Value → Prop} {w : World} {base n size : Nat} {e : TypeId} {v : Value} {ps : List α} {cs : List Value} (h : w.ownsRow base e size v n cs) (hR : Reps R size ps cs) (hn : ps.length = n) :
    ∃ A c, v = .slice A n c ∧ ReadsRow R size w A n ps := by
  rcases Nat.eq_zero_or_pos n with h0 | h0
  · rcases h.2 with ⟨rfl, rfl⟩ | ⟨g, cap, cur, rfl, _⟩
    · exact ⟨none, 0, rfl, hn, by omega, fun hp => absurd hp (by omega)⟩
    · exact ⟨_, cap, rfl, hn, by omega, fun hp => absurd hp (by omega)⟩
  · obtain ⟨g, cap, rfl, _, _⟩ := h.form h0
    have hm : n ≤ 9223372036854775807 := by
      rcases h.2 with ⟨_, h1⟩ | ⟨g', cap', cur, he, _, _, h1, h2, _⟩
      · omega
      · simp only [maxLen] at h2; omega
    refine ⟨_, cap, rfl, hn, hm, fun _ => ⟨_, rfl, fun j p hj => ⟨(cs.drop (j * size)).take size, ?_, hR.2 j p hj, fun i u hu => ?_⟩⟩⟩
    · have hjl := (List.getElem?_eq_some_iff.1 hj).1
      have h1 : j * size + size ≤ cs.length := by rw [hR.1, ← Nat.succ_mul]; exact Nat.mul_le_mul_right _ hjl
      rw [List.length_take, List.length_drop]; omega
    · refine h.cells (g := g) rfl _ u ?_; rw [List.getElem?_take] at hu
      split at hu
      · rw [List.getElem?_drop] at hu; exact hu
      · cases hu
theorem add_field (ad : Addr) (m j : Nat) (hj : 0 < j) : ad.add (m + j) = ⟨(ad.add m).block, (ad.add m).off + j, none⟩ := by
  unfold Addr.add
  by_cases hm : m = 0
  · subst hm
    simp [Nat.ne_of_gt hj]
  · simp [hm, Nat.add_assoc]
section
variable {P : Program} {ops : Array Oper} {rest : List Oper} {o : Oper} {a : Act} {Q : Exit → Act → World → Prop}
theorem print_append_cells {w0 W : World} (base : Nat) (hgd : o.guard = none) (s x : Operand) (t e : TypeId) (z : Value) (size bytes : Nat)
    (ho : o.op = .call { callee := .builtin .append, args := #[s, x], argTypes := #[t, t] })
    (ht : P.underlying t = some (.slice e)) (hinfo : (P.info? e).map (fun i => (i.zero, i.size, i.bytes)) = some (some z, size, bytes)) (hz : z.cells.size = size) (hs0 : 0 < size) (hb0 : 0 < bytes)
    (v : Value) (n : Nat) (xs ys : List Value) (hs : a.eval s = v) (hx : a.eval x = .slice (some ⟨W.heap.size, 0, none⟩) 1 1) (hys : ys.length = size) (h1 : ∀ u ∈ ys, u.oneCell' = true)
    (HO : W.ownsRow base e size v n xs) (HB : Below base w0 W) (hbase : base ≤ W.heap.size) (hl : (n + 1) * bytes ≤ 140737488355328)
    (h : ∀ v1 w1, w1.ownsRow base e size v1 (n + 1) (xs ++ ys) → Below base w0 w1 → W.grownBy w1 v.ownBlock → (v1.ownBlock = v.ownBlock ∨ ∃ b, v1.ownBlock = some b ∧ W.heap.size ≤ b) → wpList P ops Q rest (a.put o.dst v1) w1) :
    wpList P ops Q (o :: rest) a (W.alloc (.cells ys.toArray e)) := by
  obtain ⟨i0, hi, hzz⟩ := Option.map_eq_some_iff.1 hinfo; simp only [Prod.mk.injEq] at hzz; obtain ⟨hz0, hz1, hz2⟩ := hzz; have hlen : n + 1 ≤ 140737488355328 := Nat.le_trans (Nat.le_mul_of_pos_right _ hb0) hl
  refine wpList_append_own_at (W.alloc (.cells ys.toArray e)) hgd s x t ho base e i0 z size bytes ht hi hz0 hz1 hz2 hz hs0 v n xs hs (HO.alloc _) ⟨W.heap.size, 0, none⟩ 1 1 ys hx (by rw [hys]; simp)
    (by simpa using World.news_of_block (cs := ys.toArray) (t := e) (fr := (0, 0)) (heap_alloc_new W (.cells ys.toArray e))) h1 (by simp only [maxLen]; omega) hl (by simp; omega) ?_
  intro v1 w1 hown hg _ hat; refine h v1 w1 hown ((HB.alloc hbase _).grown hg (by simp; omega) (own_base HO)) (World.grownBy.trans (World.grownBy_alloc W _ _) hg) ?_
  rcases hat with hat | hat
  · exact .inl hat
  · exact .inr ⟨_, hat, by simp⟩
end
theorem own_ne {w : World} {base : Nat} {e t : TypeId} {size n g : Nat} {v : Value} {xs : List Value} {cs : Array Value} (h : w.ownsRow base e size v n xs) (hg : w.heap[g]? = some (.cells cs t (0, 0))) (hne : e ≠ t) : some g ≠ v.ownBlock := by
  rcases h.2 with ⟨rfl, _⟩ | ⟨g', cap, cur, rfl, _, hh, _⟩
  · simp [Value.ownBlock]
  · intro he
    have : g = g' := by simpa [Value.ownBlock] using he
    subst this; rw [hg] at hh
    injection hh with hh
    injection hh with _ ht
    exact hne ht.symm
theorem blk_set {w : World} {g : Nat} {t : TypeId} {cs : Array Value} (h : w.heap[g]? = some (.cells cs t (0, 0))) (i : Nat) (u : Value) : (w.setCell ⟨g, i, none⟩ u).heap[g]? = some (.cells (cs.setIfInBounds i u) t (0, 0)) := by
  simp [World.setCell, Array.getElem?_modify, h]
theorem blk_far {w : World} {g : Nat} {t : TypeId} {cs : Array Value} (h : w.heap[g]? = some (.cells cs t (0, 0))) {p : Addr} (hp : g ≠ p.block) (u : Value) : (w.setCell p u).heap[g]? = some (.cells cs t (0, 0)) := (Below.heap_setCell w p u g hp).trans h
theorem blk_lt {w : World} {g : Nat} {o : Obj} (h : w.heap[g]? = some o) : g < w.heap.size := (Array.getElem?_eq_some_iff.1 h).1
theorem Zb {w : World} {g : Nat} {t : TypeId} {cs : Array Value} (h : w.heap[g]? = some (.cells cs t (0, 0))) (i : Nat) : w.cell? ⟨g, i, none⟩ = cs[i]? := cell_of_row w g i cs t (0, 0) h
theorem Z7 {w : World} {g : Nat} {t : TypeId} {cs : Array Value} (h : w.heap[g]? = some (.cells cs t (0, 0))) (i : Nat) : w.frozen? ⟨g, i, none⟩ = false := by simp [World.frozen?, h]
theorem ZC {w w1 : World} {g : Nat} {o : Obj} {row : Option Nat} (h : w.heap[g]? = some o) (hg : w.grownBy w1 row) (hne : some g ≠ row) : w1.heap[g]? = some o := (hg.block g (blk_lt h) hne).trans h
def Zg (w w' : World) (g : Nat) (row : Option Nat) : Prop := w.heap.size ≤ w'.heap.size ∧ ∀ i, i < w.heap.size → i ≠ g → some i ≠ row → w'.heap[i]? = w.heap[i]?
theorem Zg.refl (w : World) (g : Nat) (row : Option Nat) : Zg w w g row := ⟨Nat.le_refl _, fun _ _ _ _ => rfl⟩
theorem Zg.of_grown {w w1 : World} {row : Option Nat} (h : w.grownBy w1 row) (g : Nat) : Zg w w1 g row := ⟨h.size, fun i hi _ hr => h.block i hi hr⟩
theorem Zg.of_below {w w1 : World} (h : Below w.heap.size w w1) (g : Nat) (row : Option Nat) : Zg w w1 g row := ⟨h.size, fun i hi _ _ => h.block i hi⟩
theorem Zg.set_ {w w1 : World} {g : Nat} {row : Option Nat} (h : Zg w w1 g row) (j : Nat) (u : Value) : Zg w (w1.setCell ⟨g, j, none⟩ u) g row :=
  ⟨by simpa [World.setCell] using h.1, fun i hi hg hr => (Below.heap_setCell w1 ⟨g, j, none⟩ u i hg).trans (h.2 i hi hg hr)⟩
theorem Zg.trans {w w1 w2 : World} {g : Nat} {row row1 : Option Nat} (h : Zg w w1 g row) (k : Zg w1 w2 g row1) (hr : row1 = row ∨ ∃ b, row1 = some b ∧ w.heap.size ≤ b) : Zg w w2 g row :=
  ⟨Nat.le_trans h.1 k.1, fun i hi hg hn => by
    refine (k.2 i (Nat.lt_of_lt_of_le hi h.1) hg ?_).trans (h.2 i hi hg hn)
    rcases hr with rfl | ⟨b, rfl, hb⟩
    · exact hn
    · intro e
      injection e with e
      omega⟩
theorem Zg.blk {w w1 : World} {g g' : Nat} {row : Option Nat} {o : Obj} (h : Zg w w1 g row) (hb : w.heap[g']? = some o) (hg : g' ≠ g) (hr : some g' ≠ row) : w1.heap[g']? = some o := (h.2 g' (blk_lt hb) hg hr).trans hb
def Ev {α : Type} (g : Nat → Option α) (r : α) : Prop := ∃ K, ∀ k, K ≤ k → g k = some r
theorem Ev.bind {α β : Type} {g : Nat → Option α} {f : Nat → α → Option β} {a : α} {r : β} (h : Ev g a) (k : Ev (fun n => f n a) r) : Ev (fun n => (g n).bind (f n)) r := by
  obtain ⟨K, h⟩ := h; obtain ⟨K', k⟩ := k; refine ⟨max K K', fun n hn => ?_⟩; have h1 := h n (by omega); have h2 := k n (by omega); simp only [h1, Option.bind_some]; exact h2
theorem Ev.step {α : Type} {g f : Nat → Option α} {r : α} (h : ∀ k, g (k + 1) = f k) (k : Ev f r) : Ev g r := by
  obtain ⟨K, k⟩ := k; refine ⟨K + 1, fun n hn => ?_⟩; obtain ⟨m, rfl⟩ : ∃ m, n = m + 1 := ⟨n - 1, by omega⟩; rw [h]; exact k m (by omega)
theorem own_weaken {w : World} {base base' : Nat} {e : TypeId} {size n : Nat} {v : Value} {xs : List Value} (h : w.ownsRow base e size v n xs) (hb : base' ≤ base) : w.ownsRow base' e size v n xs := by
  obtain ⟨h1, h2⟩ := h; refine ⟨h1, ?_⟩
  rcases h2 with h2 | ⟨g, cap, cur, rfl, hg, r⟩
  · exact .inl h2
  · exact .inr ⟨g, cap, cur, rfl, Nat.le_trans hb hg, r⟩
section
variable {α : Type} {enc : α → Value} {d : α}
def encs (enc : α → Value) (xs : List α) : List Value := xs.map enc
def rdOf (d : α) (xs : List α) (i : Int) : α := xs.getD i.toNat d
theorem encs_length (xs : List α) : (encs enc xs).length = xs.length := by simp [encs]
theorem encs_get (xs : List α) (j : Nat) (h : j < xs.length) : (encs enc xs)[j]? = some (enc (xs.getD j d)) := by
  simp [encs, List.getElem?_eq_getElem h, List.getD_eq_getElem?_getD]
def ReadsOf (enc : α → Value) (d : α) (w : World) (A : Option Addr) (n : Nat) (xs : List α) : Prop :=
  xs.length = n ∧ n ≤ 9223372036854775807 ∧ (0 < n → ∃ ad, A = some ad ∧ ∀ j, j < n → w.cell? (ad.add j) = some (enc (xs.getD j d)))
theorem ReadsOf.at_ {w : World} {A : Option Addr} {n : Nat} {xs : List α} (h : ReadsOf enc d w A n xs) (i : Int) (h0 : 0 ≤ i) (h1 : i < n) : ∃ ad, A = some ad ∧ w.cell? (ad.add i.toNat) = some (enc (rdOf d xs i)) := by
  obtain ⟨ad, e, hc⟩ := h.2.2 (by omega); exact ⟨ad, e, hc _ (by omega)⟩
theorem ReadsOf.below {w w1 : World} {A : Option Addr} {n : Nat} {xs : List α} (h : ReadsOf enc d w A n xs) (hb : Below w.heap.size w w1) : ReadsOf enc d w1 A n xs :=
  ⟨h.1, h.2.1, fun hn => by
    obtain ⟨ad, e, hc⟩ := h.2.2 hn
    exact ⟨ad, e, fun j hj => pw_cell_below hb (hc j hj)⟩⟩
theorem own_at_of {W : World} {base g n cap : Nat} {e : TypeId} {xs : List α} (h : W.ownsRow base e 1 (.slice (some ⟨g, 0, none⟩) n cap) n (encs enc xs)) (i : Int) (h0 : 0 ≤ i) (h1 : i < n) :
    W.cell? ⟨g, i.toNat, none⟩ = some (enc (rdOf d xs i)) ∧ W.frozen? ⟨g, i.toNat, none⟩ = false := by
  have hl : xs.length = n := by have := h.1; simp [encs] at this; exact this
  constructor
  · have hc := h.cells (g := g) rfl i.toNat _ (encs_get (d := d) xs i.toNat (by omega))
    rwa [ZF] at hc
  · rcases h.2 with ⟨h', _⟩ | ⟨g', cap', cur, h', _, hh, _⟩
    · cases h'
    · have : g = g' := by injection h' with h'; injection h' with h'; injection h' with h'
      subst this
      simp [World.frozen?, hh]
theorem own_store_of {W : World} {base g n cap : Nat} {e : TypeId} {xs : List α} (h : W.ownsRow base e 1 (.slice (some ⟨g, 0, none⟩) n cap) n (encs enc xs)) (i : Int) (x : α) :
    (W.setCell ⟨g, i.toNat, none⟩ (enc x)).ownsRow base e 1 (.slice (some ⟨g, 0, none⟩) n cap) n (encs enc (xs.set i.toNat x)) ∧ W.grownBy (W.setCell ⟨g, i.toNat, none⟩ (enc x)) (some g) := by
  have hs := h.stored i.toNat (enc x)
  have he : (encs enc xs).set i.toNat (enc x) = encs enc (xs.set i.toNat x) := by simp [encs, List.map_set]
  rwa [he] at hs
end
theorem Z9 {w : World} {g : Nat} {o : Obj} (h : w.heap[g]? = some o) (o' : Obj) : (w.alloc o').heap[g]? = some o := (Below.heap_alloc w o' g (blk_lt h)).trans h
theorem Za {w : World} {g : Nat} {o : Obj} (h : w.heap[g]? = some o) : w.drew.heap[g]? = some o := h
theorem Z8 {w : World} {g : Nat} {o : Obj} (h : w.heap[g]? = some o) (n : Nat) : (w.drewN n).heap[g]? = some o := h
theorem blk_below {w w1 : World} {g : Nat} {o : Obj} (h : w.heap[g]? = some o) (hb : Below w.heap.size w w1) : w1.heap[g]? = some o := (hb.block g (blk_lt h)).trans h
theorem blk_new (w : World) (o : Obj) : (w.alloc o).heap[w.heap.size]? = some o := heap_alloc_new w o
theorem own_le {w : World} {base n m c size : Nat} {e : TypeId} {A : Option Addr} {xs : List Value} (h : w.ownsRow base e size (.slice A m c) n xs) : m ≤ c := by
  rcases h.2 with ⟨he, _⟩ | ⟨g, cap, cur, he, _, _, hnc, _⟩
  · injection he with _ h2 h3
    omega
  · injection he with _ h2 h3
    omega
def OwnRow {α : Type} (R : α → List Value → Prop) (e : TypeId) (size : Nat) (w : World) (base : Nat) (v : Value) (ps : List α) : Prop :=
  ∃ inner, w.ownsRow base e size v ps.length inner ∧ Reps R size ps inner
section
variable {α : Type} {R R' : α → List Value → Prop} {e : TypeId} {size : Nat} {w w1 : World} {base : Nat} {v : Value} {ps : List α}
theorem OwnRow.none_ (R : α → List Value → Prop) (e : TypeId) (size : Nat) (w : World) (base : Nat) : OwnRow R e size w base (.slice none 0 0) [] := ⟨[], own_nil _ _ _ _, Reps.none _ _⟩
theorem OwnRow.imp_ (h : OwnRow R e size w base v ps) (hR : ∀ p c, R p c → R' p c) : OwnRow R' e size w base v ps := by
  obtain ⟨inner, ho, hr⟩ := h; exact ⟨inner, ho, hr.imp_ hR⟩
theorem OwnRow.below (h : OwnRow R e size w base v ps) (hb : Below w.heap.size w w1) : OwnRow R e size w1 base v ps := by
  obtain ⟨inner, ho, hr⟩ := h; exact ⟨inner, pw_own_below ho hb, hr⟩
theorem OwnRow.reads (h : OwnRow R e size w base v ps) : ∃ A c, v = .slice A ps.length c ∧ ps.length ≤ c ∧ ReadsRow R size w A ps.length ps := by
  obtain ⟨inner, ho, hr⟩ := h; obtain ⟨A, c, rfl, hrow⟩ := own_reads_row ho hr rfl; exact ⟨A, c, rfl, own_le ho, hrow⟩
theorem OwnRow.ne_block (h : OwnRow R e size w base v ps) {g : Nat} {t : TypeId} {cells : Array Value} (hb : w.heap[g]? = some (.cells cells t (0, 0))) (ht : e ≠ t) : some g ≠ v.ownBlock := by
  obtain ⟨inner, ho, hr⟩ := h; exact own_ne ho hb ht
end
section
variable {P : Program} {ops : Array Oper} {rest : List Oper} {o : Oper} {a : Act} {Q : Exit → Act → World → Prop} {α : Type} {R : α → List Value → Prop}
theorem OwnRow.append {w0 W : World} (base : Nat) (hgd : o.guard = none) (s x : Operand) (t e : TypeId) (z : Value) (size bytes : Nat)
    (ho : o.op = .call { callee := .builtin .append, args := #[s, x], argTypes := #[t, t] })
    (ht : P.underlying t = some (.slice e)) (hinfo : (P.info? e).map (fun i => (i.zero, i.size, i.bytes)) = some (some z, size, bytes)) (hz : z.cells.size = size) (hs0 : 0 < size) (hb0 : 0 < bytes)
    (v : Value) (ps : List α) (p : α) (cs : List Value) (hs : a.eval s = v) (hx : a.eval x = .slice (some ⟨W.heap.size, 0, none⟩) 1 1) (hp : R p cs) (hcs : cs.length = size) (h1 : ∀ u ∈ cs, u.oneCell' = true)
    (HO : OwnRow R e size W base v ps) (HB : Below base w0 W) (hbase : base ≤ W.heap.size) (hl : (ps.length + 1) * bytes ≤ 140737488355328)
    (h : ∀ v1 w1, OwnRow R e size w1 base v1 (ps ++ [p]) → Below base w0 w1 → W.grownBy w1 v.ownBlock → (v1.ownBlock = v.ownBlock ∨ ∃ b, v1.ownBlock = some b ∧ W.heap.size ≤ b) → wpList P ops Q rest (a.put o.dst v1) w1) :
    wpList P ops Q (o :: rest) a (W.alloc (.cells cs.toArray e)) := by
  obtain ⟨inner, hown, hr⟩ := HO; refine print_append_cells base hgd s x t e z size bytes ho ht hinfo hz hs0 hb0 v ps.length inner cs hs hx hcs h1 hown HB hbase hl ?_; intro v1 w1 hown1 hb1 hg1 hat1; exact h v1 w1 ⟨inner ++ cs, by rw [List.length_append, List.length_singleton]; exact hown1, hr.snoc hp hcs⟩ hb1 hg1 hat1
end
section
variable {α : Type} {P : Program}
theorem ReadsOf.len_ {enc : α → Value} {d : α} {w : World} {A : Option Addr} {n : Nat} {xs : List α} (h : ReadsOf enc d w A n xs) : ReadsOf enc d w A xs.length xs := by rw [h.1]; exact h
end
section
variable {P : Program} {ops : Array Oper} {rest : List Oper} {o : Oper} {a : Act} {Q : Exit → Act → World → Prop}
theorem print_append_str {w0 W : World} (base : Nat) (hgd : o.guard = none) (s x : Operand) (t u e : TypeId)
    (ho : o.op = .call { callee := .builtin .append, args := #[s, x], argTypes := #[t, u] })
    (ht : P.underlying t = some (.slice e)) (hu : P.underlying u = some .string) (hinfo : (P.info? e).map (fun i => (i.zero, i.size, i.bytes)) = some (some (.int .u8 0), 1, 1))
    (v : Value) (xs : List Int) (y : ByteArray) (hs : a.eval s = v) (hx : a.eval x = .string y)
    (HO : W.ownsRow base e 1 v xs.length (nums .u8 xs)) (HB : Below base w0 W) (hbase : base ≤ W.heap.size) (hl : xs.length + y.size ≤ 140737488355328)
    (h : ∀ v1 w1, w1.ownsRow base e 1 v1 (xs ++ bytesOf y).length (nums .u8 (xs ++ bytesOf y)) → Below base w0 w1 → W.grownBy w1 v.ownBlock → wpList P ops Q rest (a.put o.dst v1) w1) :
    wpList P ops Q (o :: rest) a W := by
  obtain ⟨i0, hi, hzz⟩ := Option.map_eq_some_iff.1 hinfo; simp only [Prod.mk.injEq] at hzz; obtain ⟨hz0, hz1, hz2⟩ := hzz; refine Lib.wpList_append_own_string W hgd s x t u ho base e i0 ht hu hi hz0 hz1 hz2 v xs.length (nums .u8 xs) hs HO y hx (by simp only [maxLen]; omega) hl hbase ?_; intro v1 w1 hown hg _
  have hl2 : (xs ++ bytesOf y).length = xs.length + y.size := by rw [List.length_append, bytesOf_length]
  have hc : nums .u8 (xs ++ bytesOf y) = nums .u8 xs ++ Lib.strCells y := by
    rw [nums_append]
    congr 1
    simp [nums, bytesOf, Lib.strCells]
  exact h v1 w1 (by rw [hl2, hc]; exact hown) (HB.grown hg hbase (own_base HO)) hg
end
structure Kd (α : Type) where
  sz : Nat
  E : List Nat
  K : World → α → List Value → Prop
  M : World → Nat → (Nat → Prop) → α → List Value → Prop
  K_len : ∀ {w x cs}, K w x cs → cs.length = sz
  K_one : ∀ {w x cs}, K w x cs → ∀ u ∈ cs, u.oneCell' = true
  K_below : ∀ {w w1 : World} {x cs}, Below w.heap.size w w1 → K w x cs → K w1 x cs
  K_of_M : ∀ {w base ok x cs}, M w base ok x cs → K w x cs
  M_mono : ∀ {w base ok ok' x cs}, (∀ k, ok k → ok' k) → M w base ok x cs → M w base ok' x cs
  M_bound : ∀ {w : World} {base ok x cs}, M w base ok x cs → M w base (fun k => ok k ∧ base ≤ k ∧ k < w.heap.size ∧ ∃ q, q ∈ E ∧ ∃ cells, w.heap[k]? = some (.cells cells q (0, 0))) x cs
  M_move : ∀ {w w1 : World} {base ok x cs}, (∀ k, ok k → w1.heap[k]? = w.heap[k]?) → M w base ok x cs → M w1 base ok x cs
  M_lower : ∀ {w base base' ok x cs}, base' ≤ base → M w base ok x cs → M w base' ok x cs
theorem own_move {w w1 : World} {base : Nat} {e : TypeId} {size n : Nat} {v : Value} {xs : List Value} (h : w.ownsRow base e size v n xs) (hm : ∀ k, v.ownBlock = some k → w1.heap[k]? = w.heap[k]?) : w1.ownsRow base e size v n xs := by
  obtain ⟨h1, h2⟩ := h; refine ⟨h1, ?_⟩
  rcases h2 with h2 | ⟨g, cap, cur, rfl, hg, hh, r⟩
  · exact .inl h2
  · exact .inr ⟨g, cap, cur, rfl, hg, (hm g (by simp [Value.ownBlock])).trans hh, r⟩
theorem own_typed {w : World} {base : Nat} {e : TypeId} {size n : Nat} {v : Value} {xs : List Value} (h : w.ownsRow base e size v n xs) (k : Nat) (hk : v.ownBlock = some k) : ∃ cells, w.heap[k]? = some (.cells cells e (0, 0)) := by
  rcases h.2 with ⟨rfl, _⟩ | ⟨g, cap, cur, rfl, hg, hh, r⟩
  · simp [Value.ownBlock] at hk
  · have : g = k := by simpa [Value.ownBlock] using hk
    subst this; exact ⟨cur, hh⟩
namespace Kd
def C {α : Type} (d : Kd α) (w : World) (A : Option Addr) (n : Nat) (xs : List α) : Prop := ReadsRow (d.K w) d.sz w A n xs
def R {α : Type} (d : Kd α) (e : Nat) (w : World) (base : Nat) (ok : Nat → Prop) (v : Value) (xs : List α) : Prop :=
  (∀ k, v.ownBlock = some k → ok k) ∧ OwnRow (d.M w base (fun k => ok k ∧ some k ≠ v.ownBlock)) e d.sz w base v xs
section
variable {α : Type} {d : Kd α} {e : Nat} {w w1 : World} {base : Nat} {ok ok' : Nat → Prop} {v : Value} {xs : List α}
theorem C_below {A : Option Addr} {n : Nat} (h : d.C w A n xs) (hb : Below w.heap.size w w1) : d.C w1 A n xs := ReadsRow.imp_ h hb (fun _ _ hp => d.K_below hb hp)
theorem R_nil (d : Kd α) (e : Nat) (w : World) (base : Nat) (ok : Nat → Prop) : d.R e w base ok (.slice none 0 0) [] := ⟨fun k hk => by simp [Value.ownBlock] at hk, OwnRow.none_ _ _ _ _ _⟩
theorem R_mono (h : d.R e w base ok v xs) (hok : ∀ k, ok k → ok' k) : d.R e w base ok' v xs := ⟨fun k hk => hok k (h.1 k hk), h.2.imp_ (fun _ _ hp => d.M_mono (fun k hk => ⟨hok k hk.1, hk.2⟩) hp)⟩
theorem R_bound (h : d.R e w base ok v xs) : d.R e w base (fun k => ok k ∧ base ≤ k ∧ k < w.heap.size ∧ ∃ q, q ∈ e :: d.E ∧ ∃ cells, w.heap[k]? = some (.cells cells q (0, 0))) v xs := by
  obtain ⟨h0, inner, ho, hr⟩ := h; refine ⟨fun k hk => ?_, inner, ho, hr.imp_ (fun _ _ hp => d.M_mono (fun k hk => ?_) (d.M_bound hp))⟩
  · obtain ⟨cells, hc⟩ := own_typed ho k hk; exact ⟨h0 k hk, own_base ho k hk, own_lt ho k hk, e, List.mem_cons_self, cells, hc⟩
  · obtain ⟨⟨h1, h2⟩, h3, h4, q, hq, hc⟩ := hk; exact ⟨⟨h1, h3, h4, q, List.mem_cons_of_mem _ hq, hc⟩, h2⟩
theorem R_move (h : d.R e w base ok v xs) (hm : ∀ k, ok k → w1.heap[k]? = w.heap[k]?) : d.R e w1 base ok v xs := by
  obtain ⟨h0, inner, ho, hr⟩ := h; exact ⟨h0, inner, own_move ho (fun k hk => hm k (h0 k hk)), hr.imp_ (fun _ _ hp => d.M_move (fun k hk => hm k hk.1) hp)⟩
theorem R_lower {base' : Nat} (h : d.R e w base ok v xs) (hb : base' ≤ base) : d.R e w base' ok v xs := by
  obtain ⟨h0, inner, ho, hr⟩ := h; exact ⟨h0, inner, own_weaken ho hb, hr.imp_ (fun _ _ hp => d.M_lower hb hp)⟩
theorem R_step (h : d.R e w base ok v xs) (hm : ∀ k, ok k → k < w.heap.size → w1.heap[k]? = w.heap[k]?) : d.R e w1 base ok v xs :=
  R_mono (R_move (R_bound h) (fun k hk => hm k hk.1 hk.2.2.1)) (fun _ hk => hk.1)
theorem M_step {x : α} {cs : List Value} (h : d.M w base ok x cs) (hm : ∀ k, ok k → k < w.heap.size → w1.heap[k]? = w.heap[k]?) : d.M w1 base ok x cs :=
  d.M_mono (fun _ hk => hk.1) (d.M_move (fun k hk => hm k hk.1 hk.2.2.1) (d.M_bound h))
theorem R_below (h : d.R e w base ok v xs) (hb : Below w.heap.size w w1) : d.R e w1 base ok v xs := R_step h (fun k _ hk => hb.block k hk)
theorem M_below {x : α} {cs : List Value} (h : d.M w base ok x cs) (hb : Below w.heap.size w w1) : d.M w1 base ok x cs := M_step h (fun k _ hk => hb.block k hk)
theorem R_grown (h : d.R e w base ok v xs) {row : Option Nat} (hg : w.grownBy w1 row) (hok : ∀ k, ok k → some k ≠ row) : d.R e w1 base ok v xs := R_step h (fun k ho hk => hg.block k hk (hok k ho))
theorem R_far (h : d.R e w base ok v xs) {p : Addr} (hok : ∀ k, ok k → k ≠ p.block) (u : Value) : d.R e (w.setCell p u) base ok v xs := R_step h (fun k ho _ => Below.heap_setCell w p u k (hok k ho))
theorem R_keep (h : d.R e w base ok v xs) {g : Nat} (hk : Zg w w1 g none) (hok : ∀ k, ok k → k ≠ g) : d.R e w1 base ok v xs := R_step h (fun k ho hlt => hk.2 k hlt (hok k ho) (by simp))
theorem R_types (h : d.R e w base ok v xs) {g t : Nat} {cells : Array Value} (hb : w.heap[g]? = some (.cells cells t (0, 0))) (ht : ∀ q, q ∈ e :: d.E → q ≠ t) : d.R e w base (fun k => ok k ∧ k ≠ g) v xs :=
  R_mono (R_bound h) (fun k hk => ⟨hk.1, by
    obtain ⟨_, _, _, q, hq, cells', hc⟩ := hk; rintro rfl; rw [hc] at hb
    injection hb with hb
    injection hb with _ hb
    exact ht q hq hb⟩)
theorem R_reads (h : d.R e w base ok v xs) : ∃ A c, v = .slice A xs.length c ∧ xs.length ≤ c ∧ d.C w A xs.length xs := by
  obtain ⟨A, c, he, hl, hr⟩ := OwnRow.reads h.2; exact ⟨A, c, he, hl, hr.imp_ (Below.refl _ _) (fun _ _ hp => d.K_of_M hp)⟩
theorem R_slice (h : d.R e w base ok v xs) : ∃ A c, v = .slice A xs.length c := by
  obtain ⟨A, c, he, _⟩ := R_reads h; exact ⟨A, c, he⟩
theorem R_own (h : d.R e w base ok v xs) : ∃ inner, w.ownsRow base e d.sz v xs.length inner := by
  obtain ⟨_, inner, ho, _⟩ := h; exact ⟨inner, ho⟩
theorem R_ne (h : d.R e w base ok v xs) {g t : Nat} {cells : Array Value} (hb : w.heap[g]? = some (.cells cells t (0, 0))) (ht : e ≠ t) : some g ≠ v.ownBlock := OwnRow.ne_block h.2 hb ht
end
def scalar {α : Type} (enc : α → Value) (h1 : ∀ x, (enc x).oneCell' = true) : Kd α where
  sz := 1
  E := []
  K := fun _ x cs => cs = [enc x]
  M := fun _ _ _ x cs => cs = [enc x]
  K_len := fun h => by rw [h]; rfl
  K_one := fun h u hu => by
    rw [h] at hu; rw [List.mem_singleton.1 hu]; exact h1 _
  K_below := fun _ h => h
  K_of_M := fun h => h
  M_mono := fun _ h => h
  M_bound := fun h => h
  M_move := fun _ h => h
  M_lower := fun _ h => h
def int (k : IntKind) : Kd Int := scalar (Value.int k) (fun _ => rfl)
def string : Kd ByteArray := scalar Value.string (fun _ => rfl)
def slice {α : Type} (e : Nat) (d : Kd α) : Kd (List α) where
  sz := 1
  E := e :: d.E
  K := fun w xs cs => ∃ A c, cs = [.slice A xs.length c] ∧ xs.length ≤ c ∧ d.C w A xs.length xs
  M := fun w base ok xs cs => ∃ v, cs = [v] ∧ d.R e w base ok v xs
  K_len := by
    rintro w x cs ⟨A, c, rfl, _⟩; rfl
  K_one := by
    rintro w x cs ⟨A, c, rfl, _⟩ u hu; rw [List.mem_singleton.1 hu]; rfl
  K_below := by
    rintro w w1 x cs hb ⟨A, c, rfl, hl, hr⟩; exact ⟨A, c, rfl, hl, C_below hr hb⟩
  K_of_M := by
    rintro w base ok x cs ⟨v, rfl, h⟩; obtain ⟨A, c, rfl, hl, hr⟩ := R_reads h; exact ⟨A, c, rfl, hl, hr⟩
  M_mono := by
    rintro w base ok ok' x cs hok ⟨v, rfl, h⟩; exact ⟨v, rfl, R_mono h hok⟩
  M_bound := by
    rintro w base ok x cs ⟨v, rfl, h⟩; exact ⟨v, rfl, R_bound h⟩
  M_move := by
    rintro w w1 base ok x cs hm ⟨v, rfl, h⟩; exact ⟨v, rfl, R_move h hm⟩
  M_lower := by
    rintro w base base' ok x cs hb ⟨v, rfl, h⟩; exact ⟨v, rfl, R_lower h hb⟩
def pair {α β : Type} (a : Kd α) (b : Kd β) : Kd (α × β) where
  sz := a.sz + b.sz
  E := a.E ++ b.E
  K := fun w x cs => ∃ c0 c1, cs = c0 ++ c1 ∧ a.K w x.1 c0 ∧ b.K w x.2 c1
  M := fun w base ok x cs => ∃ c0 c1, cs = c0 ++ c1 ∧ a.M w base ok x.1 c0 ∧ b.M w base ok x.2 c1
  K_len := by
    rintro w x cs ⟨c0, c1, rfl, h0, h1⟩; rw [List.length_append, a.K_len h0, b.K_len h1]
  K_one := by
    rintro w x cs ⟨c0, c1, rfl, h0, h1⟩ u hu
    rcases List.mem_append.1 hu with hu | hu
    · exact a.K_one h0 u hu
    · exact b.K_one h1 u hu
  K_below := by
    rintro w w1 x cs hb ⟨c0, c1, rfl, h0, h1⟩; exact ⟨c0, c1, rfl, a.K_below hb h0, b.K_below hb h1⟩
  K_of_M := by
    rintro w base ok x cs ⟨c0, c1, rfl, h0, h1⟩; exact ⟨c0, c1, rfl, a.K_of_M h0, b.K_of_M h1⟩
  M_mono := by
    rintro w base ok ok' x cs hok ⟨c0, c1, rfl, h0, h1⟩; exact ⟨c0, c1, rfl, a.M_mono hok h0, b.M_mono hok h1⟩
  M_bound := by
    rintro w base ok x cs ⟨c0, c1, rfl, h0, h1⟩; refine ⟨c0, c1, rfl, a.M_mono ?_ (a.M_bound h0), b.M_mono ?_ (b.M_bound h1)⟩
    · rintro k ⟨h2, h3, h4, q, hq, hc⟩; exact ⟨h2, h3, h4, q, List.mem_append_left _ hq, hc⟩
    · rintro k ⟨h2, h3, h4, q, hq, hc⟩; exact ⟨h2, h3, h4, q, List.mem_append_right _ hq, hc⟩
  M_move := by
    rintro w w1 base ok x cs hm ⟨c0, c1, rfl, h0, h1⟩; exact ⟨c0, c1, rfl, a.M_move hm h0, b.M_move hm h1⟩
  M_lower := by
    rintro w base base' ok x cs hb ⟨c0, c1, rfl, h0, h1⟩; exact ⟨c0, c1, rfl, a.M_lower hb h0, b.M_lower hb h1⟩
def iso {α β : Type} (d : Kd α) (f : β → α) : Kd β where
  sz := d.sz
  E := d.E
  K := fun w x cs => d.K w (f x) cs
  M := fun w base ok x cs => d.M w base ok (f x) cs
  K_len := d.K_len
  K_one := d.K_one
  K_below := d.K_below
  K_of_M := d.K_of_M
  M_mono := d.M_mono
  M_bound := d.M_bound
  M_move := d.M_move
  M_lower := d.M_lower
theorem C_get {α : Type} {d : Kd α} {w : World} {A : Option Addr} {n : Nat} {xs : List α} (h : d.C w A n xs) (z : α) (i : Int) (h0 : 0 ≤ i) (h1 : i < n) :
    ∃ ad c, A = some ad ∧ c.length = d.sz ∧ d.K w (xs.getD i.toNat z) c ∧ ∀ j u, c[j]? = some u → w.cell? (ad.add (i.toNat * d.sz + j)) = some u := ReadsRow.get_ h z i h0 h1
theorem R_appended {α : Type} {d : Kd α} {e base : Nat} {ok okp : Nat → Prop} {W w1 : World} {v v1 : Value} {xs : List α} {p : α} {inner cs : List Value} (h0 : ∀ k, v.ownBlock = some k → ok k) (hr : Reps (d.M W base (fun k => ok k ∧ some k ≠ v.ownBlock)) d.sz xs inner) (hp : d.M W base okp p cs) (hokp : ∀ k, okp k → ok k ∧ some k ≠ v.ownBlock) (hfresh : ∀ k, W.heap.size ≤ k → ok k)
    (hown : w1.ownsRow base e d.sz v1 (xs.length + 1) (inner ++ cs)) (hg : W.grownBy w1 v.ownBlock) (hat : v1.ownBlock = v.ownBlock ∨ ∃ b, v1.ownBlock = some b ∧ W.heap.size ≤ b) : d.R e w1 base ok v1 (xs ++ [p]) := by
  have hne : ∀ k, some k ≠ v.ownBlock → k < W.heap.size → some k ≠ v1.ownBlock := by
    intro k hk hlt
    rcases hat with hat | ⟨b, hb, hle⟩
    · rw [hat]; exact hk
    · rw [hb]; intro he
      injection he with he
      omega
  have step : ∀ {q : α} {c : List Value} {o : Nat → Prop}, d.M W base o q c → (∀ k, o k → ok k ∧ some k ≠ v.ownBlock) → d.M w1 base (fun k => ok k ∧ some k ≠ v1.ownBlock) q c := by
    intro q c o hq ho; have h1 := d.M_move (w1 := w1) (fun k hk => hg.block k hk.2.2.1 (ho k hk.1).2) (d.M_bound hq); exact d.M_mono (fun k hk => ⟨(ho k hk.1).1, hne k (ho k hk.1).2 hk.2.2.1⟩) h1
  refine ⟨fun k hk => ?_, inner ++ cs, by rw [List.length_append, List.length_singleton]; exact hown, ?_⟩
  · rcases hat with hat | ⟨b, hb, hle⟩
    · exact h0 k (hat ▸ hk)
    · rw [hb] at hk
      injection hk with hk
      exact hfresh k (by omega)
  · exact (hr.imp_ (fun _ _ hq => step hq (fun _ hk => hk))).snoc (step hp hokp) (d.K_len (d.K_of_M hp))
section
variable {P : Program} {ops : Array Oper} {rest : List Oper} {o : Oper} {a : Act} {Q : Exit → Act → World → Prop} {α : Type}
theorem R_append (d : Kd α) {w0 W : World} (base : Nat) (hgd : o.guard = none) (s x : Operand) (t e : TypeId) (z : Value) (bytes : Nat)
    (ho : o.op = .call { callee := .builtin .append, args := #[s, x], argTypes := #[t, t] })
    (ht : P.underlying t = some (.slice e)) (hinfo : (P.info? e).map (fun i => (i.zero, i.size, i.bytes)) = some (some z, d.sz, bytes)) (hz : z.cells.size = d.sz) (hs0 : 0 < d.sz) (hb0 : 0 < bytes)
    (v : Value) (xs : List α) (p : α) (cs : List Value) (ok okp : Nat → Prop) (hs : a.eval s = v) (hx : a.eval x = .slice (some ⟨W.heap.size, 0, none⟩) 1 1) (hp : d.M W base okp p cs) (hokp : ∀ k, okp k → ok k ∧ some k ≠ v.ownBlock) (hfresh : ∀ k, W.heap.size ≤ k → ok k)
    (HO : d.R e W base ok v xs) (HB : Below base w0 W) (hbase : base ≤ W.heap.size) (hl : (xs.length + 1) * bytes ≤ 140737488355328)
    (h : ∀ v1 w1, d.R e w1 base ok v1 (xs ++ [p]) → Below base w0 w1 → W.grownBy w1 v.ownBlock → (v1.ownBlock = v.ownBlock ∨ ∃ b, v1.ownBlock = some b ∧ W.heap.size ≤ b) → wpList P ops Q rest (a.put o.dst v1) w1) :
    wpList P ops Q (o :: rest) a (W.alloc (.cells cs.toArray e)) := by
  obtain ⟨h0, inner, hown, hr⟩ := HO; refine print_append_cells base hgd s x t e z d.sz bytes ho ht hinfo hz hs0 hb0 v xs.length inner cs hs hx (d.K_len (d.K_of_M hp)) (d.K_one (d.K_of_M hp)) hown HB hbase hl ?_; intro v1 w1 hown1 hb1 hg1 hat1; exact h v1 w1 (R_appended h0 hr hp hokp hfresh hown1 hg1 hat1) hb1 hg1 hat1
end
theorem reps_scalar {α : Type} {enc : α → Value} (xs : List α) : Reps (fun (x : α) (cs : List Value) => cs = [enc x]) 1 xs (encs enc xs) := by
  refine ⟨by simp [encs], fun j p hj => ?_⟩; obtain ⟨hl, hp⟩ := List.getElem?_eq_some_iff.1 hj
  have hl' : j < (encs enc xs).length := by rw [encs_length]; exact hl
  rw [Nat.mul_one, List.drop_eq_getElem_cons hl']
  simp [encs, hp]
theorem R_of_own {α : Type} {enc : α → Value} {h1 : ∀ x, (enc x).oneCell' = true} {e : Nat} {w : World} {base : Nat} {ok : Nat → Prop} {v : Value} {xs : List α} (ho : w.ownsRow base e 1 v xs.length (encs enc xs)) (hok : ∀ k, v.ownBlock = some k → ok k) : (scalar enc h1).R e w base ok v xs := ⟨hok, encs enc xs, ho, reps_scalar xs⟩
theorem own_of_R {α : Type} {enc : α → Value} {h1 : ∀ x, (enc x).oneCell' = true} {e : Nat} {w : World} {base : Nat} {ok : Nat → Prop} {v : Value} {xs : List α} (h : (scalar enc h1).R e w base ok v xs) : w.ownsRow base e 1 v xs.length (encs enc xs) := by
  obtain ⟨_, inner, ho, hr⟩ := h
  have : inner = encs enc xs := by
    apply List.ext_getElem?
    intro j
    rcases Nat.lt_or_ge j xs.length with hj | hj
    · have h2 := hr.2 j _ (List.getElem?_eq_getElem hj)
      have hl : j < inner.length := by have := hr.1; simp [scalar] at this; omega
      have h3 : (inner.drop (j * 1)).take 1 = [enc xs[j]] := h2; rw [Nat.mul_one, List.drop_eq_getElem_cons hl] at h3
      have h4 : inner[j] = enc xs[j] := by
        have h5 := congrArg List.head? h3; rw [List.take_succ_cons] at h5; exact Option.some.inj h5
      rw [List.getElem?_eq_getElem hl, h4]
      simp [encs, List.getElem?_eq_getElem hj]
    · have h3 : inner.length = xs.length := by have := hr.1; simp [scalar] at this; omega
      rw [List.getElem?_eq_none (by omega), List.getElem?_eq_none (by rw [encs_length]; omega)]
  rw [← this]; exact ho
theorem reads_of_C {α : Type} {enc : α → Value} {d : α} {h1 : ∀ x, (enc x).oneCell' = true} {w : World} {A : Option Addr} {n : Nat} {xs : List α} (h : (scalar enc h1).C w A n xs) : ReadsOf enc d w A n xs := by
  refine ⟨h.1, h.2.1, fun hn => ?_⟩; obtain ⟨ad, e, hc⟩ := h.2.2 hn; refine ⟨ad, e, fun j hj => ?_⟩
  have hl : j < xs.length := by have := h.1; omega
  obtain ⟨c, _, hK, hcell⟩ := hc j _ (List.getElem?_eq_getElem hl); have hK' : c = [enc xs[j]] := hK; subst hK'; have := hcell 0 _ rfl
  simpa [scalar, List.getD_eq_getElem?_getD, List.getElem?_eq_getElem hl] using this
end Kd
namespace Kd
end Kd
namespace Kd
end Kd
namespace Kd
section
variable {α β : Type} {d : Kd α} {d' : Kd β} {e e' : Nat} {w w1 W : World} {base b b' : Nat} {ok ok' okv oku : Nat → Prop} {v u : Value} {xs : List α} {ys : List β}
theorem Ze (h : d.R e w base ok v xs) (o : Obj) : d.R e (w.alloc o) base ok v xs := R_below h (Z3 (Below.refl _ _) o)
theorem Zl (h : d.R e w base ok v xs) : d.R e w.drew base ok v xs := R_below h (below_drew (Below.refl _ _))
theorem Zd (h : d.R e w base ok v xs) (m : Nat) : d.R e (w.drewN m) base ok v xs := R_below h (Z0 (Below.refl _ _) m)
theorem C_alloc {A : Option Addr} {n : Nat} (h : d.C w A n xs) (o : Obj) : d.C (w.alloc o) A n xs := C_below h (Z3 (Below.refl _ _) o)
theorem C_drew {A : Option Addr} {n : Nat} (h : d.C w A n xs) : d.C w.drew A n xs := C_below h (below_drew (Below.refl _ _))
theorem C_drewN {A : Option Addr} {n : Nat} (h : d.C w A n xs) (m : Nat) : d.C (w.drewN m) A n xs := C_below h (Z0 (Below.refl _ _) m)
theorem C_nil (d : Kd α) (w : World) : d.C w none ([] : List α).length [] := ⟨rfl, by simp, fun h => absurd h (Nat.lt_irrefl 0)⟩
theorem R_reads' {A : Option Addr} {n c : Nat} (h : d.R e w base ok (.slice A n c) xs) : n = xs.length ∧ n ≤ c ∧ d.C w A xs.length xs := by
  obtain ⟨A', c', he, hl, hr⟩ := R_reads h
  injection he with h1 h2 h3
  subst h1; exact ⟨h2, by omega, hr⟩
theorem R_base (h : d.R e w base ok v xs) : ∀ k, v.ownBlock = some k → base ≤ k := by
  obtain ⟨inner, ho⟩ := R_own h; exact own_base ho
theorem R_away (h : d.R e w base ok v xs) {g : Nat} (hok : ∀ k, ok k → k ≠ g) : some g ≠ v.ownBlock := fun e => hok g (h.1 g e.symm) rfl
theorem R_form (h : d.R e w base ok v xs) (hp : 0 < xs.length) : ∃ g cap, v = .slice (some ⟨g, 0, none⟩) xs.length cap ∧ base ≤ g ∧ g < w.heap.size ∧ ∃ cells, w.heap[g]? = some (.cells cells e (0, 0)) := by
  obtain ⟨inner, ho⟩ := R_own h; obtain ⟨g, cap, he, hb, hl⟩ := ho.form hp; obtain ⟨cells, hc⟩ := own_typed ho g (by rw [he]; simp [Value.ownBlock]); exact ⟨g, cap, he, hb, hl, cells, hc⟩
theorem R_over (h : d.R e W b ok u xs) (hv : d'.R e' W b' ok' v ys) (ht : ∀ q, q ∈ e :: d.E → q ≠ e') (hg : W.grownBy w1 v.ownBlock) : d.R e w1 b ok u xs := by
  obtain ⟨inner, ho⟩ := R_own hv; refine R_mono (R_move (R_bound h) (fun k hk => hg.block k hk.2.2.1 (fun he => ?_))) (fun _ hk => hk.1); obtain ⟨_, _, _, q, hq, cells, hc⟩ := hk; obtain ⟨cells', hc'⟩ := own_typed ho k he.symm; rw [hc] at hc'
  injection hc' with hc'
  injection hc' with _ hc'
  exact ht q hq hc'
end
section
variable {w W : World} {A : Option Addr} {n : Nat}
theorem at_int {k : IntKind} {xs : List Int} (h : (Kd.int k).C w A n xs) (i : Int) (h0 : 0 ≤ i) (h1 : i < n) : ∃ ad, A = some ad ∧ w.cell? (ad.add i.toNat) = some (.int k (rd xs i)) :=
  ReadsOf.at_ (reads_of_C (enc := Value.int k) (d := (0 : Int)) (h1 := fun _ => rfl) h) i h0 h1
theorem at_string {xs : List ByteArray} (h : Kd.string.C w A n xs) (i : Int) (h0 : 0 ≤ i) (h1 : i < n) : ∃ ad, A = some ad ∧ w.cell? (ad.add i.toNat) = some (.string (rdOf ByteArray.empty xs i)) :=
  ReadsOf.at_ (reads_of_C (enc := Value.string) (d := ByteArray.empty) (h1 := fun _ => rfl) h) i h0 h1
variable {α : Type} {enc : α → Value} {h1 : ∀ x, (enc x).oneCell' = true} {e base g cap : Nat} {ok : Nat → Prop} {xs : List α}
theorem R_cell (d : α) (h : (scalar enc h1).R e W base ok (.slice (some ⟨g, 0, none⟩) xs.length cap) xs) (i : Int) (h0 : 0 ≤ i) (hi : i < xs.length) : W.cell? ⟨g, i.toNat, none⟩ = some (enc (rdOf d xs i)) ∧ W.frozen? ⟨g, i.toNat, none⟩ = false := own_at_of (own_of_R h) i h0 hi
theorem R_put (h : (scalar enc h1).R e W base ok (.slice (some ⟨g, 0, none⟩) xs.length cap) xs) (i : Int) (x : α) : (scalar enc h1).R e (W.setCell ⟨g, i.toNat, none⟩ (enc x)) base ok (.slice (some ⟨g, 0, none⟩) xs.length cap) (xs.set i.toNat x) ∧ W.grownBy (W.setCell ⟨g, i.toNat, none⟩ (enc x)) (some g) := by
  obtain ⟨ho, hg⟩ := own_store_of (own_of_R h) i x; exact ⟨R_of_own (by rw [List.length_set]; exact ho) h.1, hg⟩
end
section
variable {P : Program} {ops : Array Oper} {rest : List Oper} {o : Oper} {a : Act} {Q : Exit → Act → World → Prop}
theorem event_run {W w1 : World} {v : Value} (hgd : o.guard = none) (hrun : (execOp a.eval o).run P W = .ok (.value v) w1) (h : wpList P ops Q rest (a.put o.dst v) w1) : wpList P ops Q (o :: rest) a W := by
  refine wpList_plain hgd fun K hK => ?_
  unfold Oper.wp; rw [hrun]; exact hK _ _ h
variable {α : Type}
theorem R_lit (d : Kd α) {w0 W : World} (base e : Nat) (hgd : o.guard = none) {N : Tmp} (_hd : o.dst = some N) {xs : List α} {inner : List Value} {ok okp : Nat → Prop}
    (hrun : (execOp a.eval o).run P W = .ok (.value (.slice (some ⟨W.heap.size, 0, none⟩) xs.length xs.length)) (W.alloc (.cells inner.toArray e)))
    (hrep : Reps (d.M W base okp) d.sz xs inner) (hok : ∀ k, okp k → ok k) (hfresh : ok W.heap.size) (HB : Below base w0 W) (hbase : base ≤ W.heap.size) (hm : xs.length ≤ 9223372036854775807)
    (h : ∀ v1 w1, d.R e w1 base ok v1 xs → Below base w0 w1 → W.grownBy w1 none → (∃ b, v1.ownBlock = some b ∧ W.heap.size ≤ b) → wpList P ops Q rest (a.put o.dst v1) w1) : wpList P ops Q (o :: rest) a W := by
  refine event_run hgd hrun (h _ _ ⟨fun k hk => ?_, inner, ?_, ?_⟩ (HB.alloc hbase _) (World.grownBy_alloc W _ none) ⟨W.heap.size, by simp [Value.ownBlock], Nat.le_refl _⟩)
  · have : W.heap.size = k := by simpa [Value.ownBlock] using hk
    subst this; exact hfresh
  · have h2 := World.ownsRow_lit (base := base) (e := e) (size := d.sz) W inner.toArray xs.length hbase (by simpa [maxLen] using hm) (by simpa using hrep.1)
    simpa using h2
  · refine hrep.imp_ (fun p c hp => d.M_mono (fun k hk => ⟨hok k hk.1, fun he => ?_⟩) (M_below (d.M_bound hp) (Z3 (Below.refl _ _) _)))
    have h3 : k = W.heap.size := by simpa [Value.ownBlock] using he
    have := hk.2.2.1; omega
theorem reps_made {α : Type} {R : α → List Value → Prop} {z : Value} {size : Nat} {z0 : α} (hz : z.cells.size = size) (hs : 0 < size) (h0 : R z0 z.cells.toList) (m : Nat) : Reps R size (List.replicate m z0) (madeCells z.cells (m * size)).toList := by
  refine ⟨by simp [size_madeCells], fun j p hj => ?_⟩; obtain ⟨hjl, hp⟩ := List.getElem?_eq_some_iff.1 hj
  have hjm : j < m := by simpa using hjl
  have hp' : z0 = p := by simpa using hp
  subst hp'
  have hle : j * size + size ≤ m * size := by rw [← Nat.succ_mul]; exact Nat.mul_le_mul_right _ hjm
  have : ((madeCells z.cells (m * size)).toList.drop (j * size)).take size = z.cells.toList := by
    apply List.ext_getElem
    · simp [size_madeCells, hz]
      omega
    · intro i h1 h2
      have hi : i < size := by rw [Array.length_toList, hz] at h2; exact h2
      have hmod : (j * size + i) % size = i := by
        rw [Nat.mul_comm, Nat.mul_add_mod]; exact Nat.mod_eq_of_lt hi
      simp [madeCells, hz, hmod]
      rw [getElem!_pos z.cells i (by omega)]
  rw [this]; exact h0
theorem R_make (d : Kd α) {w0 W : World} (base e : Nat) (hgd : o.guard = none) {N : Tmp} (hd : o.dst = some N) (t : TypeId) (x y : Operand) (ho : o.op = .makeSlice t x y) (n : Int) (hx : a.eval x = .int .i64 n) (hy : a.eval y = .int .i64 n)
    (ht : P.underlying t = some (.slice e)) (z : Value) (bytes : Nat) (hinfo : (P.info? e).map (fun i => (i.zero, i.size, i.bytes)) = some (some z, d.sz, bytes)) (hz : z.cells.size = d.sz) (hs0 : 0 < d.sz) (hb0 : 0 < bytes)
    (z0 : α) {ok okp : Nat → Prop} (hzero : d.M W base okp z0 z.cells.toList) (hok : ∀ k, okp k → ok k) (hfresh : ok W.heap.size) (h0 : 0 ≤ n) (hl : n.toNat * bytes ≤ 281474976710656) (HB : Below base w0 W) (hbase : base ≤ W.heap.size)
    (h : ∀ v1 w1, d.R e w1 base ok v1 (List.replicate n.toNat z0) → Below base w0 w1 → W.grownBy w1 none → (∃ b, v1.ownBlock = some b ∧ W.heap.size ≤ b) → wpList P ops Q rest (a.put o.dst v1) w1) : wpList P ops Q (o :: rest) a W := by
  obtain ⟨m, rfl⟩ := Int.eq_ofNat_of_zero_le h0; simp only [Int.toNat_natCast] at hl h; obtain ⟨i0, hi, hzz⟩ := Option.map_eq_some_iff.1 hinfo; simp only [Prod.mk.injEq] at hzz; obtain ⟨hz0, hz1, hz2⟩ := hzz; have hm : m ≤ 281474976710656 := Nat.le_trans (Nat.le_mul_of_pos_right _ hb0) hl
  have hr := run_make (P := P) W t e i0 z ht hi hz0 .i64 .i64 (m : Int) (m : Int) (by omega) (by omega)
    (by
      have h3 : ((i0.bytes * m : Nat) : Int) ≤ 281474976710656 := by rw [hz2, Nat.mul_comm]; omega
      rwa [Int.natCast_mul] at h3) (by omega)
  simp only [Int.toNat_natCast] at hr; rw [hz1] at hr; refine R_lit d base e hgd hd (xs := List.replicate m z0) (inner := (madeCells z.cells (m * d.sz)).toList) (okp := okp) (ok := ok) ?_ (reps_made hz hs0 hzero m) hok hfresh HB hbase (by simp; omega) h
  simp [execOp, ho, hx, hy, hr]
end
end Kd
theorem own_take {w : World} {base n m c size : Nat} {e : TypeId} {A : Option Addr} {xs : List Value} (h : w.ownsRow base e size (.slice A n c) n xs) (hm : m ≤ n) : w.ownsRow base e size (.slice A m c) m (xs.take (m * size)) := by
  obtain ⟨h1, h2⟩ := h; refine ⟨by rw [List.length_take, h1]; exact Nat.min_eq_left (Nat.mul_le_mul_right _ hm), ?_⟩
  rcases h2 with ⟨he, h0⟩ | ⟨g, cap, cur, he, hb, hh, hnc, hcm, hcs, ht⟩
  · injection he with ha _ hc
    subst ha; subst hc; exact .inl ⟨by rw [show m = 0 by omega], by omega⟩
  · injection he with ha _ hc
    subst ha; subst hc; refine .inr ⟨g, c, cur, rfl, hb, hh, by omega, hcm, hcs, ?_⟩; rw [← ht, List.take_take, Nat.min_eq_left (Nat.mul_le_mul_right _ hm)]
section
variable {P : Program}
theorem cut_to (t e : TypeId) (kh : IntKind) {i : TypeInfo} (ht : P.underlying t = some (.slice e)) (hi : P.info? e = some i) (A : Option Addr) (n c : Nat) (j : Int) (h0 : 0 ≤ j) (hm : j ≤ n) (hc : n ≤ c) :
    ∀ W : World, (Instr.slice t (.slice A n c) none (some (.int kh j)) none).run P W = .ok (.slice A j.toNat c) W := by
  intro W
  have hel : P.elem t = e := by simp [Program.elem, ht]
  have hu : P.underlying t = some (.slice (P.elem t)) := by rw [hel]; exact ht
  have ha : (A.map fun x => x.add 0) = A := by cases A <;> simp [Addr.add]
  rw [run_slice_h W t A n c hu kh j h0 (by omega), hel]
  simp [sizeOf, typeInfo, hi, sliced, Result.andThen, ha]
theorem cut_from (t e : TypeId) (kl : IntKind) {i : TypeInfo} (ht : P.underlying t = some (.slice e)) (hi : P.info? e = some i) (size : Nat) (hsz : i.size = size) (A : Option Addr) (n c : Nat) (j : Int) (h0 : 0 ≤ j) (hm : j ≤ n) :
    ∀ W : World, (Instr.slice t (.slice A n c) (some (.int kl j)) none none).run P W = .ok (.slice (if c = j.toNat then A else A.map (·.add (j.toNat * size))) (n - j.toNat) (c - j.toNat)) W := by
  intro W
  have hel : P.elem t = e := by simp [Program.elem, ht]
  have hu : P.underlying t = some (.slice (P.elem t)) := by rw [hel]; exact ht
  rw [run_slice_l W t A n c hu kl j h0 hm, hel]
  simp [sizeOf, typeInfo, hi, hsz, sliced, Result.andThen]
end
def QRow (w : World) (base : Nat) (e : TypeId) (size : Nat) (v : Value) (n : Nat) (xs : List Value) : Prop :=
  xs.length = n * size ∧
  ((n = 0 ∧ ∃ A, v = .slice A 0 0 ∧ ∀ a, A = some a → base ≤ a.block ∧ ∃ cur, w.heap[a.block]? = some (.cells cur e (0, 0))) ∨
   ∃ g off cap cur, v = .slice (some ⟨g, off * size, none⟩) n cap ∧ base ≤ g ∧ w.heap[g]? = some (.cells cur e (0, 0)) ∧ n ≤ cap ∧ off + cap ≤ maxLen ∧ cur.size = (off + cap) * size ∧ (cur.toList.drop (off * size)).take (n * size) = xs)
section
variable {w w1 : World} {base n size : Nat} {e : TypeId} {v : Value} {xs : List Value}
theorem q_of_own (h : w.ownsRow base e size v n xs) : QRow w base e size v n xs := by
  obtain ⟨h1, h2⟩ := h; refine ⟨h1, ?_⟩
  rcases h2 with ⟨rfl, h0⟩ | ⟨g, cap, cur, rfl, hb, hh, hnc, hcm, hcs, ht⟩
  · exact .inl ⟨h0, none, rfl, fun a ha => by cases ha⟩
  · exact .inr ⟨g, 0, cap, cur, by rw [Nat.zero_mul], hb, hh, hnc, by rw [Nat.zero_add]; exact hcm, by rw [Nat.zero_add]; exact hcs, by rw [Nat.zero_mul, List.drop_zero]; exact ht⟩
theorem add_at (g o j : Nat) : (⟨g, o, none⟩ : Addr).add j = ⟨g, o + j, none⟩ := by unfold Addr.add; split <;> simp_all
theorem setCells_far {g : Nat} : ∀ (vs : List Value) (o : Nat) {w : World} (k : Nat), k ≠ g → (w.setCells g o vs).heap[k]? = w.heap[k]?
  | [], _, _, _, _ => rfl
  | v :: r, o, w, k, hk => by
    rw [World.setCells, setCells_far r (o + 1) k hk]; exact Below.heap_setCell w ⟨g, o, none⟩ v k hk
theorem setCells_same (g : Nat) : ∀ (vs : List Value) (o : Nat) (w : World), (w.setCells g o vs).os = w.os ∧ (w.setCells g o vs).tape = w.tape ∧ (w.setCells g o vs).output = w.output ∧ (w.setCells g o vs).heap.size = w.heap.size
  | [], _, _ => ⟨rfl, rfl, rfl, rfl⟩
  | v :: r, o, w => by
    obtain ⟨h1, h2, h3, h4⟩ := setCells_same g r (o + 1) (w.setCell ⟨g, o, none⟩ v); rw [World.setCells]; exact ⟨h1, h2, h3, by rw [h4]; simp [World.setCell]⟩
theorem setCells_row {g : Nat} {e : TypeId} : ∀ (vs : List Value) (o : Nat) (w : World) (cur : Array Value), w.heap[g]? = some (.cells cur e (0, 0)) → o + vs.length ≤ cur.size →
    ∃ cur', (w.setCells g o vs).heap[g]? = some (.cells cur' e (0, 0)) ∧ cur'.size = cur.size ∧ cur'.toList = cur.toList.take o ++ vs ++ cur.toList.drop (o + vs.length)
  | [], o, w, cur, h, _ => ⟨cur, h, rfl, by simp⟩
  | v :: r, o, w, cur, h, hl => by
    have h2 := blk_set h o v; simp only [List.length_cons] at hl; obtain ⟨cur', h3, h4, h5⟩ := setCells_row r (o + 1) (w.setCell ⟨g, o, none⟩ v) _ h2 (by simp; omega); refine ⟨cur', h3, by rw [h4]; simp, ?_⟩; rw [h5, Array.toList_setIfInBounds]
    have ho : o < cur.toList.length := by rw [Array.length_toList]; omega
    rw [List.take_set, List.drop_set_of_lt (by omega)]; simp only [List.length_cons]; rw [show o + 1 + r.length = o + (r.length + 1) by omega]
    congr 1
    rw [List.take_succ_eq_append_getElem ho, List.set_append_right _ _ (by rw [List.length_take]; omega)]; have ho' : o < cur.size := (by omega)
    simp [Nat.min_eq_left (Nat.le_of_lt ho')]
end
namespace Kd
theorem reps_take {α : Type} {R : α → List Value → Prop} {size m : Nat} {ps : List α} {cs : List Value} (h : Reps R size ps cs) (hm : m ≤ ps.length) : Reps R size (ps.take m) (cs.take (m * size)) := by
  refine ⟨by rw [List.length_take, List.length_take, h.1, Nat.min_eq_left hm, Nat.min_eq_left (Nat.mul_le_mul_right _ hm)], fun j p hj => ?_⟩; rw [List.getElem?_take] at hj
  split at hj
  · rename_i hjm
    have := h.2 j p hj
    have hle : j * size + size ≤ m * size := by rw [← Nat.succ_mul]; exact Nat.mul_le_mul_right _ hjm
    rw [List.drop_take, List.take_take, Nat.min_eq_left (by omega)]; exact this
  · cases hj
theorem reps_drop {α : Type} {R : α → List Value → Prop} {size m : Nat} {ps : List α} {cs : List Value} (h : Reps R size ps cs) : Reps R size (ps.drop m) (cs.drop (m * size)) := by
  refine ⟨by rw [List.length_drop, List.length_drop, h.1, Nat.sub_mul], fun j p hj => ?_⟩; rw [List.getElem?_drop] at hj; have := h.2 (m + j) p hj; rw [List.drop_drop, ← Nat.add_mul]; exact this
theorem R_take {α : Type} {d : Kd α} {e m n c : Nat} {w : World} {base : Nat} {ok : Nat → Prop} {A : Option Addr} {xs : List α} (h : d.R e w base ok (.slice A n c) xs) (hm : m ≤ xs.length) : d.R e w base ok (.slice A m c) (xs.take m) := by
  obtain ⟨h0, inner, ho, hr⟩ := h
  have hn : n = xs.length := by
    obtain ⟨A', c', he⟩ := own_slice ho; injection he
  subst hn
  have hb : ∀ x y : Nat, (Value.slice A x c).ownBlock = (Value.slice A y c).ownBlock := by
    intro x y
    cases A <;> rfl
  refine ⟨fun k hk => h0 k (by rw [hb _ m]; exact hk), inner.take (m * d.sz), ?_, ?_⟩
  · rw [List.length_take, Nat.min_eq_left hm]; exact own_take ho hm
  · rw [hb m xs.length]; exact reps_take hr hm
def Q {α : Type} (d : Kd α) (e : Nat) (w : World) (base : Nat) (ok : Nat → Prop) (v : Value) (xs : List α) : Prop :=
  (∀ k, v.ownBlock = some k → ok k) ∧ ∃ inner, QRow w base e d.sz v xs.length inner ∧ Reps (d.M w base (fun k => ok k ∧ some k ≠ v.ownBlock)) d.sz xs inner
section
variable {α : Type} {d : Kd α} {e : Nat} {w w1 W : World} {base : Nat} {ok ok' : Nat → Prop} {v : Value} {xs : List α}
theorem Q_of_R (h : d.R e w base ok v xs) : d.Q e w base ok v xs := by
  obtain ⟨h0, inner, ho, hr⟩ := h; exact ⟨h0, inner, q_of_own ho, hr⟩
theorem Q_nil (d : Kd α) (e : Nat) (w : World) (base : Nat) (ok : Nat → Prop) : d.Q e w base ok (.slice none 0 0) [] := Q_of_R (R_nil d e w base ok)
end
end Kd
namespace Kd
section
variable {α : Type} {d : Kd α} {e e' : Nat} {w w1 W : World} {base : Nat} {ok : Nat → Prop} {u v : Value} {xs : List α}
theorem R_typed (h : d.R e w base ok v xs) : ∀ k, v.ownBlock = some k → ∃ cells, w.heap[k]? = some (.cells cells e (0, 0)) := by
  obtain ⟨inner, ho⟩ := R_own h
  exact fun k hk => own_typed ho k hk
theorem R_over' (h : d.R e W base ok u xs) (hty : ∀ k, v.ownBlock = some k → ∃ cells, W.heap[k]? = some (.cells cells e' (0, 0))) (ht : ∀ q, q ∈ e :: d.E → q ≠ e') (hg : W.grownBy w1 v.ownBlock) : d.R e w1 base ok u xs := by
  refine R_mono (R_move (R_bound h) (fun k hk => hg.block k hk.2.2.1 (fun he => ?_))) (fun _ hk => hk.1); obtain ⟨_, _, _, q, hq, cells, hc⟩ := hk; obtain ⟨cells', hc'⟩ := hty k he.symm; rw [hc] at hc'
  injection hc' with hc'
  injection hc' with _ hc'
  exact ht q hq hc'
end
end Kd
theorem seg_get {α : Type} (a seg : List α) (o : Nat) (h : o + seg.length ≤ a.length) (q : Nat) :
    (a.take o ++ seg ++ a.drop (o + seg.length))[q]? = if q < o then a[q]? else if q < o + seg.length then seg[q - o]? else a[q]? := by
  have hl : (a.take o).length = o := by rw [List.length_take]; omega
  rw [List.append_assoc]
  by_cases h1 : q < o
  · rw [if_pos h1, List.getElem?_append_left (by omega), List.getElem?_take, if_pos h1]
  · rw [if_neg h1, List.getElem?_append_right (by omega), hl]
    by_cases h2 : q < o + seg.length
    · rw [if_pos h2, List.getElem?_append_left (by omega)]
    · rw [if_neg h2, List.getElem?_append_right (by omega), List.getElem?_drop]
      congr 1
      omega
namespace Kd
section
variable {α : Type} {d : Kd α} {e base g n cap : Nat} {ok okp : Nat → Prop} {W : World} {xs : List α}
theorem R_elem (h : d.R e W base ok (.slice (some ⟨g, 0, none⟩) n cap) xs) (z : α) (i : Int) (h0 : 0 ≤ i) (h1 : i < n) :
    ∃ c, c.length = d.sz ∧ d.M W base (fun k => ok k ∧ k ≠ g) (xs.getD i.toNat z) c ∧ (∀ j u, c[j]? = some u → W.cell? ⟨g, i.toNat * d.sz + j, none⟩ = some u) ∧ ∀ j, W.frozen? ⟨g, i.toNat * d.sz + j, none⟩ = false := by
  obtain ⟨hn, hnc, hC⟩ := R_reads' h; obtain ⟨_, inner, ho, hr⟩ := h; have hil : i.toNat < xs.length := (by omega)
  have hseg : i.toNat * d.sz + d.sz ≤ inner.length := by rw [hr.1, ← Nat.succ_mul]; exact Nat.mul_le_mul_right _ hil
  have hM := hr.2 i.toNat _ (List.getElem?_eq_getElem hil); refine ⟨(inner.drop (i.toNat * d.sz)).take d.sz, by rw [List.length_take, List.length_drop]; omega, ?_, fun j u hu => ?_, fun j => ?_⟩
  · rw [List.getD_eq_getElem?_getD, List.getElem?_eq_getElem hil]; exact d.M_mono (fun k hk => ⟨hk.1, fun he => hk.2 (by rw [he]; simp [Value.ownBlock])⟩) hM
  · rw [List.getElem?_take] at hu
    split at hu
    · rw [List.getElem?_drop] at hu; have := ho.cells (g := g) (by simp [Value.ownBlock]) _ u hu
      rwa [ZF] at this
    · cases hu
  · obtain ⟨cells, hc⟩ := own_typed ho g (by simp [Value.ownBlock]); exact Z7 hc _
theorem R_seg (h : d.R e W base ok (.slice (some ⟨g, 0, none⟩) n cap) xs) (i : Int) (h0 : 0 ≤ i) (h1 : i < n) {c seg : List Value} {j : Nat} (hcl : c.length = d.sz) (hcc : ∀ j u, c[j]? = some u → W.cell? ⟨g, i.toNat * d.sz + j, none⟩ = some u)
    (hj : j + seg.length ≤ d.sz) {x' : α} (hM : d.M W base okp x' (c.take j ++ seg ++ c.drop (j + seg.length))) (hokp : ∀ k, okp k → ok k ∧ k ≠ g) :
    d.R e (W.setCells g (i.toNat * d.sz + j) seg) base ok (.slice (some ⟨g, 0, none⟩) n cap) (xs.set i.toNat x') ∧ W.grownBy (W.setCells g (i.toNat * d.sz + j) seg) (some g) := by
  obtain ⟨hn, hnc, _⟩ := R_reads' h; obtain ⟨hok, inner, ho, hr⟩ := h; have hil : i.toNat < xs.length := (by omega)
  have hseg : i.toNat * d.sz + d.sz ≤ inner.length := by rw [hr.1, ← Nat.succ_mul]; exact Nat.mul_le_mul_right _ hil
  have hin : inner.length = n * d.sz := by rw [hr.1, hn]
  obtain ⟨ho1, ho2⟩ := ho
  rcases ho2 with ⟨hv, _⟩ | ⟨g', cap', cur, hv, hb, hh, hnc', hcm, hcs, ht⟩
  · cases hv
  injection hv with ha _ hc
  injection ha with ha
  injection ha with hg
  subst hg; subst hc
  have hfit : i.toNat * d.sz + j + seg.length ≤ cur.size := by
    have : n * d.sz ≤ cap * d.sz := Nat.mul_le_mul_right _ hnc; omega
  obtain ⟨cur', h3, h4, h5⟩ := setCells_row seg (i.toNat * d.sz + j) W cur hh hfit; obtain ⟨s1, s2, s3, s4⟩ := setCells_same g seg (i.toNat * d.sz + j) W
  have hfar : ∀ k, k ≠ g → (W.setCells g (i.toNat * d.sz + j) seg).heap[k]? = W.heap[k]? := fun k hk => setCells_far seg _ k hk
  have hcin : ∀ q, q < d.sz → c[q]? = inner[i.toNat * d.sz + q]? := by
    intro q hq; have hq' : q < c.length := (by omega); have h6 := hcc q _ (List.getElem?_eq_getElem hq'); rw [cell_of_row W g _ cur e (0, 0) hh] at h6; rw [List.getElem?_eq_getElem hq', ← h6, ← ht, List.getElem?_take, if_pos (by rw [← hn]; omega), Array.getElem?_toList]
  refine ⟨⟨hok, inner.take (i.toNat * d.sz + j) ++ seg ++ inner.drop (i.toNat * d.sz + j + seg.length), ⟨?_, .inr ⟨g, cap, cur', by rw [List.length_set, hn], hb, h3, by rw [List.length_set, ← hn]; exact hnc, hcm, by rw [h4, hcs], ?_⟩⟩, ?_⟩,
    ⟨s1, s2, s3, by rw [s4]; exact Nat.le_refl _, fun k _ hk => hfar k (fun he => hk (by rw [he]))⟩⟩
  · rw [List.length_set]; simp only [List.length_append, List.length_take, List.length_drop]; rw [hr.1] at hseg ⊢; omega
  · rw [List.length_set, ← hn]
    apply List.ext_getElem?
    intro q; rw [List.getElem?_take, h5]; rw [seg_get cur.toList seg (i.toNat * d.sz + j) (by rw [Array.length_toList]; omega) q, seg_get inner seg (i.toNat * d.sz + j) (by omega) q]
    have hcur : ∀ q, q < n * d.sz → cur.toList[q]? = inner[q]? := by
      intro q hq; rw [← ht, List.getElem?_take, if_pos (by rw [← hn]; exact hq)]
    by_cases hq : q < n * d.sz
    · rw [if_pos hq, hcur q hq]
    · rw [if_neg hq, if_neg (by omega), if_neg (by omega), List.getElem?_eq_none (by omega)]
  · refine ⟨?_, fun m p hm => ?_⟩
    · rw [List.length_set]; simp only [List.length_append, List.length_take, List.length_drop]; rw [hr.1] at hseg ⊢; omega
    · have hml : m < xs.length := by
        have := (List.getElem?_eq_some_iff.1 hm).1
        rwa [List.length_set] at this
      have hmfit : m * d.sz + d.sz ≤ inner.length := by rw [hr.1, ← Nat.succ_mul]; exact Nat.mul_le_mul_right _ hml
      have hgo : some g = (Value.slice (some ⟨g, 0, none⟩) n cap).ownBlock := by simp [Value.ownBlock]
      by_cases hmi : m = i.toNat
      · subst hmi; rw [List.getElem?_set_self (by omega)] at hm
        injection hm with hm
        subst hm
        have hcells : ((inner.take (i.toNat * d.sz + j) ++ seg ++ inner.drop (i.toNat * d.sz + j + seg.length)).drop (i.toNat * d.sz)).take d.sz = c.take j ++ seg ++ c.drop (j + seg.length) := by
          apply List.ext_getElem?
          intro q; rw [List.getElem?_take, List.getElem?_drop, seg_get inner seg _ (by omega), seg_get c seg j (by omega) q]
          by_cases hq : q < d.sz
          · rw [if_pos hq, hcin q hq]
            by_cases hq1 : q < j
            · rw [if_pos (by omega), if_pos hq1]
            · rw [if_neg (by omega), if_neg hq1]
              by_cases hq2 : q < j + seg.length
              · rw [if_pos (by omega), if_pos hq2]
                congr 1
                omega
              · rw [if_neg (by omega), if_neg hq2]
          · rw [if_neg hq, if_neg (by omega), if_neg (by omega), List.getElem?_eq_none (by omega)]
        rw [hcells]; refine d.M_mono (fun k hk => ?_) (d.M_move (w1 := W.setCells g (i.toNat * d.sz + j) seg) (fun k hk => hfar k (hokp k hk).2) hM); exact ⟨(hokp k hk).1, fun he => (hokp k hk).2 (by rw [← hgo] at he; injection he)⟩
      · rw [List.getElem?_set_ne (by omega)] at hm; have hold := hr.2 m p hm
        have hcells : ((inner.take (i.toNat * d.sz + j) ++ seg ++ inner.drop (i.toNat * d.sz + j + seg.length)).drop (m * d.sz)).take d.sz = (inner.drop (m * d.sz)).take d.sz := by
          apply List.ext_getElem?
          intro q; rw [List.getElem?_take, List.getElem?_take, List.getElem?_drop, List.getElem?_drop, seg_get inner seg _ (by omega)]
          by_cases hq : q < d.sz
          · rw [if_pos hq, if_pos hq]
            rcases Nat.lt_or_gt_of_ne hmi with hlt | hgt
            · have : m * d.sz + d.sz ≤ i.toNat * d.sz := by rw [← Nat.succ_mul]; exact Nat.mul_le_mul_right _ hlt
              rw [if_pos (by omega)]
            · have : i.toNat * d.sz + d.sz ≤ m * d.sz := by rw [← Nat.succ_mul]; exact Nat.mul_le_mul_right _ hgt
              rw [if_neg (by omega), if_neg (by omega)]
          · rw [if_neg hq, if_neg hq]
        rw [hcells]; refine d.M_move (fun k hk => hfar k (fun he => hk.2 (by rw [he]; exact hgo))) hold
end
end Kd
namespace Kd
end Kd
namespace Kd
theorem reps_append {α : Type} {R : α → List Value → Prop} {size : Nat} {ps qs : List α} {cs ds : List Value} (h : Reps R size ps cs) (h' : Reps R size qs ds) : Reps R size (ps ++ qs) (cs ++ ds) := by
  refine ⟨by rw [List.length_append, List.length_append, h.1, h'.1, Nat.add_mul], fun j p hj => ?_⟩
  rcases Nat.lt_or_ge j ps.length with hlt | hge
  · rw [List.getElem?_append_left hlt] at hj
    have hle : j * size + size ≤ cs.length := by rw [h.1, ← Nat.succ_mul]; exact Nat.mul_le_mul_right _ hlt
    rw [List.drop_append_of_le_length (by omega), List.take_append_of_le_length (by rw [List.length_drop]; omega)]; exact h.2 j p hj
  · rw [List.getElem?_append_right hge] at hj; have h2 := h'.2 (j - ps.length) p hj; have hle : ps.length * size ≤ j * size := Nat.mul_le_mul_right _ hge; rw [List.drop_append, List.drop_eq_nil_of_le (by rw [h.1]; exact hle), List.nil_append, h.1, ← Nat.sub_mul]; exact h2
end Kd
namespace Kd
end Kd
theorem add_add (a : Addr) (i j : Nat) : (a.add i).add j = a.add (i + j) := by
  unfold Addr.add
  by_cases h1 : i = 0 <;> by_cases h2 : j = 0 <;> simp [h1, h2, Nat.add_assoc]
namespace Kd
section
variable {α : Type} {k : Kd α} {w : World} {A : Option Addr} {xs : List α} {m c : Nat}
theorem C_take (h : k.C w A xs.length xs) (hm : m ≤ xs.length) : k.C w A (xs.take m).length (xs.take m) := by
  have hl : (xs.take m).length = m := by rw [List.length_take]; omega
  refine ⟨rfl, by rw [hl]; have := h.2.1; omega, fun hp => ?_⟩; obtain ⟨ad, e, hc⟩ := h.2.2 (by omega); refine ⟨ad, e, fun j p hj => hc j p ?_⟩; rw [List.getElem?_take] at hj
  split at hj
  · exact hj
  · cases hj
theorem C_drop (h : k.C w A xs.length xs) (hm : m ≤ xs.length) (hc : xs.length ≤ c) : k.C w (if c = m then A else A.map (·.add (m * k.sz))) (xs.drop m).length (xs.drop m) := by
  have hl : (xs.drop m).length = xs.length - m := List.length_drop; refine ⟨rfl, by rw [hl]; have := h.2.1; omega, fun hp => ?_⟩; rw [hl] at hp; obtain ⟨ad, rfl, hcell⟩ := h.2.2 (by omega); rw [if_neg (by omega)]; refine ⟨ad.add (m * k.sz), rfl, fun j p hj => ?_⟩; rw [List.getElem?_drop] at hj; obtain ⟨cs, h1, h2, h3⟩ := hcell (m + j) p hj; refine ⟨cs, h1, h2, fun i u hu => ?_⟩; rw [add_add, show m * k.sz + (j * k.sz + i) = (m + j) * k.sz + i by rw [Nat.add_mul]; omega]; exact h3 i u hu
end
end Kd
theorem string_of_reads {P : Program} {w : World} {src dst e : TypeId} {A : Option Addr} {n c : Nat} {xs : List Int} (hs : P.underlying src = some (.slice e)) (he : P.underlying e = some (.int .u8)) (hd : P.underlying dst = some .string)
    (h : ReadsInt w .u8 A n xs) : (convert src dst (.slice A n c)).run P w = .ok (.string (strOfNums xs)) w := by
  have hn : xs.length = n := h.1
  rcases A with _ | ad
  · have h0 : n = 0 := by
      rcases Nat.eq_zero_or_pos n with h0 | h0
      · exact h0
      · obtain ⟨ad, h', _⟩ := h.2.2 h0; cases h'
    subst h0; obtain rfl : xs = [] := List.eq_nil_of_length_eq_zero hn; exact run_convert_bytes_nil w src e hs he 0 c dst hd
  · have hl : (loadCells ad n).run P w = .ok (xs.map (Value.int .u8)).toArray w := by
      have := run_loadCells_list (P := P) w ad (xs.map (Value.int .u8)) (fun j v hj => by
        have hjl : j < xs.length := by
          rcases Nat.lt_or_ge j xs.length with h' | h'
          · exact h'
          · rw [List.getElem?_eq_none (by rw [List.length_map]; exact h')] at hj; cases hj
        obtain ⟨ad', he', hc⟩ := h.2.2 (by omega)
        injection he' with he'
        subst he'; rw [hc j (by omega)]; rw [List.getElem?_map, List.getElem?_eq_getElem hjl] at hj
        simp at hj
        subst hj
        simp [List.getD_eq_getElem?_getD, List.getElem?_eq_getElem hjl])
      simpa [hn] using this
    rw [run_convert_bytes_string w src dst e _ n c hs he hd, run_bytesToString w ad n c xs hl, foldl_push_bytes]
    simp [strOfNums, ByteArray.empty, ByteArray.emptyWithCapacity]
    rfl
theorem Kd.C_string {P : Program} {w : World} {src dst e : TypeId} {A : Option Addr} {n c : Nat} {xs : List Int} (hs : P.underlying src = some (.slice e)) (he : P.underlying e = some (.int .u8)) (hd : P.underlying dst = some .string)
    (h : (Kd.int .u8).C w A n xs) : (convert src dst (.slice A n c)).run P w = .ok (.string (strOfNums xs)) w :=
  string_of_reads hs he hd (Kd.reads_of_C (enc := Value.int .u8) (d := (0 : Int)) (h1 := fun _ => rfl) h)
theorem Zq {w W : World} (h : Below w.heap.size w W) : w.heap.size ≤ W.heap.size := h.size
theorem Zt {w W w2 : World} (h : Below w.heap.size w W) (k : Below W.heap.size W w2) : Below w.heap.size w w2 := below_then h h.size k
theorem pw_own_drewN {W : World} {base n : Nat} {e : TypeId} {size : Nat} {v : Value} {xs : List Value} (h : W.ownsRow base e size v n xs) (m : Nat) : (W.drewN m).ownsRow base e size v n xs := h
theorem ReadsInt.nil (W : World) (k : IntKind) : ReadsInt W k none ([] : List Int).length [] := ⟨rfl, by simp, fun h => absurd h (Nat.lt_irrefl 0)⟩
theorem ReadsInt.drewN {W : World} {k : IntKind} {A : Option Addr} {n : Nat} {xs : List Int} (h : ReadsInt W k A n xs) (m : Nat) : ReadsInt (W.drewN m) k A n xs := h
theorem Z6 {w W : World} {g j : Nat} {v : Value} (h : Below w.heap.size w W) (hg : w.heap.size ≤ g) : Below w.heap.size w (W.setCell ⟨g, j, none⟩ v) := h.setCell hg _
theorem Zm {w W : World} {g : Nat} {row : Option Nat} (h : Zg w W g row) (m : Nat) : Zg w (W.drewN m) g row := h
theorem Zn {w W : World} {g : Nat} (h : Zg w W g none) (o : Obj) : Zg w (W.alloc o) g none := h.trans (Zg.of_grown (World.grownBy_alloc W o none) g) (.inl rfl)
theorem below_weaken {w0 w w1 : World} {B : Nat} (h : Below w0.heap.size w0 w) (hB : w0.heap.size ≤ B) (k : Below B w w1) : Below w0.heap.size w0 w1 :=
  h.trans ⟨k.os, k.tape, k.output, k.size, fun i hi => k.block i (Nat.lt_of_lt_of_le hi hB)⟩
theorem own_base' {w : World} {base : Nat} {e : TypeId} {size n : Nat} {v : Value} {xs : List Value} (h : w.ownsRow base e size v n xs) : v.ownBlock = none ∨ ∃ b, v.ownBlock = some b ∧ base ≤ b := by
  cases hv : v.ownBlock with
  | none => exact .inl rfl
  | some b => exact .inr ⟨b, rfl, own_base h b hv⟩
theorem ZS {w W : World} {g : Nat} {row : Option Nat} (h : Zg w W g row) : w.heap.size ≤ W.heap.size := h.1
theorem ReadsOf.nil {α : Type} (enc : α → Value) (d : α) (W : World) : ReadsOf enc d W none ([] : List α).length [] := ⟨rfl, by simp, fun h => absurd h (Nat.lt_irrefl 0)⟩
theorem ReadsOf.drewN {α : Type} {enc : α → Value} {d : α} {W : World} {A : Option Addr} {n : Nat} {xs : List α} (h : ReadsOf enc d W A n xs) (m : Nat) : ReadsOf enc d (W.drewN m) A n xs := h
theorem Zw {w : World} {g : Nat} {t : TypeId} {cs cs' : Array Value} (h : w.heap[g]? = some (.cells cs t (0, 0))) (i : Nat) (u : Value) (e : cs.setIfInBounds i u = cs') : (w.setCell ⟨g, i, none⟩ u).heap[g]? = some (.cells cs' t (0, 0)) := e ▸ blk_set h i u
theorem keep_far {w W : World} {g : Nat} {row : Option Nat} (h : Zg w W g row) {p : Addr} (hp : w.heap.size ≤ p.block) (u : Value) : Zg w (W.setCell p u) g row :=
  ⟨by simpa [World.setCell] using h.1, fun i hi hg hr => (Below.heap_setCell W p u i (by omega)).trans (h.2 i hi hg hr)⟩
theorem Z4 {base : Nat} {w W : World} (h : Below base w W) : Below base w W.drew := h.drew
theorem Zs {w W : World} {g : Nat} {row : Option Nat} (h : Zg w W g row) : Zg w W.drew g row := h
namespace Kd
section
variable {α β : Type} {d : Kd α} {d' : Kd β} {e e' base base' n : Nat} {ok ok' : Nat → Prop} {w W w1 W1 : World} {v u : Value} {xs : List α} {ys : List β} {A : Option Addr} {c : Nat}
theorem R_base2 (h : d.R e w base ok v xs) : v.ownBlock = none ∨ ∃ k, v.ownBlock = some k ∧ base ≤ k := by
  obtain ⟨inner, ho⟩ := R_own h; exact own_base' ho
end
end Kd
namespace Kd
section
variable {α : Type} {d : Kd α} {e base g : Nat} {ok : Nat → Prop} {w w1 : World} {v : Value} {xs : List α} {o : Obj}
theorem R_elderB (h : d.R e w base ok v xs) (a : Nat) (ha : w.heap.size ≤ a) : d.R e w base (fun k => ok k ∧ k ≠ a) v xs := R_mono (R_bound h) (fun k hk => ⟨hk.1, by have := hk.2.2.1; omega⟩)
theorem freshB (hb : w.heap[g]? = some o) : ∀ k, w.heap.size ≤ k → k ≠ g := fun k hk => by have := blk_lt hb; omega
end
end Kd
section
variable {P : Program} {ops : Array Oper} {rest : List Oper} {o : Oper} {a : Act} {Q : Exit → Act → World → Prop}
theorem ZG {W : World} (hgd : o.guard = none) {N : Tmp} (_hd : o.dst = some N) {cs : Array Value} {t : TypeId}
    (hrun : (execOp a.eval o).run P W = .ok (.value (.pointer (some ⟨W.heap.size, 0, none⟩))) (W.alloc (.cells cs t (0, 0))))
    (h : ∀ g, g = W.heap.size → ∀ w1, w1.heap[g]? = some (.cells cs t (0, 0)) → Below W.heap.size W w1 → wpList P ops Q rest (a.put o.dst (.pointer (some ⟨g, 0, none⟩))) w1) : wpList P ops Q (o :: rest) a W :=
  Kd.event_run hgd hrun (h _ rfl _ (blk_new W _) (Z3 (Below.refl _ _) _))
end
namespace Kd
section
variable {α : Type} {enc : α → Value} {h1 : ∀ x, (enc x).oneCell' = true} {e base g n cap : Nat} {ok : Nat → Prop} {W : World} {xs : List α}
theorem R_celln (d : α) (h : (scalar enc h1).R e W base ok (.slice (some ⟨g, 0, none⟩) n cap) xs) (i : Int) (h0 : 0 ≤ i) (hi : i < n) : W.cell? ⟨g, i.toNat, none⟩ = some (enc (rdOf d xs i)) ∧ W.frozen? ⟨g, i.toNat, none⟩ = false := by
  obtain ⟨rfl, _⟩ := R_reads' h; exact R_cell d h i h0 hi
end
end Kd
section
variable {P : Program} {ops : Array Oper} {rest : List Oper} {o : Oper} {a : Act} {Q : Exit → Act → World → Prop}
theorem ZK {W w1 : World} (hgd : o.guard = none) {t : TypeId} {p : Tmp} {v : Operand} (_ho : o.op = .store t (.tmp p) v) (hN : o.dst = none)
    (hrun : (execOp a.eval o).run P W = .ok .skip w1) (h : ∀ w', w' = w1 → wpList P ops Q rest a w') : wpList P ops Q (o :: rest) a W := by
  refine wpList_plain hgd fun K hK => ?_
  unfold Oper.wp; rw [hrun]; show K (a.put o.dst undef) w1; rw [hN]; exact hK _ _ (h _ rfl)
end
namespace Kd
section
variable {α : Type} {enc : α → Value} {h1 : ∀ x, (enc x).oneCell' = true} {e base g n cap : Nat} {ok : Nat → Prop} {W : World} {xs : List α}
theorem R_putg (h : (scalar enc h1).R e W base ok (.slice (some ⟨g, 0, none⟩) n cap) xs) (i : Int) (x : α) : (scalar enc h1).R e (W.setCell ⟨g, i.toNat, none⟩ (enc x)) base ok (.slice (some ⟨g, 0, none⟩) n cap) (xs.set i.toNat x) ∧ W.grownBy (W.setCell ⟨g, i.toNat, none⟩ (enc x)) (some g) := by
  obtain ⟨rfl, _⟩ := R_reads' h; exact R_put h i x
end
end Kd
section
variable {P : Program} {ops : Array Oper} {rest : List Oper} {o : Oper} {a : Act} {Q : Exit → Act → World → Prop} {W : World}
theorem ZE {N : Tmp} (_hN : o.dst = some N) (h : wpList P ops Q (o :: rest) a W) : wpList P ops Q (o :: rest) a W := h
theorem ZJ {t : TypeId} {p : Tmp} {v : Operand} (_ho : o.op = .store t (.tmp p) v) (h : wpList P ops Q (o :: rest) a W) : wpList P ops Q (o :: rest) a W := h
end
section
variable {P : Program} {ops : Array Oper} {o : Oper} {a : Act} {Q : Exit → Act → World → Prop} {Kc : Act → World → Prop}
namespace Kd
variable {α : Type}
end Kd
end
namespace Kd
section
variable {P : Program} {α : Type}
theorem R_delete_run (d : Kd α) {W : World} (base : Nat) (t ty e : TypeId) (i : TypeInfo) (ht : P.underlying t = some (.slice e)) (hi : P.info? e = some i) (hsz : i.size = d.sz)
    {g n c k : Nat} {xs : List α} {ok : Nat → Prop} (HO : d.R e W base ok (.slice (some ⟨g, 0, none⟩) n c) xs) (hk : k < n) {A : Option Addr} (hA : A = if c = k + 1 then some ⟨g, 0, none⟩ else (some (⟨g, 0, none⟩ : Addr)).map (·.add ((k + 1) * d.sz))) (c2 : Nat) :
    ∃ w1, (Builtin.append_ #[t, t] ty #[.slice (some ⟨g, 0, none⟩) k c, .slice A (n - (k + 1)) c2]).run P W = .ok (.slice (some ⟨g, 0, none⟩) (n - 1) c) w1 ∧ d.R e w1 base ok (.slice (some ⟨g, 0, none⟩) (n - 1) c) (xs.eraseIdx k) ∧ W.grownBy w1 (some g) := by
  obtain ⟨hn, hnc, _⟩ := R_reads' HO; obtain ⟨hok, inner, hown, hr⟩ := HO
  have hin : inner.length = n * d.sz := by rw [hr.1, hn]
  rcases hown.2 with ⟨hv, _⟩ | ⟨g', cap', cur, hv, hb, hh, _, hcm, hcs, htake⟩
  · cases hv
  injection hv with ha _ hc
  injection ha with ha
  injection ha with hg
  subst hg; subst hc; rw [← hn] at htake; obtain ⟨news, hnews⟩ : ∃ news, news = inner.drop ((k + 1) * d.sz) := ⟨_, rfl⟩
  have hnl : news.length = (n - (k + 1)) * d.sz := by rw [hnews, List.length_drop, hin, Nat.sub_mul]
  have hle : (k + 1) * d.sz ≤ n * d.sz := Nat.mul_le_mul_right _ hk; have hks : (k + 1) * d.sz = k * d.sz + d.sz := Nat.succ_mul _ _; have hnc' : n * d.sz ≤ c * d.sz := Nat.mul_le_mul_right _ hnc; have hsub : (n - (k + 1)) * d.sz = n * d.sz - (k + 1) * d.sz := Nat.sub_mul _ _ _
  have hcur : ∀ q, q < n * d.sz → cur.toList[q]? = inner[q]? := by
    intro q hq; rw [← htake, List.getElem?_take, if_pos hq]
  obtain ⟨a, rfl, hcell⟩ : ∃ a, A = some a ∧ ∀ j u, news[j]? = some u → W.cell? (a.add j) = some u := by
    by_cases hck : c = k + 1
    · rw [if_pos hck] at hA; refine ⟨_, hA, fun j u hu => ?_⟩; have h0 : news = [] := List.eq_nil_of_length_eq_zero (by rw [hnl, show n - (k + 1) = 0 by omega, Nat.zero_mul]); rw [h0] at hu
      simp at hu
    · rw [if_neg hck, Option.map_some] at hA; refine ⟨_, hA, fun j u hu => ?_⟩; have hj : j < news.length := (List.getElem?_eq_some_iff.1 hu).1; rw [add_add, add_at, cell_of_row W g _ cur e (0, 0) hh, ← Array.getElem?_toList]; rw [hnews, List.getElem?_drop] at hu; rw [← hu, Nat.zero_add]; exact hcur _ (by omega)
  have hone : ∀ u ∈ news, u.oneCell' = true := by
    intro u hu
    have hu' : u ∈ inner := by rw [hnews] at hu; exact List.mem_of_mem_drop hu
    obtain ⟨q, hq, rfl⟩ := List.mem_iff_getElem.1 hu'
    have hs0 : 0 < d.sz := by
      rcases Nat.eq_zero_or_pos d.sz with h | h
      · rw [h, Nat.mul_zero] at hin; omega
      · exact h
    have hql : q / d.sz < xs.length := by
      rw [Nat.div_lt_iff_lt_mul hs0, ← hr.1]; exact hq
    refine d.K_one (d.K_of_M (hr.2 (q / d.sz) _ (List.getElem?_eq_getElem hql))) _ ?_; rw [List.mem_iff_getElem?]; refine ⟨q % d.sz, ?_⟩; rw [List.getElem?_take, if_pos (Nat.mod_lt _ hs0), List.getElem?_drop, Nat.mul_comm, Nat.div_add_mod, List.getElem?_eq_getElem hq]
  have hfit : 0 + k * d.sz + news.length ≤ cur.size := by omega
  have hrun := run_append_room_cells (P := P) (w := W) t ty e i ht hi g 0 k c a (n - (k + 1)) c2 news (by rw [hnl, hsz]) hcell hone (by omega)
    (fun j hj => by rw [hsz, cell_of_row W g _ cur e (0, 0) hh]; simp; omega) (fun j _ => Z7 hh _)
  rw [hsz, show k + (n - (k + 1)) = n - 1 by omega] at hrun; obtain ⟨cur', h3, h4, h5⟩ := setCells_row news (0 + k * d.sz) W cur hh hfit; obtain ⟨s1, s2, s3, s4⟩ := setCells_same g news (0 + k * d.sz) W
  have hfar : ∀ k', k' ≠ g → (W.setCells g (0 + k * d.sz) news).heap[k']? = W.heap[k']? := fun k' hk' => setCells_far news _ k' hk'
  have hgo : ∀ m, some g = (Value.slice (some ⟨g, 0, none⟩) m c).ownBlock := fun m => by simp [Value.ownBlock]
  have hel : (xs.eraseIdx k).length = n - 1 := by rw [List.length_eraseIdx_of_lt (by omega), hn]
  refine ⟨_, hrun, ⟨fun k' hk' => hok k' (by rw [← hgo] at hk' ⊢; exact hk'), inner.take (k * d.sz) ++ news, ⟨?_, .inr ⟨g, c, cur', by rw [hel], hb, h3, by rw [hel]; omega, hcm, by rw [h4, hcs], ?_⟩⟩, ?_⟩, ⟨s1, s2, s3, by rw [s4]; exact Nat.le_refl _, fun k' _ hk' => hfar k' (fun he => hk' (by rw [he]))⟩⟩
  · rw [List.length_append, List.length_take, hnl, hel]
    have : (n - 1) * d.sz = n * d.sz - d.sz := by rw [Nat.sub_mul, Nat.one_mul]
    omega
  · rw [hel, h5, Nat.zero_add]
    have h6 : (n - 1) * d.sz = n * d.sz - d.sz := by rw [Nat.sub_mul, Nat.one_mul]
    have h7 : cur.toList.take (k * d.sz) = inner.take (k * d.sz) := by
      rw [← htake, List.take_take, Nat.min_eq_left (by omega)]
    rw [h7]; exact List.take_left' (by rw [List.length_append, List.length_take, hnl]; omega)
  · rw [List.eraseIdx_eq_take_drop_succ]
    have hmv : ∀ p q, d.M W base (fun k' => ok k' ∧ some k' ≠ (Value.slice (some ⟨g, 0, none⟩) n c).ownBlock) p q → d.M (W.setCells g (0 + k * d.sz) news) base (fun k' => ok k' ∧ some k' ≠ (Value.slice (some ⟨g, 0, none⟩) (n - 1) c).ownBlock) p q := fun p q hp =>
      d.M_mono (fun k' hk' => ⟨hk'.1, by rw [← hgo]; rw [← hgo] at hk'; exact hk'.2⟩) (d.M_move (fun k' hk' => hfar k' (fun he => hk'.2 (by rw [← hgo, he]))) hp)
    subst hnews; exact reps_append ((reps_take hr (by omega)).imp_ hmv) ((reps_drop hr).imp_ hmv)
end
section
variable {P : Program} {ops : Array Oper} {rest : List Oper} {o : Oper} {a : Act} {Q : Exit → Act → World → Prop} {Kc : Act → World → Prop} {α : Type}
theorem R_delete_step (d : Kd α) {w0 W : World} (base : Nat) (hw : Region.wanted o (yielded ops a.tmps) = true) (s x : Operand) (t e : TypeId) (ho : o.op = .call { callee := .builtin .append, args := #[s, x], argTypes := #[t, t] })
    (ht : P.underlying t = some (.slice e)) (hinfo : (P.info? e).map (·.size) = some d.sz) {g n c k m c2 : Nat} {A : Option Addr} {xs : List α} {ok : Nat → Prop}
    (hs : a.eval s = .slice (some ⟨g, 0, none⟩) k c) (hx : a.eval x = .slice A m c2) (hA : A = if c = k + 1 then some ⟨g, 0, none⟩ else (some (⟨g, 0, none⟩ : Addr)).map (·.add ((k + 1) * d.sz))) (hm : m = n - (k + 1))
    (HO : d.R e W base ok (.slice (some ⟨g, 0, none⟩) n c) xs) (hk : k < n) (HB : Below base w0 W) (hbase : base ≤ W.heap.size)
    (h : ∀ w1, d.R e w1 base ok (.slice (some ⟨g, 0, none⟩) (n - 1) c) (xs.eraseIdx k) → Below base w0 w1 → W.grownBy w1 (some g) → Kc (a.put o.dst (.slice (some ⟨g, 0, none⟩) (n - 1) c)) w1) :
    if Region.wanted o (yielded ops a.tmps) = true then Oper.wp P o a W Kc Q else Kc (a.put o.dst undef) W := by
  obtain ⟨i0, hi, hsz⟩ := Option.map_eq_some_iff.1 hinfo; subst hm; obtain ⟨w1, hr, h1, h2⟩ := R_delete_run (P := P) d base t o.type e i0 ht hi hsz HO hk hA c2; rw [if_pos hw]; unfold Oper.wp execOp; simp only [ho, resolve, invoke, builtin, Sem.run_bind, Sem.run_pure, Result.andThen_ok, List.map_toArray, List.map_cons, List.map_nil, hs, hx, hr]; exact h w1 h1 (HB.grown h2 hbase (fun k hk => by injection hk with hk; subst hk; exact R_base HO _ (by simp [Value.ownBlock]))) h2
end
end Kd
end Go.Proofs.YtbeelgaganbblaaDoorW.PrintWords
namespace Go.Proofs.YtbeelgaganbblaaDoor.By
open Go.RowKit Go.Proofs.YtbeelgaganbblaaDoorW.PrintWords
set_option linter.unusedVariables false
set_option linter.unusedSimpArgs false
def L (s : ByteArray) : List UInt8 := s.data.toList
theorem L_length (s : ByteArray) : (L s).length = s.size := by unfold L; rw [Array.length_toList]; rfl
theorem toList_L (s : ByteArray) : s.toList = L s := ByteArray.toList_eq s
theorem L_ext {s t : ByteArray} (h : L s = L t) : s = t := by
  cases s with | mk a => cases t with | mk b => unfold L at h; congr 1; exact Array.toList_inj.1 h
theorem L_extract (s : ByteArray) (a b : Nat) : L (s.extract a b) = ((L s).drop a).take (b - a) := Go.Lib.extract_data s a b
theorem L_mk (l : List UInt8) : L ⟨l.toArray⟩ = l := rfl
theorem bt_get (s : ByteArray) (i : Nat) (h : i < s.size) : bt s (i : Int) = (((L s)[i]'(by rw [L_length]; exact h)).toNat : Int) := by
  unfold bt; rw [dif_pos (by simpa using h)]; rfl
theorem drop_cons (s : ByteArray) (i : Nat) (h : i < s.size) : (L s).drop i = (L s)[i]'(by rw [L_length]; exact h) :: (L s).drop (i + 1) :=
  List.drop_eq_getElem_cons _
theorem drop_all (s : ByteArray) (i : Nat) (h : s.size ≤ i) : (L s).drop i = [] := List.drop_eq_nil_of_le (by rw [L_length]; exact h)
theorem nil_iff (s : ByteArray) : s.toList = ([] : List UInt8) ↔ s.size = 0 := by
  rw [toList_L, ← L_length, List.length_eq_zero_iff]
def dig (c : UInt8) : Bool := decide (48 ≤ c.toNat) && decide (c.toNat ≤ 57)
end Go.Proofs.YtbeelgaganbblaaDoor.By
namespace Go.Proofs
open Go.Shelf
def Tryd.lays137_ren : Go.Shelf.Ren := ⟨fun | 137 => 73 | 217 => 99 | 266 => 117 | n => n, fun | 9 => 9 | 5 => 5 | 3 => 3 | n => n, fun | n => n⟩
theorem Tryd.lays137 : Go.Proofs.Lays.n137 Tryd.prog Tryd.lays137_ren := {
  mixed := by kernel_rfl
  f137 := Tryd.func73.trans (congrArg some (by kernel_rfl))
  f217 := Tryd.func99.trans (congrArg some (by kernel_rfl))
  f266 := Tryd.func117.trans (congrArg some (by kernel_rfl))
  t3 := Tryd.underlying3
  a3 := Tryd.isAgg3
  z3 := Tryd.sizeOf3
  v3 := Tryd.zeroValue3
  t5 := Tryd.underlying5
  a5 := Tryd.isAgg5
  z5 := Tryd.sizeOf5
  v5 := Tryd.zeroValue5
  t9 := Tryd.underlying9
  a9 := Tryd.isAgg9
  z9 := Tryd.sizeOf9
  v9 := Tryd.zeroValue9 }
open Go.RowKit in
theorem Tryd.strings_IndexByte (s : ByteArray) (c : Int) (w : World) :
    Calls Tryd.prog 73 #[.string s, .int .u8 c] w fun e w' => e = .returned (.int .i64 (Lib.indexByte s.data.toList c.toNat.toUInt8)) ∧ w' = w := Any.strings_IndexByte Tryd.lays137 s c w
end Go.Proofs
namespace Go.Proofs.YtbeelgaganbblaaDoor
open Go.RowKit Go.Proofs.YtbeelgaganbblaaDoorW.PrintWords
set_option linter.unusedVariables false
set_option linter.unusedSimpArgs false
set_option maxRecDepth 100000
def signs : List Nat := [43, 45, 42, 47, 61, 37, 63, 33, 46, 36, 95, 126, 38, 94, 60, 62, 64]
def nmB (c : Int) : Bool := decide (48 ≤ c ∧ c ≤ 57) || decide (97 ≤ c ∧ c ≤ 122) || decide (65 ≤ c ∧ c ≤ 90) || signs.contains c.toNat
theorem signs_table : ∀ n : Nat, n < 256 → (0 ≤ Lib.indexByte [43, 45, 42, 47, 61, 37, 63, 33, 46, 36, 95, 126, 38, 94, 60, 62, 64] n.toUInt8 ↔ signs.contains n = true) ∧
    (0 ≤ Lib.indexByte [43, 45, 42, 47, 61, 37, 63, 33, 46, 36, 95, 126, 38, 94, 60, 62, 64] n.toUInt8 ∨ Lib.indexByte [43, 45, 42, 47, 61, 37, 63, 33, 46, 36, 95, 126, 38, 94, 60, 62, 64] n.toUInt8 = -1) := by decide +kernel
def impl_nameB.f (a0 : Int) : Option Bool := if 0 ≤ a0 ∧ a0 ≤ 255 then some (nmB a0) else none
def ZR.f (a0 : Int) : Option Bool := if 0 ≤ a0 ∧ a0 ≤ 255 then some (nmB a0) else none
theorem ranges (c : Int) (h0 : 0 ≤ c) (h1 : c ≤ 255) : (48 ≤ c ∧ c ≤ 57) ∨ (97 ≤ c ∧ c ≤ 122) ∨ (65 ≤ c ∧ c ≤ 90) ∨ (1 ≤ c ∧ c ≤ 47) ∨ (58 ≤ c ∧ c ≤ 64) ∨ (91 ≤ c ∧ c ≤ 96) ∨ (123 ≤ c ∧ c ≤ 255) ∨ c = 0 := by omega
theorem nmB_dig {c : Int} (a : 48 ≤ c) (b : c ≤ 57) : nmB c = true := by unfold nmB; simp [a, b]
theorem nmB_low {c : Int} (a : 97 ≤ c) (b : c ≤ 122) : nmB c = true := by unfold nmB; simp [a, b]
theorem nmB_up {c : Int} (a : 65 ≤ c) (b : c ≤ 90) : nmB c = true := by unfold nmB; simp [a, b]
theorem nmB_other {c : Int} (a : ¬ (48 ≤ c ∧ c ≤ 57)) (b : ¬ (97 ≤ c ∧ c ≤ 122)) (d : ¬ (65 ≤ c ∧ c ≤ 90)) : nmB c = signs.contains c.toNat := by
  unfold nmB; rw [decide_eq_false a, decide_eq_false b, decide_eq_false d]; simp
theorem ret_bool {a b : Bool} (h : a = b) : Ending.returned (.bool a) = .returned (.bool b) := by rw [h]
def SIGNS : ByteArray := ⟨#[43, 45, 42, 47, 61, 37, 63, 33, 46, 36, 95, 126, 38, 94, 60, 62, 64]⟩
theorem impl_nameB_any (c : Int) (w : World) (h0 : 0 ≤ c) (h1 : c ≤ 255) :
    Calls Tryd.prog 72 #[.int .u8 c] w fun e w' => e = .returned (.bool (nmB c)) ∧ w = w' := by
  have step : ∀ J : Int, (Lib.indexByte SIGNS.data.toList c.toNat.toUInt8 : Int) = J → ((0 ≤ J) ↔ signs.contains c.toNat = true) → 
      Calls Tryd.prog 72 #[.int .u8 c] w fun e w' => e = .returned (.bool (nmB c)) ∧ w = w' := by
    intro J hJ hs
    have HC : ∀ W, Calls Tryd.prog 73 #[.string ⟨#[43, 45, 42, 47, 61, 37, 63, 33, 46, 36, 95, 126, 38, 94, 60, 62, 64]⟩, .int .u8 c] W fun e w' => e = .returned (.int .i64 J) ∧ w' = W := fun W => by
      have := Tryd.strings_IndexByte ⟨#[43, 45, 42, 47, 61, 37, 63, 33, 46, 36, 95, 126, 38, 94, 60, 62, 64]⟩ c W; rw [← hJ]; exact this
    have HCC : Hid (∀ W, Calls Tryd.prog 73 #[.string ⟨#[43, 45, 42, 47, 61, 37, 63, 33, 46, 36, 95, 126, 38, 94, 60, 62, 64]⟩, .int .u8 c] W fun e w' => e = .returned (.int .i64 J) ∧ w' = W) := HC; have HS : Hid ((0 ≤ J) ↔ signs.contains c.toNat = true) := hs; clear HC hJ hs
    have out : ¬ (48 ≤ c ∧ c ≤ 57) → ¬ (97 ≤ c ∧ c ≤ 122) → ¬ (65 ≤ c ∧ c ≤ 90) → Ending.returned (.bool (decide (0 ≤ J))) = .returned (.bool (nmB c)) := by
      intro a b d; refine ret_bool ?_; rw [nmB_other a b d, Bool.eq_iff_iff, decide_eq_true_eq]; exact HS.out
    have OUT : Hid (¬ (48 ≤ c ∧ c ≤ 57) → ¬ (97 ≤ c ∧ c ≤ 122) → ¬ (65 ≤ c ∧ c ≤ 90) → Ending.returned (.bool (decide (0 ≤ J))) = .returned (.bool (nmB c))) := out; clear out
    rcases ranges c h0 h1 with ⟨a, b⟩ | ⟨a, b⟩ | ⟨a, b⟩ | ⟨a, b⟩ | ⟨a, b⟩ | ⟨a, b⟩ | ⟨a, b⟩ | a
    · have e := nmB_dig a b; rw [e]; clear e; go_enter Tryd.func72, Tryd.ntmps72; go_wp2_with (first | (go_at_call 73; refine (HCC.out _).mono ?_; rintro e w' ⟨rfl, rfl⟩) | go_in); go_ret; exact ⟨rfl, rfl⟩
    · have e := nmB_low a b; rw [e]; clear e; go_enter Tryd.func72, Tryd.ntmps72; go_wp2_with (first | (go_at_call 73; refine (HCC.out _).mono ?_; rintro e w' ⟨rfl, rfl⟩) | go_in); go_ret; exact ⟨rfl, rfl⟩
    · have e := nmB_up a b; rw [e]; clear e; go_enter Tryd.func72, Tryd.ntmps72; go_wp2_with (first | (go_at_call 73; refine (HCC.out _).mono ?_; rintro e w' ⟨rfl, rfl⟩) | go_in); go_ret; exact ⟨rfl, rfl⟩
    · have nz : (c != 0) = true := bne_iff_ne.2 (by omega); go_enter Tryd.func72, Tryd.ntmps72; go_wp2_with (first | (go_at_call 73; refine (HCC.out _).mono ?_; rintro e w' ⟨rfl, rfl⟩) | go_in); go_ret; exact ⟨OUT.out (by omega) (by omega) (by omega), rfl⟩
    · have nz : (c != 0) = true := bne_iff_ne.2 (by omega); have g57 : decide (c ≤ 57) = false := decide_eq_false (by omega); go_enter Tryd.func72, Tryd.ntmps72; go_wp2_with (first | (go_at_call 73; refine (HCC.out _).mono ?_; rintro e w' ⟨rfl, rfl⟩) | go_in); go_ret; exact ⟨OUT.out (by omega) (by omega) (by omega), rfl⟩
    · have nz : (c != 0) = true := bne_iff_ne.2 (by omega); have g57 : decide (c ≤ 57) = false := decide_eq_false (by omega); have g90 : decide (c ≤ 90) = false := decide_eq_false (by omega); go_enter Tryd.func72, Tryd.ntmps72; go_wp2_with (first | (go_at_call 73; refine (HCC.out _).mono ?_; rintro e w' ⟨rfl, rfl⟩) | go_in); go_ret; exact ⟨OUT.out (by omega) (by omega) (by omega), rfl⟩
    · have nz : (c != 0) = true := bne_iff_ne.2 (by omega); have g57 : decide (c ≤ 57) = false := decide_eq_false (by omega); have g90 : decide (c ≤ 90) = false := decide_eq_false (by omega); have g122 : decide (c ≤ 122) = false := decide_eq_false (by omega); go_enter Tryd.func72, Tryd.ntmps72; go_wp2_with (first | (go_at_call 73; refine (HCC.out _).mono ?_; rintro e w' ⟨rfl, rfl⟩) | go_in); go_ret; exact ⟨OUT.out (by omega) (by omega) (by omega), rfl⟩
    · subst a; have e : nmB 0 = false := (by decide); rw [e]; clear e; go_enter Tryd.func72, Tryd.ntmps72; go_wp2_with (first | (go_at_call 73; refine (HCC.out _).mono ?_; rintro e w' ⟨rfl, rfl⟩) | go_in); go_ret; exact ⟨rfl, rfl⟩
  obtain ⟨n, rfl⟩ := Int.eq_ofNat_of_zero_le h0; have := (signs_table n (by omega)).1; refine step _ rfl ?_; rw [Int.toNat_natCast]; exact this
theorem impl_nameB.calls (a0 : Int) (r : Bool) (w : World) (h : impl_nameB.f a0 = some r) :
    Calls Tryd.prog 72 #[.int .u8 a0] w fun e w' => e = .returned (.bool r) ∧ Drawn0 w w' := by
  unfold impl_nameB.f at h
  split at h
  · rename_i hc
    obtain rfl := Option.some.inj h
    exact (impl_nameB_any a0 w hc.1 hc.2).mono fun _ _ h => ⟨h.1, by rw [← h.2]; exact Drawn0.refl _⟩
  · cases h
theorem signs_at : ∀ k : Nat, k < 17 → bt (⟨#[43, 45, 42, 47, 61, 37, 63, 33, 46, 36, 95, 126, 38, 94, 60, 62, 64]⟩ : ByteArray) (k : Int) = ((signs.getD k 0 : Nat) : Int) := by decide
theorem signs_mem (n : Nat) : signs.contains n = true ↔ ∃ k, k < 17 ∧ signs.getD k 0 = n := by
  unfold signs
  constructor
  · intro h; simp only [List.contains_cons, List.contains_nil, Bool.or_eq_true, beq_iff_eq, Bool.or_false] at h
    rcases h with h | h | h | h | h | h | h | h | h | h | h | h | h | h | h | h | h
    · exact ⟨0, by omega, h.symm⟩
    · exact ⟨1, by omega, h.symm⟩
    · exact ⟨2, by omega, h.symm⟩
    · exact ⟨3, by omega, h.symm⟩
    · exact ⟨4, by omega, h.symm⟩
    · exact ⟨5, by omega, h.symm⟩
    · exact ⟨6, by omega, h.symm⟩
    · exact ⟨7, by omega, h.symm⟩
    · exact ⟨8, by omega, h.symm⟩
    · exact ⟨9, by omega, h.symm⟩
    · exact ⟨10, by omega, h.symm⟩
    · exact ⟨11, by omega, h.symm⟩
    · exact ⟨12, by omega, h.symm⟩
    · exact ⟨13, by omega, h.symm⟩
    · exact ⟨14, by omega, h.symm⟩
    · exact ⟨15, by omega, h.symm⟩
    · exact ⟨16, by omega, h.symm⟩
  · rintro ⟨k, hk, rfl⟩; have : ∀ k : Nat, k < 17 → [43, 45, 42, 47, 61, 37, 63, 33, 46, 36, 95, 126, 38, 94, 60, 62, 64].contains ([43, 45, 42, 47, 61, 37, 63, 33, 46, 36, 95, 126, 38, 94, 60, 62, 64].getD k 0) = true := (by decide); exact this k hk
def NotYet (c : Int) (k : Nat) : Prop := ∀ j : Nat, j < k → ¬ ((signs.getD j 0 : Nat) : Int) = c
theorem spec_l3NameByte_loop (c : Int) (w : World) (h0 : 0 ≤ c) (h1 : c ≤ 255) (n1 : ¬ (48 ≤ c ∧ c ≤ 57)) (n2 : ¬ (97 ≤ c ∧ c ≤ 122)) (n3 : ¬ (65 ≤ c ∧ c ≤ 90)) (d1 : (decide (97 ≤ c) && decide (c ≤ 122)) = false) (d2 : (decide (65 ≤ c) && decide (c ≤ 90)) = false) (d3 : (decide (48 ≤ c) && decide (c ≤ 57)) = false) :
    Calls Tryd.prog 75 #[.int .u8 c] w fun e w' => e = .returned (.bool (nmB c)) ∧ w = w' := by
  have hn := nmB_other n1 n2 n3; have HN : Hid (nmB c = signs.contains c.toNat) := hn; clear hn
  rcases (by omega : (0 ≤ c ∧ c ≤ 47) ∨ (58 ≤ c ∧ c ≤ 64) ∨ (91 ≤ c ∧ c ≤ 96) ∨ (123 ≤ c ∧ c ≤ 255)) with ⟨a, b⟩ | ⟨a, b⟩ | ⟨a, b⟩ | ⟨a, b⟩
  all_goals
    clear d1 d2 d3 n1 n2 n3; go_enter Tryd.func75, Tryd.ntmps75; go_wp2_with (go_in); go_loop [4] (fun i => ∃ k : Nat, k ≤ 17 ∧ i = .int .i64 k ∧ NotYet c k) (fun i => 17 - (intOf i).toNat)
    case atStart => exact ⟨0, by omega, rfl, fun j hj => absurd hj (by omega)⟩
    case round =>
      obtain ⟨k, hk, rfl, HK⟩ := hrel
      by_cases hlt : k < 17
      · have hx : ∀ h : k < (⟨#[43, 45, 42, 47, 61, 37, 63, 33, 46, 36, 95, 126, 38, 94, 60, 62, 64]⟩ : ByteArray).size, ((((⟨#[43, 45, 42, 47, 61, 37, 63, 33, 46, 36, 95, 126, 38, 94, 60, 62, 64]⟩ : ByteArray)[k]'h).toNat : Nat) : Int) = bt (⟨#[43, 45, 42, 47, 61, 37, 63, 33, 46, 36, 95, 126, 38, 94, 60, 62, 64]⟩ : ByteArray) (k : Int) := ZH (⟨#[43, 45, 42, 47, 61, 37, 63, 33, 46, 36, 95, 126, 38, 94, 60, 62, 64]⟩ : ByteArray) k; have hb := signs_at k hlt
        by_cases he : ((signs.getD k 0 : Nat) : Int) = c
        · have hbc : (bt (⟨#[43, 45, 42, 47, 61, 37, 63, 33, 46, 36, 95, 126, 38, 94, 60, 62, 64]⟩ : ByteArray) (k : Int) == c) = true := by rw [hb, he]; exact beq_self_eq_true _
          have HE : Hid (((signs.getD k 0 : Nat) : Int) = c) := he; clear hb he; go_wp2_with (fail); go_ret; exact ⟨ret_bool (by rw [HN.out]; exact ((signs_mem _).2 ⟨k, hlt, by have := HE.out; omega⟩).symm), rfl⟩
        · have hbc : (bt (⟨#[43, 45, 42, 47, 61, 37, 63, 33, 46, 36, 95, 126, 38, 94, 60, 62, 64]⟩ : ByteArray) (k : Int) == c) = false := by rw [hb]; exact beq_eq_false_iff_ne.2 he
          have HE : Hid (¬ ((signs.getD k 0 : Nat) : Int) = c) := he; clear hb he; go_wp2_with (fail); go_round
          case rel => exact ⟨k + 1, by omega, by go_num, fun j hj => by
            by_cases hjk : j = k
            · subst hjk; exact HE.out
            · exact HK j (by omega)⟩
          case measure => simp [intOf]; omega
      · go_wp2_with (fail); go_ret
        exact ⟨ret_bool (by
          rw [HN.out, eq_comm, Bool.eq_false_iff]; intro hm; obtain ⟨j, hj, e⟩ := (signs_mem _).1 hm
          exact HK j (by omega) (by omega)), rfl⟩
theorem spec_l3NameByte_any (c : Int) (w : World) (h0 : 0 ≤ c) (h1 : c ≤ 255) :
    Calls Tryd.prog 75 #[.int .u8 c] w fun e w' => e = .returned (.bool (nmB c)) ∧ w = w' := by
  rcases (by omega : (48 ≤ c ∧ c ≤ 57) ∨ (97 ≤ c ∧ c ≤ 122) ∨ (65 ≤ c ∧ c ≤ 90) ∨ (¬ (48 ≤ c ∧ c ≤ 57) ∧ ¬ (97 ≤ c ∧ c ≤ 122) ∧ ¬ (65 ≤ c ∧ c ≤ 90))) with ⟨a, b⟩ | ⟨a, b⟩ | ⟨a, b⟩ | ⟨a, b, d⟩
  · have e := nmB_dig a b; rw [e]; clear e; go_enter Tryd.func75, Tryd.ntmps75; go_wp2_with (go_in); go_ret; exact ⟨rfl, rfl⟩
  · have e := nmB_low a b; rw [e]; clear e; go_enter Tryd.func75, Tryd.ntmps75; go_wp2_with (go_in); go_ret; exact ⟨rfl, rfl⟩
  · have e := nmB_up a b; rw [e]; clear e; go_enter Tryd.func75, Tryd.ntmps75; go_wp2_with (go_in); go_ret; exact ⟨rfl, rfl⟩
  · exact spec_l3NameByte_loop c w h0 h1 a b d (by simp; omega) (by simp; omega) (by simp; omega)
theorem ZR.calls (a0 : Int) (r : Bool) (w : World) (h : ZR.f a0 = some r) :
    Calls Tryd.prog 75 #[.int .u8 a0] w fun e w' => e = .returned (.bool r) ∧ Drawn0 w w' := by
  unfold ZR.f at h
  split at h
  · rename_i hc
    obtain rfl := Option.some.inj h
    exact (spec_l3NameByte_any a0 w hc.1 hc.2).mono fun _ _ h => ⟨h.1, by rw [← h.2]; exact Drawn0.refl _⟩
  · cases h
end Go.Proofs.YtbeelgaganbblaaDoor
namespace Go.Proofs.YtbeelgaganbblaaDoor.Tok
open Go.RowKit Go.Proofs.YtbeelgaganbblaaDoorW.PrintWords Go.Proofs.YtbeelgaganbblaaDoor Go.Proofs.YtbeelgaganbblaaDoor.By
set_option linter.unusedVariables false
set_option linter.unusedSimpArgs false
def nm (c : UInt8) : Bool := nmB (c.toNat : Int)
def inb (c : UInt8) : Bool := decide (32 ≤ c.toNat) && decide (c.toNat ≤ 126) && !(c == 124) && !(c == 92)
def inq (c : UInt8) : Bool := c == 10 || (decide (32 ≤ c.toNat) && decide (c.toNat ≤ 126))
def bin (c : UInt8) : Bool := c == 48 || c == 49
def hexd (c : UInt8) : Bool := dig c || (decide (97 ≤ c.toNat) && decide (c.toNat ≤ 102)) || (decide (65 ≤ c.toNat) && decide (c.toNat ≤ 70))
def hexv (c : UInt8) : Nat := if c.toNat ≤ 57 then c.toNat - 48 else if c.toNat ≤ 70 then c.toNat - 55 else c.toNat - 87
def bit (v j : Nat) : UInt8 := UInt8.ofNat (48 + v / 2 ^ j % 2)
def four (c : UInt8) : List UInt8 := [bit (hexv c) 3, bit (hexv c) 2, bit (hexv c) 1, bit (hexv c) 0]
def scan (p : UInt8 → Bool) (l : List UInt8) : Nat := (l.takeWhile p).length
def txt : List UInt8 → List UInt8 → Nat → Option (List UInt8 × Nat)
  | [], _, _ => none
  | [c], acc, k => if c = 34 then some (acc, k + 1) else none
  | c :: d :: t, acc, k => if c = 34 then (if d = 34 then txt t (acc ++ [34]) (k + 2) else some (acc, k + 1)) else if inq c then txt (d :: t) (acc ++ [c]) (k + 1) else none
def noTok : Int × ByteArray × Int := (0, ⟨#[]⟩, 0)
def quoted (s : ByteArray) (i : Nat) : Int × ByteArray × Int :=
  match txt ((L s).drop (i + 1)) [] (i + 1) with
  | some (o, k) => (6, ⟨o.toArray⟩, (k : Int))
  | none => noTok
def barred (s : ByteArray) (i : Nat) : Int × ByteArray × Int :=
  let k := i + 1 + scan inb ((L s).drop (i + 1))
  if (L s)[k]? = some 124 then (2, s.extract (i + 1) k, ((k + 1 : Nat) : Int)) else noTok
def keyed (s : ByteArray) (i : Nat) : Int × ByteArray × Int :=
  let k := i + 1 + scan nm ((L s).drop (i + 1))
  if k = i + 1 then noTok else (7, s.extract (i + 1) k, (k : Int))
def bits (s : ByteArray) (i : Nat) : Int × ByteArray × Int :=
  if (L s)[i + 1]? = some 98 then
    let t := ((L s).drop (i + 2)).takeWhile bin
    if t = [] then noTok else (5, ⟨t.toArray⟩, ((i + 2 + t.length : Nat) : Int))
  else if (L s)[i + 1]? = some 120 then
    let t := ((L s).drop (i + 2)).takeWhile hexd
    if t = [] then noTok else (5, ⟨(t.flatMap four).toArray⟩, ((i + 2 + t.length : Nat) : Int))
  else noTok
def numeral (s : ByteArray) (i : Nat) : Int × ByteArray × Int :=
  let k := i + 1 + scan dig ((L s).drop (i + 1))
  if i + 1 < k ∧ (L s)[i]? = some 48 then noTok
  else if (L s)[k]? = some 46 ∧ ((L s)[k + 1]?).any dig = true then
    let m := k + 1 + scan dig ((L s).drop (k + 1))
    (4, s.extract i m, (m : Int))
  else (3, s.extract i k, (k : Int))
def named (s : ByteArray) (i : Nat) : Int × ByteArray × Int :=
  let k := i + 1 + scan nm ((L s).drop (i + 1))
  (2, s.extract i k, (k : Int))
def tok (s : ByteArray) (i : Nat) : Int × ByteArray × Int :=
  match (L s)[i]? with
  | none => noTok
  | some c => if c = 34 then quoted s i else if c = 124 then barred s i else if c = 58 then keyed s i else if c = 35 then bits s i
      else if dig c then numeral s i else if nm c then named s i else noTok
theorem scan_yes {p : UInt8 → Bool} {c : UInt8} {l : List UInt8} (h : p c = true) : scan p (c :: l) = scan p l + 1 := by unfold scan; rw [List.takeWhile_cons, if_pos h, List.length_cons]
theorem scan_no {p : UInt8 → Bool} {c : UInt8} {l : List UInt8} (h : p c = false) : scan p (c :: l) = 0 := by unfold scan; rw [List.takeWhile_cons, h]; rfl
theorem scan_le (p : UInt8 → Bool) (l : List UInt8) : scan p l ≤ l.length := (List.takeWhile_sublist p).length_le
def at_ (s : ByteArray) (k : Nat) : UInt8 := (L s).getD k 0
theorem get_at (s : ByteArray) (k : Nat) (h : k < s.size) : (L s)[k]? = some (at_ s k) := by
  unfold at_; rw [List.getD_eq_getElem?_getD, List.getElem?_eq_getElem (by rw [L_length]; exact h)]; rfl
theorem get_end (s : ByteArray) (k : Nat) (h : s.size ≤ k) : (L s)[k]? = none := List.getElem?_eq_none (by rw [L_length]; exact h)
theorem drop_at (s : ByteArray) (k : Nat) (h : k < s.size) : (L s).drop k = at_ s k :: (L s).drop (k + 1) := by
  rw [drop_cons s k h]; congr 1; have := get_at s k h; rw [List.getElem?_eq_getElem (by rw [L_length]; exact h)] at this; exact Option.some.inj this
theorem scan_step {s : ByteArray} {p : UInt8 → Bool} {k : Nat} (h : k < s.size) (hp : p (at_ s k) = true) : scan p ((L s).drop k) = scan p ((L s).drop (k + 1)) + 1 := by rw [drop_at s k h, scan_yes hp]
theorem scan_stop {s : ByteArray} {p : UInt8 → Bool} {k : Nat} (h : k < s.size) (hp : p (at_ s k) = false) : scan p ((L s).drop k) = 0 := by rw [drop_at s k h, scan_no hp]
theorem scan_end {s : ByteArray} {p : UInt8 → Bool} {k : Nat} (h : s.size ≤ k) : scan p ((L s).drop k) = 0 := by rw [drop_all s k h]; rfl
theorem scan_bound (s : ByteArray) (p : UInt8 → Bool) (k : Nat) (h : k ≤ s.size) : k + scan p ((L s).drop k) ≤ s.size := by
  have := scan_le p ((L s).drop k); rw [List.length_drop, L_length] at this; omega
theorem at_int (s : ByteArray) (k : Nat) (h : k < s.size) : bt s (k : Int) = ((at_ s k).toNat : Int) := by
  rw [bt_get s k h]; have := get_at s k h; rw [List.getElem?_eq_getElem (by rw [L_length]; exact h)] at this; rw [Option.some.inj this]
theorem u8_eq {c : UInt8} (n : Nat) (hn : n < 256) : ((c.toNat : Int) = (n : Int)) ↔ c = UInt8.ofNat n := by
  constructor
  · intro h; have : c.toNat = n := by omega
    rw [← this, UInt8.ofNat_toNat]
  · intro h; subst h; simp; omega
theorem inb_yes {c : UInt8} {d : Int} (h : inb c = true) (e : (c.toNat : Int) = d) : 32 ≤ d ∧ d ≤ 126 ∧ d ≠ 124 ∧ d ≠ 92 := by
  unfold inb at h; simp only [Bool.and_eq_true, decide_eq_true_eq, Bool.not_eq_true', beq_eq_false_iff_ne, ne_eq] at h; obtain ⟨⟨⟨h1, h2⟩, h3⟩, h4⟩ := h; refine ⟨by omega, by omega, ?_, ?_⟩
  · intro hd; exact h3 ((u8_eq 124 (by omega)).1 (by omega))
  · intro hd; exact h4 ((u8_eq 92 (by omega)).1 (by omega))
theorem inb_no {c : UInt8} {d : Int} (h : inb c = false) (e : (c.toNat : Int) = d) : d < 32 ∨ 126 < d ∨ d = 124 ∨ d = 92 := by
  by_cases h1 : d < 32
  · exact .inl h1
  by_cases h2 : 126 < d
  · exact .inr (.inl h2)
  by_cases h3 : d = 124
  · exact .inr (.inr (.inl h3))
  by_cases h4 : d = 92
  · exact .inr (.inr (.inr h4))
  exfalso
  have : inb c = true := by
    unfold inb; simp only [Bool.and_eq_true, decide_eq_true_eq, Bool.not_eq_true', beq_eq_false_iff_ne, ne_eq]; refine ⟨⟨⟨by omega, by omega⟩, ?_⟩, ?_⟩
    · intro hc; rw [hc] at e; simp at e; omega
    · intro hc; rw [hc] at e; simp at e; omega
  rw [this] at h; cases h
end Go.Proofs.YtbeelgaganbblaaDoor.Tok
namespace Go.Proofs.YtbeelgaganbblaaDoor.Tok
open Go.RowKit Go.Proofs.YtbeelgaganbblaaDoorW.PrintWords Go.Proofs.YtbeelgaganbblaaDoor Go.Proofs.YtbeelgaganbblaaDoor.By
set_option linter.unusedVariables false
set_option linter.unusedSimpArgs false
set_option maxRecDepth 100000
theorem ret_tok {a b : Int} {s : ByteArray} {R : Int × ByteArray × Int} (h : R = (a, s, b)) : Ending.returned (.agg #[.int .i64 a, .string s, .int .i64 b]) = .returned (.agg #[.int .i64 R.1, .string R.2.1, .int .i64 R.2.2]) := by
  rw [h]
set_option maxHeartbeats 8000000 in
theorem spec_named (s : ByteArray) (i : Nat) (w : World) (hs : s.size ≤ 140737488351232) (hi : i < s.size) (c : Int) (hc : bt s i = c) (c0 : 0 ≤ c) (c1 : c ≤ 255) (n1 : (c == 34) = false) (n2 : (c == 124) = false) (n3 : (c == 58) = false) (n4 : (c == 35) = false) (nd : c < 48 ∨ 57 < c) (hn : nmB c = true) (R : Int × ByteArray × Int) (HR : Hid (named s i = R)) :
    Calls Tryd.prog 77 #[.string s, .int .i64 i] w fun e w' => e = .returned (.agg #[.int .i64 R.1, .string R.2.1, .int .i64 R.2.2]) ∧ Below w.heap.size w w' := by
  have hx : ∀ h : i < s.size, ((s[i]'h).toNat : Int) = bt s i := ZH s i; obtain ⟨E, hE⟩ : ∃ E, i + 1 + scan nm ((L s).drop (i + 1)) = E := ⟨_, rfl⟩
  obtain ⟨hE3, hE4⟩ : i + 1 ≤ E ∧ E ≤ s.size := by have := scan_bound s nm (i + 1) (by omega); omega
  have HEE : Hid (i + 1 + scan nm ((L s).drop (i + 1)) = E) := hE
  have HE : Hid (nm (at_ s i) = true) := by show nm (at_ s i) = true; unfold nm; rw [← at_int s i hi, hc]; exact hn
  clear hE
  rcases nd with nd | nd
  all_goals
    go_enter Tryd.func77, Tryd.ntmps77; go_wp2_with (first | (go_at_call 75; refine (spec_l3NameByte_any _ _ (by omega) (by omega)).mono ?_; rintro e w' ⟨rfl, rfl⟩) | go_in); go_loop [11] (fun v => ∃ k : Nat, i ≤ k ∧ k ≤ s.size ∧ v = .int .i64 k ∧ Hid (k + scan nm ((L s).drop k) = E)) (fun v => s.size - (intOf v).toNat)
    case atStart => exact ⟨i, by omega, by omega, by first | rfl | go_num, by show _ = _; rw [scan_step hi HE.out, ← HEE.out]; omega⟩
    case round =>
      obtain ⟨k, hk1, hk2, rfl, Hk⟩ := hrel
      by_cases hltk : k < s.size
      · have hxk : ∀ h : k < s.size, ((s[k]'h).toNat : Int) = bt s k := ZH s k; obtain ⟨b0k, b1k⟩ := bt_range s k; obtain ⟨dk, hdk⟩ : ∃ d, bt s k = d := ⟨_, rfl⟩; have HAk : Hid (((at_ s k).toNat : Int) = dk) := (at_int s k hltk).symm.trans hdk; rw [hdk] at b0k b1k
        by_cases hpk : nm (at_ s k) = true
        · have HPk : Hid (nm (at_ s k) = true) := hpk; clear hpk
          have HNk : nmB dk = true := by have := HPk.out; unfold nm at this; rwa [HAk.out] at this
          go_wp2_with ((go_at_call 75; refine (spec_l3NameByte_any _ _ (by omega) (by omega)).mono ?_; rintro e w' ⟨rfl, rfl⟩)); go_round
          case rel => exact ⟨k + 1, by omega, by omega, by go_num, by show _ = _; rw [← Hk.out, scan_step hltk HPk.out]; omega⟩
          case measure => simp [intOf]; omega
        · have HPk : Hid (nm (at_ s k) = false) := Bool.eq_false_iff.2 hpk
          have hkEk : Hid (k = E) := by show k = E; rw [← Hk.out, scan_stop hltk HPk.out]; rfl
          clear hpk
          have HNk : nmB dk = false := by have := HPk.out; unfold nm at this; rwa [HAk.out] at this
          go_wp2_with ((go_at_call 75; refine (spec_l3NameByte_any _ _ (by omega) (by omega)).mono ?_; rintro e w' ⟨rfl, rfl⟩)); exact bodyPost_ret (v := .agg #[.int .i64 2, .string (s.extract i k), .int .i64 k]) (by simp [results, Tryd.results77, go_sem]) rfl ⟨ret_tok (by rw [← HR.out]; unfold named; rw [HEE.out, hkEk.out]), (Below.refl _ _).alloc (Nat.le_refl _) _⟩
      · have hkEk : Hid (k = E) := by show k = E; rw [← Hk.out, scan_end (by omega)]; rfl
        go_wp2_with (fail); exact bodyPost_ret (v := .agg #[.int .i64 2, .string (s.extract i k), .int .i64 k]) (by simp [results, Tryd.results77, go_sem]) rfl ⟨ret_tok (by rw [← HR.out]; unfold named; rw [HEE.out, hkEk.out]), (Below.refl _ _).alloc (Nat.le_refl _) _⟩
set_option maxHeartbeats 8000000 in
theorem spec_keyed (s : ByteArray) (i : Nat) (w : World) (hs : s.size ≤ 140737488351232) (hi : i < s.size) (hc : bt s i = 58) (R : Int × ByteArray × Int) (HR : Hid (keyed s i = R)) :
    Calls Tryd.prog 77 #[.string s, .int .i64 i] w fun e w' => e = .returned (.agg #[.int .i64 R.1, .string R.2.1, .int .i64 R.2.2]) ∧ Below w.heap.size w w' := by
  have hx : ∀ h : i < s.size, ((s[i]'h).toNat : Int) = bt s i := ZH s i; obtain ⟨E, hE⟩ : ∃ E, i + 1 + scan nm ((L s).drop (i + 1)) = E := ⟨_, rfl⟩
  obtain ⟨hE3, hE4⟩ : i + 1 ≤ E ∧ E ≤ s.size := by have := scan_bound s nm (i + 1) (by omega); omega
  have HEE : Hid (i + 1 + scan nm ((L s).drop (i + 1)) = E) := hE; clear hE; go_enter Tryd.func77, Tryd.ntmps77; go_wp2_with (first | (go_at_call 75; refine (spec_l3NameByte_any _ _ (by omega) (by omega)).mono ?_; rintro e w' ⟨rfl, rfl⟩) | go_in); go_loop [9] (fun v => ∃ k : Nat, i + 1 ≤ k ∧ k ≤ s.size ∧ v = .int .i64 k ∧ Hid (k + scan nm ((L s).drop k) = E)) (fun v => s.size - (intOf v).toNat)
  case atStart => exact ⟨i + 1, by omega, by omega, by first | rfl | go_num, HEE⟩
  case round =>
    obtain ⟨k, hk1, hk2, rfl, Hk⟩ := hrel
    by_cases hltk : k < s.size
    · have hxk : ∀ h : k < s.size, ((s[k]'h).toNat : Int) = bt s k := ZH s k; obtain ⟨b0k, b1k⟩ := bt_range s k; obtain ⟨dk, hdk⟩ : ∃ d, bt s k = d := ⟨_, rfl⟩; have HAk : Hid (((at_ s k).toNat : Int) = dk) := (at_int s k hltk).symm.trans hdk; rw [hdk] at b0k b1k
      by_cases hpk : nm (at_ s k) = true
      · have HPk : Hid (nm (at_ s k) = true) := hpk; clear hpk
        have HNk : nmB dk = true := by have := HPk.out; unfold nm at this; rwa [HAk.out] at this
        go_wp2_with ((go_at_call 75; refine (spec_l3NameByte_any _ _ (by omega) (by omega)).mono ?_; rintro e w' ⟨rfl, rfl⟩)); go_round
        case rel => exact ⟨k + 1, by omega, by omega, by go_num, by show _ = _; rw [← Hk.out, scan_step hltk HPk.out]; omega⟩
        case measure => simp [intOf]; omega
      · have HPk : Hid (nm (at_ s k) = false) := Bool.eq_false_iff.2 hpk
        have hkEk : Hid (k = E) := by show k = E; rw [← Hk.out, scan_stop hltk HPk.out]; rfl
        clear hpk
        have HNk : nmB dk = false := by have := HPk.out; unfold nm at this; rwa [HAk.out] at this
        by_cases hq : k = i + 1
        · have hq1 : ((k : Int) == (i : Int) + 1) = true := by rw [beq_iff_eq]; omega
          have hq2 : Hid (k = i + 1) := hq; clear hq; go_wp2_with ((go_at_call 75; refine (spec_l3NameByte_any _ _ (by omega) (by omega)).mono ?_; rintro e w' ⟨rfl, rfl⟩)); exact bodyPost_ret (v := .agg #[.int .i64 0, .string ⟨#[]⟩, .int .i64 0]) (by simp [results, Tryd.results77, go_sem]) rfl ⟨ret_tok (by rw [← HR.out]; unfold keyed; rw [HEE.out, if_pos (by have := hkEk.out; have := hq2.out; omega)]; rfl), (Below.refl _ _).alloc (Nat.le_refl _) _⟩
        · have hq1 : ((k : Int) == (i : Int) + 1) = false := by rw [beq_eq_false_iff_ne]; omega
          go_wp2_with ((go_at_call 75; refine (spec_l3NameByte_any _ _ (by omega) (by omega)).mono ?_; rintro e w' ⟨rfl, rfl⟩)); exact bodyPost_ret (v := .agg #[.int .i64 7, .string (s.extract (i + 1) k), .int .i64 k]) (by simp [results, Tryd.results77, go_sem]) rfl ⟨ret_tok (by rw [← HR.out]; unfold keyed; rw [HEE.out, if_neg (by have := hkEk.out; omega), hkEk.out]), (Below.refl _ _).alloc (Nat.le_refl _) _⟩
    · have hkEk : Hid (k = E) := by show k = E; rw [← Hk.out, scan_end (by omega)]; rfl
      by_cases hq : k = i + 1
      · have hq1 : ((k : Int) == (i : Int) + 1) = true := by rw [beq_iff_eq]; omega
        have hq2 : Hid (k = i + 1) := hq; clear hq; go_wp2_with (fail); exact bodyPost_ret (v := .agg #[.int .i64 0, .string ⟨#[]⟩, .int .i64 0]) (by simp [results, Tryd.results77, go_sem]) rfl ⟨ret_tok (by rw [← HR.out]; unfold keyed; rw [HEE.out, if_pos (by have := hkEk.out; have := hq2.out; omega)]; rfl), (Below.refl _ _).alloc (Nat.le_refl _) _⟩
      · have hq1 : ((k : Int) == (i : Int) + 1) = false := by rw [beq_eq_false_iff_ne]; omega
        go_wp2_with (fail); exact bodyPost_ret (v := .agg #[.int .i64 7, .string (s.extract (i + 1) k), .int .i64 k]) (by simp [results, Tryd.results77, go_sem]) rfl ⟨ret_tok (by rw [← HR.out]; unfold keyed; rw [HEE.out, if_neg (by have := hkEk.out; omega), hkEk.out]), (Below.refl _ _).alloc (Nat.le_refl _) _⟩
set_option maxHeartbeats 8000000 in
theorem spec_barred (s : ByteArray) (i : Nat) (w : World) (hs : s.size ≤ 140737488351232) (hi : i < s.size) (hc : bt s i = 124) (R : Int × ByteArray × Int) (HR : Hid (barred s i = R)) :
    Calls Tryd.prog 77 #[.string s, .int .i64 i] w fun e w' => e = .returned (.agg #[.int .i64 R.1, .string R.2.1, .int .i64 R.2.2]) ∧ Below w.heap.size w w' := by
  have hx : ∀ h : i < s.size, ((s[i]'h).toNat : Int) = bt s i := ZH s i; obtain ⟨E, hE⟩ : ∃ E, i + 1 + scan inb ((L s).drop (i + 1)) = E := ⟨_, rfl⟩
  obtain ⟨hE3, hE4⟩ : i + 1 ≤ E ∧ E ≤ s.size := by have := scan_bound s inb (i + 1) (by omega); omega
  have HEE : Hid (i + 1 + scan inb ((L s).drop (i + 1)) = E) := hE; clear hE; go_enter Tryd.func77, Tryd.ntmps77; go_wp2_with (first | (go_at_call 75; refine (spec_l3NameByte_any _ _ (by omega) (by omega)).mono ?_; rintro e w' ⟨rfl, rfl⟩) | go_in); go_loop [8] (fun v => ∃ k : Nat, i + 1 ≤ k ∧ k ≤ s.size ∧ v = .int .i64 k ∧ Hid (k + scan inb ((L s).drop k) = E)) (fun v => s.size - (intOf v).toNat)
  case atStart => exact ⟨i + 1, by omega, by omega, by first | rfl | go_num, HEE⟩
  case round =>
    obtain ⟨k, hk1, hk2, rfl, Hk⟩ := hrel
    by_cases hltk : k < s.size
    · have hxk : ∀ h : k < s.size, ((s[k]'h).toNat : Int) = bt s k := ZH s k; obtain ⟨b0k, b1k⟩ := bt_range s k; obtain ⟨dk, hdk⟩ : ∃ d, bt s k = d := ⟨_, rfl⟩; have HAk : Hid (((at_ s k).toNat : Int) = dk) := (at_int s k hltk).symm.trans hdk; rw [hdk] at b0k b1k
      by_cases hpk : inb (at_ s k) = true
      · have HPk : Hid (inb (at_ s k) = true) := hpk; clear hpk; have HBk : 32 ≤ dk ∧ dk ≤ 126 ∧ dk ≠ 124 ∧ dk ≠ 92 := inb_yes HPk.out HAk.out; obtain ⟨g1, g2, g3, g4⟩ := HBk; have g3' : (dk != 124) = true := bne_iff_ne.2 g3; have g4' : (dk != 92) = true := bne_iff_ne.2 g4; clear g3 g4; go_wp2_with (fail); go_round
        case rel => exact ⟨k + 1, by omega, by omega, by go_num, by show _ = _; rw [← Hk.out, scan_step hltk HPk.out]; omega⟩
        case measure => simp [intOf]; omega
      · have HPk : Hid (inb (at_ s k) = false) := Bool.eq_false_iff.2 hpk
        have hkEk : Hid (k = E) := by show k = E; rw [← Hk.out, scan_stop hltk HPk.out]; rfl
        clear hpk; have HBk := inb_no HPk.out HAk.out
        rcases HBk with g | g | g | g
        · go_wp2_with (fail); exact bodyPost_ret (v := .agg #[.int .i64 0, .string ⟨#[]⟩, .int .i64 0]) (by simp [results, Tryd.results77, go_sem]) rfl ⟨ret_tok (by rw [← HR.out]; unfold barred; rw [HEE.out, ← hkEk.out, if_neg (by rw [get_at s k hltk]; intro e; have := HAk.out; rw [Option.some.inj e] at this; simp at this <;> omega)]; rfl), (Below.refl _ _).alloc (Nat.le_refl _) _⟩
        · go_wp2_with (fail); exact bodyPost_ret (v := .agg #[.int .i64 0, .string ⟨#[]⟩, .int .i64 0]) (by simp [results, Tryd.results77, go_sem]) rfl ⟨ret_tok (by rw [← HR.out]; unfold barred; rw [HEE.out, ← hkEk.out, if_neg (by rw [get_at s k hltk]; intro e; have := HAk.out; rw [Option.some.inj e] at this; simp at this <;> omega)]; rfl), (Below.refl _ _).alloc (Nat.le_refl _) _⟩
        · subst g; go_wp2_with (fail); exact bodyPost_ret (v := .agg #[.int .i64 2, .string (s.extract (i + 1) k), .int .i64 (k + 1 : Nat)]) (by simp [results, Tryd.results77, go_sem]) rfl ⟨ret_tok (by rw [← HR.out]; unfold barred; rw [HEE.out, ← hkEk.out, if_pos (by rw [get_at s k hltk, show at_ s k = 124 from (u8_eq 124 (by omega)).1 (by have := HAk.out; omega)])]), (Below.refl _ _).alloc (Nat.le_refl _) _⟩
        · subst g; go_wp2_with (fail); exact bodyPost_ret (v := .agg #[.int .i64 0, .string ⟨#[]⟩, .int .i64 0]) (by simp [results, Tryd.results77, go_sem]) rfl ⟨ret_tok (by rw [← HR.out]; unfold barred; rw [HEE.out, ← hkEk.out, if_neg (by rw [get_at s k hltk]; intro e; have := HAk.out; rw [Option.some.inj e] at this; simp at this <;> omega)]; rfl), (Below.refl _ _).alloc (Nat.le_refl _) _⟩
    · have hkEk : Hid (k = E) := by show k = E; rw [← Hk.out, scan_end (by omega)]; rfl
      go_wp2_with (fail); exact bodyPost_ret (v := .agg #[.int .i64 0, .string ⟨#[]⟩, .int .i64 0]) (by simp [results, Tryd.results77, go_sem]) rfl ⟨ret_tok (by rw [← HR.out]; unfold barred; rw [HEE.out, ← hkEk.out, if_neg (by rw [get_end s k (by omega)]; simp)]; rfl), (Below.refl _ _).alloc (Nat.le_refl _) _⟩
end Go.Proofs.YtbeelgaganbblaaDoor.Tok
namespace Go.Proofs.YtbeelgaganbblaaDoor.Tok
open Go.RowKit Go.Proofs.YtbeelgaganbblaaDoorW.PrintWords Go.Proofs.YtbeelgaganbblaaDoor Go.Proofs.YtbeelgaganbblaaDoor.By
set_option linter.unusedVariables false
set_option linter.unusedSimpArgs false
set_option maxRecDepth 100000
theorem info5 : (Tryd.prog.info? 5).map (fun i => (i.zero, i.size, i.bytes)) = some (some (.int .u8 0), 1, 1) := by kernel_rfl
def ints (l : List UInt8) : List Int := l.map fun c => (c.toNat : Int)
theorem ints_len (l : List UInt8) : (ints l).length = l.length := by unfold ints; rw [List.length_map]
theorem str_ints (l : List UInt8) : strOfNums (ints l) = ⟨l.toArray⟩ := by
  unfold strOfNums ints; simp only [List.map_map]
  congr 2
  have e : ((fun n : Int => UInt8.ofNat n.toNat) ∘ fun c : UInt8 => (c.toNat : Int)) = id := by funext c; simp [UInt8.ofNat_toNat]
  rw [e, List.map_id]
theorem ints_snoc (l : List UInt8) (c : UInt8) : nums .u8 (ints l) ++ [.int .u8 (c.toNat : Int)] = nums .u8 (ints (l ++ [c])) := by
  unfold ints nums; simp
def QRel (s : ByteArray) (i B : Nat) (W0 : World) (E : Option (List UInt8 × Nat)) (v6 v7 : Value) (wr : World) : Prop :=
  ∃ (k : Nat) (acc : List UInt8), i + 1 ≤ k ∧ k ≤ s.size ∧ v7 = .int .i64 k ∧ txt ((L s).drop k) acc k = E ∧ acc.length ≤ k ∧ wr.ownsRow (B + 1) 5 1 v6 acc.length (nums .u8 (ints acc)) ∧ Below (B + 1) W0 wr ∧ B + 1 ≤ wr.heap.size
theorem q_step {B : Nat} {W0 wr w1 : World} {v6 v' : Value} {acc : List UInt8} {c : UInt8} {o : Obj} (hown : wr.ownsRow (B + 1) 5 1 v6 acc.length (nums .u8 (ints acc))) (hbel : Below (B + 1) W0 wr) (hsz : B + 1 ≤ wr.heap.size)
    (hown' : w1.ownsRow (B + 1) 5 1 v' (acc.length + 1) (nums .u8 (ints acc) ++ [.int .u8 (c.toNat : Int)])) (hgrow : (wr.alloc o).grownBy w1 v6.ownBlock) :
    w1.ownsRow (B + 1) 5 1 v' (acc ++ [c]).length (nums .u8 (ints (acc ++ [c]))) ∧ Below (B + 1) W0 w1 ∧ B + 1 ≤ w1.heap.size := by
  refine ⟨?_, (hbel.alloc (by omega) o).grown hgrow (by simp; omega) (fun j hj => by have := (hown.lt j hj).1; omega), ?_⟩
  · rw [← ints_snoc, List.length_append]; exact hown'
  · have := hgrow.size; simp at this; omega
theorem txt_quote2 {t : List UInt8} {acc : List UInt8} {k : Nat} : txt (34 :: 34 :: t) acc k = txt t (acc ++ [34]) (k + 2) := by simp [txt]
theorem txt_other {c : UInt8} {t : List UInt8} {acc : List UInt8} {k : Nat} (h : c ≠ 34) (hq : inq c = true) : txt (c :: t) acc k = txt t (acc ++ [c]) (k + 1) := by
  cases t with
  | nil => simp [txt, h]
  | cons d t => simp [txt, h, hq]
theorem txt_bad {c : UInt8} {t : List UInt8} {acc : List UInt8} {k : Nat} (h : c ≠ 34) (hq : inq c = false) : txt (c :: t) acc k = none := by
  cases t with
  | nil => simp [txt, h]
  | cons d t => simp [txt, h, hq]
theorem txt_end1 {acc : List UInt8} {k : Nat} : txt [34] acc k = some (acc, k + 1) := by simp [txt]
theorem txt_end2 {d : UInt8} {t : List UInt8} {acc : List UInt8} {k : Nat} (h : d ≠ 34) : txt (34 :: d :: t) acc k = some (acc, k + 1) := by simp [txt, h]
theorem inq_yes {c : UInt8} {d : Int} (h : inq c = true) (e : (c.toNat : Int) = d) : d = 10 ∨ (32 ≤ d ∧ d ≤ 126) := by
  unfold inq at h; simp only [Bool.or_eq_true, beq_iff_eq, Bool.and_eq_true, decide_eq_true_eq] at h
  rcases h with h | h
  · left; rw [h] at e; simp at e; omega
  · right; omega
theorem inq_no {c : UInt8} {d : Int} (h : inq c = false) (e : (c.toNat : Int) = d) : d ≠ 10 ∧ (d < 32 ∨ 126 < d) := by
  unfold inq at h; simp only [Bool.or_eq_false_iff, beq_eq_false_iff_ne, ne_eq, Bool.and_eq_false_iff, decide_eq_false_iff_not] at h; obtain ⟨h1, h2⟩ := h; refine ⟨fun hd => h1 ((u8_eq 10 (by omega)).1 (by omega)), by omega⟩
theorem qbelow {w wr : World} {o : Obj} {a b c : Value} (h : Below (w.heap.size + 1) (w.alloc o) wr) :
    Below w.heap.size w (((wr.setCell ⟨w.heap.size, 0, none⟩ a).setCell ⟨w.heap.size, 1, none⟩ b).setCell ⟨w.heap.size, 2, none⟩ c) :=
  ((((((Below.refl _ _).alloc (Nat.le_refl _) o).trans (h.mono (by omega))).setCell (Nat.le_refl _) _).setCell (Nat.le_refl _) _).setCell (Nat.le_refl _) _)
set_option maxHeartbeats 8000000 in
theorem spec_quoted (s : ByteArray) (i : Nat) (w : World) (hs : s.size ≤ 140737488351232) (hi : i < s.size) (hc : bt s i = 34) (R : Int × ByteArray × Int) (HR : Hid (quoted s i = R)) :
    Calls Tryd.prog 77 #[.string s, .int .i64 i] w fun e w' => e = .returned (.agg #[.int .i64 R.1, .string R.2.1, .int .i64 R.2.2]) ∧ Below w.heap.size w w' := by
  have hx : ∀ h : i < s.size, ((s[i]'h).toNat : Int) = bt s i := ZH s i; obtain ⟨E, hE⟩ : ∃ E, txt ((L s).drop (i + 1)) [] (i + 1) = E := ⟨_, rfl⟩; have HEE : Hid (txt ((L s).drop (i + 1)) [] (i + 1) = E) := hE
  have HRN : Hid (E = none → R = noTok) := by intro h; rw [← HR.out]; unfold quoted; rw [hE, h]
  have HRS : Hid (∀ o k, E = some (o, k) → R = (6, ⟨o.toArray⟩, (k : Int))) := by intro o k h; rw [← HR.out]; unfold quoted; rw [hE, h]
  clear hE; obtain ⟨i0, hif, hz0, hz1, hz2⟩ := info_parts info5; have HI : Hid (Tryd.prog.info? 5 = some i0 ∧ i0.zero = some (.int .u8 0) ∧ i0.size = 1 ∧ i0.bytes = 1) := ⟨hif, hz0, hz1, hz2⟩; clear hif hz0 hz1 hz2; go_enter Tryd.func77, Tryd.ntmps77; go_wp2_with (fail); go_loopw [6, 7] (fun v6 v7 wr => QRel s i w.heap.size (w.alloc (Obj.cells #[Value.int IntKind.i64 0, Value.string { data := #[] }, Value.int IntKind.i64 0] 111)) E v6 v7 wr) (fun _ v7 _ => s.size - (intOf v7).toNat)
  case atStart => exact ⟨i + 1, [], by omega, by omega, by first | rfl | go_num, HEE.out, by simp, World.ownsRow_nil _ _ _ _, Below.refl _ _, by simp⟩
  case round =>
    obtain ⟨k, acc, hk1, hk2, rfl, hT, hal, hown, hbel, hsz⟩ := hrel; have HT : Hid (txt ((L s).drop k) acc k = E) := hT; have HO : Hid (wr.ownsRow (w.heap.size + 1) 5 1 u6 acc.length (nums .u8 (ints acc))) := hown; have HB : Hid (Below (w.heap.size + 1) (w.alloc (Obj.cells #[Value.int IntKind.i64 0, Value.string { data := #[] }, Value.int IntKind.i64 0] 111)) wr) := hbel
    have q0 : wr.cell? ⟨w.heap.size, 0, none⟩ = some (.int .i64 0) := by rw [hbel.cell (p := ⟨w.heap.size, 0, none⟩) (by show w.heap.size < _; omega)]; exact World.cell?_alloc_at _ _ _ _ rfl
    have q1 : wr.cell? ⟨w.heap.size, 1, none⟩ = some (.string ⟨#[]⟩) := by rw [hbel.cell (p := ⟨w.heap.size, 1, none⟩) (by show w.heap.size < _; omega)]; exact World.cell?_alloc_at _ _ _ _ rfl
    have q2 : wr.cell? ⟨w.heap.size, 2, none⟩ = some (.int .i64 0) := by rw [hbel.cell (p := ⟨w.heap.size, 2, none⟩) (by show w.heap.size < _; omega)]; exact World.cell?_alloc_at _ _ _ _ rfl
    have q3 : wr.frozen? ⟨w.heap.size, 0, none⟩ = false := by rw [hbel.frozen (p := ⟨w.heap.size, 0, none⟩) (by show w.heap.size < _; omega)]; exact World.frozen?_alloc_at _ _ _ _ rfl
    have q4 : wr.frozen? ⟨w.heap.size, 1, none⟩ = false := by rw [hbel.frozen (p := ⟨w.heap.size, 1, none⟩) (by show w.heap.size < _; omega)]; exact World.frozen?_alloc_at _ _ _ _ rfl
    have q5 : wr.frozen? ⟨w.heap.size, 2, none⟩ = false := by rw [hbel.frozen (p := ⟨w.heap.size, 2, none⟩) (by show w.heap.size < _; omega)]; exact World.frozen?_alloc_at _ _ _ _ rfl
    clear hT hown hbel
    by_cases hlt : k < s.size
    · have hxk : ∀ h : k < s.size, ((s[k]'h).toNat : Int) = bt s k := ZH s k; obtain ⟨b0, b1⟩ := bt_range s k; obtain ⟨d, hd⟩ : ∃ d, bt s k = d := ⟨_, rfl⟩; have HA : Hid (((at_ s k).toNat : Int) = d) := (at_int s k hlt).symm.trans hd; have HD : Hid ((L s).drop k = at_ s k :: (L s).drop (k + 1)) := drop_at s k hlt; rw [hd] at b0 b1
      by_cases h34 : d = 34
      · subst h34; have H34 : Hid (at_ s k = 34) := (u8_eq 34 (by omega)).1 HA.out
        by_cases hl2 : k + 1 < s.size
        · have hx2 : ∀ h : k + 1 < s.size, ((s[k + 1]'h).toNat : Int) = bt s (k + 1 : Nat) := ZH s (k + 1 : Nat); obtain ⟨d2, hd2⟩ : ∃ d, bt s (k + 1 : Nat) = d := ⟨_, rfl⟩; have HA2 : Hid (((at_ s (k + 1)).toNat : Int) = d2) := (at_int s (k + 1) hl2).symm.trans hd2; have HD2 : Hid ((L s).drop (k + 1) = at_ s (k + 1) :: (L s).drop (k + 2)) := drop_at s (k + 1) hl2; rw [hd2] at hx2
          by_cases h342 : d2 = 34
          · subst h342; have H342 : Hid (at_ s (k + 1) = 34) := (u8_eq 34 (by omega)).1 HA2.out; go_wp2_with (at_builtin; refine wpList_append_own _ rfl _ _ 37 rfl (w.heap.size + 1) 5 i0 (.int .u8 0) 1 1 Tryd.underlying37 HI.out.1 HI.out.2.1 HI.out.2.2.1 HI.out.2.2.2 rfl (by decide) _ _ _ rfl (HO.out.alloc _) ⟨wr.heap.size, 0, none⟩ 1 1 [.int .u8 34] rfl rfl (cell_one_new _ _ _) (by simp [Value.oneCell']) (by unfold maxLen; omega) (by omega) (by simp; omega) ?_; intro v' w1 hown' hgrow _)
            go_roundw
            case rel =>
              obtain ⟨ha, hb, hc'⟩ := q_step (c := 34) HO.out HB.out hsz (by first | exact hown' | (rw [HA.out]; exact hown')) hgrow; exact ⟨k + 2, acc ++ [34], by omega, by omega, by go_num, by rw [← HT.out, HD.out, H34.out, HD2.out, H342.out, txt_quote2], by simp; omega, ha, hb, hc'⟩
            case measure => simp [intOf]; omega
          · have h342' : (d2 == 34) = false := beq_eq_false_iff_ne.2 h342
            have H342 : Hid (at_ s (k + 1) ≠ 34) := by intro e; have := HA2.out; rw [e] at this; simp at this; omega
            clear h342; have hcv := own_string (P := Tryd.prog) (w := wr) Tryd.underlying37 Tryd.underlying5 Tryd.underlying9 HO.out; go_wp2_with (fail); exact bodyPost_ret (v := .agg #[.int .i64 6, .string (strOfNums (ints acc)), .int .i64 ((k : Int) + 1)]) (by simp [results, Tryd.results77, go_sem, q0, q1, q2, q3, q4, q5]) rfl ⟨ret_tok (R := R) (by rw [str_ints]; exact HRS.out _ _ (by rw [← HT.out, HD.out, H34.out, HD2.out, txt_end2 H342.out])), qbelow HB.out⟩
        · have HZ : Hid ((L s).drop (k + 1) = []) := drop_all s (k + 1) (by omega); have hcv := own_string (P := Tryd.prog) (w := wr) Tryd.underlying37 Tryd.underlying5 Tryd.underlying9 HO.out; go_wp2_with (fail); exact bodyPost_ret (v := .agg #[.int .i64 6, .string (strOfNums (ints acc)), .int .i64 ((k : Int) + 1)]) (by simp [results, Tryd.results77, go_sem, q0, q1, q2, q3, q4, q5]) rfl ⟨ret_tok (R := R) (by rw [str_ints]; exact HRS.out _ _ (by rw [← HT.out, HD.out, H34.out, HZ.out, txt_end1])), qbelow HB.out⟩
      · have h34' : (d == 34) = false := beq_eq_false_iff_ne.2 h34
        have H34 : Hid (at_ s k ≠ 34) := by intro e; have := HA.out; rw [e] at this; simp at this; omega
        clear h34
        by_cases hq : inq (at_ s k) = true
        · have HQ : Hid (inq (at_ s k) = true) := hq; clear hq
          rcases inq_yes HQ.out HA.out with g | ⟨g1, g2⟩
          · subst g; have H10 : Hid (at_ s k = 10) := (u8_eq 10 (by omega)).1 HA.out; go_wp2_with (at_builtin; refine wpList_append_own _ rfl _ _ 37 rfl (w.heap.size + 1) 5 i0 (.int .u8 0) 1 1 Tryd.underlying37 HI.out.1 HI.out.2.1 HI.out.2.2.1 HI.out.2.2.2 rfl (by decide) _ _ _ rfl (HO.out.alloc _) ⟨wr.heap.size, 0, none⟩ 1 1 [.int .u8 10] rfl rfl (cell_one_new _ _ _) (by simp [Value.oneCell']) (by unfold maxLen; omega) (by omega) (by simp; omega) ?_; intro v' w1 hown' hgrow _)
            go_roundw
            case rel =>
              obtain ⟨ha, hb, hc'⟩ := q_step (c := 10) HO.out HB.out hsz (by first | exact hown' | (rw [HA.out]; exact hown')) hgrow; exact ⟨k + 1, acc ++ [10], by omega, by omega, by go_num, by rw [← HT.out, HD.out, H10.out, txt_other (by decide) (by decide)], by simp; omega, ha, hb, hc'⟩
            case measure => simp [intOf]; omega
          · have g3 : (d != 10) = true := bne_iff_ne.2 (by omega); go_wp2_with (at_builtin; refine wpList_append_own _ rfl _ _ 37 rfl (w.heap.size + 1) 5 i0 (.int .u8 0) 1 1 Tryd.underlying37 HI.out.1 HI.out.2.1 HI.out.2.2.1 HI.out.2.2.2 rfl (by decide) _ _ _ rfl (HO.out.alloc _) ⟨wr.heap.size, 0, none⟩ 1 1 [.int .u8 d] rfl rfl (cell_one_new _ _ _) (by simp [Value.oneCell']) (by unfold maxLen; omega) (by omega) (by simp; omega) ?_; intro v' w1 hown' hgrow _)
            go_roundw
            case rel =>
              obtain ⟨ha, hb, hc'⟩ := q_step (c := at_ s k) HO.out HB.out hsz (by first | exact hown' | (rw [HA.out]; exact hown')) hgrow; exact ⟨k + 1, acc ++ [at_ s k], by omega, by omega, by go_num, by rw [← HT.out, HD.out, txt_other H34.out HQ.out], by simp; omega, ha, hb, hc'⟩
            case measure => simp [intOf]; omega
        · have HQ : Hid (inq (at_ s k) = false) := Bool.eq_false_iff.2 hq; clear hq; obtain ⟨g0, g1⟩ := inq_no HQ.out HA.out; have g3 : (d != 10) = true := bne_iff_ne.2 g0; clear g0
          rcases g1 with g | g
          · go_wp2_with (fail); exact bodyPost_ret (v := .agg #[.int .i64 0, .string ⟨#[]⟩, .int .i64 0]) (by simp [results, Tryd.results77, go_sem, q0, q1, q2, q3, q4, q5]) rfl ⟨ret_tok (R := R) (by exact HRN.out (by rw [← HT.out, HD.out, txt_bad H34.out HQ.out])), qbelow HB.out⟩
          · go_wp2_with (fail); exact bodyPost_ret (v := .agg #[.int .i64 0, .string ⟨#[]⟩, .int .i64 0]) (by simp [results, Tryd.results77, go_sem, q0, q1, q2, q3, q4, q5]) rfl ⟨ret_tok (R := R) (by exact HRN.out (by rw [← HT.out, HD.out, txt_bad H34.out HQ.out])), qbelow HB.out⟩
    · have HZ : Hid ((L s).drop k = []) := drop_all s k (by omega); go_wp2_with (fail); exact bodyPost_ret (v := .agg #[.int .i64 0, .string ⟨#[]⟩, .int .i64 0]) (by simp [results, Tryd.results77, go_sem, q0, q1, q2, q3, q4, q5]) rfl ⟨ret_tok (R := R) (by exact HRN.out (by rw [← HT.out, HZ.out]; first | rfl | simp [txt])), qbelow HB.out⟩
end Go.Proofs.YtbeelgaganbblaaDoor.Tok
namespace Go.Proofs.YtbeelgaganbblaaDoor.Tok
open Go.RowKit Go.Proofs.YtbeelgaganbblaaDoorW.PrintWords Go.Proofs.YtbeelgaganbblaaDoor Go.Proofs.YtbeelgaganbblaaDoor.By
set_option linter.unusedVariables false
set_option linter.unusedSimpArgs false
set_option maxRecDepth 100000
theorem hex_yes {c : UInt8} {d : Int} (h : hexd c = true) (e : (c.toNat : Int) = d) : (48 ≤ d ∧ d ≤ 57) ∨ (97 ≤ d ∧ d ≤ 102) ∨ (65 ≤ d ∧ d ≤ 70) := by
  unfold hexd dig at h; simp only [Bool.or_eq_true, Bool.and_eq_true, decide_eq_true_eq] at h; omega
theorem hex_no {c : UInt8} {d : Int} (h : hexd c = false) (e : (c.toNat : Int) = d) : ¬ (48 ≤ d ∧ d ≤ 57) ∧ ¬ (97 ≤ d ∧ d ≤ 102) ∧ ¬ (65 ≤ d ∧ d ≤ 70) := by
  unfold hexd dig at h; simp only [Bool.or_eq_false_iff, Bool.and_eq_false_iff, decide_eq_false_iff_not] at h; omega
theorem hexv_is {c : UInt8} {d : Int} (h : hexd c = true) (e : (c.toNat : Int) = d) : ((hexv c : Nat) : Int) = (if d ≤ 57 then d - 48 else if d ≤ 70 then d - 55 else d - 87) ∧ hexv c < 16 := by
  have := hex_yes h e; unfold hexv
  split
  · rw [if_pos (by omega)]; omega
  · split
    · rw [if_neg (by omega), if_pos (by omega)]; omega
    · rw [if_neg (by omega), if_neg (by omega)]; omega
theorem bit_table : ∀ h : Nat, h < 16 → (Go.bits .and .i64 (((h / 8 : Nat) : Int)) 1 = ((h / 8 % 2 : Nat) : Int)) ∧ (Go.bits .and .i64 (((h / 4 : Nat) : Int)) 1 = ((h / 4 % 2 : Nat) : Int)) ∧ (Go.bits .and .i64 (((h / 2 : Nat) : Int)) 1 = ((h / 2 % 2 : Nat) : Int)) ∧ (Go.bits .and .i64 (((h : Nat) : Int)) 1 = ((h % 2 : Nat) : Int)) := by decide +kernel
theorem ret_int' {k : IntKind} {a b : Int} (h : a = b) : Ending.returned (.int k a) = .returned (.int k b) := by rw [h]
theorem spec_hex (c : Int) (w : World) (h0 : 0 ≤ c) (h1 : c ≤ 255) (v : Int) (hv : v = (if 48 ≤ c ∧ c ≤ 57 then c - 48 else if 97 ≤ c ∧ c ≤ 102 then c - 87 else if 65 ≤ c ∧ c ≤ 70 then c - 55 else -1)) :
    Calls Tryd.prog 118 #[.int .u8 c] w fun e w' => e = .returned (.int .i64 v) ∧ w = w' := by
  have key : (48 ≤ c ∧ c ≤ 57 ∧ v = c - 48) ∨ (97 ≤ c ∧ c ≤ 102 ∧ v = c - 87) ∨ (65 ≤ c ∧ c ≤ 70 ∧ v = c - 55) ∨ ((c ≤ 47 ∨ (58 ≤ c ∧ c ≤ 64) ∨ (71 ≤ c ∧ c ≤ 96) ∨ 103 ≤ c) ∧ v = -1) := by
    rw [hv]
    by_cases a : 48 ≤ c ∧ c ≤ 57
    · rw [if_pos a]; omega
    · rw [if_neg a]
      by_cases b : 97 ≤ c ∧ c ≤ 102
      · rw [if_pos b]; omega
      · rw [if_neg b]
        by_cases d : 65 ≤ c ∧ c ≤ 70
        · rw [if_pos d]; omega
        · rw [if_neg d]; omega
  clear hv
  rcases key with ⟨a, b, rfl⟩ | ⟨a, b, rfl⟩ | ⟨a, b, rfl⟩ | ⟨a | ⟨a, b⟩ | ⟨a, b⟩ | a, rfl⟩
  all_goals
    go_enter Tryd.func118, Tryd.ntmps118; go_wp2_with (fail); go_ret; exact ⟨ret_int' (by omega), rfl⟩
def BRel (s : ByteArray) (i B : Nat) (W0 : World) (p : UInt8 → Bool) (g : UInt8 → List UInt8) (T : List UInt8) (v5 v6 : Value) (wr : World) : Prop :=
  ∃ (k : Nat) (src : List UInt8), i + 2 ≤ k ∧ k ≤ s.size ∧ v5 = .int .i64 k ∧ src ++ ((L s).drop k).takeWhile p = T ∧ k = i + 2 + src.length ∧ wr.ownsRow (B + 1) 5 1 v6 (src.flatMap g).length (nums .u8 (ints (src.flatMap g))) ∧ Below (B + 1) W0 wr ∧ B + 1 ≤ wr.heap.size
theorem tw_yes {s : ByteArray} {p : UInt8 → Bool} {k : Nat} (h : k < s.size) (hp : p (at_ s k) = true) : ((L s).drop k).takeWhile p = at_ s k :: ((L s).drop (k + 1)).takeWhile p := by rw [drop_at s k h, List.takeWhile_cons, if_pos hp]
theorem tw_no {s : ByteArray} {p : UInt8 → Bool} {k : Nat} (h : k < s.size) (hp : p (at_ s k) = false) : ((L s).drop k).takeWhile p = [] := by rw [drop_at s k h, List.takeWhile_cons, hp]; rfl
theorem tw_end {s : ByteArray} {p : UInt8 → Bool} {k : Nat} (h : s.size ≤ k) : ((L s).drop k).takeWhile p = [] := by rw [drop_all s k h]; rfl
theorem flat_one (l : List UInt8) : l.flatMap (fun c => [c]) = l := by induction l with
  | nil => rfl
  | cons c l ih => rw [List.flatMap_cons, ih]; rfl
theorem flat_snoc (l : List UInt8) (c : UInt8) (g : UInt8 → List UInt8) : (l ++ [c]).flatMap g = l.flatMap g ++ g c := by rw [List.flatMap_append]; simp
theorem four_len (l : List UInt8) : (l.flatMap four).length = 4 * l.length := by induction l with
  | nil => rfl
  | cons c l ih => rw [List.flatMap_cons, List.length_append, ih, List.length_cons]; simp [four]; omega
theorem len_own {w : World} {base : Nat} {v : Value} {n : Nat} {xs : List Value} (h : w.ownsRow base 5 1 v n xs) (W : World) :
    (Builtin.len_ #[37] 3 #[v]).run Tryd.prog W = .ok (.int .i64 (n : Int)) W := by
  rcases h.2 with ⟨rfl, rfl⟩ | ⟨g, cap, cur, rfl, _⟩
  · simp [Builtin.len_, run_underlying Tryd.underlying37]; rfl
  · simp [Builtin.len_, run_underlying Tryd.underlying37]; rfl
set_option maxHeartbeats 8000000 in
theorem spec_bin (s : ByteArray) (i : Nat) (w : World) (hs : s.size ≤ 35184372088000) (hi : i + 2 < s.size) (hb : bt s (i + 1 : Nat) = 98) (R : Int × ByteArray × Int) (HR : Hid (bits s i = R)) :
    Calls Tryd.prog 100 #[.string s, .int .i64 i] w fun e w' => e = .returned (.agg #[.int .i64 R.1, .string R.2.1, .int .i64 R.2.2]) ∧ Below w.heap.size w w' := by
  have hx : ∀ h : i + 1 < s.size, ((s[i + 1]'h).toNat : Int) = bt s (i + 1 : Nat) := ZH s (i + 1 : Nat); obtain ⟨T, hT⟩ : ∃ T, ((L s).drop (i + 2)).takeWhile bin = T := ⟨_, rfl⟩; have HTT : Hid (((L s).drop (i + 2)).takeWhile bin = T) := hT
  have hlet : (L s)[i + 1]? = some 98 := by rw [get_at s (i + 1) (by omega), show at_ s (i + 1) = 98 from (u8_eq 98 (by omega)).1 (by rw [← at_int s (i + 1) (by omega)]; exact hb)]
  have HRR : Hid (R = if T = [] then noTok else (5, ⟨(T).toArray⟩, ((i + 2 + T.length : Nat) : Int))) := by show R = _; rw [← HR.out]; unfold bits; rw [if_pos hlet, hT]
  clear hT hlet; rw [hb] at hx; clear hb; obtain ⟨i0, hif, hz0, hz1, hz2⟩ := info_parts info5; have HI : Hid (Tryd.prog.info? 5 = some i0 ∧ i0.zero = some (.int .u8 0) ∧ i0.size = 1 ∧ i0.bytes = 1) := ⟨hif, hz0, hz1, hz2⟩; clear hif hz0 hz1 hz2; have hi2 : ¬ s.size ≤ i + 2 := (by omega); go_enter Tryd.func100, Tryd.ntmps100; go_wp2_with (fail); go_loopw [5, 6] (fun v5 v6 wr => BRel s i w.heap.size (w.alloc (Obj.cells #[Value.int IntKind.i64 0, Value.string { data := #[] }, Value.int IntKind.i64 0] 111)) bin (fun c => [c]) T v5 v6 wr) (fun v5 _ _ => s.size - (intOf v5).toNat)
  case atStart => exact ⟨i + 2, [], by omega, by omega, by first | rfl | go_num, HTT.out, by simp, World.ownsRow_nil _ _ _ _, Below.refl _ _, by simp⟩
  case round =>
    obtain ⟨k, src, hk1, hk2, rfl, hS, hkl, hown, hbel, hsz⟩ := hrel; have HS : Hid (src ++ ((L s).drop k).takeWhile bin = T) := hS; have HL : Hid (k = i + 2 + src.length) := hkl; have hkl' : i + 2 + src.length ≤ k := (by omega); have hkl2 : k ≤ i + 2 + src.length := (by omega); obtain ⟨nn, hnn⟩ : ∃ nn, (src.flatMap (fun c => [c])).length = nn := ⟨_, rfl⟩
    have HO : Hid (wr.ownsRow (w.heap.size + 1) 5 1 u6 nn (nums .u8 (ints (src.flatMap (fun c => [c]))))) := by rw [← hnn]; exact hown
    have HNN : Hid ((src.flatMap (fun c => [c])).length = nn) := hnn; clear hnn; have HB : Hid (Below (w.heap.size + 1) (w.alloc (Obj.cells #[Value.int IntKind.i64 0, Value.string { data := #[] }, Value.int IntKind.i64 0] 111)) wr) := hbel
    have q0 : wr.cell? ⟨w.heap.size, 0, none⟩ = some (.int .i64 0) := by rw [hbel.cell (p := ⟨w.heap.size, 0, none⟩) (by show w.heap.size < _; omega)]; exact World.cell?_alloc_at _ _ _ _ rfl
    have q1 : wr.cell? ⟨w.heap.size, 1, none⟩ = some (.string ⟨#[]⟩) := by rw [hbel.cell (p := ⟨w.heap.size, 1, none⟩) (by show w.heap.size < _; omega)]; exact World.cell?_alloc_at _ _ _ _ rfl
    have q2 : wr.cell? ⟨w.heap.size, 2, none⟩ = some (.int .i64 0) := by rw [hbel.cell (p := ⟨w.heap.size, 2, none⟩) (by show w.heap.size < _; omega)]; exact World.cell?_alloc_at _ _ _ _ rfl
    have q3 : wr.frozen? ⟨w.heap.size, 0, none⟩ = false := by rw [hbel.frozen (p := ⟨w.heap.size, 0, none⟩) (by show w.heap.size < _; omega)]; exact World.frozen?_alloc_at _ _ _ _ rfl
    have q4 : wr.frozen? ⟨w.heap.size, 1, none⟩ = false := by rw [hbel.frozen (p := ⟨w.heap.size, 1, none⟩) (by show w.heap.size < _; omega)]; exact World.frozen?_alloc_at _ _ _ _ rfl
    have q5 : wr.frozen? ⟨w.heap.size, 2, none⟩ = false := by rw [hbel.frozen (p := ⟨w.heap.size, 2, none⟩) (by show w.heap.size < _; omega)]; exact World.frozen?_alloc_at _ _ _ _ rfl
    clear hS hkl hown hbel
    by_cases hlt : k < s.size
    · have hxk : ∀ h : k < s.size, ((s[k]'h).toNat : Int) = bt s k := ZH s k; obtain ⟨b0, b1⟩ := bt_range s k; obtain ⟨d, hd⟩ : ∃ d, bt s k = d := ⟨_, rfl⟩; have HA : Hid (((at_ s k).toNat : Int) = d) := (at_int s k hlt).symm.trans hd; rw [hd] at b0 b1
      by_cases hp : bin (at_ s k) = true
      · have HP : Hid (bin (at_ s k) = true) := hp; clear hp
        have HD : Hid (d = 48 ∨ d = 49) := by
          have := HP.out; unfold bin at this; simp only [Bool.or_eq_true, beq_iff_eq] at this
          rcases this with e | e
          · left; have := HA.out; rw [e] at this; simp at this; omega
          · right; have := HA.out; rw [e] at this; simp at this; omega
        rcases HD.out with g | g
        all_goals
          have HAA := HA.out; rw [g] at HAA hd; have HA3 : Hid (((at_ s k).toNat : Int) = d) := HA.out; rw [hd] at hxk; clear HAA
          have gl : nn ≤ k := by rw [← HNN.out, flat_one]; omega
          go_wp2_with (first | (at_builtin; refine wpList_append_own _ rfl _ _ 37 rfl (w.heap.size + 1) 5 i0 (.int .u8 0) 1 1 Tryd.underlying37 HI.out.1 HI.out.2.1 HI.out.2.2.1 HI.out.2.2.2 rfl (by decide) _ _ _ rfl (HO.out.alloc _) ⟨wr.heap.size, 0, none⟩ 1 1 [.int .u8 48] rfl rfl (cell_one_new _ _ _) (by simp [Value.oneCell']) (by unfold maxLen; omega) (by omega) (by simp; omega) ?_; intro v' w1 hown' hgrow _) | (at_builtin; refine wpList_append_own _ rfl _ _ 37 rfl (w.heap.size + 1) 5 i0 (.int .u8 0) 1 1 Tryd.underlying37 HI.out.1 HI.out.2.1 HI.out.2.2.1 HI.out.2.2.2 rfl (by decide) _ _ _ rfl (HO.out.alloc _) ⟨wr.heap.size, 0, none⟩ 1 1 [.int .u8 49] rfl rfl (cell_one_new _ _ _) (by simp [Value.oneCell']) (by unfold maxLen; omega) (by omega) (by simp; omega) ?_; intro v' w1 hown' hgrow _))
          go_roundw
          case rel =>
            obtain ⟨ha, hb, hc'⟩ := q_step (c := at_ s k) (by rw [HNN.out]; exact HO.out) HB.out hsz (by rw [HNN.out, HA3.out, g]; exact hown') hgrow; exact ⟨k + 1, src ++ [at_ s k], by omega, by omega, by go_num, by rw [← HS.out, tw_yes hlt HP.out, List.append_assoc]; rfl, by rw [List.length_append]; simp; omega, by rw [flat_snoc]; exact ha, hb, hc'⟩
          case measure => simp [intOf]; omega
      · have HP : Hid (bin (at_ s k) = false) := Bool.eq_false_iff.2 hp
        have HT2 : Hid (src = T) := by show src = T; rw [← HS.out, tw_no hlt HP.out, List.append_nil]
        clear hp; have g48 : (d == 48) = false := beq_eq_false_iff_ne.2 (fun e => by have := (u8_eq 48 (by omega)).1 (HA.out.trans e); have h2 := HP.out; rw [this] at h2; exact absurd h2 (by decide)); have g49 : (d == 49) = false := beq_eq_false_iff_ne.2 (fun e => by have := (u8_eq 49 (by omega)).1 (HA.out.trans e); have h2 := HP.out; rw [this] at h2; exact absurd h2 (by decide))
        by_cases hn : src = []
        · have hlz : ((nn : Int) == 0) = true := by rw [← HNN.out, hn]; rfl
          have HN : Hid (src = []) := hn; clear hn; have hl6' : ∀ W, (Builtin.len_ #[37] 3 #[u6]).run Tryd.prog W = .ok (.int .i64 (nn : Int)) W := len_own HO.out; go_wp2_with (fail); exact bodyPost_ret (v := .agg #[.int .i64 0, .string ⟨#[]⟩, .int .i64 0]) (by simp [results, Tryd.results100, go_sem, q0, q1, q2, q3, q4, q5]) rfl ⟨ret_tok (R := R) (by rw [HRR.out, if_pos (by rw [← HT2.out]; exact HN.out)]; rfl), qbelow HB.out⟩
        · have hlz : ((nn : Int) == 0) = false := by rw [← HNN.out, beq_eq_false_iff_ne]; exact fun e => hn (by rw [flat_one] at e; exact List.length_eq_zero_iff.1 (by omega))
          have HN : Hid (src ≠ []) := hn; clear hn; have hl6' : ∀ W, (Builtin.len_ #[37] 3 #[u6]).run Tryd.prog W = .ok (.int .i64 (nn : Int)) W := len_own HO.out; have hcv := own_string (P := Tryd.prog) (w := wr) Tryd.underlying37 Tryd.underlying5 Tryd.underlying9 HO.out; go_wp2_with (fail); exact bodyPost_ret (v := .agg #[.int .i64 5, .string (strOfNums (ints (src.flatMap (fun c => [c])))), .int .i64 k]) (by simp [results, Tryd.results100, go_sem, q0, q1, q2, q3, q4, q5]) rfl ⟨ret_tok (R := R) (by rw [HRR.out, ← HT2.out, if_neg HN.out, str_ints, HL.out]; rw [flat_one]), qbelow HB.out⟩
    · have HT2 : Hid (src = T) := by show src = T; rw [← HS.out, tw_end (by omega), List.append_nil]
      by_cases hn : src = []
      · have hlz : ((nn : Int) == 0) = true := by rw [← HNN.out, hn]; rfl
        have HN : Hid (src = []) := hn; clear hn; have hl6' : ∀ W, (Builtin.len_ #[37] 3 #[u6]).run Tryd.prog W = .ok (.int .i64 (nn : Int)) W := len_own HO.out; go_wp2_with (fail); exact bodyPost_ret (v := .agg #[.int .i64 0, .string ⟨#[]⟩, .int .i64 0]) (by simp [results, Tryd.results100, go_sem, q0, q1, q2, q3, q4, q5]) rfl ⟨ret_tok (R := R) (by rw [HRR.out, if_pos (by rw [← HT2.out]; exact HN.out)]; rfl), qbelow HB.out⟩
      · have hlz : ((nn : Int) == 0) = false := by rw [← HNN.out, beq_eq_false_iff_ne]; exact fun e => hn (by rw [flat_one] at e; exact List.length_eq_zero_iff.1 (by omega))
        have HN : Hid (src ≠ []) := hn; clear hn; have hl6' : ∀ W, (Builtin.len_ #[37] 3 #[u6]).run Tryd.prog W = .ok (.int .i64 (nn : Int)) W := len_own HO.out; have hcv := own_string (P := Tryd.prog) (w := wr) Tryd.underlying37 Tryd.underlying5 Tryd.underlying9 HO.out; go_wp2_with (fail); exact bodyPost_ret (v := .agg #[.int .i64 5, .string (strOfNums (ints (src.flatMap (fun c => [c])))), .int .i64 k]) (by simp [results, Tryd.results100, go_sem, q0, q1, q2, q3, q4, q5]) rfl ⟨ret_tok (R := R) (by rw [HRR.out, ← HT2.out, if_neg HN.out, str_ints, HL.out]; rw [flat_one]), qbelow HB.out⟩
theorem bit_vals : ∀ h : Nat, h < 16 → wrap64 (48 + Go.bits .and .i64 ((h : Int) / 8) 1) % 256 = ((bit h 3).toNat : Int) ∧ wrap64 (48 + Go.bits .and .i64 ((h : Int) / 4) 1) % 256 = ((bit h 2).toNat : Int) ∧ wrap64 (48 + Go.bits .and .i64 ((h : Int) / 2) 1) % 256 = ((bit h 1).toNat : Int) ∧ 48 + (h : Int) % 2 = ((bit h 0).toNat : Int) := by decide +kernel
theorem i_step {B m : Nat} {W0 wr w1 : World} {v6 v' : Value} {F : List UInt8} {c : UInt8} {o : Obj} (hown : wr.ownsRow (B + 1) 5 1 v6 m (nums .u8 (ints F))) (hbel : Below (B + 1) W0 wr) (hsz : B + 1 ≤ wr.heap.size)
    (hown' : w1.ownsRow (B + 1) 5 1 v' (m + 1) (nums .u8 (ints F) ++ [.int .u8 (c.toNat : Int)])) (hgrow : (wr.alloc o).grownBy w1 v6.ownBlock) :
    w1.ownsRow (B + 1) 5 1 v' (m + 1) (nums .u8 (ints (F ++ [c]))) ∧ Below (B + 1) W0 w1 ∧ B + 1 ≤ w1.heap.size := by
  refine ⟨?_, (hbel.alloc (by omega) o).grown hgrow (by simp; omega) (fun j hj => by have := (hown.lt j hj).1; omega), ?_⟩
  · rw [← ints_snoc]; exact hown'
  · have := hgrow.size; simp at this; omega
theorem four_take0 {F : List UInt8} {ch : UInt8} {h : Nat} (e : hexv ch = h) : F ++ (four ch).take 1 = (F ++ (four ch).take 0) ++ [bit h 3] := by unfold four; rw [e]; simp
theorem four_take1 {F : List UInt8} {ch : UInt8} {h : Nat} (e : hexv ch = h) : F ++ (four ch).take 2 = (F ++ (four ch).take 1) ++ [bit h 2] := by unfold four; rw [e]; simp
theorem four_take2 {F : List UInt8} {ch : UInt8} {h : Nat} (e : hexv ch = h) : F ++ (four ch).take 3 = (F ++ (four ch).take 2) ++ [bit h 1] := by unfold four; rw [e]; simp
theorem four_take3 {F : List UInt8} {ch : UInt8} {h : Nat} (e : hexv ch = h) : F ++ (four ch).take 4 = (F ++ (four ch).take 3) ++ [bit h 0] := by unfold four; rw [e]; simp
def IRel (B : Nat) (W0 : World) (nn : Nat) (F : List UInt8) (ch : UInt8) (v6 v8 : Value) (wr : World) : Prop :=
  ∃ (c : Nat) (j : Int), c ≤ 4 ∧ j + c = 3 ∧ v8 = .int .i64 j ∧ wr.ownsRow (B + 1) 5 1 v6 (nn + c) (nums .u8 (ints (F ++ (four ch).take c))) ∧ Below (B + 1) W0 wr ∧ B + 1 ≤ wr.heap.size
set_option maxHeartbeats 8000000 in
theorem spec_hexs (s : ByteArray) (i : Nat) (w : World) (hs : s.size ≤ 35184372088000) (hi : i + 2 < s.size) (hb : bt s (i + 1 : Nat) = 120) (R : Int × ByteArray × Int) (HR : Hid (bits s i = R)) :
    Calls Tryd.prog 100 #[.string s, .int .i64 i] w fun e w' => e = .returned (.agg #[.int .i64 R.1, .string R.2.1, .int .i64 R.2.2]) ∧ Below w.heap.size w w' := by
  have hx : ∀ h : i + 1 < s.size, ((s[i + 1]'h).toNat : Int) = bt s (i + 1 : Nat) := ZH s (i + 1 : Nat); obtain ⟨T, hT⟩ : ∃ T, ((L s).drop (i + 2)).takeWhile hexd = T := ⟨_, rfl⟩; have HTT : Hid (((L s).drop (i + 2)).takeWhile hexd = T) := hT
  have hlet : (L s)[i + 1]? = some 120 := by rw [get_at s (i + 1) (by omega), show at_ s (i + 1) = 120 from (u8_eq 120 (by omega)).1 (by rw [← at_int s (i + 1) (by omega)]; exact hb)]
  have HRR : Hid (R = if T = [] then noTok else (5, ⟨(T.flatMap four).toArray⟩, ((i + 2 + T.length : Nat) : Int))) := by show R = _; rw [← HR.out]; unfold bits; rw [if_neg (by rw [hlet]; decide), if_pos hlet, hT]
  clear hT hlet; rw [hb] at hx; clear hb; obtain ⟨i0, hif, hz0, hz1, hz2⟩ := info_parts info5; have HI : Hid (Tryd.prog.info? 5 = some i0 ∧ i0.zero = some (.int .u8 0) ∧ i0.size = 1 ∧ i0.bytes = 1) := ⟨hif, hz0, hz1, hz2⟩; clear hif hz0 hz1 hz2; have hi2 : ¬ s.size ≤ i + 2 := (by omega); go_enter Tryd.func100, Tryd.ntmps100; go_wp2_with (fail); go_loopw [5, 6] (fun v5 v6 wr => BRel s i w.heap.size (w.alloc (Obj.cells #[Value.int IntKind.i64 0, Value.string { data := #[] }, Value.int IntKind.i64 0] 111)) hexd four T v5 v6 wr) (fun v5 _ _ => s.size - (intOf v5).toNat)
  case atStart => exact ⟨i + 2, [], by omega, by omega, by first | rfl | go_num, HTT.out, by simp, World.ownsRow_nil _ _ _ _, Below.refl _ _, by simp⟩
  case round =>
    obtain ⟨k, src, hk1, hk2, rfl, hS, hkl, hown, hbel, hsz⟩ := hrel; have HS : Hid (src ++ ((L s).drop k).takeWhile hexd = T) := hS; have HL : Hid (k = i + 2 + src.length) := hkl; have hkl' : i + 2 + src.length ≤ k := (by omega); have hkl2 : k ≤ i + 2 + src.length := (by omega); obtain ⟨nn, hnn⟩ : ∃ nn, (src.flatMap four).length = nn := ⟨_, rfl⟩
    have HO : Hid (wr.ownsRow (w.heap.size + 1) 5 1 u6 nn (nums .u8 (ints (src.flatMap four)))) := by rw [← hnn]; exact hown
    have HNN : Hid ((src.flatMap four).length = nn) := hnn; clear hnn; have HB : Hid (Below (w.heap.size + 1) (w.alloc (Obj.cells #[Value.int IntKind.i64 0, Value.string { data := #[] }, Value.int IntKind.i64 0] 111)) wr) := hbel
    have q0 : wr.cell? ⟨w.heap.size, 0, none⟩ = some (.int .i64 0) := by rw [hbel.cell (p := ⟨w.heap.size, 0, none⟩) (by show w.heap.size < _; omega)]; exact World.cell?_alloc_at _ _ _ _ rfl
    have q1 : wr.cell? ⟨w.heap.size, 1, none⟩ = some (.string ⟨#[]⟩) := by rw [hbel.cell (p := ⟨w.heap.size, 1, none⟩) (by show w.heap.size < _; omega)]; exact World.cell?_alloc_at _ _ _ _ rfl
    have q2 : wr.cell? ⟨w.heap.size, 2, none⟩ = some (.int .i64 0) := by rw [hbel.cell (p := ⟨w.heap.size, 2, none⟩) (by show w.heap.size < _; omega)]; exact World.cell?_alloc_at _ _ _ _ rfl
    have q3 : wr.frozen? ⟨w.heap.size, 0, none⟩ = false := by rw [hbel.frozen (p := ⟨w.heap.size, 0, none⟩) (by show w.heap.size < _; omega)]; exact World.frozen?_alloc_at _ _ _ _ rfl
    have q4 : wr.frozen? ⟨w.heap.size, 1, none⟩ = false := by rw [hbel.frozen (p := ⟨w.heap.size, 1, none⟩) (by show w.heap.size < _; omega)]; exact World.frozen?_alloc_at _ _ _ _ rfl
    have q5 : wr.frozen? ⟨w.heap.size, 2, none⟩ = false := by rw [hbel.frozen (p := ⟨w.heap.size, 2, none⟩) (by show w.heap.size < _; omega)]; exact World.frozen?_alloc_at _ _ _ _ rfl
    clear hS hkl hown hbel
    by_cases hlt : k < s.size
    · have hxk : ∀ h : k < s.size, ((s[k]'h).toNat : Int) = bt s k := ZH s k; obtain ⟨b0, b1⟩ := bt_range s k; obtain ⟨d, hd⟩ : ∃ d, bt s k = d := ⟨_, rfl⟩; have HA : Hid (((at_ s k).toNat : Int) = d) := (at_int s k hlt).symm.trans hd; rw [hd] at b0 b1
      by_cases hp : hexd (at_ s k) = true
      · have HP : Hid (hexd (at_ s k) = true) := hp; clear hp; have hy := hex_yes HP.out HA.out; obtain ⟨hv1, hv2⟩ := hexv_is HP.out HA.out; obtain ⟨hn, hhn⟩ : ∃ hn, hexv (at_ s k) = hn := ⟨_, rfl⟩; rw [hhn] at hv1 hv2; have HH : Hid (hexv (at_ s k) = hn) := hhn
        have HV : Hid ((hn : Int) = (if 48 ≤ d ∧ d ≤ 57 then d - 48 else if 97 ≤ d ∧ d ≤ 102 then d - 87 else if 65 ≤ d ∧ d ≤ 70 then d - 55 else -1)) := by
          show (hn : Int) = _; rw [hv1]
          rcases hy with ⟨a, b⟩ | ⟨a, b⟩ | ⟨a, b⟩
          · rw [if_pos (by omega), if_pos ⟨a, b⟩]
          · rw [if_neg (by omega), if_neg (by omega), if_neg (by omega), if_pos ⟨a, b⟩]
          · rw [if_neg (by omega), if_pos (by omega), if_neg (by omega), if_neg (by omega), if_pos ⟨a, b⟩]
        have gl : nn ≤ 4 * k := by rw [← HNN.out, four_len]; omega
        clear hv1 hhn hy; obtain ⟨e3, e2, e1, e0⟩ := bit_table hn hv2; go_wp2_with (go_at_call 118; refine (spec_hex _ _ b0 b1 _ HV.out).mono ?_; rintro e w' ⟨rfl, rfl⟩); obtain ⟨wo, rfl⟩ : ∃ wo : World, wo = wr := ⟨_, rfl⟩; go_loopw [6, 8] (fun v6 v8 wr => IRel w.heap.size (w.alloc (Obj.cells #[Value.int IntKind.i64 0, Value.string { data := #[] }, Value.int IntKind.i64 0] 111)) nn (src.flatMap four) (at_ s k) v6 v8 wr) (fun _ v8 _ => (intOf v8 + 1).toNat)
        case atStart => exact ⟨0, 3, by omega, by omega, rfl, by rw [List.take_zero, List.append_nil]; exact HO.out, HB.out, hsz⟩
        case round =>
          obtain ⟨c, j, hc4, hj, rfl, hown2, hbel2, hsz2⟩ := hrel; have HO2 : Hid (wr.ownsRow (w.heap.size + 1) 5 1 _ (nn + c) (nums .u8 (ints (src.flatMap four ++ (four (at_ s k)).take c)))) := hown2; have HB2 : Hid (Below (w.heap.size + 1) (w.alloc (Obj.cells #[Value.int IntKind.i64 0, Value.string { data := #[] }, Value.int IntKind.i64 0] 111)) wr) := hbel2; clear hown2 hbel2
          rcases (by omega : (c = 0 ∧ j = 3) ∨ (c = 1 ∧ j = 2) ∨ (c = 2 ∧ j = 1) ∨ (c = 3 ∧ j = 0) ∨ (c = 4 ∧ j = -1)) with ⟨h, h'⟩ | ⟨h, h'⟩ | ⟨h, h'⟩ | ⟨h, h'⟩ | ⟨h, h'⟩
          · subst h h'; go_wp2_with (at_builtin; refine wpList_append_own _ rfl _ _ 37 rfl (w.heap.size + 1) 5 i0 (.int .u8 0) 1 1 Tryd.underlying37 HI.out.1 HI.out.2.1 HI.out.2.2.1 HI.out.2.2.2 rfl (by decide) _ _ _ rfl (HO2.out.alloc _) ⟨wr.heap.size, 0, none⟩ 1 1 [_] rfl rfl (cell_one_new _ _ _) (by simp [Value.oneCell']) (by unfold maxLen; omega) (by omega) (by simp; omega) ?_; intro v' w1 hown' hgrow _)
            go_roundw
            case rel =>
              obtain ⟨ha, hb, hc'⟩ := i_step (c := bit hn 3) HO2.out HB2.out hsz2 (by rw [← (bit_vals hn hv2).1]; exact hown') hgrow; exact ⟨1, 2, by omega, by omega, by go_num, by rw [four_take0 HH.out]; exact ha, hb, hc'⟩
            case measure => first | (simp [intOf]; done) | (simp [intOf]; omega)
          · subst h h'; go_wp2_with (at_builtin; refine wpList_append_own _ rfl _ _ 37 rfl (w.heap.size + 1) 5 i0 (.int .u8 0) 1 1 Tryd.underlying37 HI.out.1 HI.out.2.1 HI.out.2.2.1 HI.out.2.2.2 rfl (by decide) _ _ _ rfl (HO2.out.alloc _) ⟨wr.heap.size, 0, none⟩ 1 1 [_] rfl rfl (cell_one_new _ _ _) (by simp [Value.oneCell']) (by unfold maxLen; omega) (by omega) (by simp; omega) ?_; intro v' w1 hown' hgrow _)
            go_roundw
            case rel =>
              obtain ⟨ha, hb, hc'⟩ := i_step (c := bit hn 2) HO2.out HB2.out hsz2 (by rw [← (bit_vals hn hv2).2.1]; exact hown') hgrow; exact ⟨2, 1, by omega, by omega, by go_num, by rw [four_take1 HH.out]; exact ha, hb, hc'⟩
            case measure => first | (simp [intOf]; done) | (simp [intOf]; omega)
          · subst h h'; go_wp2_with (at_builtin; refine wpList_append_own _ rfl _ _ 37 rfl (w.heap.size + 1) 5 i0 (.int .u8 0) 1 1 Tryd.underlying37 HI.out.1 HI.out.2.1 HI.out.2.2.1 HI.out.2.2.2 rfl (by decide) _ _ _ rfl (HO2.out.alloc _) ⟨wr.heap.size, 0, none⟩ 1 1 [_] rfl rfl (cell_one_new _ _ _) (by simp [Value.oneCell']) (by unfold maxLen; omega) (by omega) (by simp; omega) ?_; intro v' w1 hown' hgrow _)
            go_roundw
            case rel =>
              obtain ⟨ha, hb, hc'⟩ := i_step (c := bit hn 1) HO2.out HB2.out hsz2 (by rw [← (bit_vals hn hv2).2.2.1]; exact hown') hgrow; exact ⟨3, 0, by omega, by omega, by go_num, by rw [four_take2 HH.out]; exact ha, hb, hc'⟩
            case measure => first | (simp [intOf]; done) | (simp [intOf]; omega)
          · subst h h'; go_wp2_with (at_builtin; refine wpList_append_own _ rfl _ _ 37 rfl (w.heap.size + 1) 5 i0 (.int .u8 0) 1 1 Tryd.underlying37 HI.out.1 HI.out.2.1 HI.out.2.2.1 HI.out.2.2.2 rfl (by decide) _ _ _ rfl (HO2.out.alloc _) ⟨wr.heap.size, 0, none⟩ 1 1 [_] rfl rfl (cell_one_new _ _ _) (by simp [Value.oneCell']) (by unfold maxLen; omega) (by omega) (by simp; omega) ?_; intro v' w1 hown' hgrow _)
            go_roundw
            case rel =>
              obtain ⟨ha, hb, hc'⟩ := i_step (c := bit hn 0) HO2.out HB2.out hsz2 (by rw [← (bit_vals hn hv2).2.2.2]; exact hown') hgrow; exact ⟨4, -1, by omega, by omega, by go_num, by rw [four_take3 HH.out]; exact ha, hb, hc'⟩
            case measure => first | (simp [intOf]; done) | (simp [intOf]; omega)
          · subst h h'; go_wp2_with (fail)
            go_roundw
            case rel => exact ⟨k + 1, src ++ [at_ s k], by omega, by omega, by go_num, by rw [← HS.out, tw_yes hlt HP.out, List.append_assoc]; rfl, by rw [List.length_append]; simp; omega, by rw [flat_snoc, List.length_append, HNN.out]; exact HO2.out, HB2.out, hsz2⟩
            case measure => first | (simp [intOf]; done) | (simp [intOf]; omega)
      · have HP : Hid (hexd (at_ s k) = false) := Bool.eq_false_iff.2 hp
        have HT2 : Hid (src = T) := by show src = T; rw [← HS.out, tw_no hlt HP.out, List.append_nil]
        clear hp; obtain ⟨f1, f2, f3⟩ := hex_no HP.out HA.out
        have HV : Hid ((-1 : Int) = (if 48 ≤ d ∧ d ≤ 57 then d - 48 else if 97 ≤ d ∧ d ≤ 102 then d - 87 else if 65 ≤ d ∧ d ≤ 70 then d - 55 else -1)) := by
          show (-1 : Int) = _; rw [if_neg f1, if_neg f2, if_neg f3]
        clear f1 f2 f3
        by_cases hn : src = []
        · have hlz : ((nn : Int) == 0) = true := by rw [← HNN.out, hn]; rfl
          have HN : Hid (src = []) := hn; clear hn; have hl6' : ∀ W, (Builtin.len_ #[37] 3 #[u6]).run Tryd.prog W = .ok (.int .i64 (nn : Int)) W := len_own HO.out; go_wp2_with (go_at_call 118; refine (spec_hex _ _ b0 b1 _ HV.out).mono ?_; rintro e w' ⟨rfl, rfl⟩); exact bodyPost_ret (v := .agg #[.int .i64 0, .string ⟨#[]⟩, .int .i64 0]) (by simp [results, Tryd.results100, go_sem, q0, q1, q2, q3, q4, q5]) rfl ⟨ret_tok (R := R) (by rw [HRR.out, if_pos (by rw [← HT2.out]; exact HN.out)]; rfl), qbelow HB.out⟩
        · have hlz : ((nn : Int) == 0) = false := by rw [← HNN.out, beq_eq_false_iff_ne]; exact fun e => hn (by rw [four_len] at e; exact List.length_eq_zero_iff.1 (by omega))
          have HN : Hid (src ≠ []) := hn; clear hn; have hl6' : ∀ W, (Builtin.len_ #[37] 3 #[u6]).run Tryd.prog W = .ok (.int .i64 (nn : Int)) W := len_own HO.out; have hcv := own_string (P := Tryd.prog) (w := wr) Tryd.underlying37 Tryd.underlying5 Tryd.underlying9 HO.out; go_wp2_with (go_at_call 118; refine (spec_hex _ _ b0 b1 _ HV.out).mono ?_; rintro e w' ⟨rfl, rfl⟩); exact bodyPost_ret (v := .agg #[.int .i64 5, .string (strOfNums (ints (src.flatMap four))), .int .i64 k]) (by simp [results, Tryd.results100, go_sem, q0, q1, q2, q3, q4, q5]) rfl ⟨ret_tok (R := R) (by rw [HRR.out, ← HT2.out, if_neg HN.out, str_ints, HL.out]), qbelow HB.out⟩
    · have HT2 : Hid (src = T) := by show src = T; rw [← HS.out, tw_end (by omega), List.append_nil]
      by_cases hn : src = []
      · have hlz : ((nn : Int) == 0) = true := by rw [← HNN.out, hn]; rfl
        have HN : Hid (src = []) := hn; clear hn; have hl6' : ∀ W, (Builtin.len_ #[37] 3 #[u6]).run Tryd.prog W = .ok (.int .i64 (nn : Int)) W := len_own HO.out; go_wp2_with (fail); exact bodyPost_ret (v := .agg #[.int .i64 0, .string ⟨#[]⟩, .int .i64 0]) (by simp [results, Tryd.results100, go_sem, q0, q1, q2, q3, q4, q5]) rfl ⟨ret_tok (R := R) (by rw [HRR.out, if_pos (by rw [← HT2.out]; exact HN.out)]; rfl), qbelow HB.out⟩
      · have hlz : ((nn : Int) == 0) = false := by rw [← HNN.out, beq_eq_false_iff_ne]; exact fun e => hn (by rw [four_len] at e; exact List.length_eq_zero_iff.1 (by omega))
        have HN : Hid (src ≠ []) := hn; clear hn; have hl6' : ∀ W, (Builtin.len_ #[37] 3 #[u6]).run Tryd.prog W = .ok (.int .i64 (nn : Int)) W := len_own HO.out; have hcv := own_string (P := Tryd.prog) (w := wr) Tryd.underlying37 Tryd.underlying5 Tryd.underlying9 HO.out; go_wp2_with (fail); exact bodyPost_ret (v := .agg #[.int .i64 5, .string (strOfNums (ints (src.flatMap four))), .int .i64 k]) (by simp [results, Tryd.results100, go_sem, q0, q1, q2, q3, q4, q5]) rfl ⟨ret_tok (R := R) (by rw [HRR.out, ← HT2.out, if_neg HN.out, str_ints, HL.out]), qbelow HB.out⟩
end Go.Proofs.YtbeelgaganbblaaDoor.Tok
namespace Go.Proofs.YtbeelgaganbblaaDoor.Tok
open Go.RowKit Go.Proofs.YtbeelgaganbblaaDoorW.PrintWords Go.Proofs.YtbeelgaganbblaaDoor Go.Proofs.YtbeelgaganbblaaDoor.By
set_option linter.unusedVariables false
set_option linter.unusedSimpArgs false
set_option maxRecDepth 100000
theorem dig_yes {c : UInt8} {d : Int} (h : dig c = true) (e : (c.toNat : Int) = d) : 48 ≤ d ∧ d ≤ 57 := by
  unfold dig at h; simp only [Bool.and_eq_true, decide_eq_true_eq] at h; omega
theorem dig_no {c : UInt8} {d : Int} (h : dig c = false) (e : (c.toNat : Int) = d) : d < 48 ∨ 57 < d := by
  unfold dig at h; simp only [Bool.and_eq_false_iff, decide_eq_false_iff_not] at h; omega
theorem dig_of {c : UInt8} {d : Int} (e : (c.toNat : Int) = d) (h1 : 48 ≤ d) (h2 : d ≤ 57) : dig c = true := by
  unfold dig; simp only [Bool.and_eq_true, decide_eq_true_eq]; omega
set_option maxHeartbeats 8000000 in
theorem spec_numeral (s : ByteArray) (i : Nat) (w : World) (hs : s.size ≤ 140737488351232) (hi : i < s.size) (c : Int) (hc : bt s i = c) (c0 : 0 ≤ c) (c1 : c ≤ 255) (nc : 48 ≤ c) (nd : c ≤ 57) (n1 : (c == 34) = false) (n2 : (c == 124) = false) (n3 : (c == 58) = false) (n4 : (c == 35) = false) (R : Int × ByteArray × Int) (HR : Hid (numeral s i = R)) :
    Calls Tryd.prog 77 #[.string s, .int .i64 i] w fun e w' => e = .returned (.agg #[.int .i64 R.1, .string R.2.1, .int .i64 R.2.2]) ∧ Below w.heap.size w w' := by
  have hx : ∀ h : i < s.size, ((s[i]'h).toNat : Int) = bt s i := ZH s i; obtain ⟨E, hE⟩ : ∃ E, i + 1 + scan dig ((L s).drop (i + 1)) = E := ⟨_, rfl⟩
  obtain ⟨hE3, hE4⟩ : i + 1 ≤ E ∧ E ≤ s.size := by have := scan_bound s dig (i + 1) (by omega); omega
  have HEE : Hid (i + 1 + scan dig ((L s).drop (i + 1)) = E) := hE; have HE : Hid (dig (at_ s i) = true) := dig_of ((at_int s i hi).symm.trans hc) nc nd
  have hz : ((c == 48) = true ∧ Hid (at_ s i = 48)) ∨ ((c == 48) = false ∧ Hid (at_ s i ≠ 48)) := by
    by_cases h : c = 48
    · exact .inl ⟨beq_iff_eq.2 h, (u8_eq 48 (by omega)).1 ((at_int s i hi).symm.trans (hc.trans h))⟩
    · exact .inr ⟨beq_eq_false_iff_ne.2 h, fun e => h (by rw [← hc, at_int s i hi, e]; rfl)⟩
  clear hE; go_enter Tryd.func77, Tryd.ntmps77; go_wp2_with (first | (go_at_call 75; refine (spec_l3NameByte_any _ _ (by omega) (by omega)).mono ?_; rintro e w' ⟨rfl, rfl⟩) | go_in); go_loop [10] (fun v => ∃ k : Nat, i ≤ k ∧ k ≤ s.size ∧ v = .int .i64 k ∧ Hid (k + scan dig ((L s).drop k) = E)) (fun v => s.size - (intOf v).toNat)
  case atStart => exact ⟨i, by omega, by omega, by first | rfl | go_num, by show _ = _; rw [scan_step hi HE.out, ← HEE.out]; omega⟩
  case round =>
    obtain ⟨k, hk1, hk2, rfl, Hk⟩ := hrel
    by_cases hltk : k < s.size
    · have hxk : ∀ h : k < s.size, ((s[k]'h).toNat : Int) = bt s k := ZH s k; obtain ⟨b0k, b1k⟩ := bt_range s k; obtain ⟨dk, hdk⟩ : ∃ d, bt s k = d := ⟨_, rfl⟩; have HAk : Hid (((at_ s k).toNat : Int) = dk) := (at_int s k hltk).symm.trans hdk; rw [hdk] at b0k b1k
      by_cases hpk : dig (at_ s k) = true
      · have HPk : Hid (dig (at_ s k) = true) := hpk; clear hpk; obtain ⟨g1k, g2k⟩ := dig_yes HPk.out HAk.out; go_wp2_with (go_in); go_round
        case rel => exact ⟨k + 1, by omega, by omega, by go_num, by show _ = _; rw [← Hk.out, scan_step hltk HPk.out]; omega⟩
        case measure => simp [intOf]; omega
      · have HPk : Hid (dig (at_ s k) = false) := Bool.eq_false_iff.2 hpk
        have hkEk : Hid (k = E) := by show k = E; rw [← Hk.out, scan_stop hltk HPk.out]; rfl
        clear hpk
        rcases dig_no HPk.out HAk.out with gk | gk
        · by_cases hA : i + 1 < k
          · rcases hz with ⟨hz, HZ⟩ | ⟨hz, HZ⟩
            · go_wp2_with (go_in); exact bodyPost_ret (v := .agg #[.int .i64 0, .string ⟨#[]⟩, .int .i64 0]) (by simp [results, Tryd.results77, go_sem]) rfl ⟨ret_tok (by rw [← HR.out]; unfold numeral; rw [HEE.out, ← hkEk.out]; rw [if_pos ⟨by omega, by rw [get_at s i hi, HZ.out]⟩]; rfl), (Below.refl _ _).alloc (Nat.le_refl _) _⟩
            · by_cases hB : k + 1 < s.size
              · have hx2 : ∀ h : k + 1 < s.size, ((s[k + 1]'h).toNat : Int) = bt s (k + 1 : Nat) := ZH s (k + 1 : Nat); obtain ⟨b02, b12⟩ := bt_range s (k + 1 : Nat); obtain ⟨d2, hd2⟩ : ∃ d, bt s (k + 1 : Nat) = d := ⟨_, rfl⟩; have HA2 : Hid (((at_ s (k + 1)).toNat : Int) = d2) := (at_int s (k + 1) hB).symm.trans hd2; rw [hd2] at hx2 b02 b12
                by_cases h46 : dk = 46
                · subst h46; have H46 : Hid (at_ s k = 46) := (u8_eq 46 (by omega)).1 HAk.out
                  by_cases hp2 : dig (at_ s (k + 1)) = true
                  · have HP2 : Hid (dig (at_ s (k + 1)) = true) := hp2; clear hp2; obtain ⟨g12, g22⟩ := dig_yes HP2.out HA2.out; obtain ⟨E2, hE2⟩ : ∃ E2, k + 1 + scan dig ((L s).drop (k + 1)) = E2 := ⟨_, rfl⟩
                    obtain ⟨hE5, hE6⟩ : k + 1 ≤ E2 ∧ E2 ≤ s.size := by have := scan_bound s dig (k + 1) (by omega); omega
                    have HE2 : Hid (k + 1 + scan dig ((L s).drop (k + 1)) = E2) := hE2; clear hE2; go_wp2_with (go_in); go_loop [10] (fun v => ∃ m : Nat, k + 1 ≤ m ∧ m ≤ s.size ∧ v = .int .i64 m ∧ Hid (m + scan dig ((L s).drop m) = E2)) (fun v => s.size - (intOf v).toNat)
                    case atStart => exact ⟨k + 1, by omega, by omega, by first | rfl | go_num, HE2⟩
                    case round =>
                      obtain ⟨m, hm1, hm2, rfl, Hm⟩ := hrel
                      by_cases hltm : m < s.size
                      · have hxm : ∀ h : m < s.size, ((s[m]'h).toNat : Int) = bt s m := ZH s m; obtain ⟨b0m, b1m⟩ := bt_range s m; obtain ⟨dm, hdm⟩ : ∃ d, bt s m = d := ⟨_, rfl⟩; have HAm : Hid (((at_ s m).toNat : Int) = dm) := (at_int s m hltm).symm.trans hdm; rw [hdm] at b0m b1m
                        by_cases hpm : dig (at_ s m) = true
                        · have HPm : Hid (dig (at_ s m) = true) := hpm; clear hpm; obtain ⟨g1m, g2m⟩ := dig_yes HPm.out HAm.out; go_wp2_with (go_in); go_round
                          case rel => exact ⟨m + 1, by omega, by omega, by go_num, by show _ = _; rw [← Hm.out, scan_step hltm HPm.out]; omega⟩
                          case measure => simp [intOf]; omega
                        · have HPm : Hid (dig (at_ s m) = false) := Bool.eq_false_iff.2 hpm
                          have hkEm : Hid (m = E2) := by show m = E2; rw [← Hm.out, scan_stop hltm HPm.out]; rfl
                          clear hpm
                          rcases dig_no HPm.out HAm.out with gm | gm
                          all_goals
                            go_wp2_with (go_in); exact bodyPost_ret (v := .agg #[.int .i64 4, .string (s.extract i m), .int .i64 m]) (by simp [results, Tryd.results77, go_sem]) rfl ⟨ret_tok (by rw [← HR.out]; unfold numeral; rw [HEE.out, ← hkEk.out]; rw [if_neg (fun hh => HZ.out (by have h9 := hh.2; rw [get_at s i hi] at h9; exact Option.some.inj h9))]; rw [if_pos ⟨by rw [get_at s k hltk, H46.out], by rw [get_at s (k + 1) hB]; exact HP2.out⟩, HE2.out, hkEm.out]), (Below.refl _ _).alloc (Nat.le_refl _) _⟩
                      · have hkEm : Hid (m = E2) := by show m = E2; rw [← Hm.out, scan_end (by omega)]; rfl
                        go_wp2_with (fail); exact bodyPost_ret (v := .agg #[.int .i64 4, .string (s.extract i m), .int .i64 m]) (by simp [results, Tryd.results77, go_sem]) rfl ⟨ret_tok (by rw [← HR.out]; unfold numeral; rw [HEE.out, ← hkEk.out]; rw [if_neg (fun hh => HZ.out (by have h9 := hh.2; rw [get_at s i hi] at h9; exact Option.some.inj h9))]; rw [if_pos ⟨by rw [get_at s k hltk, H46.out], by rw [get_at s (k + 1) hB]; exact HP2.out⟩, HE2.out, hkEm.out]), (Below.refl _ _).alloc (Nat.le_refl _) _⟩
                  · have HP2 : Hid (dig (at_ s (k + 1)) = false) := Bool.eq_false_iff.2 hp2; clear hp2
                    rcases dig_no HP2.out HA2.out with g2 | g2
                    all_goals
                      go_wp2_with (go_in); exact bodyPost_ret (v := .agg #[.int .i64 3, .string (s.extract i k), .int .i64 k]) (by simp [results, Tryd.results77, go_sem]) rfl ⟨ret_tok (by rw [← HR.out]; unfold numeral; rw [HEE.out, ← hkEk.out]; rw [if_neg (fun hh => HZ.out (by have h9 := hh.2; rw [get_at s i hi] at h9; exact Option.some.inj h9))]; rw [if_neg (fun hh => by rw [get_at s (k + 1) hB] at hh; rw [show (Option.any dig (some (at_ s (k + 1)))) = dig (at_ s (k + 1)) from rfl, HP2.out] at hh; exact absurd hh.2 (by decide))]), (Below.refl _ _).alloc (Nat.le_refl _) _⟩
                · have h46' : (dk == 46) = false := beq_eq_false_iff_ne.2 h46
                  have H46 : Hid (at_ s k ≠ 46) := by intro e; have := HAk.out; rw [e] at this; simp at this; omega
                  clear h46; go_wp2_with (go_in); exact bodyPost_ret (v := .agg #[.int .i64 3, .string (s.extract i k), .int .i64 k]) (by simp [results, Tryd.results77, go_sem]) rfl ⟨ret_tok (by rw [← HR.out]; unfold numeral; rw [HEE.out, ← hkEk.out]; rw [if_neg (fun hh => HZ.out (by have h9 := hh.2; rw [get_at s i hi] at h9; exact Option.some.inj h9))]; rw [if_neg (fun hh => by rw [get_at s k hltk] at hh; exact H46.out (Option.some.inj hh.1))]), (Below.refl _ _).alloc (Nat.le_refl _) _⟩
              · go_wp2_with (go_in); exact bodyPost_ret (v := .agg #[.int .i64 3, .string (s.extract i k), .int .i64 k]) (by simp [results, Tryd.results77, go_sem]) rfl ⟨ret_tok (by rw [← HR.out]; unfold numeral; rw [HEE.out, ← hkEk.out]; rw [if_neg (fun hh => HZ.out (by have h9 := hh.2; rw [get_at s i hi] at h9; exact Option.some.inj h9))]; rw [if_neg (fun hh => by rw [get_end s (k + 1) (by omega)] at hh; exact absurd hh.2 (by simp))]), (Below.refl _ _).alloc (Nat.le_refl _) _⟩
          · clear hz
            by_cases hB : k + 1 < s.size
            · have hx2 : ∀ h : k + 1 < s.size, ((s[k + 1]'h).toNat : Int) = bt s (k + 1 : Nat) := ZH s (k + 1 : Nat); obtain ⟨b02, b12⟩ := bt_range s (k + 1 : Nat); obtain ⟨d2, hd2⟩ : ∃ d, bt s (k + 1 : Nat) = d := ⟨_, rfl⟩; have HA2 : Hid (((at_ s (k + 1)).toNat : Int) = d2) := (at_int s (k + 1) hB).symm.trans hd2; rw [hd2] at hx2 b02 b12
              by_cases h46 : dk = 46
              · subst h46; have H46 : Hid (at_ s k = 46) := (u8_eq 46 (by omega)).1 HAk.out
                by_cases hp2 : dig (at_ s (k + 1)) = true
                · have HP2 : Hid (dig (at_ s (k + 1)) = true) := hp2; clear hp2; obtain ⟨g12, g22⟩ := dig_yes HP2.out HA2.out; obtain ⟨E2, hE2⟩ : ∃ E2, k + 1 + scan dig ((L s).drop (k + 1)) = E2 := ⟨_, rfl⟩
                  obtain ⟨hE5, hE6⟩ : k + 1 ≤ E2 ∧ E2 ≤ s.size := by have := scan_bound s dig (k + 1) (by omega); omega
                  have HE2 : Hid (k + 1 + scan dig ((L s).drop (k + 1)) = E2) := hE2; clear hE2; go_wp2_with (go_in); go_loop [10] (fun v => ∃ m : Nat, k + 1 ≤ m ∧ m ≤ s.size ∧ v = .int .i64 m ∧ Hid (m + scan dig ((L s).drop m) = E2)) (fun v => s.size - (intOf v).toNat)
                  case atStart => exact ⟨k + 1, by omega, by omega, by first | rfl | go_num, HE2⟩
                  case round =>
                    obtain ⟨m, hm1, hm2, rfl, Hm⟩ := hrel
                    by_cases hltm : m < s.size
                    · have hxm : ∀ h : m < s.size, ((s[m]'h).toNat : Int) = bt s m := ZH s m; obtain ⟨b0m, b1m⟩ := bt_range s m; obtain ⟨dm, hdm⟩ : ∃ d, bt s m = d := ⟨_, rfl⟩; have HAm : Hid (((at_ s m).toNat : Int) = dm) := (at_int s m hltm).symm.trans hdm; rw [hdm] at b0m b1m
                      by_cases hpm : dig (at_ s m) = true
                      · have HPm : Hid (dig (at_ s m) = true) := hpm; clear hpm; obtain ⟨g1m, g2m⟩ := dig_yes HPm.out HAm.out; go_wp2_with (go_in); go_round
                        case rel => exact ⟨m + 1, by omega, by omega, by go_num, by show _ = _; rw [← Hm.out, scan_step hltm HPm.out]; omega⟩
                        case measure => simp [intOf]; omega
                      · have HPm : Hid (dig (at_ s m) = false) := Bool.eq_false_iff.2 hpm
                        have hkEm : Hid (m = E2) := by show m = E2; rw [← Hm.out, scan_stop hltm HPm.out]; rfl
                        clear hpm
                        rcases dig_no HPm.out HAm.out with gm | gm
                        all_goals
                          go_wp2_with (go_in); exact bodyPost_ret (v := .agg #[.int .i64 4, .string (s.extract i m), .int .i64 m]) (by simp [results, Tryd.results77, go_sem]) rfl ⟨ret_tok (by rw [← HR.out]; unfold numeral; rw [HEE.out, ← hkEk.out]; rw [if_neg (fun hh => by omega)]; rw [if_pos ⟨by rw [get_at s k hltk, H46.out], by rw [get_at s (k + 1) hB]; exact HP2.out⟩, HE2.out, hkEm.out]), (Below.refl _ _).alloc (Nat.le_refl _) _⟩
                    · have hkEm : Hid (m = E2) := by show m = E2; rw [← Hm.out, scan_end (by omega)]; rfl
                      go_wp2_with (fail); exact bodyPost_ret (v := .agg #[.int .i64 4, .string (s.extract i m), .int .i64 m]) (by simp [results, Tryd.results77, go_sem]) rfl ⟨ret_tok (by rw [← HR.out]; unfold numeral; rw [HEE.out, ← hkEk.out]; rw [if_neg (fun hh => by omega)]; rw [if_pos ⟨by rw [get_at s k hltk, H46.out], by rw [get_at s (k + 1) hB]; exact HP2.out⟩, HE2.out, hkEm.out]), (Below.refl _ _).alloc (Nat.le_refl _) _⟩
                · have HP2 : Hid (dig (at_ s (k + 1)) = false) := Bool.eq_false_iff.2 hp2; clear hp2
                  rcases dig_no HP2.out HA2.out with g2 | g2
                  all_goals
                    go_wp2_with (go_in); exact bodyPost_ret (v := .agg #[.int .i64 3, .string (s.extract i k), .int .i64 k]) (by simp [results, Tryd.results77, go_sem]) rfl ⟨ret_tok (by rw [← HR.out]; unfold numeral; rw [HEE.out, ← hkEk.out]; rw [if_neg (fun hh => by omega)]; rw [if_neg (fun hh => by rw [get_at s (k + 1) hB] at hh; rw [show (Option.any dig (some (at_ s (k + 1)))) = dig (at_ s (k + 1)) from rfl, HP2.out] at hh; exact absurd hh.2 (by decide))]), (Below.refl _ _).alloc (Nat.le_refl _) _⟩
              · have h46' : (dk == 46) = false := beq_eq_false_iff_ne.2 h46
                have H46 : Hid (at_ s k ≠ 46) := by intro e; have := HAk.out; rw [e] at this; simp at this; omega
                clear h46; go_wp2_with (go_in); exact bodyPost_ret (v := .agg #[.int .i64 3, .string (s.extract i k), .int .i64 k]) (by simp [results, Tryd.results77, go_sem]) rfl ⟨ret_tok (by rw [← HR.out]; unfold numeral; rw [HEE.out, ← hkEk.out]; rw [if_neg (fun hh => by omega)]; rw [if_neg (fun hh => by rw [get_at s k hltk] at hh; exact H46.out (Option.some.inj hh.1))]), (Below.refl _ _).alloc (Nat.le_refl _) _⟩
            · go_wp2_with (go_in); exact bodyPost_ret (v := .agg #[.int .i64 3, .string (s.extract i k), .int .i64 k]) (by simp [results, Tryd.results77, go_sem]) rfl ⟨ret_tok (by rw [← HR.out]; unfold numeral; rw [HEE.out, ← hkEk.out]; rw [if_neg (fun hh => by omega)]; rw [if_neg (fun hh => by rw [get_end s (k + 1) (by omega)] at hh; exact absurd hh.2 (by simp))]), (Below.refl _ _).alloc (Nat.le_refl _) _⟩
        · by_cases hA : i + 1 < k
          · rcases hz with ⟨hz, HZ⟩ | ⟨hz, HZ⟩
            · go_wp2_with (go_in); exact bodyPost_ret (v := .agg #[.int .i64 0, .string ⟨#[]⟩, .int .i64 0]) (by simp [results, Tryd.results77, go_sem]) rfl ⟨ret_tok (by rw [← HR.out]; unfold numeral; rw [HEE.out, ← hkEk.out]; rw [if_pos ⟨by omega, by rw [get_at s i hi, HZ.out]⟩]; rfl), (Below.refl _ _).alloc (Nat.le_refl _) _⟩
            · by_cases hB : k + 1 < s.size
              · have hx2 : ∀ h : k + 1 < s.size, ((s[k + 1]'h).toNat : Int) = bt s (k + 1 : Nat) := ZH s (k + 1 : Nat); obtain ⟨b02, b12⟩ := bt_range s (k + 1 : Nat); obtain ⟨d2, hd2⟩ : ∃ d, bt s (k + 1 : Nat) = d := ⟨_, rfl⟩; have HA2 : Hid (((at_ s (k + 1)).toNat : Int) = d2) := (at_int s (k + 1) hB).symm.trans hd2; rw [hd2] at hx2 b02 b12; have h46 : ¬ dk = 46 := (by omega); have h46' : (dk == 46) = false := beq_eq_false_iff_ne.2 h46
                have H46 : Hid (at_ s k ≠ 46) := by intro e; have := HAk.out; rw [e] at this; simp at this; omega
                clear h46; go_wp2_with (go_in); exact bodyPost_ret (v := .agg #[.int .i64 3, .string (s.extract i k), .int .i64 k]) (by simp [results, Tryd.results77, go_sem]) rfl ⟨ret_tok (by rw [← HR.out]; unfold numeral; rw [HEE.out, ← hkEk.out]; rw [if_neg (fun hh => HZ.out (by have h9 := hh.2; rw [get_at s i hi] at h9; exact Option.some.inj h9))]; rw [if_neg (fun hh => by rw [get_at s k hltk] at hh; exact H46.out (Option.some.inj hh.1))]), (Below.refl _ _).alloc (Nat.le_refl _) _⟩
              · go_wp2_with (go_in); exact bodyPost_ret (v := .agg #[.int .i64 3, .string (s.extract i k), .int .i64 k]) (by simp [results, Tryd.results77, go_sem]) rfl ⟨ret_tok (by rw [← HR.out]; unfold numeral; rw [HEE.out, ← hkEk.out]; rw [if_neg (fun hh => HZ.out (by have h9 := hh.2; rw [get_at s i hi] at h9; exact Option.some.inj h9))]; rw [if_neg (fun hh => by rw [get_end s (k + 1) (by omega)] at hh; exact absurd hh.2 (by simp))]), (Below.refl _ _).alloc (Nat.le_refl _) _⟩
          · clear hz
            by_cases hB : k + 1 < s.size
            · have hx2 : ∀ h : k + 1 < s.size, ((s[k + 1]'h).toNat : Int) = bt s (k + 1 : Nat) := ZH s (k + 1 : Nat); obtain ⟨b02, b12⟩ := bt_range s (k + 1 : Nat); obtain ⟨d2, hd2⟩ : ∃ d, bt s (k + 1 : Nat) = d := ⟨_, rfl⟩; have HA2 : Hid (((at_ s (k + 1)).toNat : Int) = d2) := (at_int s (k + 1) hB).symm.trans hd2; rw [hd2] at hx2 b02 b12; have h46 : ¬ dk = 46 := (by omega); have h46' : (dk == 46) = false := beq_eq_false_iff_ne.2 h46
              have H46 : Hid (at_ s k ≠ 46) := by intro e; have := HAk.out; rw [e] at this; simp at this; omega
              clear h46; go_wp2_with (go_in); exact bodyPost_ret (v := .agg #[.int .i64 3, .string (s.extract i k), .int .i64 k]) (by simp [results, Tryd.results77, go_sem]) rfl ⟨ret_tok (by rw [← HR.out]; unfold numeral; rw [HEE.out, ← hkEk.out]; rw [if_neg (fun hh => by omega)]; rw [if_neg (fun hh => by rw [get_at s k hltk] at hh; exact H46.out (Option.some.inj hh.1))]), (Below.refl _ _).alloc (Nat.le_refl _) _⟩
            · go_wp2_with (go_in); exact bodyPost_ret (v := .agg #[.int .i64 3, .string (s.extract i k), .int .i64 k]) (by simp [results, Tryd.results77, go_sem]) rfl ⟨ret_tok (by rw [← HR.out]; unfold numeral; rw [HEE.out, ← hkEk.out]; rw [if_neg (fun hh => by omega)]; rw [if_neg (fun hh => by rw [get_end s (k + 1) (by omega)] at hh; exact absurd hh.2 (by simp))]), (Below.refl _ _).alloc (Nat.le_refl _) _⟩
    · have hkEk : Hid (k = E) := by show k = E; rw [← Hk.out, scan_end (by omega)]; rfl
      by_cases hA : i + 1 < k
      · rcases hz with ⟨hz, HZ⟩ | ⟨hz, HZ⟩
        · go_wp2_with (go_in); exact bodyPost_ret (v := .agg #[.int .i64 0, .string ⟨#[]⟩, .int .i64 0]) (by simp [results, Tryd.results77, go_sem]) rfl ⟨ret_tok (by rw [← HR.out]; unfold numeral; rw [HEE.out, ← hkEk.out]; rw [if_pos ⟨by omega, by rw [get_at s i hi, HZ.out]⟩]; rfl), (Below.refl _ _).alloc (Nat.le_refl _) _⟩
        · go_wp2_with (go_in); exact bodyPost_ret (v := .agg #[.int .i64 3, .string (s.extract i k), .int .i64 k]) (by simp [results, Tryd.results77, go_sem]) rfl ⟨ret_tok (by rw [← HR.out]; unfold numeral; rw [HEE.out, ← hkEk.out]; rw [if_neg (fun hh => HZ.out (by have h9 := hh.2; rw [get_at s i hi] at h9; exact Option.some.inj h9))]; rw [if_neg (fun hh => by rw [get_end s k (by omega)] at hh; exact absurd hh.1 (by simp))]), (Below.refl _ _).alloc (Nat.le_refl _) _⟩
      · clear hz; go_wp2_with (go_in); exact bodyPost_ret (v := .agg #[.int .i64 3, .string (s.extract i k), .int .i64 k]) (by simp [results, Tryd.results77, go_sem]) rfl ⟨ret_tok (by rw [← HR.out]; unfold numeral; rw [HEE.out, ← hkEk.out]; rw [if_neg (fun hh => by omega)]; rw [if_neg (fun hh => by rw [get_end s k (by omega)] at hh; exact absurd hh.1 (by simp))]), (Below.refl _ _).alloc (Nat.le_refl _) _⟩
end Go.Proofs.YtbeelgaganbblaaDoor.Tok
namespace Go.Proofs.YtbeelgaganbblaaDoor.Tok
open Go.RowKit Go.Proofs.YtbeelgaganbblaaDoorW.PrintWords Go.Proofs.YtbeelgaganbblaaDoor Go.Proofs.YtbeelgaganbblaaDoor.By
set_option linter.unusedVariables false
set_option linter.unusedSimpArgs false
set_option maxRecDepth 100000
theorem bits_short {s : ByteArray} {i : Nat} (h : s.size ≤ i + 2) : bits s i = noTok := by
  unfold bits; rw [tw_end h, tw_end h]
  simp
theorem bits_other {s : ByteArray} {i : Nat} (h1 : (L s)[i + 1]? ≠ some 98) (h2 : (L s)[i + 1]? ≠ some 120) : bits s i = noTok := by
  unfold bits; rw [if_neg h1, if_neg h2]
theorem spec_bits_any (s : ByteArray) (i : Nat) (w : World) (hs : s.size ≤ 35184372088000) (hi : i < s.size) (R : Int × ByteArray × Int) (HR : Hid (bits s i = R)) :
    Calls Tryd.prog 100 #[.string s, .int .i64 i] w fun e w' => e = .returned (.agg #[.int .i64 R.1, .string R.2.1, .int .i64 R.2.2]) ∧ Below w.heap.size w w' := by
  by_cases h2 : i + 2 < s.size
  · by_cases hb : bt s (i + 1 : Nat) = 98
    · exact spec_bin s i w hs h2 hb R HR
    by_cases hx : bt s (i + 1 : Nat) = 120
    · exact spec_hexs s i w hs h2 hx R HR
    have e1 : (L s)[i + 1]? ≠ some 98 := by rw [get_at s (i + 1) (by omega)]; intro e; exact hb (by rw [at_int s (i + 1) (by omega), Option.some.inj e]; rfl)
    have e2 : (L s)[i + 1]? ≠ some 120 := by rw [get_at s (i + 1) (by omega)]; intro e; exact hx (by rw [at_int s (i + 1) (by omega), Option.some.inj e]; rfl)
    have HN : Hid (R = noTok) := by show R = noTok; rw [← HR.out]; exact bits_other e1 e2
    have hxx : ∀ h : i + 1 < s.size, ((s[i + 1]'h).toNat : Int) = bt s (i + 1 : Nat) := ZH s (i + 1 : Nat); obtain ⟨d, hd⟩ : ∃ d, bt s (i + 1 : Nat) = d := ⟨_, rfl⟩; rw [hd] at hb hx hxx; have g1 : (d == 98) = false := beq_eq_false_iff_ne.2 hb; have g2 : (d == 120) = false := beq_eq_false_iff_ne.2 hx; have h2' : ¬ s.size ≤ i + 2 := (by omega); clear hb hx e1 e2 hd; go_enter Tryd.func100, Tryd.ntmps100; go_wp2_with (fail); exact bodyPost_ret (v := .agg #[.int .i64 0, .string ⟨#[]⟩, .int .i64 0]) (by simp [results, Tryd.results100, go_sem]) rfl ⟨ret_tok (R := R) HN.out, (Below.refl _ _).alloc (Nat.le_refl _) _⟩
  · have HN : Hid (R = noTok) := by show R = noTok; rw [← HR.out]; exact bits_short (by omega)
    have h2' : s.size ≤ i + 2 := (by omega); go_enter Tryd.func100, Tryd.ntmps100; go_wp2_with (fail); exact bodyPost_ret (v := .agg #[.int .i64 0, .string ⟨#[]⟩, .int .i64 0]) (by simp [results, Tryd.results100, go_sem]) rfl ⟨ret_tok (R := R) HN.out, (Below.refl _ _).alloc (Nat.le_refl _) _⟩
set_option maxHeartbeats 8000000 in
theorem spec_hash (s : ByteArray) (i : Nat) (w : World) (hs : s.size ≤ 35184372088000) (hi : i < s.size) (hc : bt s i = 35) (R : Int × ByteArray × Int) (HR : Hid (bits s i = R)) :
    Calls Tryd.prog 77 #[.string s, .int .i64 i] w fun e w' => e = .returned (.agg #[.int .i64 R.1, .string R.2.1, .int .i64 R.2.2]) ∧ Below w.heap.size w w' := by
  have hx : ∀ h : i < s.size, ((s[i]'h).toNat : Int) = bt s i := ZH s i; go_enter Tryd.func77, Tryd.ntmps77; go_wp2_with (fail); refine (spec_bits_any s i _ hs hi R HR).mono ?_; rintro e w1 ⟨rfl, hb⟩
  have hz : w.heap.size < w1.heap.size := by have := hb.size; simp at this; omega
  have q0 : w1.cell? ⟨w.heap.size, 0, none⟩ = some (.int .i64 0) := by rw [hb.cell (p := ⟨w.heap.size, 0, none⟩) (by simp)]; exact World.cell?_alloc_at _ _ _ _ rfl
  have q1 : w1.cell? ⟨w.heap.size, 1, none⟩ = some (.string ⟨#[]⟩) := by rw [hb.cell (p := ⟨w.heap.size, 1, none⟩) (by simp)]; exact World.cell?_alloc_at _ _ _ _ rfl
  have q2 : w1.cell? ⟨w.heap.size, 2, none⟩ = some (.int .i64 0) := by rw [hb.cell (p := ⟨w.heap.size, 2, none⟩) (by simp)]; exact World.cell?_alloc_at _ _ _ _ rfl
  have q3 : w1.frozen? ⟨w.heap.size, 0, none⟩ = false := by rw [hb.frozen (p := ⟨w.heap.size, 0, none⟩) (by simp)]; exact World.frozen?_alloc_at _ _ _ _ rfl
  have q4 : w1.frozen? ⟨w.heap.size, 1, none⟩ = false := by rw [hb.frozen (p := ⟨w.heap.size, 1, none⟩) (by simp)]; exact World.frozen?_alloc_at _ _ _ _ rfl
  have q5 : w1.frozen? ⟨w.heap.size, 2, none⟩ = false := by rw [hb.frozen (p := ⟨w.heap.size, 2, none⟩) (by simp)]; exact World.frozen?_alloc_at _ _ _ _ rfl
  have HB : Hid (Below (w.heap.size + 1) (w.alloc (Obj.cells #[Value.int IntKind.i64 0, Value.string { data := #[] }, Value.int IntKind.i64 0] 111)) w1) := by
    have := hb; simp at this; exact this
  clear hb; go_wp2_with (fail); exact bodyPost_ret (v := .agg #[.int .i64 R.1, .string R.2.1, .int .i64 R.2.2]) (by simp [results, Tryd.results77, go_sem, q0, q1, q2, q3, q4, q5]) rfl ⟨rfl, qbelow HB.out⟩
theorem spec_none (s : ByteArray) (i : Nat) (w : World) (hi : i < s.size) (c : Int) (hc : bt s i = c) (c0 : 0 ≤ c) (c1 : c ≤ 255)
    (n1 : (c == 34) = false) (n2 : (c == 124) = false) (n3 : (c == 58) = false) (n4 : (c == 35) = false) (nd : c < 48 ∨ 57 < c) (hn : nmB c = false) :
    Calls Tryd.prog 77 #[.string s, .int .i64 i] w fun e w' => e = .returned (.agg #[.int .i64 0, .string ⟨#[]⟩, .int .i64 0]) ∧ Below w.heap.size w w' := by
  have hx : ∀ h : i < s.size, ((s[i]'h).toNat : Int) = bt s i := ZH s i
  rcases nd with nd | nd
  all_goals
    go_enter Tryd.func77, Tryd.ntmps77; go_wp2_with (first | (go_at_call 75; refine (spec_l3NameByte_any _ _ (by omega) (by omega)).mono ?_; rintro e w' ⟨rfl, rfl⟩) | go_in); exact bodyPost_ret (v := .agg #[.int .i64 0, .string ⟨#[]⟩, .int .i64 0]) (by simp [results, Tryd.results77, go_sem]) rfl ⟨rfl, (Below.refl _ _).alloc (Nat.le_refl _) _⟩
theorem tok_cases (s : ByteArray) (i : Nat) (hi : i < s.size) (c : Int) (hc : bt s i = c) :
    (c = 34 ∧ tok s i = quoted s i) ∨ (c = 124 ∧ tok s i = barred s i) ∨ (c = 58 ∧ tok s i = keyed s i) ∨ (c = 35 ∧ tok s i = bits s i) ∨
    ((c ≠ 34 ∧ c ≠ 124 ∧ c ≠ 58 ∧ c ≠ 35) ∧ ((48 ≤ c ∧ c ≤ 57 ∧ tok s i = numeral s i) ∨ ((c < 48 ∨ 57 < c) ∧ ((nmB c = true ∧ tok s i = named s i) ∨ (nmB c = false ∧ tok s i = noTok))))) := by
  have ha : ((at_ s i).toNat : Int) = c := (at_int s i hi).symm.trans hc
  have ht : tok s i = if at_ s i = 34 then quoted s i else if at_ s i = 124 then barred s i else if at_ s i = 58 then keyed s i else if at_ s i = 35 then bits s i
      else if dig (at_ s i) then numeral s i else if nm (at_ s i) then named s i else noTok := by unfold tok; rw [get_at s i hi]
  rw [ht]; have k34 : c = 34 ↔ at_ s i = (34 : UInt8) := ha ▸ u8_eq (c := at_ s i) 34 (by omega); have k124 : c = 124 ↔ at_ s i = (124 : UInt8) := ha ▸ u8_eq (c := at_ s i) 124 (by omega); have k58 : c = 58 ↔ at_ s i = (58 : UInt8) := ha ▸ u8_eq (c := at_ s i) 58 (by omega); have k35 : c = 35 ↔ at_ s i = (35 : UInt8) := ha ▸ u8_eq (c := at_ s i) 35 (by omega)
  by_cases a1 : c = 34
  · exact .inl ⟨a1, if_pos (k34.1 a1)⟩
  rw [if_neg (fun e => a1 (k34.2 e))]
  by_cases a2 : c = 124
  · exact .inr (.inl ⟨a2, if_pos (k124.1 a2)⟩)
  rw [if_neg (fun e => a2 (k124.2 e))]
  by_cases a3 : c = 58
  · exact .inr (.inr (.inl ⟨a3, if_pos (k58.1 a3)⟩))
  rw [if_neg (fun e => a3 (k58.2 e))]
  by_cases a4 : c = 35
  · exact .inr (.inr (.inr (.inl ⟨a4, if_pos (k35.1 a4)⟩)))
  rw [if_neg (fun e => a4 (k35.2 e))]; refine .inr (.inr (.inr (.inr ⟨⟨a1, a2, a3, a4⟩, ?_⟩)))
  by_cases a5 : dig (at_ s i) = true
  · obtain ⟨g1, g2⟩ := dig_yes a5 ha; exact .inl ⟨g1, g2, if_pos a5⟩
  · rw [if_neg a5]; refine .inr ⟨dig_no (Bool.eq_false_iff.2 a5) ha, ?_⟩
    have hnm : nm (at_ s i) = nmB c := by unfold nm; rw [ha]
    rw [hnm]
    by_cases a6 : nmB c = true
    · exact .inl ⟨a6, if_pos a6⟩
    · exact .inr ⟨Bool.eq_false_iff.2 a6, if_neg a6⟩
theorem spec_tok (s : ByteArray) (i : Nat) (w : World) (hs : s.size ≤ 35184372088000) (hi : i < s.size) :
    Calls Tryd.prog 77 #[.string s, .int .i64 i] w fun e w' => e = .returned (.agg #[.int .i64 (tok s i).1, .string (tok s i).2.1, .int .i64 (tok s i).2.2]) ∧ Below w.heap.size w w' := by
  obtain ⟨c, hc⟩ : ∃ c, bt s i = c := ⟨_, rfl⟩; obtain ⟨c0, c1⟩ := bt_range s i; rw [hc] at c0 c1; have hs' : s.size ≤ 140737488351232 := (by omega)
  rcases tok_cases s i hi c hc with ⟨a, e⟩ | ⟨a, e⟩ | ⟨a, e⟩ | ⟨a, e⟩ | ⟨⟨n1, n2, n3, n4⟩, h⟩
  · exact spec_quoted s i w hs' hi (hc.trans a) _ e.symm
  · exact spec_barred s i w hs' hi (hc.trans a) _ e.symm
  · exact spec_keyed s i w hs' hi (hc.trans a) _ e.symm
  · exact spec_hash s i w hs hi (hc.trans a) _ e.symm
  · have m1 : (c == 34) = false := beq_eq_false_iff_ne.2 n1; have m2 : (c == 124) = false := beq_eq_false_iff_ne.2 n2; have m3 : (c == 58) = false := beq_eq_false_iff_ne.2 n3; have m4 : (c == 35) = false := beq_eq_false_iff_ne.2 n4
    rcases h with ⟨a, b, e⟩ | ⟨a, ⟨b, e⟩ | ⟨b, e⟩⟩
    · exact spec_numeral s i w hs' hi c hc c0 c1 a b m1 m2 m3 m4 _ e.symm
    · exact spec_named s i w hs' hi c hc c0 c1 m1 m2 m3 m4 a b _ e.symm
    · rw [e]; exact spec_none s i w hi c hc c0 c1 m1 m2 m3 m4 a b
end Go.Proofs.YtbeelgaganbblaaDoor.Tok
namespace Go.Proofs.YtbeelgaganbblaaDoor
open Go.RowKit Go.Proofs.YtbeelgaganbblaaDoorW.PrintWords Go.Proofs.YtbeelgaganbblaaDoor.Tok
def tokF (a0 : ByteArray) (a1 : Int) : Option (Int × ByteArray × Int) := if 0 ≤ a1 ∧ a1 < a0.size ∧ a0.size ≤ 35184372088000 then some (tok a0 a1.toNat) else none
def spec_l3Token.f (a0 : ByteArray) (a1 : Int) : Option (Int × ByteArray × Int) := tokF a0 a1
theorem spec_l3Token.calls (a0 : ByteArray) (a1 : Int) (r1 : Int) (r2 : ByteArray) (r3 : Int) (w : World) (h : spec_l3Token.f a0 a1 = some (r1, r2, r3)) :
    Calls Tryd.prog 77 #[.string a0, .int .i64 a1] w fun e w' => e = .returned (.agg #[.int .i64 r1, .string r2, .int .i64 r3]) ∧ Below w.heap.size w w' := by
  unfold spec_l3Token.f tokF at h
  split at h
  · rename_i hc
    obtain ⟨i, rfl⟩ := Int.eq_ofNat_of_zero_le hc.1; rw [Int.toNat_natCast] at h; have h' := Option.some.inj h; have := spec_tok a0 i w hc.2.2 (by omega); rw [h'] at this; exact this
  · cases h
end Go.Proofs.YtbeelgaganbblaaDoor
namespace Go.Proofs.YtbeelgaganbblaaDoor.Tree
open Go.RowKit Go.Proofs.YtbeelgaganbblaaDoor.By Go.Proofs.YtbeelgaganbblaaDoor.Tok
set_option linter.unusedVariables false
set_option linter.unusedSimpArgs false
structure Nd where
  k : Int
  t : List UInt8
  n : Int
def wholeT (l : List UInt8) : Bool := decide (l ≠ []) && !(decide (l[0]? = some 48) && decide (1 < l.length)) && l.all dig
def decT (l : List UInt8) : Bool := (Lib.cut l [46]).2.2 && wholeT (Lib.cut l [46]).1 && decide ((Lib.cut l [46]).2.1 ≠ []) && (Lib.cut l [46]).2.1.all dig
def word (k : Int) (t : List UInt8) : Bool :=
  if k = 1 then decide (t = []) else if k = 2 then t.all inb else if k = 3 then wholeT t else if k = 4 then decT t else
  if k = 5 then decide (t ≠ []) && t.all bin else if k = 6 then t.all inq else if k = 7 then decide (t ≠ []) && t.all nm else false
def goodN (x : Nd) : Bool := decide (0 ≤ x.n) && (decide (x.k = 1) || decide (x.n = 0)) && word x.k x.t
def dec1 : List Int → List Int
  | [] => []
  | a :: st => (a - 1) :: st
def popZ : List Int → List Int
  | [] => []
  | a :: st => if a = 0 then popZ st else a :: st
def specF : List Nd → List Int → Nat → Bool
  | [], st, m => decide (st = [])
  | x :: l, st, m => if 20000 < m + x.t.length ∨ goodN x = false then false else
      if x.k = 1 then (if 200 < (dec1 st).length + 1 then false else specF l (popZ (x.n :: dec1 st)) (m + x.t.length)) else specF l (popZ (dec1 st)) (m + x.t.length)
def implR : List Nd → List Int → Nat → Bool
  | [], st, m => st.all (fun a => decide (a ≤ 0)) && decide (m ≤ 20000)
  | x :: l, st, m => if goodN x = false then false else
      if x.k = 1 then (if 200 < (dec1 (popZ st)).length + 1 then false else implR l (x.n :: dec1 (popZ st)) (m + x.t.length)) else implR l (dec1 (popZ st)) (m + x.t.length)
def Nn (st : List Int) : Prop := ∀ a ∈ st, 0 ≤ a
theorem popZ_nn : ∀ {st : List Int}, Nn st → Nn (popZ st) ∧ (∀ a s, popZ st = a :: s → 1 ≤ a)
  | [], _ => ⟨fun a h => (by cases h), fun a s h => by cases h⟩
  | a :: st, h => by
    unfold popZ
    split
    · exact popZ_nn fun b hb => h b (List.mem_cons_of_mem _ hb)
    · rename_i hne
      refine ⟨h, fun b s e => ?_⟩; have := h a (List.mem_cons_self ..); obtain ⟨rfl, _⟩ := List.cons.inj e; omega
theorem dec_nn {st : List Int} (h : Nn st) : Nn (dec1 (popZ st)) := by
  obtain ⟨h1, h2⟩ := popZ_nn h
  cases hp : popZ st with
  | nil => intro a ha; cases ha
  | cons a s =>
    rw [hp] at h1; have := h2 a s hp; intro b hb
    rcases List.mem_cons.1 hb with rfl | hb
    · omega
    · exact h1 b (List.mem_cons_of_mem _ hb)
theorem popZ_nil : ∀ {st : List Int}, Nn st → (popZ st = [] ↔ st.all (fun a => decide (a ≤ 0)) = true)
  | [], _ => by simp [popZ]
  | a :: st, h => by
    have ha := h a (List.mem_cons_self ..)
    have ih := popZ_nil (st := st) fun b hb => h b (List.mem_cons_of_mem _ hb)
    unfold popZ
    split
    · rename_i e; subst e; rw [ih]; simp
    · rename_i hne
      simp
      intro h0; omega
theorem implR_big : ∀ (l : List Nd) (st : List Int) (m : Nat), 20000 < m → implR l st m = false
  | [], st, m, h => by unfold implR; rw [decide_eq_false (by omega : ¬ m ≤ 20000), Bool.and_false]
  | x :: l, st, m, h => by
    unfold implR
    split
    · rfl
    · split
      · split
        · rfl
        · exact implR_big l _ _ (by omega)
      · exact implR_big l _ _ (by omega)
theorem spec_impl : ∀ (l : List Nd) (st : List Int) (m : Nat), Nn st → m ≤ 20000 → specF l (popZ st) m = implR l st m
  | [], st, m, h, hm => by
    unfold specF implR; rw [decide_eq_true hm, Bool.and_true]
    by_cases he : popZ st = []
    · rw [decide_eq_true he, (popZ_nil h).1 he]
    · rw [decide_eq_false he]
      cases hb : st.all (fun a => decide (a ≤ 0)) with
      | false => rfl
      | true => exact absurd ((popZ_nil h).2 hb) he
  | x :: l, st, m, h, hm => by
    unfold specF implR
    cases hg : goodN x with
    | false => rw [if_pos (.inr rfl), if_pos rfl]
    | true =>
      rw [if_neg (show ¬ (true = false) by decide)]
      have hn : 0 ≤ x.n := by
        unfold goodN at hg; simp only [Bool.and_eq_true, decide_eq_true_eq] at hg; exact hg.1.1
      by_cases hb : 20000 < m + x.t.length
      · rw [if_pos (.inl hb)]
        split
        · split
          · rfl
          · exact (implR_big _ _ _ hb).symm
        · exact (implR_big _ _ _ hb).symm
      · rw [if_neg (by rintro (h | h); exact hb h; cases h)]
        split
        · split
          · rfl
          · refine spec_impl l _ _ ?_ (by omega); intro a ha
            rcases List.mem_cons.1 ha with rfl | ha
            · exact hn
            · exact dec_nn h a ha
        · exact spec_impl l _ _ (dec_nn h) (by omega)
def leafT (x : Nd) : List UInt8 :=
  if x.k = 2 then (if (decide (x.t ≠ []) && !((x.t[0]?).any dig) && x.t.all nm) = true then x.t else 124 :: (x.t ++ [124])) else
  if x.k = 6 then 34 :: (x.t.flatMap (fun c => if c = 34 then [34, 34] else [c]) ++ [34]) else if x.k = 7 then 58 :: x.t else if x.k = 5 then 35 :: 98 :: x.t else x.t
def joinS : List (List UInt8) → List UInt8
  | [] => []
  | t :: ts => t ++ ts.flatMap (fun u => 32 :: u)
inductive Kids : Nat → List Nd → List Nd → List (List UInt8) → Prop
  | nil (l : List Nd) : Kids 0 l l []
  | leaf {n : Nat} {x : Nd} {l r : List Nd} {ts : List (List UInt8)} (hk : x.k ≠ 1) (hg : goodN x = true) (h : Kids n l r ts) : Kids (n + 1) (x :: l) r (leafT x :: ts)
  | list {n : Nat} {x : Nd} {l r1 r : List Nd} {ts1 ts : List (List UInt8)} (hk : x.k = 1) (hg : goodN x = true) (h1 : Kids x.n.toNat l r1 ts1) (h : Kids n r1 r ts) : Kids (n + 1) (x :: l) r ((40 :: (joinS ts1 ++ [41])) :: ts)
def Rest : List Int → List Nd → Prop
  | [], l => ∃ n ts, Kids n l [] ts
  | a :: st, l => ∃ r ts, Kids a.toNat l r ts ∧ Rest st r
theorem rest_pop : ∀ {st : List Int} {l : List Nd}, Rest (popZ st) l → Rest st l
  | [], l, h => h
  | a :: st, l, h => by
    unfold popZ at h
    split at h
    · rename_i e; subst e
      exact ⟨l, [], .nil l, rest_pop h⟩
    · exact h
theorem form_rest : ∀ (l : List Nd) (st : List Int) (m : Nat), Nn st → specF l (popZ st) m = true → Rest (popZ st) l
  | [], st, m, hn, h => by
    unfold specF at h; rw [of_decide_eq_true h]; exact ⟨0, [], .nil []⟩
  | x :: l, st, m, hn, h => by
    unfold specF at h
    split at h
    · cases h
    rename_i hx
    have hg : goodN x = true := by
      cases hb : goodN x with
      | true => rfl
      | false => exact absurd (.inr hb) hx
    have hxn : 0 ≤ x.n := by
      unfold goodN at hg; simp only [Bool.and_eq_true, decide_eq_true_eq] at hg; exact hg.1.1
    have hd := dec_nn hn; have one := (popZ_nn hn).2
    by_cases hk : x.k = 1
    · rw [if_pos hk] at h
      split at h
      · cases h
      have hn2 : Nn (x.n :: dec1 (popZ st)) := fun a ha => by
        rcases List.mem_cons.1 ha with rfl | ha
        · exact hxn
        · exact hd a ha
      obtain ⟨r1, ts1, k1, hr⟩ := rest_pop (form_rest l _ _ hn2 h)
      cases hp : popZ st with
      | nil =>
        rw [hp] at hr; obtain ⟨n, ts, k2⟩ := hr; exact ⟨n + 1, _, .list hk hg k1 k2⟩
      | cons a s =>
        rw [hp] at hr; obtain ⟨r, ts, k2, hr2⟩ := hr; have ha := one a s hp; refine ⟨r, (40 :: (joinS ts1 ++ [41])) :: ts, ?_, hr2⟩; rw [show a.toNat = (a - 1).toNat + 1 by omega]; exact .list hk hg k1 k2
    · rw [if_neg hk] at h; have hr := rest_pop (form_rest l _ _ hd h)
      cases hp : popZ st with
      | nil =>
        rw [hp] at hr; obtain ⟨n, ts, k2⟩ := hr; exact ⟨n + 1, _, .leaf hk hg k2⟩
      | cons a s =>
        rw [hp] at hr; obtain ⟨r, ts, k2, hr2⟩ := hr; have ha := one a s hp; refine ⟨r, leafT x :: ts, ?_, hr2⟩; rw [show a.toNat = (a - 1).toNat + 1 by omega]; exact .leaf hk hg k2
theorem form_kids {l : List Nd} (h : specF l [] 0 = true) : ∃ n ts, Kids n l [] ts := form_rest l [] 0 (fun a ha => by cases ha) h
def normW : List Int → List UInt8 → List Int × List UInt8
  | [], out => ([], out)
  | a :: st, out => if a = 0 then normW st (out ++ [41]) else (a :: st, out)
def sepT (st : List Int) (out : List UInt8) : List UInt8 := if st ≠ [] ∧ out.getLast? ≠ some 40 then out ++ [32] else out
def nlT (p : List Int × List UInt8) : List Int × List UInt8 := (p.1, if p.1 = [] then p.2 ++ [10] else p.2)
def specW : List Nd → List Int → List UInt8 → List UInt8
  | [], st, out => out
  | x :: l, st, out =>
    specW l (nlT (if x.k = 1 then normW (x.n :: dec1 st) (sepT st out ++ [40]) else normW (dec1 st) (sepT st out ++ leafT x))).1
      (nlT (if x.k = 1 then normW (x.n :: dec1 st) (sepT st out ++ [40]) else normW (dec1 st) (sepT st out ++ leafT x))).2
def after (r : List Nd) (p : List Int × List UInt8) : List UInt8 := specW r (nlT p).1 (nlT p).2
theorem good_last {x : Nd} (hk : x.k ≠ 1) (hg : goodN x = true) : leafT x ≠ [] ∧ (leafT x).getLast? ≠ some 40 := by
  have hw : word x.k x.t = true := by
    unfold goodN at hg; rw [Bool.and_eq_true] at hg; exact hg.2
  have all_last : ∀ (p : UInt8 → Bool) (l : List UInt8), p 40 = false → l.all p = true → l.getLast? ≠ some 40 := fun p l hp ha e => by
    have hm : (40 : UInt8) ∈ l := List.mem_of_getLast? e; rw [List.all_eq_true.1 ha _ hm] at hp; cases hp
  have snoc : ∀ (c : UInt8) (l : List UInt8), (l ++ [c]).getLast? = some c := fun c l => by simp
  have cons_last : ∀ (c : UInt8) (l : List UInt8), l ≠ [] → (c :: l).getLast? = l.getLast? := fun c l h => by
    cases l with | nil => exact absurd rfl h | cons a b => simp
  unfold leafT; unfold word at hw; rw [if_neg hk] at hw
  by_cases h2 : x.k = 2
  · rw [if_pos h2]
    split
    · rename_i hb
      rw [Bool.and_eq_true, Bool.and_eq_true] at hb; exact ⟨of_decide_eq_true hb.1.1, all_last nm _ (by decide) hb.2⟩
    · exact ⟨by simp, by rw [← List.cons_append, snoc]; decide⟩
  rw [if_neg h2] at hw ⊢
  by_cases h3 : x.k = 3
  · rw [if_pos h3] at hw; rw [if_neg (by omega), if_neg (by omega), if_neg (by omega)]; unfold wholeT at hw; rw [Bool.and_eq_true, Bool.and_eq_true] at hw; exact ⟨of_decide_eq_true hw.1.1, all_last dig _ (by decide) hw.2⟩
  rw [if_neg h3] at hw
  by_cases h4 : x.k = 4
  · rw [if_pos h4] at hw; rw [if_neg (by omega), if_neg (by omega), if_neg (by omega)]; unfold decT at hw; rw [Bool.and_eq_true, Bool.and_eq_true, Bool.and_eq_true] at hw; obtain ⟨⟨⟨q1, q2⟩, q3⟩, q4⟩ := hw
    obtain ⟨a, b, e1, e2⟩ : ∃ a b, x.t = a ++ 46 :: b ∧ (Lib.cut x.t [46]).2.1 = b := by
      unfold Lib.cut at q1 ⊢
      by_cases h0 : 0 ≤ Lib.index x.t [46]
      · rw [if_pos h0]
        rcases Lib.index_spec x.t [46] with ⟨h1, _⟩ | ⟨i, h1, h2, h3, _⟩
        · omega
        · rw [h1, Int.toNat_natCast]; unfold Lib.occAt at h3; obtain ⟨t, ht⟩ := List.isPrefixOf_iff_prefix.1 h3; have ht2 : x.t.drop i = 46 :: t := ht.symm
          have e : x.t.drop (i + ([46] : List UInt8).length) = t := by
            show x.t.drop (i + 1) = t; rw [← List.drop_drop, ht2]; rfl
          exact ⟨x.t.take i, t, by rw [← ht2, List.take_append_drop], e⟩
      · rw [if_neg h0] at q1; cases q1
    rw [e2] at q3 q4; have hb : b ≠ [] := of_decide_eq_true q3; rw [e1]; refine ⟨by simp, ?_⟩; rw [List.getLast?_append, cons_last _ _ hb]; intro e
    cases hl : b.getLast? with
    | none => exact hb (List.getLast?_eq_none_iff.1 hl)
    | some z => rw [hl] at e; exact all_last dig b (by decide) q4 (by rw [hl]; exact e)
  rw [if_neg h4] at hw
  by_cases h5 : x.k = 5
  · rw [if_pos h5] at hw; rw [if_neg (by omega), if_neg (by omega), if_pos h5]; rw [Bool.and_eq_true] at hw; have hne : x.t ≠ [] := of_decide_eq_true hw.1; refine ⟨by simp, ?_⟩; rw [cons_last _ _ (by simp), cons_last _ _ hne]; exact all_last bin _ (by decide) hw.2
  rw [if_neg h5] at hw
  by_cases h6 : x.k = 6
  · rw [if_pos h6]; exact ⟨by simp, by rw [← List.cons_append, snoc]; decide⟩
  rw [if_neg h6] at hw ⊢
  by_cases h7 : x.k = 7
  · rw [if_pos h7] at hw ⊢; rw [Bool.and_eq_true] at hw; have hne : x.t ≠ [] := of_decide_eq_true hw.1; exact ⟨by simp, by rw [cons_last _ _ hne]; exact all_last nm _ (by decide) hw.2⟩
  · rw [if_neg h7] at hw; cases hw
theorem br_last (l : List UInt8) : (40 :: (l ++ [41]) : List UInt8).getLast? ≠ some 40 := by
  rw [← List.cons_append, List.getLast?_concat]; decide
theorem spec_nest : ∀ {n l r ts}, Kids n l r ts → ∀ (a : Int) (st : List Int) (out : List UInt8), (n : Int) ≤ a → (n ≠ 0) →
    specW l (a :: st) out = after r (normW ((a - n) :: st) (sepT (a :: st) out ++ joinS ts)) := by
  intro n l r ts h
  have app_last : ∀ (x y : List UInt8), y ≠ [] → y.getLast? ≠ some 40 → (x ++ y).getLast? ≠ some 40 := fun x y h1 h2 e => by
    rw [List.getLast?_append] at e
    cases hl : y.getLast? with
    | none => exact h1 (List.getLast?_eq_none_iff.1 hl)
    | some z => rw [hl] at e; exact h2 (by rw [hl]; exact e)
  have go : ∀ (n : Nat) (l r : List Nd) (ts : List (List UInt8)) (t : List UInt8) (a : Int) (st : List Int) (o : List UInt8), Kids n l r ts → t ≠ [] → t.getLast? ≠ some 40 → ((n + 1 : Nat) : Int) ≤ a →
      (∀ (a : Int) (st : List Int) (out : List UInt8), (n : Int) ≤ a → (n ≠ 0) → specW l (a :: st) out = after r (normW ((a - n) :: st) (sepT (a :: st) out ++ joinS ts))) →
      after l (normW ((a - 1) :: st) (o ++ t)) = after r (normW ((a - (n + 1 : Nat)) :: st) (o ++ joinS (t :: ts))) := by
    intro n l r ts t a st o hK ht1 ht2 ha ih
    by_cases hn : n = 0
    · subst hn; cases hK; rw [show ((0 + 1 : Nat) : Int) = 1 from rfl]
      simp [joinS]
    · have hne : ¬ (a - 1 = 0) := by omega
      have e1 : normW ((a - 1) :: st) (o ++ t) = ((a - 1) :: st, o ++ t) := by unfold normW; rw [if_neg hne]
      rw [e1]; unfold after nlT; simp only; rw [if_neg (by simp), ih (a - 1) st (o ++ t) (by omega) hn]
      have e2 : sepT ((a - 1) :: st) (o ++ t) = o ++ t ++ [32] := by
        unfold sepT; rw [if_pos ⟨by simp, app_last o t ht1 ht2⟩]
      have e3 : o ++ t ++ [32] ++ joinS ts = o ++ joinS (t :: ts) := by
        cases ts with
        | nil => cases hK; exact absurd rfl hn
        | cons u us => simp [joinS]
      rw [e2, e3, show a - 1 - (n : Int) = a - ((n + 1 : Nat) : Int) by omega]; rfl
  induction h with
  | nil l => intro a st out _ h0; exact absurd rfl h0
  | @leaf n x l r ts hk hg h ih =>
    intro a st out ha _; obtain ⟨g1, g2⟩ := good_last hk hg; have := go n l r ts (leafT x) a st (sepT (a :: st) out) h g1 g2 ha ih; rw [← this]; show specW l _ _ = after l _; unfold after; rw [if_neg hk]; rfl
  | @list n x l r1 r ts1 ts hk hg h1 h ih1 ih =>
    intro a st out ha _
    have hxn : 0 ≤ x.n := by
      unfold goodN at hg; simp only [Bool.and_eq_true, decide_eq_true_eq] at hg; exact hg.1.1
    have g1 : (40 :: (joinS ts1 ++ [41])) ≠ ([] : List UInt8) := (by simp); have g2 : (40 :: (joinS ts1 ++ [41]) : List UInt8).getLast? ≠ some 40 := br_last _; have := go n r1 r ts (40 :: (joinS ts1 ++ [41])) a st (sepT (a :: st) out) h g1 g2 ha ih; rw [← this]; show specW l (nlT (if x.k = 1 then normW (x.n :: (a - 1) :: st) (sepT (a :: st) out ++ [40]) else _)).1 (nlT (if x.k = 1 then normW (x.n :: (a - 1) :: st) (sepT (a :: st) out ++ [40]) else _)).2 = _; rw [if_pos hk]
    by_cases h0 : x.n = 0
    · rw [show x.n.toNat = 0 by omega] at h1; cases h1
      have e : normW (x.n :: (a - 1) :: st) (sepT (a :: st) out ++ [40]) = normW ((a - 1) :: st) (sepT (a :: st) out ++ 40 :: (joinS [] ++ [41])) := by
        conv => lhs; unfold normW
        rw [if_pos h0]; simp [joinS]
      rw [e]; rfl
    · have e : normW (x.n :: (a - 1) :: st) (sepT (a :: st) out ++ [40]) = (x.n :: (a - 1) :: st, sepT (a :: st) out ++ [40]) := by unfold normW; rw [if_neg h0]
      rw [e]; unfold nlT; simp only; rw [if_neg (by simp), ih1 x.n ((a - 1) :: st) _ (by omega) (by omega)]
      have e2 : sepT (x.n :: (a - 1) :: st) (sepT (a :: st) out ++ [40]) = sepT (a :: st) out ++ [40] := by
        unfold sepT; rw [if_neg (by intro h; exact h.2 (by simp))]
      rw [e2, show x.n - (x.n.toNat : Int) = 0 by omega]
      have e3 : normW (0 :: (a - 1) :: st) (sepT (a :: st) out ++ [40] ++ joinS ts1) = normW ((a - 1) :: st) (sepT (a :: st) out ++ 40 :: (joinS ts1 ++ [41])) := by
        conv => lhs; unfold normW
        rw [if_pos rfl]; simp
      rw [e3]
theorem spec_row : ∀ {n l r ts}, Kids n l r ts → ∀ (out : List UInt8), specW l [] out = specW r [] (out ++ ts.flatMap (fun t => t ++ [10])) := by
  intro n l r ts h
  induction h with
  | nil l => intro out; simp
  | @leaf n x l r ts hk hg h ih =>
    intro out; show specW l (nlT (if x.k = 1 then _ else normW [] (sepT [] out ++ leafT x))).1 (nlT (if x.k = 1 then _ else normW [] (sepT [] out ++ leafT x))).2 = _; rw [if_neg hk]; show specW l [] (sepT [] out ++ leafT x ++ [10]) = _; rw [ih]
    simp [sepT]
  | @list n x l r1 r ts1 ts hk hg h1 h ih1 ih =>
    intro out
    have hxn : 0 ≤ x.n := by
      unfold goodN at hg; simp only [Bool.and_eq_true, decide_eq_true_eq] at hg; exact hg.1.1
    have es : sepT [] out = out := by simp [sepT]
    show specW l (nlT (if x.k = 1 then normW (x.n :: []) (sepT [] out ++ [40]) else _)).1 (nlT (if x.k = 1 then normW (x.n :: []) (sepT [] out ++ [40]) else _)).2 = _; rw [if_pos hk, es]
    by_cases h0 : x.n = 0
    · rw [show x.n.toNat = 0 by omega] at h1; cases h1
      have e : normW [x.n] (out ++ [40]) = ([], out ++ [40] ++ [41]) := by
        unfold normW; rw [if_pos h0]; rfl
      rw [e]; show specW l [] (out ++ [40] ++ [41] ++ [10]) = _; rw [ih]
      simp [joinS]
    · have e : normW [x.n] (out ++ [40]) = ([x.n], out ++ [40]) := by unfold normW; rw [if_neg h0]
      rw [e]; show specW l [x.n] (out ++ [40]) = _; rw [spec_nest h1 x.n [] _ (by omega) (by omega)]
      have e2 : sepT [x.n] (out ++ [40]) = out ++ [40] := by
        unfold sepT; rw [if_neg (by intro h; exact h.2 (by simp))]
      rw [e2, show x.n - (x.n.toNat : Int) = 0 by omega]
      have e3 : normW [0] (out ++ [40] ++ joinS ts1) = ([], out ++ [40] ++ joinS ts1 ++ [41]) := by
        unfold normW; rw [if_pos rfl]; rfl
      rw [e3]; show specW r1 [] (out ++ [40] ++ joinS ts1 ++ [41] ++ [10]) = _; rw [ih]
      simp
theorem spec_whole {n l ts} (h : Kids n l [] ts) : specW l [] [] = ts.flatMap (fun t => t ++ [10]) := by
  rw [spec_row h []]; rfl
def cost (l : List Nd) : Nat := (l.map fun x => 2 * x.t.length + 8).sum
theorem cost_cons (x : Nd) (l : List Nd) : cost (x :: l) = 2 * x.t.length + 8 + cost l := by unfold cost; simp
def sumL (ts : List (List UInt8)) : Nat := (ts.map fun t => t.length + 1).sum
theorem sumL_cons (t : List UInt8) (ts : List (List UInt8)) : sumL (t :: ts) = t.length + 1 + sumL ts := by unfold sumL; simp
theorem flat_len (ts : List (List UInt8)) (c : UInt8) : (ts.flatMap fun u => c :: u).length = sumL ts := by
  induction ts with
  | nil => rfl
  | cons t ts ih => rw [List.flatMap_cons, List.length_append, ih, sumL_cons]; simp
theorem join_len (ts : List (List UInt8)) : (joinS ts).length ≤ sumL ts := by
  cases ts with
  | nil => exact Nat.zero_le _
  | cons t ts => show (t ++ ts.flatMap fun u => 32 :: u).length ≤ _; rw [List.length_append, flat_len, sumL_cons]; omega
theorem quote_len (l : List UInt8) : (l.flatMap (fun c => if c = 34 then [34, 34] else [c])).length ≤ 2 * l.length := by
  induction l with
  | nil => exact Nat.le_refl _
  | cons c l ih =>
    rw [List.flatMap_cons, List.length_append, List.length_cons]
    by_cases h : c = 34
    · rw [if_pos h, show ([34, 34] : List UInt8).length = 2 from rfl]; omega
    · rw [if_neg h, show ([c] : List UInt8).length = 1 from rfl]; omega
theorem leaf_len (x : Nd) : (leafT x).length + 1 ≤ 2 * x.t.length + 8 := by
  have := quote_len x.t; unfold leafT; generalize x.t.flatMap (fun c => if c = 34 then [34, 34] else [c]) = q at this
  repeat' split
  all_goals (try rw [List.length_cons])
  all_goals (try rw [List.length_cons])
  all_goals (try rw [List.length_append, show ([124] : List UInt8).length = 1 from rfl])
  all_goals (try rw [List.length_append, show ([34] : List UInt8).length = 1 from rfl])
  all_goals omega
theorem kids_cost : ∀ {n l r ts}, Kids n l r ts → sumL ts + cost r ≤ cost l := by
  intro n l r ts h
  induction h with
  | nil l => simp [sumL]
  | @leaf n x l r ts hk hg h ih => rw [sumL_cons, cost_cons]; have := leaf_len x; omega
  | @list n x l r1 r ts1 ts hk hg h1 h ih1 ih =>
    rw [sumL_cons, cost_cons]; have := join_len ts1
    simp
    omega
theorem kids_split {n : Nat} {l r : List Nd} {t : List UInt8} {ts : List (List UInt8)} (h : Kids (n + 1) l r (t :: ts)) : ∃ m, Kids 1 l m [t] ∧ Kids n m r ts := by
  cases h with
  | leaf hk hg h => exact ⟨_, .leaf hk hg (.nil _), h⟩
  | list hk hg h1 h => exact ⟨_, .list hk hg h1 (.nil _), h⟩
theorem kids_texts : ∀ {n l r ts}, Kids n l r ts → ts.length = n := by
  intro n l r ts h
  induction h with
  | nil l => rfl
  | leaf hk hg h ih => rw [List.length_cons, ih]
  | list hk hg h1 h ih1 ih => rw [List.length_cons, ih]
theorem kids_drop : ∀ {n l r ts}, Kids n l r ts → ∃ p, l = p ++ r ∧ n ≤ p.length := by
  intro n l r ts h
  induction h with
  | nil l => exact ⟨[], rfl, Nat.le_refl _⟩
  | @leaf n x l r ts hk hg h ih =>
    obtain ⟨p, e, hp⟩ := ih; exact ⟨x :: p, by rw [e]; rfl, by rw [List.length_cons]; omega⟩
  | @list n x l r1 r ts1 ts hk hg h1 h ih1 ih =>
    obtain ⟨p1, e1, hp1⟩ := ih1; obtain ⟨p, e, hp⟩ := ih; exact ⟨x :: (p1 ++ p), by rw [e1, e]; simp, by rw [List.length_cons, List.length_append]; omega⟩
theorem kids_one {l r : List Nd} {t : List UInt8} (h : Kids 1 l r [t]) : (∃ x, l = x :: r ∧ x.k ≠ 1 ∧ goodN x = true ∧ t = leafT x) ∨
    (∃ x l1 ts1, l = x :: l1 ∧ x.k = 1 ∧ goodN x = true ∧ Kids x.n.toNat l1 r ts1 ∧ t = 40 :: (joinS ts1 ++ [41])) := by
  cases h with
  | leaf hk hg h => cases h; exact .inl ⟨_, rfl, hk, hg, rfl⟩
  | list hk hg h1 h => cases h; exact .inr ⟨_, _, _, rfl, hk, hg, h1, rfl⟩
end Go.Proofs.YtbeelgaganbblaaDoor.Tree

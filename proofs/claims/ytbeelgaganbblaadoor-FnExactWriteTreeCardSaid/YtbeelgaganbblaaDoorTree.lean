/- Plain law on rows of nodes: the reference's test of a row of trees and the program's are the same, and what the reference writes is, tree by tree, what the program writes. -/
import Derived.Test.YtbeelgaganbblaaDoorTokP
import Derived.Lib.IndexMore
namespace Go.Proofs.YtbeelgaganbblaaDoor.Tree
open Go.RowKit Go.Proofs.YtbeelgaganbblaaDoor.By Go.Proofs.YtbeelgaganbblaaDoor.Tok
set_option linter.unusedVariables false
set_option linter.unusedSimpArgs false
/-- a node: its kind, its text, its members -/
structure Nd where
  k : Int
  t : List UInt8
  n : Int
def wholeT (l : List UInt8) : Bool := decide (l ≠ []) && !(decide (l[0]? = some 48) && decide (1 < l.length)) && l.all dig
def decT (l : List UInt8) : Bool := (Lib.cut l [46]).2.2 && wholeT (Lib.cut l [46]).1 && decide ((Lib.cut l [46]).2.1 ≠ []) && (Lib.cut l [46]).2.1.all dig
/-- is a text of its kind? -/
def word (k : Int) (t : List UInt8) : Bool :=
  if k = 1 then decide (t = []) else if k = 2 then t.all inb else if k = 3 then wholeT t else if k = 4 then decT t else
  if k = 5 then decide (t ≠ []) && t.all bin else if k = 6 then t.all inq else if k = 7 then decide (t ≠ []) && t.all nm else false
def goodN (x : Nd) : Bool := decide (0 ≤ x.n) && (decide (x.k = 1) || decide (x.n = 0)) && word x.k x.t
def dec1 : List Int → List Int
  | [] => []
  | a :: st => (a - 1) :: st
def popZ : List Int → List Int
  | [] => []
  | a :: st => if a = 0 then popZ st else a :: st
/-- the reference's test: the lists that are open (the last first) with the members that are left, the bytes so far -/
def specF : List Nd → List Int → Nat → Bool
  | [], st, m => decide (st = [])
  | x :: l, st, m => if 20000 < m + x.t.length ∨ goodN x = false then false else
      if x.k = 1 then (if 200 < (dec1 st).length + 1 then false else specF l (popZ (x.n :: dec1 st)) (m + x.t.length)) else specF l (popZ (dec1 st)) (m + x.t.length)
/-- the program's test -/
def implR : List Nd → List Int → Nat → Bool
  | [], st, m => st.all (fun a => decide (a ≤ 0)) && decide (m ≤ 20000)
  | x :: l, st, m => if goodN x = false then false else
      if x.k = 1 then (if 200 < (dec1 (popZ st)).length + 1 then false else implR l (x.n :: dec1 (popZ st)) (m + x.t.length)) else implR l (dec1 (popZ st)) (m + x.t.length)
def Nn (st : List Int) : Prop := ∀ a ∈ st, 0 ≤ a
theorem popZ_nn : ∀ {st : List Int}, Nn st → Nn (popZ st) ∧ (∀ a s, popZ st = a :: s → 1 ≤ a)
  | [], _ => ⟨fun a h => (by cases h), fun a s h => by cases h⟩
  | a :: st, h => by
    unfold popZ
    split
    · exact popZ_nn fun b hb => h b (List.mem_cons_of_mem _ hb)
    · rename_i hne
      refine ⟨h, fun b s e => ?_⟩
      have := h a (List.mem_cons_self ..)
      obtain ⟨rfl, _⟩ := List.cons.inj e
      omega
theorem dec_nn {st : List Int} (h : Nn st) : Nn (dec1 (popZ st)) := by
  obtain ⟨h1, h2⟩ := popZ_nn h
  cases hp : popZ st with
  | nil => intro a ha; cases ha
  | cons a s =>
    rw [hp] at h1
    have := h2 a s hp
    intro b hb
    rcases List.mem_cons.1 hb with rfl | hb
    · omega
    · exact h1 b (List.mem_cons_of_mem _ hb)
theorem popZ_nil : ∀ {st : List Int}, Nn st → (popZ st = [] ↔ st.all (fun a => decide (a ≤ 0)) = true)
  | [], _ => by simp [popZ]
  | a :: st, h => by
    have ha := h a (List.mem_cons_self ..)
    have ih := popZ_nil (st := st) fun b hb => h b (List.mem_cons_of_mem _ hb)
    unfold popZ
    split
    · rename_i e; subst e; rw [ih]; simp
    · rename_i hne
      simp
      intro h0; omega
theorem implR_big : ∀ (l : List Nd) (st : List Int) (m : Nat), 20000 < m → implR l st m = false
  | [], st, m, h => by unfold implR; rw [decide_eq_false (by omega : ¬ m ≤ 20000), Bool.and_false]
  | x :: l, st, m, h => by
    unfold implR
    split
    · rfl
    · split
      · split
        · rfl
        · exact implR_big l _ _ (by omega)
      · exact implR_big l _ _ (by omega)
theorem spec_impl : ∀ (l : List Nd) (st : List Int) (m : Nat), Nn st → m ≤ 20000 → specF l (popZ st) m = implR l st m
  | [], st, m, h, hm => by
    unfold specF implR
    rw [decide_eq_true hm, Bool.and_true]
    by_cases he : popZ st = []
    · rw [decide_eq_true he, (popZ_nil h).1 he]
    · rw [decide_eq_false he]
      cases hb : st.all (fun a => decide (a ≤ 0)) with
      | false => rfl
      | true => exact absurd ((popZ_nil h).2 hb) he
  | x :: l, st, m, h, hm => by
    unfold specF implR
    cases hg : goodN x with
    | false => rw [if_pos (.inr rfl), if_pos rfl]
    | true =>
      rw [if_neg (show ¬ (true = false) by decide)]
      have hn : 0 ≤ x.n := by
        unfold goodN at hg
        simp only [Bool.and_eq_true, decide_eq_true_eq] at hg
        exact hg.1.1
      by_cases hb : 20000 < m + x.t.length
      · rw [if_pos (.inl hb)]
        split
        · split
          · rfl
          · exact (implR_big _ _ _ hb).symm
        · exact (implR_big _ _ _ hb).symm
      · rw [if_neg (by rintro (h | h); exact hb h; cases h)]
        split
        · split
          · rfl
          · refine spec_impl l _ _ ?_ (by omega)
            intro a ha
            rcases List.mem_cons.1 ha with rfl | ha
            · exact hn
            · exact dec_nn h a ha
        · exact spec_impl l _ _ (dec_nn h) (by omega)
/-- a leaf's text -/
def leafT (x : Nd) : List UInt8 :=
  if x.k = 2 then (if (decide (x.t ≠ []) && !((x.t[0]?).any dig) && x.t.all nm) = true then x.t else 124 :: (x.t ++ [124])) else
  if x.k = 6 then 34 :: (x.t.flatMap (fun c => if c = 34 then [34, 34] else [c]) ++ [34]) else if x.k = 7 then 58 :: x.t else if x.k = 5 then 35 :: 98 :: x.t else x.t
/-- texts, a blank between each two -/
def joinS : List (List UInt8) → List UInt8
  | [] => []
  | t :: ts => t ++ ts.flatMap (fun u => 32 :: u)
/-- n trees stand at the head of a row; what is left; their texts -/
inductive Kids : Nat → List Nd → List Nd → List (List UInt8) → Prop
  | nil (l : List Nd) : Kids 0 l l []
  | leaf {n : Nat} {x : Nd} {l r : List Nd} {ts : List (List UInt8)} (hk : x.k ≠ 1) (hg : goodN x = true) (h : Kids n l r ts) : Kids (n + 1) (x :: l) r (leafT x :: ts)
  | list {n : Nat} {x : Nd} {l r1 r : List Nd} {ts1 ts : List (List UInt8)} (hk : x.k = 1) (hg : goodN x = true) (h1 : Kids x.n.toNat l r1 ts1) (h : Kids n r1 r ts) : Kids (n + 1) (x :: l) r ((40 :: (joinS ts1 ++ [41])) :: ts)
def Rest : List Int → List Nd → Prop
  | [], l => ∃ n ts, Kids n l [] ts
  | a :: st, l => ∃ r ts, Kids a.toNat l r ts ∧ Rest st r
theorem rest_pop : ∀ {st : List Int} {l : List Nd}, Rest (popZ st) l → Rest st l
  | [], l, h => h
  | a :: st, l, h => by
    unfold popZ at h
    split at h
    · rename_i e; subst e
      exact ⟨l, [], .nil l, rest_pop h⟩
    · exact h
theorem form_rest : ∀ (l : List Nd) (st : List Int) (m : Nat), Nn st → specF l (popZ st) m = true → Rest (popZ st) l
  | [], st, m, hn, h => by
    unfold specF at h
    rw [of_decide_eq_true h]
    exact ⟨0, [], .nil []⟩
  | x :: l, st, m, hn, h => by
    unfold specF at h
    split at h
    · cases h
    rename_i hx
    have hg : goodN x = true := by
      cases hb : goodN x with
      | true => rfl
      | false => exact absurd (.inr hb) hx
    have hxn : 0 ≤ x.n := by
      unfold goodN at hg
      simp only [Bool.and_eq_true, decide_eq_true_eq] at hg
      exact hg.1.1
    have hd := dec_nn hn
    have one := (popZ_nn hn).2
    by_cases hk : x.k = 1
    · rw [if_pos hk] at h
      split at h
      · cases h
      have hn2 : Nn (x.n :: dec1 (popZ st)) := fun a ha => by
        rcases List.mem_cons.1 ha with rfl | ha
        · exact hxn
        · exact hd a ha
      obtain ⟨r1, ts1, k1, hr⟩ := rest_pop (form_rest l _ _ hn2 h)
      cases hp : popZ st with
      | nil =>
        rw [hp] at hr
        obtain ⟨n, ts, k2⟩ := hr
        exact ⟨n + 1, _, .list hk hg k1 k2⟩
      | cons a s =>
        rw [hp] at hr
        obtain ⟨r, ts, k2, hr2⟩ := hr
        have ha := one a s hp
        refine ⟨r, (40 :: (joinS ts1 ++ [41])) :: ts, ?_, hr2⟩
        rw [show a.toNat = (a - 1).toNat + 1 by omega]
        exact .list hk hg k1 k2
    · rw [if_neg hk] at h
      have hr := rest_pop (form_rest l _ _ hd h)
      cases hp : popZ st with
      | nil =>
        rw [hp] at hr
        obtain ⟨n, ts, k2⟩ := hr
        exact ⟨n + 1, _, .leaf hk hg k2⟩
      | cons a s =>
        rw [hp] at hr
        obtain ⟨r, ts, k2, hr2⟩ := hr
        have ha := one a s hp
        refine ⟨r, leafT x :: ts, ?_, hr2⟩
        rw [show a.toNat = (a - 1).toNat + 1 by omega]
        exact .leaf hk hg k2
theorem form_kids {l : List Nd} (h : specF l [] 0 = true) : ∃ n ts, Kids n l [] ts := form_rest l [] 0 (fun a ha => by cases ha) h
/-- closing brackets for the lists that are full -/
def normW : List Int → List UInt8 → List Int × List UInt8
  | [], out => ([], out)
  | a :: st, out => if a = 0 then normW st (out ++ [41]) else (a :: st, out)
def sepT (st : List Int) (out : List UInt8) : List UInt8 := if st ≠ [] ∧ out.getLast? ≠ some 40 then out ++ [32] else out
def nlT (p : List Int × List UInt8) : List Int × List UInt8 := (p.1, if p.1 = [] then p.2 ++ [10] else p.2)
/-- what the reference writes -/
def specW : List Nd → List Int → List UInt8 → List UInt8
  | [], st, out => out
  | x :: l, st, out =>
    specW l (nlT (if x.k = 1 then normW (x.n :: dec1 st) (sepT st out ++ [40]) else normW (dec1 st) (sepT st out ++ leafT x))).1
      (nlT (if x.k = 1 then normW (x.n :: dec1 st) (sepT st out ++ [40]) else normW (dec1 st) (sepT st out ++ leafT x))).2
/-- what is left to write behind n trees -/
def after (r : List Nd) (p : List Int × List UInt8) : List UInt8 := specW r (nlT p).1 (nlT p).2
theorem good_last {x : Nd} (hk : x.k ≠ 1) (hg : goodN x = true) : leafT x ≠ [] ∧ (leafT x).getLast? ≠ some 40 := by
  have hw : word x.k x.t = true := by
    unfold goodN at hg
    rw [Bool.and_eq_true] at hg
    exact hg.2
  have all_last : ∀ (p : UInt8 → Bool) (l : List UInt8), p 40 = false → l.all p = true → l.getLast? ≠ some 40 := fun p l hp ha e => by
    have hm : (40 : UInt8) ∈ l := List.mem_of_getLast? e
    rw [List.all_eq_true.1 ha _ hm] at hp
    cases hp
  have snoc : ∀ (c : UInt8) (l : List UInt8), (l ++ [c]).getLast? = some c := fun c l => by simp
  have cons_last : ∀ (c : UInt8) (l : List UInt8), l ≠ [] → (c :: l).getLast? = l.getLast? := fun c l h => by
    cases l with | nil => exact absurd rfl h | cons a b => simp
  unfold leafT
  unfold word at hw
  rw [if_neg hk] at hw
  by_cases h2 : x.k = 2
  · rw [if_pos h2]
    split
    · rename_i hb
      rw [Bool.and_eq_true, Bool.and_eq_true] at hb
      exact ⟨of_decide_eq_true hb.1.1, all_last nm _ (by decide) hb.2⟩
    · exact ⟨by simp, by rw [← List.cons_append, snoc]; decide⟩
  rw [if_neg h2] at hw ⊢
  by_cases h3 : x.k = 3
  · rw [if_pos h3] at hw
    rw [if_neg (by omega), if_neg (by omega), if_neg (by omega)]
    unfold wholeT at hw
    rw [Bool.and_eq_true, Bool.and_eq_true] at hw
    exact ⟨of_decide_eq_true hw.1.1, all_last dig _ (by decide) hw.2⟩
  rw [if_neg h3] at hw
  by_cases h4 : x.k = 4
  · rw [if_pos h4] at hw
    rw [if_neg (by omega), if_neg (by omega), if_neg (by omega)]
    unfold decT at hw
    rw [Bool.and_eq_true, Bool.and_eq_true, Bool.and_eq_true] at hw
    obtain ⟨⟨⟨q1, q2⟩, q3⟩, q4⟩ := hw
    obtain ⟨a, b, e1, e2⟩ : ∃ a b, x.t = a ++ 46 :: b ∧ (Lib.cut x.t [46]).2.1 = b := by
      unfold Lib.cut at q1 ⊢
      by_cases h0 : 0 ≤ Lib.index x.t [46]
      · rw [if_pos h0]
        rcases Lib.index_spec x.t [46] with ⟨h1, _⟩ | ⟨i, h1, h2, h3, _⟩
        · omega
        · rw [h1, Int.toNat_natCast]
          unfold Lib.occAt at h3
          obtain ⟨t, ht⟩ := List.isPrefixOf_iff_prefix.1 h3
          have ht2 : x.t.drop i = 46 :: t := ht.symm
          have e : x.t.drop (i + ([46] : List UInt8).length) = t := by
            show x.t.drop (i + 1) = t
            rw [← List.drop_drop, ht2]; rfl
          exact ⟨x.t.take i, t, by rw [← ht2, List.take_append_drop], e⟩
      · rw [if_neg h0] at q1; cases q1
    rw [e2] at q3 q4
    have hb : b ≠ [] := of_decide_eq_true q3
    rw [e1]
    refine ⟨by simp, ?_⟩
    rw [List.getLast?_append, cons_last _ _ hb]
    intro e
    cases hl : b.getLast? with
    | none => exact hb (List.getLast?_eq_none_iff.1 hl)
    | some z => rw [hl] at e; exact all_last dig b (by decide) q4 (by rw [hl]; exact e)
  rw [if_neg h4] at hw
  by_cases h5 : x.k = 5
  · rw [if_pos h5] at hw
    rw [if_neg (by omega), if_neg (by omega), if_pos h5]
    rw [Bool.and_eq_true] at hw
    have hne : x.t ≠ [] := of_decide_eq_true hw.1
    refine ⟨by simp, ?_⟩
    rw [cons_last _ _ (by simp), cons_last _ _ hne]
    exact all_last bin _ (by decide) hw.2
  rw [if_neg h5] at hw
  by_cases h6 : x.k = 6
  · rw [if_pos h6]
    exact ⟨by simp, by rw [← List.cons_append, snoc]; decide⟩
  rw [if_neg h6] at hw ⊢
  by_cases h7 : x.k = 7
  · rw [if_pos h7] at hw ⊢
    rw [Bool.and_eq_true] at hw
    have hne : x.t ≠ [] := of_decide_eq_true hw.1
    exact ⟨by simp, by rw [cons_last _ _ hne]; exact all_last nm _ (by decide) hw.2⟩
  · rw [if_neg h7] at hw; cases hw
theorem br_last (l : List UInt8) : (40 :: (l ++ [41]) : List UInt8).getLast? ≠ some 40 := by
  rw [← List.cons_append, List.getLast?_concat]; decide
theorem kids_last : ∀ {n l r ts}, Kids n l r ts → ∀ t ∈ ts, t ≠ [] ∧ t.getLast? ≠ some 40 := by
  intro n l r ts h
  induction h with
  | nil l => intro t ht; cases ht
  | leaf hk hg h ih =>
    intro t ht
    rcases List.mem_cons.1 ht with rfl | ht
    · exact good_last hk hg
    · exact ih t ht
  | list hk hg h1 h ih1 ih =>
    intro t ht
    rcases List.mem_cons.1 ht with rfl | ht
    · exact ⟨by simp, br_last _⟩
    · exact ih t ht
/-- with a list open: the trees' texts, blanks between, the first with a blank unless it stands behind a bracket -/
theorem spec_nest : ∀ {n l r ts}, Kids n l r ts → ∀ (a : Int) (st : List Int) (out : List UInt8), (n : Int) ≤ a → (n ≠ 0) →
    specW l (a :: st) out = after r (normW ((a - n) :: st) (sepT (a :: st) out ++ joinS ts)) := by
  intro n l r ts h
  have app_last : ∀ (x y : List UInt8), y ≠ [] → y.getLast? ≠ some 40 → (x ++ y).getLast? ≠ some 40 := fun x y h1 h2 e => by
    rw [List.getLast?_append] at e
    cases hl : y.getLast? with
    | none => exact h1 (List.getLast?_eq_none_iff.1 hl)
    | some z => rw [hl] at e; exact h2 (by rw [hl]; exact e)
  have go : ∀ (n : Nat) (l r : List Nd) (ts : List (List UInt8)) (t : List UInt8) (a : Int) (st : List Int) (o : List UInt8), Kids n l r ts → t ≠ [] → t.getLast? ≠ some 40 → ((n + 1 : Nat) : Int) ≤ a →
      (∀ (a : Int) (st : List Int) (out : List UInt8), (n : Int) ≤ a → (n ≠ 0) → specW l (a :: st) out = after r (normW ((a - n) :: st) (sepT (a :: st) out ++ joinS ts))) →
      after l (normW ((a - 1) :: st) (o ++ t)) = after r (normW ((a - (n + 1 : Nat)) :: st) (o ++ joinS (t :: ts))) := by
    intro n l r ts t a st o hK ht1 ht2 ha ih
    by_cases hn : n = 0
    · subst hn
      cases hK
      rw [show ((0 + 1 : Nat) : Int) = 1 from rfl]
      simp [joinS]
    · have hne : ¬ (a - 1 = 0) := by omega
      have e1 : normW ((a - 1) :: st) (o ++ t) = ((a - 1) :: st, o ++ t) := by unfold normW; rw [if_neg hne]
      rw [e1]
      unfold after nlT
      simp only
      rw [if_neg (by simp), ih (a - 1) st (o ++ t) (by omega) hn]
      have e2 : sepT ((a - 1) :: st) (o ++ t) = o ++ t ++ [32] := by
        unfold sepT; rw [if_pos ⟨by simp, app_last o t ht1 ht2⟩]
      have e3 : o ++ t ++ [32] ++ joinS ts = o ++ joinS (t :: ts) := by
        cases ts with
        | nil => cases hK; exact absurd rfl hn
        | cons u us => simp [joinS]
      rw [e2, e3, show a - 1 - (n : Int) = a - ((n + 1 : Nat) : Int) by omega]
      rfl
  induction h with
  | nil l => intro a st out _ h0; exact absurd rfl h0
  | @leaf n x l r ts hk hg h ih =>
    intro a st out ha _
    obtain ⟨g1, g2⟩ := good_last hk hg
    have := go n l r ts (leafT x) a st (sepT (a :: st) out) h g1 g2 ha ih
    rw [← this]
    show specW l _ _ = after l _
    unfold after
    rw [if_neg hk]
    rfl
  | @list n x l r1 r ts1 ts hk hg h1 h ih1 ih =>
    intro a st out ha _
    have hxn : 0 ≤ x.n := by
      unfold goodN at hg
      simp only [Bool.and_eq_true, decide_eq_true_eq] at hg
      exact hg.1.1
    have g1 : (40 :: (joinS ts1 ++ [41])) ≠ ([] : List UInt8) := by simp
    have g2 : (40 :: (joinS ts1 ++ [41]) : List UInt8).getLast? ≠ some 40 := br_last _
    have := go n r1 r ts (40 :: (joinS ts1 ++ [41])) a st (sepT (a :: st) out) h g1 g2 ha ih
    rw [← this]
    show specW l (nlT (if x.k = 1 then normW (x.n :: (a - 1) :: st) (sepT (a :: st) out ++ [40]) else _)).1 (nlT (if x.k = 1 then normW (x.n :: (a - 1) :: st) (sepT (a :: st) out ++ [40]) else _)).2 = _
    rw [if_pos hk]
    by_cases h0 : x.n = 0
    · rw [show x.n.toNat = 0 by omega] at h1
      cases h1
      have e : normW (x.n :: (a - 1) :: st) (sepT (a :: st) out ++ [40]) = normW ((a - 1) :: st) (sepT (a :: st) out ++ 40 :: (joinS [] ++ [41])) := by
        conv => lhs; unfold normW
        rw [if_pos h0]; simp [joinS]
      rw [e]; rfl
    · have e : normW (x.n :: (a - 1) :: st) (sepT (a :: st) out ++ [40]) = (x.n :: (a - 1) :: st, sepT (a :: st) out ++ [40]) := by unfold normW; rw [if_neg h0]
      rw [e]
      unfold nlT
      simp only
      rw [if_neg (by simp), ih1 x.n ((a - 1) :: st) _ (by omega) (by omega)]
      have e2 : sepT (x.n :: (a - 1) :: st) (sepT (a :: st) out ++ [40]) = sepT (a :: st) out ++ [40] := by
        unfold sepT
        rw [if_neg (by intro h; exact h.2 (by simp))]
      rw [e2, show x.n - (x.n.toNat : Int) = 0 by omega]
      have e3 : normW (0 :: (a - 1) :: st) (sepT (a :: st) out ++ [40] ++ joinS ts1) = normW ((a - 1) :: st) (sepT (a :: st) out ++ 40 :: (joinS ts1 ++ [41])) := by
        conv => lhs; unfold normW
        rw [if_pos rfl]; simp
      rw [e3]
/-- a row of trees: each tree's text and a line's end -/
theorem spec_row : ∀ {n l r ts}, Kids n l r ts → ∀ (out : List UInt8), specW l [] out = specW r [] (out ++ ts.flatMap (fun t => t ++ [10])) := by
  intro n l r ts h
  induction h with
  | nil l => intro out; simp
  | @leaf n x l r ts hk hg h ih =>
    intro out
    show specW l (nlT (if x.k = 1 then _ else normW [] (sepT [] out ++ leafT x))).1 (nlT (if x.k = 1 then _ else normW [] (sepT [] out ++ leafT x))).2 = _
    rw [if_neg hk]
    show specW l [] (sepT [] out ++ leafT x ++ [10]) = _
    rw [ih]
    simp [sepT]
  | @list n x l r1 r ts1 ts hk hg h1 h ih1 ih =>
    intro out
    have hxn : 0 ≤ x.n := by
      unfold goodN at hg
      simp only [Bool.and_eq_true, decide_eq_true_eq] at hg
      exact hg.1.1
    have es : sepT [] out = out := by simp [sepT]
    show specW l (nlT (if x.k = 1 then normW (x.n :: []) (sepT [] out ++ [40]) else _)).1 (nlT (if x.k = 1 then normW (x.n :: []) (sepT [] out ++ [40]) else _)).2 = _
    rw [if_pos hk, es]
    by_cases h0 : x.n = 0
    · rw [show x.n.toNat = 0 by omega] at h1
      cases h1
      have e : normW [x.n] (out ++ [40]) = ([], out ++ [40] ++ [41]) := by
        unfold normW; rw [if_pos h0]; rfl
      rw [e]
      show specW l [] (out ++ [40] ++ [41] ++ [10]) = _
      rw [ih]
      simp [joinS]
    · have e : normW [x.n] (out ++ [40]) = ([x.n], out ++ [40]) := by unfold normW; rw [if_neg h0]
      rw [e]
      show specW l [x.n] (out ++ [40]) = _
      rw [spec_nest h1 x.n [] _ (by omega) (by omega)]
      have e2 : sepT [x.n] (out ++ [40]) = out ++ [40] := by
        unfold sepT
        rw [if_neg (by intro h; exact h.2 (by simp))]
      rw [e2, show x.n - (x.n.toNat : Int) = 0 by omega]
      have e3 : normW [0] (out ++ [40] ++ joinS ts1) = ([], out ++ [40] ++ joinS ts1 ++ [41]) := by
        unfold normW; rw [if_pos rfl]; rfl
      rw [e3]
      show specW r1 [] (out ++ [40] ++ joinS ts1 ++ [41] ++ [10]) = _
      rw [ih]
      simp
theorem spec_whole {n l ts} (h : Kids n l [] ts) : specW l [] [] = ts.flatMap (fun t => t ++ [10]) := by
  rw [spec_row h []]; rfl
/-- how many bytes a row of nodes can give at most -/
def cost (l : List Nd) : Nat := (l.map fun x => 2 * x.t.length + 8).sum
theorem cost_cons (x : Nd) (l : List Nd) : cost (x :: l) = 2 * x.t.length + 8 + cost l := by unfold cost; simp
def sumL (ts : List (List UInt8)) : Nat := (ts.map fun t => t.length + 1).sum
theorem sumL_cons (t : List UInt8) (ts : List (List UInt8)) : sumL (t :: ts) = t.length + 1 + sumL ts := by unfold sumL; simp
theorem flat_len (ts : List (List UInt8)) (c : UInt8) : (ts.flatMap fun u => c :: u).length = sumL ts := by
  induction ts with
  | nil => rfl
  | cons t ts ih => rw [List.flatMap_cons, List.length_append, ih, sumL_cons]; simp
theorem join_len (ts : List (List UInt8)) : (joinS ts).length ≤ sumL ts := by
  cases ts with
  | nil => exact Nat.zero_le _
  | cons t ts => show (t ++ ts.flatMap fun u => 32 :: u).length ≤ _; rw [List.length_append, flat_len, sumL_cons]; omega
theorem quote_len (l : List UInt8) : (l.flatMap (fun c => if c = 34 then [34, 34] else [c])).length ≤ 2 * l.length := by
  induction l with
  | nil => exact Nat.le_refl _
  | cons c l ih =>
    rw [List.flatMap_cons, List.length_append, List.length_cons]
    by_cases h : c = 34
    · rw [if_pos h, show ([34, 34] : List UInt8).length = 2 from rfl]; omega
    · rw [if_neg h, show ([c] : List UInt8).length = 1 from rfl]; omega
theorem leaf_len (x : Nd) : (leafT x).length + 1 ≤ 2 * x.t.length + 8 := by
  have := quote_len x.t
  unfold leafT
  generalize x.t.flatMap (fun c => if c = 34 then [34, 34] else [c]) = q at this
  repeat' split
  all_goals (try rw [List.length_cons])
  all_goals (try rw [List.length_cons])
  all_goals (try rw [List.length_append, show ([124] : List UInt8).length = 1 from rfl])
  all_goals (try rw [List.length_append, show ([34] : List UInt8).length = 1 from rfl])
  all_goals omega
theorem kids_cost : ∀ {n l r ts}, Kids n l r ts → sumL ts + cost r ≤ cost l := by
  intro n l r ts h
  induction h with
  | nil l => simp [sumL]
  | @leaf n x l r ts hk hg h ih => rw [sumL_cons, cost_cons]; have := leaf_len x; omega
  | @list n x l r1 r ts1 ts hk hg h1 h ih1 ih =>
    rw [sumL_cons, cost_cons]
    have := join_len ts1
    simp
    omega
theorem kids_split {n : Nat} {l r : List Nd} {t : List UInt8} {ts : List (List UInt8)} (h : Kids (n + 1) l r (t :: ts)) : ∃ m, Kids 1 l m [t] ∧ Kids n m r ts := by
  cases h with
  | leaf hk hg h => exact ⟨_, .leaf hk hg (.nil _), h⟩
  | list hk hg h1 h => exact ⟨_, .list hk hg h1 (.nil _), h⟩
theorem kids_texts : ∀ {n l r ts}, Kids n l r ts → ts.length = n := by
  intro n l r ts h
  induction h with
  | nil l => rfl
  | leaf hk hg h ih => rw [List.length_cons, ih]
  | list hk hg h1 h ih1 ih => rw [List.length_cons, ih]
theorem kids_drop : ∀ {n l r ts}, Kids n l r ts → ∃ p, l = p ++ r ∧ n ≤ p.length := by
  intro n l r ts h
  induction h with
  | nil l => exact ⟨[], rfl, Nat.le_refl _⟩
  | @leaf n x l r ts hk hg h ih =>
    obtain ⟨p, e, hp⟩ := ih
    exact ⟨x :: p, by rw [e]; rfl, by rw [List.length_cons]; omega⟩
  | @list n x l r1 r ts1 ts hk hg h1 h ih1 ih =>
    obtain ⟨p1, e1, hp1⟩ := ih1
    obtain ⟨p, e, hp⟩ := ih
    exact ⟨x :: (p1 ++ p), by rw [e1, e]; simp, by rw [List.length_cons, List.length_append]; omega⟩
theorem kids_one {l r : List Nd} {t : List UInt8} (h : Kids 1 l r [t]) : (∃ x, l = x :: r ∧ x.k ≠ 1 ∧ goodN x = true ∧ t = leafT x) ∨
    (∃ x l1 ts1, l = x :: l1 ∧ x.k = 1 ∧ goodN x = true ∧ Kids x.n.toNat l1 r ts1 ∧ t = 40 :: (joinS ts1 ++ [41])) := by
  cases h with
  | leaf hk hg h => cases h; exact .inl ⟨_, rfl, hk, hg, rfl⟩
  | list hk hg h1 h => cases h; exact .inr ⟨_, _, _, rfl, hk, hg, h1, rfl⟩
end Go.Proofs.YtbeelgaganbblaaDoor.Tree

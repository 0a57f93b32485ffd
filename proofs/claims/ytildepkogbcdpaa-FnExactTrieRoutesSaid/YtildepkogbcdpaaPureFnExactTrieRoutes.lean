/- The plain law of FnExactTrieRoutes. -/
import Derived.Test.YtildepkogbcdpaaSaysFnExactTrieRoutes
namespace Go.Proofs.Ytildepkogbcdpaa.Pure
open Go Go.B Go.Proofs.Ytildepkogbcdpaa.B Go.Proofs.Ytildepkogbcdpaa.SaysFnExactTrieRoutes
set_option linter.unusedVariables false
set_option linter.unusedSimpArgs false
theorem w64 {n : Int} (h0 : -9223372036854775808 ≤ n) (h1 : n ≤ 9223372036854775807) : IntKind.i64.wrap n = n := by
  rw [IntKind.wrap_i64]; omega
theorem tb {c : Prop} [Decidable c] (h : c) : decide c = true := decide_eq_true h
theorem fb {c : Prop} [Decidable c] (h : ¬ c) : ¬ decide c = true := by simpa using h
theorem ff {c : Prop} [Decidable c] (h : ¬ c) : decide c = false := by simpa using h
theorem gm {α : Type} (pre rest : List α) (x d : α) : List.getD (pre ++ x :: rest) (Int.toNat (pre.length : Int)) d = x := by
  simp [List.getD_eq_getElem?_getD]
theorem lt_mid {α : Type} (pre rest : List α) (x : α) : (pre.length : Int) < ((pre ++ x :: rest).length : Int) := by simp; omega
theorem set_mid {α : Type} (pre rest : List α) (x y : α) : List.set (pre ++ x :: rest) (Int.toNat (pre.length : Int)) y = pre ++ y :: rest := by
  simp
theorem set_at {e : TypeId} (pre rest : List (env.T e)) (x y : env.T e) {off : Nat} {cs : List (Cell env.T)} (h : putCells (E := env) e x off cs = some y) : setE env e (pre ++ x :: rest) (Int.toNat (pre.length : Int)) off cs = pre ++ y :: rest := by
  have hg : List.getD (pre ++ x :: rest) (Int.toNat (pre.length : Int)) (env.dflt e) = x := gm pre rest x _
  simp only [setE, hg, h, Option.getD_some, set_mid]
theorem mid_next {α : Type} (pre rest : List α) (x : α) : pre ++ x :: rest = (pre ++ [x]) ++ rest := by simp
/-! ### answers from some number of rounds on: k the loops', j the recursion's, i a loop's own -/
def E {α : Type} (g : Nat → Nat → Nat → Option α) (r : α) : Prop := ∃ K, ∀ k j i, K ≤ k → K ≤ j → K ≤ i → g k j i = some r
theorem E.now {α : Type} (r : α) : E (fun _ _ _ => some r) r := ⟨0, fun _ _ _ _ _ _ => rfl⟩
theorem e_fin {α : Type} {r r' : α} (e : r = r') : E (fun _ _ _ => some r) r' := e ▸ E.now _
theorem e_eq {α : Type} {g : Nat → Nat → Nat → Option α} {r r' : α} (h : E g r) (e : r = r') : E g r' := e ▸ h
theorem E.bind {α β : Type} {g : Nat → Nat → Nat → Option α} {f : Nat → Nat → Nat → α → Option β} {a : α} {r : β} (h : E g a) (h2 : E (fun k j i => f k j i a) r) : E (fun k j i => (g k j i).bind (f k j i)) r := by
  obtain ⟨K, h⟩ := h
  obtain ⟨K2, h2⟩ := h2
  refine ⟨max K K2, fun k j i a1 a2 a3 => ?_⟩
  show (g k j i).bind _ = _
  rw [h k j i (by omega) (by omega) (by omega), Option.bind_some]
  exact h2 k j i (by omega) (by omega) (by omega)
theorem e_pos {α : Type} {c : Prop} [Decidable c] {A B : Nat → Nat → Nat → Option α} {r : α} (hc : c) (h : E A r) : E (fun k j i => if c then A k j i else B k j i) r := by
  simpa only [if_pos hc] using h
theorem e_neg {α : Type} {c : Prop} [Decidable c] {A B : Nat → Nat → Nat → Option α} {r : α} (hc : ¬ c) (h : E B r) : E (fun k j i => if c then A k j i else B k j i) r := by
  simpa only [if_neg hc] using h
theorem e_ite {α : Type} {c : Prop} [Decidable c] {A B : Nat → Nat → Nat → Option α} {r : α} (h1 : c → E A r) (h2 : ¬ c → E B r) : E (fun k j i => if c then A k j i else B k j i) r := by
  by_cases hc : c
  · exact e_pos hc (h1 hc)
  · exact e_neg hc (h2 hc)
theorem e_rec {α : Type} {g : Nat → Nat → Nat → Option α} {r : α} (h : E (fun k j i => g k (j + 1) i) r) : E g r := by
  obtain ⟨K, h⟩ := h
  refine ⟨K + 1, fun k j i a1 a2 a3 => ?_⟩
  obtain ⟨j, rfl⟩ : ∃ j', j = j' + 1 := ⟨j - 1, by omega⟩
  exact h k j i (by omega) (by omega) (by omega)
theorem e_loop {α : Type} {g : Nat → Nat → Nat → Option α} {r : α} (h : E (fun k j i => g k j (i + 1)) r) : E g r := by
  obtain ⟨K, h⟩ := h
  refine ⟨K + 1, fun k j i a1 a2 a3 => ?_⟩
  obtain ⟨i, rfl⟩ : ∃ i', i = i' + 1 := ⟨i - 1, by omega⟩
  exact h k j i (by omega) (by omega) (by omega)
theorem e_use {α : Type} {g : Nat → Nat → Nat → Option α} {r : α} (h : E g r) : E (fun k j _ => g k j k) r := by
  obtain ⟨K, h⟩ := h
  exact ⟨K, fun k j i a1 a2 a3 => h k j k a1 a2 a1⟩
theorem e_fn {α : Type} {g : Nat → Nat → Nat → Option α} {r : α} (h : E g r) : E (fun k _ _ => g k k k) r := by
  obtain ⟨K, h⟩ := h
  exact ⟨K, fun k j i a1 a2 a3 => h k k k a1 a1 a1⟩
theorem e_k {α : Type} {g : Nat → Option α} {r : α} (K : Nat) (h : ∀ k, K ≤ k → g k = some r) : E (fun k _ _ => g k) r := ⟨K, fun k _ _ a _ _ => h k a⟩
theorem e_const {α : Type} {o : Option α} {r : α} (h : o = some r) : E (fun _ _ _ => o) r := ⟨0, fun _ _ _ _ _ _ => h⟩
theorem e_unique {α : Type} {g : Nat → Nat → Nat → Option α} {r r' : α} (h : E g r) (h' : E g r') : r = r' := by
  obtain ⟨k, h⟩ := h
  obtain ⟨k', h'⟩ := h'
  have h1 := h (max k k') (max k k') (max k k') (by omega) (by omega) (by omega)
  have h2 := h' (max k k') (max k k') (max k k') (by omega) (by omega) (by omega)
  exact Option.some.inj (h1.symm.trans h2)
theorem E.out {α : Type} {g : Nat → Option α} {r : α} (h : E (fun k _ _ => g k) r) : ∃ k, g k = some r := by
  obtain ⟨K, h⟩ := h
  exact ⟨K, h K K K (by omega) (by omega) (by omega)⟩
/-! ### tries: sizes, copies, comparing -/
abbrev r72 (l : List S72) (i : Nat) : S72 := List.getD l i ⟨ByteArray.empty, false, 0, 0, []⟩
def r79 (l : List S79) (i : Nat) : S79 := List.getD l i ⟨ByteArray.empty, false, 0, 0, []⟩
theorem fold79 (l : List S79) (i : Nat) : List.getD l i (⟨ByteArray.empty, false, 0, 0, []⟩ : S79) = r79 l i := rfl
theorem r72_at (l : List S72) (i : Nat) (h : i < l.length) : r72 l i = l[i] := by simp [r72, List.getD_eq_getElem?_getD, List.getElem?_eq_getElem h]
theorem r79_at (l : List S79) (i : Nat) (h : i < l.length) : r79 l i = l[i] := by simp [r79, List.getD_eq_getElem?_getD, List.getElem?_eq_getElem h]
mutual
def conv : S72 → S79
  | ⟨a, b, c, d, l⟩ => ⟨a, b, c, d, convS l⟩
def convS : List S72 → List S79
  | [] => []
  | x :: l => conv x :: convS l
end
mutual
def wt : S79 → Nat
  | ⟨a, _, _, _, l⟩ => a.size + l.length + wts l
def wts : List S79 → Nat
  | [] => 0
  | x :: l => wt x + wts l
end
mutual
def nd : S79 → Nat
  | ⟨_, _, _, _, l⟩ => 1 + nds l
def nds : List S79 → Nat
  | [] => 0
  | x :: l => nd x + nds l
end
theorem nd_eq (t : S79) : nd t = 1 + nds t.f4 := by cases t; simp [nd]
theorem conv_eq (x : S72) : conv x = ⟨x.f0, x.f1, x.f2, x.f3, convS x.f4⟩ := by cases x; simp [conv]
theorem wt_eq (y : S79) : wt y = y.f0.size + y.f4.length + wts y.f4 := by cases y; simp [wt]
theorem convS_map (l : List S72) : convS l = l.map conv := by
  induction l with
  | nil => rfl
  | cons a l ih => simp [convS, ih]
theorem convS_length (l : List S72) : (convS l).length = l.length := by rw [convS_map, List.length_map]
theorem rconv (l : List S72) (i : Nat) (h : i < l.length) : r79 (convS l) i = conv l[i] := by
  rw [r79_at _ _ (by rw [convS_length]; exact h)]
  simp [convS_map]
theorem nd_kid {t : S79} {i : Nat} (hi : i < t.f4.length) : nd (r79 t.f4 i) + 1 ≤ nd t := by
  rw [r79_at _ _ hi, nd_eq t]
  have : ∀ (l : List S79) (i : Nat) (hi : i < l.length), nd l[i] ≤ nds l := by
    intro l
    induction l with
    | nil => intro i hi; simp at hi
    | cons a l ih =>
      intro i hi
      cases i with
      | zero => simp [nds]
      | succ i =>
        have := ih i (by simpa using hi)
        simp only [List.getElem_cons_succ, nds]
        omega
  have := this t.f4 i hi
  omega
theorem wts_kid (l : List S72) (i : Nat) (h : i < l.length) : wt (conv l[i]) ≤ wts (convS l) := by
  induction l generalizing i with
  | nil => simp at h
  | cons a l ih =>
    cases i with
    | zero => simp [convS, wts]
    | succ i =>
      have := ih i (by simpa using h)
      simp only [List.getElem_cons_succ, convS, wts]
      omega
mutual
theorem nd_le : (y : S79) → nd y ≤ 1 + wt y
  | ⟨a, b, c, d, l⟩ => by
    have := nds_le l
    simp only [nd, wt]
    omega
theorem nds_le : (l : List S79) → nds l ≤ l.length + wts l
  | [] => by simp [nds]
  | x :: l => by
    have := nd_le x
    have := nds_le l
    simp only [nds, wts, List.length_cons]
    omega
end
def SzP (x : S72) : Prop := ∀ a : Int, 0 ≤ a → a ≤ 1048576 → ∃ r, E (fun k j _ => f46i.r k j x.f0 x.f1 x.f2 x.f3 x.f4 a) r ∧ (r < 0 ∨ (0 ≤ r ∧ r + (wt (conv x) : Int) ≤ a))
theorem szS_loop (l : List S72) (hq : ∀ y ∈ l, SzP y) (hl : l.length ≤ 1048576) (d : Nat) : ∀ (i : Nat) (a : Int), i + d = l.length → 0 ≤ a → a ≤ 1048576 → (∃ x y, E (fun k j n => f113i.l5 (f46i.r k j) k n l a (i : Int)) (.inl (x, y)) ∧ y < 0) ∨ (∃ r, E (fun k j n => f113i.l5 (f46i.r k j) k n l a (i : Int)) (.inr r) ∧ (0 ≤ r ∧ r + (wts (convS (l.drop i)) : Int) ≤ a)) := by
  induction d with
  | zero =>
    intro i a h a0 a1
    refine .inr ⟨a, ?_, a0, ?_⟩
    · apply e_loop
      simp only [f113i.l5, f113i.l5.step, decide_eq_true_eq]
      exact e_neg (by omega) (E.now _)
    · rw [List.drop_eq_nil_of_le (by omega)]
      simp [convS, wts]
  | succ d ih =>
    intro i a h a0 a1
    have hi : i < l.length := by omega
    have hw : IntKind.i64.wrap ((i : Int) + 1) = ((i + 1 : Nat) : Int) := by rw [w64 (by omega) (by omega)]; omega
    obtain ⟨r, e, hr⟩ := hq l[i] (List.getElem_mem hi) a a0 a1
    rw [← r72_at l i hi] at e
    by_cases c : r < 0
    · refine .inl ⟨r, -1, ?_, by omega⟩
      apply e_loop
      simp only [f113i.l5, f113i.l5.step, decide_eq_true_eq, Int.toNat_natCast]
      exact e_pos (by omega) (e_pos (by omega) (e_pos (by omega) (E.bind e (e_pos c (E.now _)))))
    · obtain ⟨r0, r1⟩ := hr.resolve_left c
      have fin : ∀ {v}, E (fun k j n => f113i.l5 (f46i.r k j) k n l r ((i + 1 : Nat) : Int)) v → E (fun k j n => f113i.l5 (f46i.r k j) k n l a (i : Int)) v := by
        intro v g
        apply e_loop
        simp only [f113i.l5, f113i.l5.step, decide_eq_true_eq, hw, Int.toNat_natCast]
        exact e_pos (by omega) (e_pos (by omega) (e_pos (by omega) (E.bind e (e_neg c g))))
      rcases ih (i + 1) r (by omega) r0 (by omega) with ⟨x, y, g, hy⟩ | ⟨r', g, g0, g1⟩
      · exact .inl ⟨x, y, fin g, hy⟩
      · refine .inr ⟨r', fin g, g0, ?_⟩
        rw [List.drop_eq_getElem_cons hi]
        simp only [convS, wts]
        omega
theorem szS_ev (l : List S72) (hq : ∀ y ∈ l, SzP y) (hl : l.length ≤ maxLen) (a : Int) (a0 : 0 ≤ a) (a1 : a ≤ 1048576) : ∃ r, E (fun k j _ => f113i (f46i.r k j) k l a) r ∧ (r < 0 ∨ (0 ≤ r ∧ r + (l.length : Int) + (wts (convS l) : Int) ≤ a)) := by
  unfold maxLen at hl
  have hw : IntKind.i64.wrap (a - (l.length : Int)) = a - (l.length : Int) := w64 (by omega) (by omega)
  simp only [f113i, f113i.step, decide_eq_true_eq, hw]
  by_cases c : a - (l.length : Int) < 0
  · exact ⟨-1, e_pos c (E.now _), .inl (by omega)⟩
  · rcases szS_loop l hq (by omega) l.length 0 (a - (l.length : Int)) (by omega) (by omega) (by omega) with ⟨x, y, g, hy⟩ | ⟨r, g, g0, g1⟩
    · exact ⟨y, e_neg c (E.bind (e_use g) (E.now _)), .inl hy⟩
    · rw [List.drop_zero] at g1
      exact ⟨r, e_neg c (E.bind (e_use g) (E.now _)), .inr ⟨g0, by omega⟩⟩
theorem szP (x : S72) (h : OK72 x) : SzP x := by
  induction h with
  | @mk z h0 _ _ _ h4 h5 ih =>
    intro a a0 a1
    unfold maxLen at h0
    have hw : IntKind.i64.wrap (a - (z.f0.size : Int)) = a - (z.f0.size : Int) := w64 (by omega) (by omega)
    by_cases c : a - (z.f0.size : Int) < 0
    · refine ⟨-1, ?_, .inl (by omega)⟩
      apply e_rec
      simp only [f46i.r, f46i, f46i.step, hw, decide_eq_true_eq]
      exact e_pos c (E.now _)
    · obtain ⟨r, g, hg⟩ := szS_ev z.f4 ih h4 (a - (z.f0.size : Int)) (by omega) (by omega)
      by_cases c2 : r < 0
      · refine ⟨-1, ?_, .inl (by omega)⟩
        apply e_rec
        simp only [f46i.r, f46i, f46i.step, hw, decide_eq_true_eq]
        exact e_neg c (E.bind g (e_pos c2 (E.now _)))
      · obtain ⟨g0, g1⟩ := hg.resolve_left c2
        refine ⟨r, ?_, .inr ⟨g0, ?_⟩⟩
        · apply e_rec
          simp only [f46i.r, f46i, f46i.step, hw, decide_eq_true_eq]
          exact e_neg c (E.bind g (e_neg c2 (E.now _)))
        · rw [wt_eq, conv_eq]
          show r + ((z.f0.size + (convS z.f4).length + wts (convS z.f4) : Nat) : Int) ≤ a
          rw [convS_length]
          omega
def ToP (x : S72) : Prop := wt (conv x) ≤ 1048576 → E (fun k j _ => f48i.r k j x.f0 x.f1 x.f2 x.f3 x.f4) (x.f0, x.f1, x.f2, x.f3, convS x.f4)
theorem toS_loop (l : List S72) (hq : ∀ y ∈ l, ToP y) (hl : l.length ≤ 1048576) (hw0 : wts (convS l) ≤ 1048576) (d : Nat) : ∀ (acc : List S79) (i : Nat), acc.length = l.length → acc.take i = (convS l).take i → i + d = l.length → E (fun k j n => f116i.l3 (f48i.r k j) k n l (i : Int) acc) (convS l) := by
  have hcl := convS_length l
  induction d with
  | zero =>
    intro acc i h1 h2 h3
    have e : acc = convS l := by
      rw [List.take_of_length_le (by omega), List.take_of_length_le (by omega)] at h2
      exact h2
    subst e
    apply e_loop
    simp only [f116i.l3, f116i.l3.step, decide_eq_true_eq]
    exact e_neg (by omega) (E.now _)
  | succ d ih =>
    intro acc i h1 h2 h3
    have hi : i < l.length := by omega
    have hj : i < acc.length := by omega
    have hw : IntKind.i64.wrap ((i : Int) + 1) = ((i + 1 : Nat) : Int) := by rw [w64 (by omega) (by omega)]; omega
    have hk := hq l[i] (List.getElem_mem hi) (by have := wts_kid l i hi; omega)
    have hx := r72_at l i hi
    rw [← hx] at hk
    apply e_loop
    simp only [f116i.l3, f116i.l3.step, hw, decide_eq_true_eq, Int.toNat_natCast]
    refine e_pos (by omega) (e_pos (by omega) (e_pos (by omega) (E.bind hk (e_pos (by omega) (e_pos (by omega) ?_)))))
    refine ih _ (i + 1) (by simp [h1]) ?_ (by omega)
    rw [List.take_succ_eq_append_getElem (by simpa using hj), List.take_succ_eq_append_getElem (by omega)]
    have hc : (convS l)[i]'(by omega) = conv l[i] := by simp [convS_map]
    rw [hc, ← hx, conv_eq]
    simp [List.take_set_of_le, h2]
theorem toS_ev (l : List S72) (hq : ∀ y ∈ l, ToP y) (hl : l.length ≤ 1048576) (hw0 : wts (convS l) ≤ 1048576) : E (fun k j _ => f116i (f48i.r k j) k l) (convS l) := by
  simp only [f116i, f116i.step]
  refine e_pos (by omega) (e_pos (by rw [Int.toNat_natCast]; simp only [maxN]; omega) ?_)
  exact E.bind (e_use (toS_loop l hq hl hw0 l.length _ 0 (by simp) (by simp) (by omega))) (E.now _)
theorem toP (x : S72) (h : OK72 x) : ToP x := by
  induction h with
  | @mk z h0 _ _ _ h4 h5 ih =>
    intro hz
    rw [wt_eq, conv_eq] at hz
    have hz : z.f0.size + (convS z.f4).length + wts (convS z.f4) ≤ 1048576 := hz
    rw [convS_length] at hz
    apply e_rec
    simp only [f48i.r, f48i, f48i.step]
    exact E.bind (toS_ev z.f4 ih (by omega) (by omega)) (E.now _)
def EqP (x : S72) : Prop := wt (conv x) ≤ 1048576 → E (fun k j _ => f51i.r k j (conv x).f0 (conv x).f1 (conv x).f2 (conv x).f3 (conv x).f4 (conv x).f0 (conv x).f1 (conv x).f2 (conv x).f3 (conv x).f4) true
theorem eqS_loop (l : List S72) (hq : ∀ y ∈ l, EqP y) (hl : l.length ≤ 1048576) (hw0 : wts (convS l) ≤ 1048576) (d : Nat) : ∀ (i : Nat), i + d = l.length → E (fun k j n => f120i.l4 (f51i.r k j) k n (convS l) (convS l) (i : Int)) (.inr ()) := by
  have hcl := convS_length l
  induction d with
  | zero =>
    intro i h
    apply e_loop
    simp only [f120i.l4, f120i.l4.step, decide_eq_true_eq]
    exact e_neg (by omega) (E.now _)
  | succ d ih =>
    intro i h
    have hi : i < l.length := by omega
    have hw : IntKind.i64.wrap ((i : Int) + 1) = ((i + 1 : Nat) : Int) := by rw [w64 (by omega) (by omega)]; omega
    have hk := hq l[i] (List.getElem_mem hi) (by have := wts_kid l i hi; omega)
    rw [← rconv l i hi] at hk
    apply e_loop
    simp only [f120i.l4, f120i.l4.step, decide_eq_true_eq, hw, Int.toNat_natCast]
    exact e_pos (by omega) (e_pos (by omega) (e_pos (by omega) (e_pos (by omega) (e_pos (by omega) (E.bind hk (e_neg (by simp) (ih (i + 1) (by omega))))))))
theorem eqP (x : S72) (h : OK72 x) : EqP x := by
  induction h with
  | @mk z h0 _ _ _ h4 h5 ih =>
    intro hz
    have hz2 := hz
    rw [wt_eq, conv_eq] at hz2
    have hz2 : z.f0.size + (convS z.f4).length + wts (convS z.f4) ≤ 1048576 := hz2
    rw [convS_length] at hz2
    have hS : E (fun k j _ => f120i (f51i.r k j) k (convS z.f4) (convS z.f4)) true := by
      simp only [f120i, f120i.step, decide_eq_true_eq]
      exact e_neg (by omega) (E.bind (e_use (eqS_loop z.f4 ih (by omega) (by omega) z.f4.length 0 (by omega))) (E.now _))
    rw [conv_eq]
    apply e_rec
    simp only [f51i.r, f51i, f51i.step, decide_eq_true_eq]
    exact e_neg (by simp) (e_neg (by simp) (e_neg (by simp) (e_neg (by simp) (E.bind hS (e_neg (by simp) (E.now _))))))
/-! ### Are these bits -/
theorem spec_in (k : Nat) (a b c : Int) : f86 k a b c = some (decide (b ≤ a ∧ a ≤ c)) := by
  simp only [f86, f86.step, decide_eq_true_eq]
  by_cases h : a ≥ b
  · rw [if_pos h]; simp; omega
  · rw [if_neg h]; simp; omega
theorem impl_in (k : Nat) (a b c : Int) : f83 k a b c = some (decide (b ≤ a ∧ a ≤ c)) := by
  simp only [f83, f83.step, decide_eq_true_eq]
  by_cases h : a ≥ b
  · rw [if_pos h]; simp; omega
  · rw [if_neg h]; simp; omega
theorem bits_loop (s : ByteArray) (hs : s.size ≤ 128) (d : Nat) : ∀ i : Nat, i + d = s.size → ∃ r, E (fun k _ n => f204.l4 k n s (i : Int)) r ∧ E (fun k _ n => f205.l4 k n s (i : Int)) r := by
  induction d with
  | zero =>
    intro i h
    refine ⟨.inr (), ?_, ?_⟩
    · apply e_loop
      simp only [f204.l4, f204.l4.step, decide_eq_true_eq]
      exact e_neg (by omega) (E.now _)
    · apply e_loop
      simp only [f205.l4, f205.l4.step, decide_eq_true_eq]
      exact e_neg (by omega) (E.now _)
  | succ d ih =>
    intro i h
    have hw : IntKind.i64.wrap ((i : Int) + 1) = ((i + 1 : Nat) : Int) := by rw [w64 (by omega) (by omega)]; omega
    obtain ⟨r, g1, g2⟩ := ih (i + 1) (by omega)
    by_cases h0 : bt s i = 48
    · refine ⟨r, ?_, ?_⟩
      · apply e_loop
        simp only [f204.l4, f204.l4.step, decide_eq_true_eq, hw]
        exact e_pos (by omega) (e_pos (by omega) (e_pos (by omega) (e_neg (by simpa using h0) g1)))
      · apply e_loop
        simp only [f205.l4, f205.l4.step, decide_eq_true_eq, hw]
        exact e_pos (by omega) (e_pos (by omega) (e_pos (by omega) (e_neg (by simpa using h0) g2)))
    · by_cases h1 : bt s i = 49
      · refine ⟨r, ?_, ?_⟩
        · apply e_loop
          simp only [f204.l4, f204.l4.step, decide_eq_true_eq, hw]
          exact e_pos (by omega) (e_pos (by omega) (e_pos (by omega) (e_pos h0 (e_pos (by omega) (e_pos (by omega) (e_neg (by simpa using h1) g1))))))
        · apply e_loop
          simp only [f205.l4, f205.l4.step, decide_eq_true_eq, hw]
          exact e_pos (by omega) (e_pos (by omega) (e_pos (by omega) (e_pos h0 (e_pos (by omega) (e_pos (by omega) (e_neg (by simpa using h1) g2))))))
      · refine ⟨.inl false, ?_, ?_⟩
        · apply e_loop
          simp only [f204.l4, f204.l4.step, decide_eq_true_eq]
          exact e_pos (by omega) (e_pos (by omega) (e_pos (by omega) (e_pos h0 (e_pos (by omega) (e_pos (by omega) (e_pos h1 (E.now _)))))))
        · apply e_loop
          simp only [f205.l4, f205.l4.step, decide_eq_true_eq]
          exact e_pos (by omega) (e_pos (by omega) (e_pos (by omega) (e_pos h0 (e_pos (by omega) (e_pos (by omega) (e_pos h1 (E.now _)))))))
theorem bits_same (s : ByteArray) : ∃ r, E (fun k _ _ => f204 k s) r ∧ E (fun k _ _ => f205 k s) r ∧ (r = true → s.size ≤ 128) ∧ (s.size = 0 → r = true) := by
  simp only [f204, f204.step, f205, f205.step, decide_eq_true_eq]
  by_cases h : (s.size : Int) > 128
  · exact ⟨false, e_pos h (E.now _), e_pos h (E.now _), by simp, by omega⟩
  · obtain ⟨r, g1, g2⟩ := bits_loop s (by omega) s.size 0 (by omega)
    have w : ∀ v : Bool, v = (match r with | .inl x => x | .inr _ => true) → E (fun k _ _ => if (s.size : Int) > 128 then some false else (f204.l4 k k s 0).bind (Sum.elim (fun t => some t) fun _ => some true)) v ∧ E (fun k _ _ => if (s.size : Int) > 128 then some false else (f205.l4 k k s 0).bind (Sum.elim (fun t => some t) fun _ => some true)) v := by
      intro v hv
      subst hv
      refine ⟨e_neg h (E.bind (e_use g1) ?_), e_neg h (E.bind (e_use g2) ?_)⟩ <;> cases r <;> exact E.now _
    refine ⟨_, (w _ rfl).1, (w _ rfl).2, fun _ => by omega, fun hz => ?_⟩
    have e : r = .inr () := by
      refine e_unique g1 ?_
      apply e_loop
      simp only [f204.l4, f204.l4.step, decide_eq_true_eq]
      exact e_neg (by omega) (E.now _)
    subst e
    rfl
theorem bits_fun : ∃ B : ByteArray → Bool, ∀ s, E (fun k _ _ => f204 k s) (B s) ∧ E (fun k _ _ => f205 k s) (B s) ∧ (B s = true → s.size ≤ 128) ∧ (s.size = 0 → B s = true) :=
  ⟨fun s => (bits_same s).choose, fun s => (bits_same s).choose_spec⟩
theorem toList_size (s : ByteArray) : s.toList.length = s.size := by
  rw [ByteArray.toList_eq, Array.length_toList]; rfl
theorem empty_iff (s : ByteArray) : s.toList = (⟨#[]⟩ : ByteArray).toList ↔ s.size = 0 := by
  constructor
  · intro e
    have := congrArg List.length e
    rw [toList_size, toList_size] at this
    exact this
  · intro e
    have : s = ⟨#[]⟩ := ByteArray.ext (Array.size_eq_zero_iff.mp e)
    rw [this]
/-! ### Tries -/
def pre (a b : ByteArray) : Bool := decide ((a.extract 0 b.size).toList = b.toList)
theorem begins_eq (k : Nat) (a b : ByteArray) : f189 k a b = some (decide (b.size ≤ a.size) && pre a b) := by
  simp only [f189, f189.step, decide_eq_true_eq, pre, Int.toNat_natCast]
  by_cases h : (a.size : Int) ≥ (b.size : Int)
  · rw [if_pos h, if_pos (by omega), if_pos (by omega), decide_eq_true (show b.size ≤ a.size by omega), Bool.true_and]
  · rw [if_neg h, decide_eq_false (show ¬ b.size ≤ a.size by omega), Bool.false_and]
theorem prefix_eq (k : Nat) (a b : ByteArray) : f206 k a b = some (decide (b.size ≤ a.size) && pre a b) := by
  simp only [f206, f206.step, f207, f207.step, decide_eq_true_eq, pre, Int.toNat_natCast]
  by_cases h : (a.size : Int) ≥ (b.size : Int)
  · rw [if_pos h, if_pos (by omega), if_pos (by omega), decide_eq_true (show b.size ≤ a.size by omega), Bool.true_and, Option.bind_some]
  · rw [if_neg h, decide_eq_false (show ¬ b.size ≤ a.size by omega), Bool.false_and, Option.bind_some]
def sh (t kid : S79) : Prop := t.f0.size < kid.f0.size ∧ pre kid.f0 t.f0 = true
def ordK (t : S79) (i : Nat) : Prop := i = 1 → ¬ bt (r79 t.f4 0).f0 (t.f0.size : Int) ≥ bt (r79 t.f4 i).f0 (t.f0.size : Int)
theorem bp {b : Bool} {p : Prop} [Decidable p] (h : p) (hb : b = true) : (!(decide p && b)) = false := by simp [h, hb]
theorem bn {b : Bool} {p : Prop} [Decidable p] (h : p) (hb : b = true) : ¬ (!(decide p && b)) = true := by simp [h, hb]
theorem bq {b : Bool} {p : Prop} [Decidable p] (hb : b = false) : (!(decide p && b)) = true := by simp [hb]
def sb (b : Bool) : Bool ⊕ Unit := if b then .inr () else .inl false
section
variable (B : ByteArray → Bool) (HB : ∀ s, E (fun k _ _ => f204 k s) (B s) ∧ E (fun k _ _ => f205 k s) (B s) ∧ (B s = true → s.size ≤ 128) ∧ (s.size = 0 → B s = true))
include HB
theorem specRoute_ev (s : ByteArray) (a b : Int) : E (fun k _ _ => f188 k s a b) (B s && decide (0 ≤ a ∧ a ≤ 99) && decide (0 ≤ b ∧ b ≤ 16)) := by
  have h := (HB s).1
  simp only [f188, f188.step, spec_in, Option.bind_some]
  refine E.bind h ?_
  by_cases h1 : B s = true
  · rw [h1]
    refine e_pos rfl (e_ite (fun h2 => e_fin ?_) (fun h2 => e_fin ?_))
    · rw [h2]; rfl
    · rw [Bool.not_eq_true] at h2; rw [h2]; rfl
  · rw [Bool.not_eq_true] at h1
    rw [h1]
    exact e_neg (by simp) (E.now _)
theorem implRoute_ev (s : ByteArray) (a b : Int) : E (fun k _ _ => f191 k s a b) (B s && decide (0 ≤ a ∧ a ≤ 99) && decide (0 ≤ b ∧ b ≤ 16)) := by
  have h := (HB s).2.1
  simp only [f191, f191.step, impl_in, Option.bind_some]
  refine E.bind h ?_
  by_cases h1 : B s = true
  · rw [h1]
    refine e_pos rfl (e_ite (fun h2 => e_fin ?_) (fun h2 => e_fin ?_))
    · rw [h2]; rfl
    · rw [Bool.not_eq_true] at h2; rw [h2]; rfl
  · rw [Bool.not_eq_true] at h1
    rw [h1]
    exact e_neg (by simp) (E.now _)
/-- What is no row of bits is not right. -/
theorem right_notbits (t : S79) (top : Bool) (dep : Int) (hb : B t.f0 = false) : E (fun k j _ => f161i.r k j t.f0 t.f1 t.f2 t.f3 t.f4 top dep) false := by
  have hr := specRoute_ev B HB t.f0 t.f2 t.f3
  rw [hb] at hr
  apply e_rec
  simp only [f161i.r, f161i, f161i.step]
  exact e_ite (fun _ => E.bind hr (e_neg (by simp) (E.now _))) (fun _ => E.now _)
/-- A root with bits is not right. -/
theorem right_top (t : S79) (dep : Int) (hb : ¬ t.f0.toList = (⟨#[]⟩ : ByteArray).toList) : E (fun k j _ => f161i.r k j t.f0 t.f1 t.f2 t.f3 t.f4 true dep) false := by
  have hr := specRoute_ev B HB t.f0 t.f2 t.f3
  apply e_rec
  simp only [f161i.r, f161i, f161i.step]
  refine e_ite (fun _ => E.bind hr (e_ite (fun _ => e_ite (fun _ => e_ite (fun _ => e_ite (fun _ => e_ite (fun _ => e_pos trivial (e_neg (by simpa using hb) (E.now _))) (fun _ => E.now _)) (fun _ => E.now _)) (fun _ => E.now _)) (fun _ => e_ite (fun _ => e_pos trivial (e_neg (by simpa using hb) (E.now _))) (fun _ => E.now _))) (fun _ => E.now _))) (fun _ => E.now _)
/-- What the node itself must be. -/
def nodeP (t : S79) (top : Bool) : Prop := (t.f1 = true ∧ (0 ≤ t.f2 ∧ t.f2 ≤ 99) ∧ 0 ≤ t.f3 ∧ t.f3 ≤ 16) ∨ (¬ t.f1 = true ∧ t.f2 = 0 ∧ t.f3 = 0 ∧ (top = true ∨ t.f4.length = 2))
theorem right_node (t : S79) (top : Bool) (dep : Nat) (hb : B t.f0 = true) (hd : dep ≤ t.f0.size) (ht : top = true → t.f0.toList = (⟨#[]⟩ : ByteArray).toList) (hl : t.f4.length ≤ 2) {s : Bool} (hs : E (fun k j n => f161i.l4 (f161i.r k j) k n (dep : Int) 0 t.f0 t.f1 t.f2 t.f3 t.f4) (sb s)) :
    (nodeP t top → E (fun k j _ => f161i.r k j t.f0 t.f1 t.f2 t.f3 t.f4 top (dep : Int)) s) ∧ (¬ nodeP t top → E (fun k j _ => f161i.r k j t.f0 t.f1 t.f2 t.f3 t.f4 top (dep : Int)) false) := by
  have hr := specRoute_ev B HB t.f0 t.f2 t.f3
  rw [hb, Bool.true_and] at hr
  have h128 := (HB t.f0).2.2.1 hb
  have hF : E (fun k j _ => (f161i.l4 (f161i.r k j) k k (dep : Int) 0 t.f0 t.f1 t.f2 t.f3 t.f4).bind (Sum.elim (fun t19 => some t19) (fun _ => some true))) s := by
    refine E.bind (e_use hs) ?_
    cases s <;> exact E.now _
  refine ⟨fun h => ?_, fun h => ?_⟩
  · rcases h with ⟨h1, h2, h3⟩ | ⟨h1, h2, h3, h4⟩
    · rw [decide_eq_true h2, decide_eq_true h3] at hr
      rw [h1] at hF
      apply e_rec
      simp only [f161i.r, f161i, f161i.step, decide_eq_true_eq, decide_eq_false_iff_not, h1, Bool.not_true]
      refine e_pos (by omega) (E.bind hr (e_pos rfl (e_neg (by simp) (e_pos (by omega) (e_ite (fun c => e_pos (by simp [ht c]) ?_) (fun c => ?_))))))
      · exact e_ite (fun _ => e_neg (by simp) hF) (fun _ => hF)
      · exact e_ite (fun _ => e_neg (by simp) hF) (fun _ => hF)
    · rw [decide_eq_true (show 0 ≤ t.f2 ∧ t.f2 ≤ 99 by omega), decide_eq_true (show 0 ≤ t.f3 ∧ t.f3 ≤ 16 by omega)] at hr
      rw [Bool.not_eq_true] at h1
      rw [h1] at hF
      apply e_rec
      simp only [f161i.r, f161i, f161i.step, decide_eq_true_eq, decide_eq_false_iff_not, h1, Bool.not_false]
      refine e_pos (by omega) (E.bind hr (e_pos rfl (e_pos trivial (e_pos (by omega) (e_pos (by omega) (e_pos (by omega) (e_ite (fun c => e_pos (by simp [ht c]) (e_neg (by simp [c]) hF)) (fun c => e_pos (by simpa using c) (e_pos trivial (e_neg ?_ hF))))))))))
      rcases h4 with h4 | h4
      · exact absurd h4 c
      · omega
  · apply e_rec
    simp only [f161i.r, f161i, f161i.step, decide_eq_true_eq, decide_eq_false_iff_not]
    refine e_pos (by omega) (E.bind hr (e_ite (fun c => ?_) (fun _ => E.now _)))
    have c : (decide (0 ≤ t.f2 ∧ t.f2 ≤ 99) && decide (0 ≤ t.f3 ∧ t.f3 ≤ 16)) = true := by simpa using c
    rw [Bool.and_eq_true, decide_eq_true_eq, decide_eq_true_eq] at c
    refine e_ite (fun h1 => e_ite (fun h2 => e_ite (fun h3 => e_pos (by omega) (e_ite (fun h4 => ?_) (fun h4 => ?_))) (fun _ => E.now _)) (fun _ => E.now _)) (fun h1 => ?_)
    · exact absurd (.inr ⟨by simpa using h1, by omega, by omega, .inl h4⟩) h
    · refine e_pos (by simpa using h4) (e_pos h1 (e_pos ?_ (E.now _)))
      rcases Nat.lt_or_ge t.f4.length 2 with h5 | h5
      · omega
      · exact absurd (.inr ⟨by simpa using h1, by omega, by omega, .inr (by omega)⟩) h
    · exact absurd (.inl ⟨by simpa using h1, c.1, c.2⟩) h
omit HB in
theorem right_many (t : S79) (top : Bool) (dep : Int) (hl : 2 < t.f4.length) {q : Bool} (hr : E (fun k _ _ => f188 k t.f0 t.f2 t.f3) q) : E (fun k j _ => f161i.r k j t.f0 t.f1 t.f2 t.f3 t.f4 top dep) false := by
  apply e_rec
  simp only [f161i.r, f161i, f161i.step, decide_eq_true_eq, decide_eq_false_iff_not]
  exact e_ite (fun _ => E.bind hr (e_ite (fun _ => e_ite (fun _ => e_ite (fun _ => e_ite (fun _ => e_neg (by omega) (E.now _)) (fun _ => E.now _)) (fun _ => E.now _)) (fun _ => e_neg (by omega) (E.now _))) (fun _ => E.now _))) (fun _ => E.now _)
omit HB in
theorem spec_end (t : S79) (dep : Int) (i : Nat) (hi : t.f4.length ≤ i) : E (fun k j n => f161i.l4 (f161i.r k j) k n dep i t.f0 t.f1 t.f2 t.f3 t.f4) (sb true) := by
  apply e_loop
  simp only [f161i.l4, f161i.l4.step, decide_eq_true_eq]
  exact e_neg (by omega) (E.now _)
omit HB in
theorem spec_bad (t : S79) (dep : Int) (i : Nat) (hi : i < t.f4.length) (h0 : i = 1 → sh t (r79 t.f4 0)) (h : ¬ (sh t (r79 t.f4 i) ∧ ordK t i)) : E (fun k j n => f161i.l4 (f161i.r k j) k n dep i t.f0 t.f1 t.f2 t.f3 t.f4) (sb false) := by
  apply e_loop
  simp only [f161i.l4, f161i.l4.step, decide_eq_true_eq, decide_eq_false_iff_not, begins_eq, Option.bind_some, Int.toNat_natCast]
  simp only [fold79]
  refine e_pos (by omega) (e_pos (by omega) (e_pos (by omega) (e_ite (fun c => e_ite (fun c2 => ?_) (fun c2 => E.now _)) (fun _ => E.now _))))
  rw [Bool.not_eq_false', Bool.and_eq_true] at c
  have c1 := of_decide_eq_true c.1
  have hs : sh t (r79 t.f4 i) := ⟨by omega, c.2⟩
  by_cases h1 : i = 1
  · have h01 := (h0 h1).1
    have hs1 := hs.1
    refine e_pos (by omega) (e_pos (by omega) (e_pos (by omega) (e_pos (by omega) (e_pos (by omega) (e_pos (by omega) (e_ite (fun c3 => absurd ⟨hs, fun _ => c3⟩ h) (fun c3 => E.now _)))))))
  · exact absurd ⟨hs, fun h2 => absurd h2 h1⟩ h
omit HB in
theorem spec_go (t : S79) (dep : Nat) (hdep : dep ≤ 128) (i : Nat) (hi : i < t.f4.length) (hl : t.f4.length ≤ 2) (h0 : i = 1 → sh t (r79 t.f4 0)) (h : sh t (r79 t.f4 i) ∧ ordK t i) {g r : Bool}
    (hg : E (fun k j _ => f161i.r k j (r79 t.f4 i).f0 (r79 t.f4 i).f1 (r79 t.f4 i).f2 (r79 t.f4 i).f3 (r79 t.f4 i).f4 false ((dep + 1 : Nat) : Int)) g)
    (hr : g = true → E (fun k j n => f161i.l4 (f161i.r k j) k n (dep : Int) ((i + 1 : Nat) : Int) t.f0 t.f1 t.f2 t.f3 t.f4) (sb r)) :
    E (fun k j n => f161i.l4 (f161i.r k j) k n (dep : Int) i t.f0 t.f1 t.f2 t.f3 t.f4) (sb (if g = true then r else false)) := by
  have hw : IntKind.i64.wrap ((i : Int) + 1) = ((i + 1 : Nat) : Int) := by rw [w64 (by omega) (by omega)]; omega
  have hwd : IntKind.i64.wrap ((dep : Int) + 1) = ((dep + 1 : Nat) : Int) := by rw [w64 (by omega) (by omega)]; omega
  obtain ⟨hs, ho⟩ := h
  have hs1 := hs.1
  have fin : E (fun k j n => if (!g) = true then some (.inl false) else f161i.l4 (f161i.r k j) k n (dep : Int) ((i + 1 : Nat) : Int) t.f0 t.f1 t.f2 t.f3 t.f4) (sb (if g = true then r else false)) := by
    cases g
    · exact e_pos (by simp) (E.now _)
    · exact e_neg (by simp) (hr rfl)
  apply e_loop
  simp only [f161i.l4, f161i.l4.step, decide_eq_true_eq, decide_eq_false_iff_not, begins_eq, Option.bind_some, Int.toNat_natCast, hw, hwd]
  simp only [fold79]
  refine e_pos (by omega) (e_pos (by omega) (e_pos (by omega) (e_pos (bp (by omega) hs.2) (e_pos (by omega) ?_))))
  by_cases h1 : i = 1
  · have h01 := (h0 h1).1
    exact e_pos (by omega) (e_pos (by omega) (e_pos (by omega) (e_pos (by omega) (e_pos (by omega) (e_pos (by omega) (e_pos (ho h1) (E.bind hg fin)))))))
  · exact e_neg (by omega) (E.bind hg fin)
omit HB in
theorem kids_end (t : S79) (i : Nat) (hi : t.f4.length ≤ i) : E (fun k _ n => f190.l4 k n t.f4 t.f4.length i t.f0 t.f1 t.f2 t.f3 t.f4) (sb true) := by
  apply e_loop
  simp only [f190.l4, f190.l4.step, decide_eq_true_eq]
  exact e_neg (by omega) (E.now _)
theorem kids_bad (t : S79) (i : Nat) (hi : i < t.f4.length) (hl : t.f4.length ≤ 2) (h0 : i = 1 → sh t (r79 t.f4 0)) (h : ¬ ((sh t (r79 t.f4 i) ∧ ordK t i) ∧ B (r79 t.f4 i).f0 = true)) : E (fun k _ n => f190.l4 k n t.f4 t.f4.length i t.f0 t.f1 t.f2 t.f3 t.f4) (sb false) := by
  have he := (HB (r79 t.f4 i).f0).2.1
  apply e_loop
  simp only [f190.l4, f190.l4.step, decide_eq_true_eq, decide_eq_false_iff_not, prefix_eq, Option.bind_some, Int.toNat_natCast]
  simp only [fold79]
  refine e_pos (by omega) (e_pos (by omega) (e_pos (by omega) (e_ite (fun c1 => E.bind he (e_ite (fun c2 => ?_) (fun _ => E.now _))) (fun _ => E.now _))))
  by_cases c3 : pre (r79 t.f4 i).f0 t.f0 = true
  · have hs : sh t (r79 t.f4 i) := ⟨by omega, c3⟩
    have hs1 := hs.1
    refine e_neg (bn (by omega) c3) ?_
    by_cases h1 : i = 1
    · have h01 := (h0 h1).1
      exact e_pos (by omega) (e_pos (by omega) (e_pos (by omega) (e_pos (by omega) (e_pos (by omega) (e_pos (by omega) (e_ite (fun _ => E.now _) (fun c4 => absurd ⟨⟨hs, fun _ => c4⟩, by simpa using c2⟩ h)))))))
    · exact absurd ⟨⟨hs, fun h2 => absurd h2 h1⟩, by simpa using c2⟩ h
  · rw [Bool.not_eq_true] at c3
    exact e_pos (bq c3) (E.now _)
theorem kids_go (t : S79) (i : Nat) (hi : i < t.f4.length) (hl : t.f4.length ≤ 2) (h0 : i = 1 → sh t (r79 t.f4 0)) (h : (sh t (r79 t.f4 i) ∧ ordK t i) ∧ B (r79 t.f4 i).f0 = true) {r : Bool} (hr : E (fun k _ n => f190.l4 k n t.f4 t.f4.length ((i + 1 : Nat) : Int) t.f0 t.f1 t.f2 t.f3 t.f4) (sb r)) : E (fun k _ n => f190.l4 k n t.f4 t.f4.length i t.f0 t.f1 t.f2 t.f3 t.f4) (sb r) := by
  have hw : IntKind.i64.wrap ((i : Int) + 1) = ((i + 1 : Nat) : Int) := by rw [w64 (by omega) (by omega)]; omega
  obtain ⟨⟨hs, ho⟩, hb⟩ := h
  have hs1 := hs.1
  have he := (HB (r79 t.f4 i).f0).2.1
  rw [hb] at he
  apply e_loop
  simp only [f190.l4, f190.l4.step, decide_eq_true_eq, decide_eq_false_iff_not, prefix_eq, Option.bind_some, Int.toNat_natCast, hw]
  simp only [fold79]
  refine e_pos (by omega) (e_pos (by omega) (e_pos (by omega) (e_pos (by omega) (E.bind he (e_pos rfl (e_neg (bn (by omega) hs.2) ?_))))))
  by_cases h1 : i = 1
  · have h01 := (h0 h1).1
    exact e_pos (by omega) (e_pos (by omega) (e_pos (by omega) (e_pos (by omega) (e_pos (by omega) (e_pos (by omega) (e_neg (ho h1) hr))))))
  · exact e_neg (by omega) hr
omit HB in
theorem l11_eq (g : ByteArray → Bool → Int → Int → List S79 → Bool → Option Int) (k : Nat) : ∀ (n : Nat) (c : Int) (l : List S79) (m i : Int), f163i.l11_1 g k n c l m i = f163i.l11 g k n c l m i := by
  intro n
  induction n with
  | zero => intro c l m i; rfl
  | succ n ih =>
    intro c l m i
    simp only [f163i.l11_1, f163i.l11, f163i.l11_1.step, f163i.l11.step, ih]
omit HB in
theorem cnt_end (l : List S79) (c : Int) (i : Nat) (hi : l.length ≤ i) : E (fun k j n => f163i.l11 (f163i.r k j) k n c l l.length i) (.inr c) := by
  apply e_loop
  simp only [f163i.l11, f163i.l11.step, decide_eq_true_eq]
  exact e_neg (by omega) (E.now _)
omit HB in
theorem cnt_neg (l : List S79) (hl : l.length ≤ 2) (c : Int) (i : Nat) (hi : i < l.length) {d : Int} (hd : E (fun k j _ => f163i.r k j (r79 l i).f0 (r79 l i).f1 (r79 l i).f2 (r79 l i).f3 (r79 l i).f4 false) d) (h : d < 0) : E (fun k j n => f163i.l11 (f163i.r k j) k n c l l.length i) (.inl (-1, c)) := by
  apply e_loop
  simp only [f163i.l11, f163i.l11.step, decide_eq_true_eq, Int.toNat_natCast]
  exact e_pos (by omega) (e_pos (by omega) (e_pos (by omega) (E.bind hd (e_pos h (E.now _)))))
omit HB in
theorem cnt_step (l : List S79) (hl : l.length ≤ 2) (c : Int) (i : Nat) (hi : i < l.length) {d : Int} {r : (Int × Int) ⊕ Int} (hd : E (fun k j _ => f163i.r k j (r79 l i).f0 (r79 l i).f1 (r79 l i).f2 (r79 l i).f3 (r79 l i).f4 false) d) (h : 0 ≤ d) (hr : E (fun k j n => f163i.l11 (f163i.r k j) k n (IntKind.i64.wrap (c + d)) l l.length ((i + 1 : Nat) : Int)) r) : E (fun k j n => f163i.l11 (f163i.r k j) k n c l l.length i) r := by
  have hw : IntKind.i64.wrap ((i : Int) + 1) = ((i + 1 : Nat) : Int) := by rw [w64 (by omega) (by omega)]; omega
  apply e_loop
  simp only [f163i.l11, f163i.l11.step, decide_eq_true_eq, Int.toNat_natCast, hw]
  exact e_pos (by omega) (e_pos (by omega) (e_pos (by omega) (E.bind hd (e_neg (by omega) hr))))
omit HB in
theorem scnt_end (t : S79) (c : Int) (i : Nat) (hi : t.f4.length ≤ i) : E (fun k j n => f162i.l3 (f162i.r k j) k n c i t.f0 t.f1 t.f2 t.f3 t.f4) c := by
  apply e_loop
  simp only [f162i.l3, f162i.l3.step, decide_eq_true_eq]
  exact e_neg (by omega) (E.now _)
omit HB in
theorem scnt_step (t : S79) (hl : t.f4.length ≤ 2) (c : Int) (i : Nat) (hi : i < t.f4.length) {d r : Int} (hd : E (fun k j _ => f162i.r k j (r79 t.f4 i).f0 (r79 t.f4 i).f1 (r79 t.f4 i).f2 (r79 t.f4 i).f3 (r79 t.f4 i).f4) d)
    (hr : E (fun k j n => f162i.l3 (f162i.r k j) k n (IntKind.i64.wrap (c + d)) ((i + 1 : Nat) : Int) t.f0 t.f1 t.f2 t.f3 t.f4) r) : E (fun k j n => f162i.l3 (f162i.r k j) k n c i t.f0 t.f1 t.f2 t.f3 t.f4) r := by
  have hw : IntKind.i64.wrap ((i : Int) + 1) = ((i + 1 : Nat) : Int) := by rw [w64 (by omega) (by omega)]; omega
  apply e_loop
  simp only [f162i.l3, f162i.l3.step, decide_eq_true_eq, Int.toNat_natCast, hw]
  exact e_pos (by omega) (e_pos (by omega) (e_pos (by omega) (E.bind hd hr)))
/-- What is told of one node by both. -/
def Both (t : S79) (top : Bool) (dep : Nat) (g : Bool) (c : Int) : Prop :=
  E (fun k j _ => f161i.r k j t.f0 t.f1 t.f2 t.f3 t.f4 top (dep : Int)) g ∧ E (fun k j _ => f163i.r k j t.f0 t.f1 t.f2 t.f3 t.f4 top) c ∧ (g = true → E (fun k j _ => f162i.r k j t.f0 t.f1 t.f2 t.f3 t.f4) c ∧ 0 ≤ c ∧ c ≤ (nd t : Int)) ∧ (g = false → c = -1)
def KidsP (t : S79) (dep : Nat) (s kk : Bool) : Prop :=
  E (fun k j n => f161i.l4 (f161i.r k j) k n (dep : Int) 0 t.f0 t.f1 t.f2 t.f3 t.f4) (sb s) ∧ E (fun k _ _ => f190 k t.f0 t.f1 t.f2 t.f3 t.f4) kk ∧ (s = true → kk = true) ∧
  (kk = true → ∀ c0 : Int, 0 ≤ c0 → c0 ≤ 1 → (s = true → ∃ c, E (fun k j n => f163i.l11 (f163i.r k j) k n c0 t.f4 t.f4.length 0) (.inr c) ∧ E (fun k j n => f162i.l3 (f162i.r k j) k n c0 0 t.f0 t.f1 t.f2 t.f3 t.f4) c ∧ 0 ≤ c ∧ c ≤ c0 + (nds t.f4 : Int)) ∧ (s = false → ∃ x, E (fun k j n => f163i.l11 (f163i.r k j) k n c0 t.f4 t.f4.length 0) (.inl (-1, x))))
omit HB in
theorem nds_two (t : S79) (h : t.f4.length = 2) : nds t.f4 = nd (r79 t.f4 0) + nd (r79 t.f4 1) := by
  obtain ⟨_, _, _, _, l⟩ := t
  match l, h with
  | [x, y], _ => simp [nds, r79]
omit HB in
theorem nds_one (t : S79) (h : t.f4.length = 1) : nds t.f4 = nd (r79 t.f4 0) := by
  obtain ⟨_, _, _, _, l⟩ := t
  match l, h with
  | [x], _ => simp [nds, r79]
theorem kidsP (t : S79) (dep : Nat) (hd : dep ≤ t.f0.size) (hb : B t.f0 = true) (hl : t.f4.length ≤ 2) (hn : nd t ≤ 2000000)
    (ih : ∀ i : Nat, i < t.f4.length → B (r79 t.f4 i).f0 = true → t.f0.size < (r79 t.f4 i).f0.size → ∃ g c, Both (r79 t.f4 i) false (dep + 1) g c) : ∃ s kk, KidsP t dep s kk := by
  have h128 := (HB t.f0).2.2.1 hb
  have hnd := nd_eq t
  have kf : ∀ {r : Bool}, E (fun k _ n => f190.l4 k n t.f4 t.f4.length ((0 : Nat) : Int) t.f0 t.f1 t.f2 t.f3 t.f4) (sb r) → E (fun k _ _ => f190 k t.f0 t.f1 t.f2 t.f3 t.f4) r := by
    intro r h
    simp only [f190, f190.step, decide_eq_true_eq]
    refine e_neg (by omega) (E.bind (e_use h) ?_)
    cases r <;> exact E.now _
  rcases Nat.eq_zero_or_pos t.f4.length with hz | hp
  · refine ⟨true, true, spec_end t _ 0 (by omega), kf (kids_end t 0 (by omega)), fun _ => rfl, fun _ c0 a0 a1 => ⟨fun _ => ⟨c0, cnt_end t.f4 c0 0 (by omega), scnt_end t c0 0 (by omega), a0, by omega⟩, fun h => absurd h (by simp)⟩⟩
  · have n0 : (0 : Nat) = 1 → sh t (r79 t.f4 0) := fun h => by omega
    by_cases q0 : (sh t (r79 t.f4 0) ∧ ordK t 0) ∧ B (r79 t.f4 0).f0 = true
    · obtain ⟨g0, c0', G1, G2, G3, G4⟩ := ih 0 hp q0.2 q0.1.1.1
      rcases Nat.lt_or_ge 1 t.f4.length with h2 | h2
      · have n1 : (1 : Nat) = 1 → sh t (r79 t.f4 0) := fun _ => q0.1.1
        by_cases q1 : (sh t (r79 t.f4 1) ∧ ordK t 1) ∧ B (r79 t.f4 1).f0 = true
        · obtain ⟨g1, c1', K1, K2, K3, K4⟩ := ih 1 h2 q1.2 q1.1.1.1
          have hs := nds_two t (by omega)
          refine ⟨if g0 = true then (if g1 = true then true else false) else false, true, spec_go t dep (by omega) 0 hp hl n0 q0.1 G1 (fun _ => spec_go t dep (by omega) 1 h2 hl n1 q1.1 K1 (fun _ => spec_end t _ 2 (by omega))), kf (kids_go B HB t 0 hp hl n0 q0 (kids_go B HB t 1 h2 hl n1 q1 (kids_end t 2 (by omega)))), fun _ => rfl, fun _ c0 a0 a1 => ?_⟩
          cases g0 with
          | false =>
            have := G4 rfl
            exact ⟨fun h => by simp at h, fun _ => ⟨_, cnt_neg t.f4 hl c0 0 hp G2 (by omega)⟩⟩
          | true =>
            obtain ⟨G5, G6, G7⟩ := G3 rfl
            have w1 : IntKind.i64.wrap (c0 + c0') = c0 + c0' := w64 (by omega) (by omega)
            cases g1 with
            | false =>
              have := K4 rfl
              exact ⟨fun h => by simp at h, fun _ => ⟨_, cnt_step t.f4 hl c0 0 hp G2 G6 (by rw [w1]; exact cnt_neg t.f4 hl _ 1 h2 K2 (by omega))⟩⟩
            | true =>
              obtain ⟨K5, K6, K7⟩ := K3 rfl
              have w2 : IntKind.i64.wrap (c0 + c0' + c1') = c0 + c0' + c1' := w64 (by omega) (by omega)
              exact ⟨fun _ => ⟨c0 + c0' + c1', cnt_step t.f4 hl c0 0 hp G2 G6 (by rw [w1]; exact cnt_step t.f4 hl _ 1 h2 K2 K6 (by rw [w2]; exact cnt_end t.f4 _ 2 (by omega))), scnt_step t hl c0 0 hp G5 (by rw [w1]; exact scnt_step t hl _ 1 h2 K5 (by rw [w2]; exact scnt_end t _ 2 (by omega))), by omega, by omega⟩, fun h => by simp at h⟩
        · refine ⟨false, false, ?_, kf (kids_go B HB t 0 hp hl n0 q0 (kids_bad B HB t 1 h2 hl n1 q1)), (fun h => absurd h (by simp)), (fun h => absurd h (by simp))⟩
          have e : E (fun k j n => f161i.l4 (f161i.r k j) k n (dep : Int) ((1 : Nat) : Int) t.f0 t.f1 t.f2 t.f3 t.f4) (sb false) := by
            by_cases q2 : sh t (r79 t.f4 1) ∧ ordK t 1
            · have hnb : B (r79 t.f4 1).f0 = false := by
                rw [← Bool.not_eq_true]
                exact fun h => q1 ⟨q2, h⟩
              exact e_eq (spec_go (r := false) t dep (by omega) 1 h2 hl n1 q2 (right_notbits B HB _ false _ hnb) ((fun h => absurd h (by simp)))) (by simp)
            · exact spec_bad t _ 1 h2 n1 q2
          exact e_eq (spec_go (r := false) t dep (by omega) 0 hp hl n0 q0.1 G1 (fun _ => e)) (by simp)
      · have hs := nds_one t (by omega)
        refine ⟨if g0 = true then true else false, true, spec_go t dep (by omega) 0 hp hl n0 q0.1 G1 (fun _ => spec_end t _ 1 (by omega)), kf (kids_go B HB t 0 hp hl n0 q0 (kids_end t 1 (by omega))), fun _ => rfl, fun _ c0 a0 a1 => ?_⟩
        cases g0 with
        | false =>
          have := G4 rfl
          exact ⟨fun h => by simp at h, fun _ => ⟨_, cnt_neg t.f4 hl c0 0 hp G2 (by omega)⟩⟩
        | true =>
          obtain ⟨G5, G6, G7⟩ := G3 rfl
          have w1 : IntKind.i64.wrap (c0 + c0') = c0 + c0' := w64 (by omega) (by omega)
          exact ⟨fun _ => ⟨c0 + c0', cnt_step t.f4 hl c0 0 hp G2 G6 (by rw [w1]; exact cnt_end t.f4 _ 1 (by omega)), scnt_step t hl c0 0 hp G5 (by rw [w1]; exact scnt_end t _ 1 (by omega)), by omega, by omega⟩, fun h => by simp at h⟩
    · refine ⟨false, false, ?_, kf (kids_bad B HB t 0 hp hl n0 q0), (fun h => absurd h (by simp)), (fun h => absurd h (by simp))⟩
      by_cases q2 : sh t (r79 t.f4 0) ∧ ordK t 0
      · have hnb : B (r79 t.f4 0).f0 = false := by
          rw [← Bool.not_eq_true]
          exact fun h => q0 ⟨q2, h⟩
        exact e_eq (spec_go (r := false) t dep (by omega) 0 hp hl n0 q2 (right_notbits B HB _ false _ hnb) ((fun h => absurd h (by simp)))) (by simp)
      · exact spec_bad t _ 0 hp n0 q2
theorem joint (n : Nat) : ∀ (t : S79) (top : Bool) (dep : Nat), nd t ≤ n → nd t ≤ 2000000 → B t.f0 = true → dep ≤ t.f0.size → (top = true → t.f0.toList = (⟨#[]⟩ : ByteArray).toList) → ∃ g c, Both t top dep g c := by
  induction n with
  | zero =>
    intro t top dep h
    have := nd_eq t
    omega
  | succ n ih =>
    intro t top dep hn hm hb hd ht
    have hr := specRoute_ev B HB t.f0 t.f2 t.f3
    have hi := implRoute_ev B HB t.f0 t.f2 t.f3
    have hnd := nd_eq t
    by_cases hl : t.f4.length ≤ 2
    · obtain ⟨s, kk, S1, S2, S3, S4⟩ := kidsP B HB t dep hd hb hl hm (fun i hil hbi hsi => ih _ false (dep + 1) (by have := nd_kid hil; omega) (by have := nd_kid hil; omega) hbi (by omega) ((fun h => absurd h (by simp))))
      obtain ⟨R1, R2⟩ := right_node B HB t top dep hb hd ht hl S1
      cases kk with
      | false =>
        have hsf : s = false := by
          cases s
          · rfl
          · exact absurd (S3 rfl) (by simp)
        subst hsf
        refine ⟨false, -1, ?_, ?_, (fun h => absurd h (by simp)), fun _ => rfl⟩
        · by_cases hN : nodeP t top
          · exact R1 hN
          · exact R2 hN
        · apply e_rec
          simp only [f163i.r, f163i, f163i.step]
          exact E.bind S2 (e_pos rfl (E.now _))
      | true =>
        by_cases hN : nodeP t top
        · have hcase : ∃ c0 : Int, (0 ≤ c0 ∧ c0 ≤ 1) ∧ (∀ u, E (fun k j n => f163i.l11 (f163i.r k j) k n c0 t.f4 t.f4.length 0) u → E (fun k j _ => f163i.r k j t.f0 t.f1 t.f2 t.f3 t.f4 top) (match u with | .inl x => x.1 | .inr x => x)) ∧ (∀ c, E (fun k j n => f162i.l3 (f162i.r k j) k n c0 0 t.f0 t.f1 t.f2 t.f3 t.f4) c → E (fun k j _ => f162i.r k j t.f0 t.f1 t.f2 t.f3 t.f4) c) := by
            have jj : ∀ (c0 : Int) u, E (fun k j n => f163i.l11 (f163i.r k j) k n c0 t.f4 t.f4.length 0) u → E (fun k j _ => (f163i.l11 (f163i.r k j) k k c0 t.f4 t.f4.length 0).bind (Sum.elim (fun t14 => some t14.1) (fun t15 => some t15))) (match u with | .inl x => x.1 | .inr x => x) := by
              intro c0 u h
              refine E.bind (e_use h) ?_
              cases u <;> exact E.now _
            rcases hN with ⟨h1, h2, h3⟩ | ⟨h1, h2, h3, h4⟩
            · rw [hb, decide_eq_true h2, decide_eq_true h3] at hi
              refine ⟨1, by omega, fun u h => ?_, fun c h => ?_⟩
              · have hj := jj 1 u h
                apply e_rec
                simp only [f163i.r, f163i, f163i.step]
                exact E.bind S2 (e_neg (by simp) (e_pos h1 (E.bind hi (e_neg (by simp) hj))))
              · apply e_rec
                simp only [f162i.r, f162i, f162i.step, f99, f99.step, if_pos h1]
                exact E.bind (E.now _) (E.bind (e_use h) (E.now _))
            · refine ⟨0, by omega, fun u h => ?_, fun c h => ?_⟩
              · have hj := jj 0 u h
                apply e_rec
                simp only [f163i.r, f163i, f163i.step, decide_eq_false_iff_not, decide_eq_true_eq, l11_eq]
                exact E.bind S2 (e_neg (by simp) (e_neg h1 (e_pos (by omega) (e_pos (by omega) (e_ite (fun c5 => e_neg (by rcases h4 with h4 | h4; exact absurd h4 (by simpa using c5); omega) hj) (fun _ => hj))))))
              · apply e_rec
                simp only [f162i.r, f162i, f162i.step, f99, f99.step, if_neg h1]
                exact E.bind (E.now _) (E.bind (e_use h) (E.now _))
          obtain ⟨c0, ⟨a0, a1⟩, E1, E2⟩ := hcase
          obtain ⟨X1, X2⟩ := S4 rfl c0 a0 a1
          cases s with
          | true =>
            obtain ⟨c, C1, C2, C3, C4⟩ := X1 rfl
            exact ⟨true, c, R1 hN, E1 _ C1, fun h => ⟨E2 c C2, C3, by omega⟩, fun h => absurd h (by simp)⟩
          | false =>
            obtain ⟨x, C1⟩ := X2 rfl
            exact ⟨false, -1, R1 hN, E1 _ C1, fun h => absurd h (by simp), fun _ => rfl⟩
        · refine ⟨false, -1, R2 hN, ?_, (fun h => absurd h (by simp)), fun _ => rfl⟩
          apply e_rec
          simp only [f163i.r, f163i, f163i.step, decide_eq_false_iff_not, decide_eq_true_eq]
          refine E.bind S2 (e_neg (by simp) (e_ite (fun h1 => E.bind hi (e_pos ?_ (E.now _))) (fun h1 => e_ite (fun h2 => e_ite (fun h3 => e_ite (fun h4 => e_pos (fun h5 => hN (.inr ⟨h1, by omega, by omega, .inr (by omega)⟩)) (E.now _)) (fun h4 => absurd (.inr ⟨h1, by omega, by omega, .inl (by simpa using h4)⟩) hN)) (fun _ => E.now _)) (fun _ => E.now _))))
          rw [hb, Bool.true_and, Bool.not_eq_true', Bool.eq_false_iff, Ne, Bool.and_eq_true, decide_eq_true_eq, decide_eq_true_eq]
          exact fun h => hN (.inl ⟨h1, h.1, h.2⟩)
    · refine ⟨false, -1, right_many t top _ (by omega) hr, ?_, (fun h => absurd h (by simp)), fun _ => rfl⟩
      apply e_rec
      simp only [f163i.r, f163i, f163i.step, f190, f190.step, decide_eq_true_eq]
      exact E.bind (e_pos (by omega) (E.now _)) (e_pos rfl (E.now _))
theorem trieOK_ev (t : S79) (hm : nd t ≤ 2000000) : ∃ r, E (fun k _ _ => f114 k t.f0 t.f1 t.f2 t.f3 t.f4) r ∧ E (fun k _ _ => f117 k t.f0 t.f1 t.f2 t.f3 t.f4) r := by
  simp only [f114, f114.step, f117, f117.step, f161, f162, f163, impl_in, Option.bind_some, decide_eq_true_eq]
  by_cases h0 : t.f0.toList = (⟨#[]⟩ : ByteArray).toList
  · obtain ⟨g, c, G1, G2, G3, G4⟩ := joint B HB (nd t) t true 0 (Nat.le_refl _) hm ((HB t.f0).2.2.2 ((empty_iff _).1 h0)) (by omega) (fun _ => h0)
    cases g with
    | true =>
      obtain ⟨G5, G6, G7⟩ := G3 rfl
      exact ⟨decide (c ≤ 60), E.bind (e_fn G1) (e_pos rfl (E.bind (e_fn G5) (E.now _))), e_pos h0 (E.bind (e_fn G2) (e_fin (decide_eq_decide.mpr (by omega))))⟩
    | false =>
      have := G4 rfl
      exact ⟨false, E.bind (e_fn G1) (e_neg (by simp) (E.now _)), e_pos h0 (E.bind (e_fn G2) (e_fin (decide_eq_false (by omega))))⟩
  · exact ⟨false, E.bind (e_fn (right_top B HB t 0 h0)) (e_neg (by simp) (E.now _)), e_neg h0 (E.now _)⟩
end
/-! ### the routes of a trie -/
mutual
def rts : S79 → List S158
  | ⟨a, b, c, d, l⟩ => (if b then [⟨a, c, d⟩] else []) ++ rtsS l
def rtsS : List S79 → List S158
  | [] => []
  | x :: l => rts x ++ rtsS l
end
theorem rts_eq (t : S79) : rts t = (if t.f1 then [⟨t.f0, t.f2, t.f3⟩] else []) ++ rtsS t.f4 := by cases t; simp [rts]
mutual
theorem rts_len : (t : S79) → (rts t).length ≤ nd t
  | ⟨a, b, c, d, l⟩ => by
    have := rtsS_len l
    simp only [rts, nd, List.length_append]
    cases b <;> simp <;> omega
theorem rtsS_len : (l : List S79) → (rtsS l).length ≤ nds l
  | [] => by simp [rtsS, nds]
  | x :: l => by
    have := rts_len x
    have := rtsS_len l
    simp only [rtsS, nds, List.length_append]
    omega
end
theorem nds_drop (l : List S79) (i : Nat) (hi : i < l.length) : nds (l.drop i) = nd (r79 l i) + nds (l.drop (i + 1)) := by
  rw [List.drop_eq_getElem_cons hi, r79_at l i hi]; simp [nds]
theorem rts_drop (l : List S79) (i : Nat) (hi : i < l.length) : rtsS (l.drop i) = rts (r79 l i) ++ rtsS (l.drop (i + 1)) := by
  rw [List.drop_eq_getElem_cons hi, r79_at l i hi]; simp [rtsS]
def RtP (t : S79) : Prop := ∀ acc : List S158, acc.length + nd t ≤ 4000000 → E (fun k j _ => f115i.r k j t.f0 t.f1 t.f2 t.f3 t.f4 acc) (acc ++ rts t, false) ∧ E (fun k j _ => f118i.r k j t.f0 t.f1 t.f2 t.f3 t.f4 acc) (acc ++ rts t, false)
theorem f115_l (g : ByteArray → Bool → Int → Int → List S79 → List S158 → Option (List S158 × Bool)) (k : Nat) : ∀ (n : Nat) (i : Int) (s : ByteArray) (b : Bool) (a c : Int) (l : List S79) (acc : List S158), f115i.l4_1 g k n i s b a c l acc = f115i.l4 g k n i s b a c l acc := by
  intro n
  induction n with
  | zero => intros; rfl
  | succ n ih =>
    intros
    simp only [f115i.l4_1, f115i.l4, f115i.l4_1.step, f115i.l4.step, ih]
theorem f118_l (g : ByteArray → Bool → Int → Int → List S79 → List S158 → Option (List S158 × Bool)) (k : Nat) : ∀ (n : Nat) (l : List S79) (m i : Int) (acc : List S158), f118i.l4_1 g k n l m i acc = f118i.l4 g k n l m i acc := by
  intro n
  induction n with
  | zero => intros; rfl
  | succ n ih =>
    intros
    simp only [f118i.l4_1, f118i.l4, f118i.l4_1.step, f118i.l4.step, ih]
theorem rt_loop (s : ByteArray) (b : Bool) (a c : Int) (l : List S79) (hl : l.length ≤ 2000000) (hq : ∀ i, i < l.length → RtP (r79 l i)) (d : Nat) : ∀ (i : Nat) (acc : List S158), i + d = l.length → acc.length + nds (l.drop i) ≤ 4000000 → E (fun k j n => f115i.l4 (f115i.r k j) k n (i : Int) s b a c l acc) (acc ++ rtsS (l.drop i)) ∧ E (fun k j n => f118i.l4 (f118i.r k j) k n l (l.length : Int) (i : Int) acc) (acc ++ rtsS (l.drop i)) := by
  induction d with
  | zero =>
    intro i acc h _
    rw [List.drop_eq_nil_of_le (by omega), rtsS, List.append_nil]
    refine ⟨?_, ?_⟩
    · apply e_loop
      simp only [f115i.l4, f115i.l4.step, decide_eq_true_eq]
      exact e_neg (by omega) (E.now _)
    · apply e_loop
      simp only [f118i.l4, f118i.l4.step, decide_eq_true_eq]
      exact e_neg (by omega) (E.now _)
  | succ d ih =>
    intro i acc h hn
    have hi : i < l.length := by omega
    have hw : IntKind.i64.wrap ((i : Int) + 1) = ((i + 1 : Nat) : Int) := by rw [w64 (by omega) (by omega)]; omega
    have e1 := nds_drop l i hi
    have e2 := rts_drop l i hi
    have e3 := rts_len (r79 l i)
    obtain ⟨q1, q2⟩ := hq i hi acc (by omega)
    obtain ⟨g1, g2⟩ := ih (i + 1) (acc ++ rts (r79 l i)) (by omega) (by rw [List.length_append]; omega)
    rw [e2, ← List.append_assoc]
    refine ⟨?_, ?_⟩
    · apply e_loop
      simp only [f115i.l4, f115i.l4.step, decide_eq_true_eq, hw, Int.toNat_natCast]
      exact e_pos (by omega) (e_pos (by omega) (e_pos (by omega) (E.bind q1 g1)))
    · apply e_loop
      simp only [f118i.l4, f118i.l4.step, decide_eq_true_eq, hw, Int.toNat_natCast]
      exact e_pos (by omega) (e_pos (by omega) (e_pos (by omega) (E.bind q2 g2)))
theorem nds_len (l : List S79) : l.length ≤ nds l := by
  induction l with
  | nil => simp
  | cons x l ih => have := nd_eq x; simp only [nds, List.length_cons]; omega
theorem rtP (n : Nat) : ∀ t : S79, nd t ≤ n → nd t ≤ 2000000 → RtP t := by
  induction n with
  | zero => intro t h; have := nd_eq t; omega
  | succ n ih =>
    intro t hn hm acc ha
    have e := nd_eq t
    have hl := nds_len t.f4
    have hq : ∀ i, i < t.f4.length → RtP (r79 t.f4 i) := fun i hi => ih _ (by have := nd_kid hi; omega) (by have := nd_kid hi; omega)
    rw [rts_eq]
    by_cases hb : t.f1 = true
    · obtain ⟨g1, g2⟩ := rt_loop t.f0 t.f1 t.f2 t.f3 t.f4 (by omega) hq t.f4.length 0 (acc ++ [⟨t.f0, t.f2, t.f3⟩]) (by omega) (by rw [List.drop_zero]; simp; omega)
      rw [List.drop_zero] at g1 g2
      rw [if_pos hb, ← List.append_assoc]
      refine ⟨?_, ?_⟩
      · apply e_rec
        simp only [f115i.r, f115i, f115i.step]
        exact e_pos hb (e_pos (by simp only [List.length_cons, List.length_nil, maxN]; omega) (E.bind (e_use g1) (E.now _)))
      · apply e_rec
        simp only [f118i.r, f118i, f118i.step]
        exact e_pos hb (e_pos (by simp only [List.length_cons, List.length_nil, maxN]; omega) (E.bind (e_use g2) (E.now _)))
    · obtain ⟨g1, g2⟩ := rt_loop t.f0 t.f1 t.f2 t.f3 t.f4 (by omega) hq t.f4.length 0 acc (by omega) (by rw [List.drop_zero]; omega)
      rw [List.drop_zero] at g1 g2
      rw [if_neg hb, List.nil_append]
      refine ⟨?_, ?_⟩
      · apply e_rec
        simp only [f115i.r, f115i, f115i.step, f115_l]
        exact e_neg hb (E.bind (e_use g1) (E.now _))
      · apply e_rec
        simp only [f118i.r, f118i, f118i.step, f118_l]
        exact e_neg hb (E.bind (e_use g2) (E.now _))
theorem route_refl (k : Nat) (l : List S158) (hl : l.length ≤ 2000000) (hk : 2000001 ≤ k) : f50 k l l = some true := by
  have lp : ∀ (d i n : Nat), i + d = l.length → d < n → f50.l4 k n l l (i : Int) = some (.inr ()) := by
    intro d
    induction d with
    | zero =>
      intro i n h hn
      obtain ⟨n, rfl⟩ : ∃ n', n = n' + 1 := ⟨n - 1, by omega⟩
      simp only [f50.l4, f50.l4.step, decide_eq_true_eq]
      rw [if_neg (by omega)]
    | succ d ih =>
      intro i n h hn
      obtain ⟨n, rfl⟩ : ∃ n', n = n' + 1 := ⟨n - 1, by omega⟩
      have hw : IntKind.i64.wrap ((i : Int) + 1) = ((i + 1 : Nat) : Int) := by rw [w64 (by omega) (by omega)]; omega
      simp only [f50.l4, f50.l4.step, f119, f119.step, decide_eq_true_eq, hw, ne_eq, not_true_eq_false, if_false, Option.bind_some]
      rw [if_pos (by omega), if_pos (by omega), if_pos (by omega), if_pos (by omega), if_pos (by omega), if_neg (by simp)]
      exact ih (i + 1) n (by omega) (by omega)
  simp only [f50, f50.step, decide_eq_true_eq]
  rw [if_neg (by omega), show f50.l4 k k l l 0 = _ from lp l.length 0 k (by omega) (by omega)]
  rfl
/-! ### a mark's text, the same for all rounds -/
theorem text_loop : ∀ (d : Nat) (a : Int) (s : ByteArray), 0 ≤ a → a < 10 ^ d → a < 1000000000000000 → s.size + d ≤ 1000 → ∃ t, (∀ k j, d < j → f122.l4 k j a s = some t) ∧ t.size ≤ s.size + d := by
  intro d
  induction d with
  | zero =>
    intro a s h0 h1 hb hs
    refine ⟨s, fun k j hj => ?_, by omega⟩
    obtain ⟨j, rfl⟩ : ∃ j', j = j' + 1 := ⟨j - 1, by omega⟩
    simp only [f122.l4, f122.l4.step]
    rw [if_neg (fb (by simp at h1; omega))]
  | succ d ih =>
    intro a s h0 h1 hb hs
    by_cases c : a > 0
    · have hd : Int.tdiv a 10 = a / 10 := Int.tdiv_eq_ediv_of_nonneg h0
      have hsz : ∀ x : Int, (strOf [x]).size = 1 := fun x => rfl
      have h2 : a / 10 < 10 ^ d := by
        rw [Int.pow_succ] at h1
        omega
      obtain ⟨t, e1, e2⟩ := ih (a / 10) (strOf [IntKind.u8.wrap (IntKind.i64.wrap (48 + Int.tmod a 10))] ++ s) (by omega) h2 (by omega) (by rw [ByteArray.size_append, hsz]; omega)
      refine ⟨t, fun k j hj => ?_, by rw [ByteArray.size_append, hsz] at e2; omega⟩
      obtain ⟨j, rfl⟩ : ∃ j', j = j' + 1 := ⟨j - 1, by omega⟩
      simp only [f122.l4, f122.l4.step]
      rw [if_pos (tb c), if_pos (by rw [hsz]; simp [maxN]; omega), hd, w64 (by omega) (by omega)]
      exact e1 k j (by omega)
    · refine ⟨s, fun k j hj => ?_, by omega⟩
      obtain ⟨j, rfl⟩ : ∃ j', j = j' + 1 := ⟨j - 1, by omega⟩
      simp only [f122.l4, f122.l4.step]
      rw [if_neg (fb c)]
theorem markText {a : Int} (h0 : 0 ≤ a) (h1 : a < 1000000000000000) : ∃ t, ∀ k, 16 ≤ k → f122 k a = some t := by
  simp only [f122, f122.step]
  by_cases c : a ≤ 0
  · exact ⟨_, fun k hk => by rw [if_pos (tb c)]⟩
  · obtain ⟨t, e1, e2⟩ := text_loop 15 a ⟨#[]⟩ h0 (by simpa using h1) h1 (by rw [show (⟨#[]⟩ : ByteArray).size = 0 from rfl]; omega)
    refine ⟨⟨#[109]⟩ ++ t, fun k hk => ?_⟩
    rw [if_neg (fb c), e1 k k (by omega)]
    simp only [Option.bind_some]
    have e0 : (⟨#[]⟩ : ByteArray).size = 0 := rfl
    have e4 : (⟨#[109]⟩ : ByteArray).size = 1 := rfl
    rw [if_pos (by rw [e4]; simp only [maxN]; omega)]
theorem markE {a : Int} (h0 : 0 ≤ a) (h1 : a < 1000000000000000) : ∃ t, E (fun k _ _ => f122 k a) t := by
  obtain ⟨t, h⟩ := markText h0 h1
  exact ⟨t, e_k 16 h⟩
theorem set79_is (l : List S79) (i off : Nat) (cs : List (Cell T)) {y : S79} (h : putCells (E := env) 79 (r79 l i) off cs = some y) : set79 l i off cs = l.set i y := by
  have hg : List.getD l i (env.dflt 79) = r79 l i := rfl
  simp only [set79, setE]
  erw [hg, h]
  rfl
theorem r79_set (l : List S79) (i : Nat) (y : S79) (h : i < l.length) : r79 (l.set i y) i = y := by
  rw [r79_at _ _ (by simpa using h)]; simp
theorem r79_ne (l : List S79) (i m : Nat) (y : S79) (h : i ≠ m) : r79 (l.set i y) m = r79 l m := by
  simp only [r79, List.getD_eq_getElem?_getD, List.getElem?_set_ne h]
theorem set79_chain (l : List S79) (i : Nat) (h : i < l.length) (t : ByteArray) (b : Bool) (c d : Int) : set79 (set79 (set79 (set79 l i 0 [.s (.string t)]) i 1 [.s (.bool b)]) i 2 [.s (.int .i64 c)]) i 3 [.s (.int .i64 d)] = l.set i ⟨t, b, c, d, (r79 l i).f4⟩ := by
  rw [set79_is l i 0 _ (y := ⟨t, (r79 l i).f1, (r79 l i).f2, (r79 l i).f3, (r79 l i).f4⟩) rfl]
  rw [set79_is _ i 1 _ (y := ⟨t, b, (r79 l i).f2, (r79 l i).f3, (r79 l i).f4⟩) (by rw [r79_set _ _ _ h]; rfl), List.set_set]
  rw [set79_is _ i 2 _ (y := ⟨t, b, c, (r79 l i).f3, (r79 l i).f4⟩) (by rw [r79_set _ _ _ h]; rfl), List.set_set]
  rw [set79_is _ i 3 _ (y := ⟨t, b, c, d, (r79 l i).f4⟩) (by rw [r79_set _ _ _ h]; rfl), List.set_set]
theorem set79_len (l : List S79) (i off : Nat) (cs : List (Cell T)) : (set79 l i off cs).length = l.length := by
  exact List.length_set
def MkP (l : List S79) : Prop := ∀ a : Int, 0 ≤ a → a + 4 * nds l ≤ 1000000000 → ∃ v l', E (fun k j _ => f121i.r k j l a) (v, l') ∧ a ≤ v ∧ v ≤ a + 4 * nds l
theorem mk_loop (l : List S79) (hl : l.length ≤ 2000000) (hq : ∀ i, i < l.length → MkP (r79 l i).f4) (d : Nat) : ∀ (i : Nat) (a : Int) (l2 : List S79), i + d = l.length → l2.length = l.length → (∀ m, i ≤ m → r79 l2 m = r79 l m) → 0 ≤ a → a + 4 * nds (l.drop i) ≤ 1000000000 → ∃ v l', E (fun k j n => f121i.l2 (f121i.r k j) k n a (i : Int) l2) (v, l') ∧ a ≤ v ∧ v ≤ a + 4 * nds (l.drop i) := by
  induction d with
  | zero =>
    intro i a l2 h h2 _ h0 _
    refine ⟨a, l2, ?_, by omega, by omega⟩
    apply e_loop
    simp only [f121i.l2, f121i.l2.step, decide_eq_true_eq]
    exact e_neg (by omega) (E.now _)
  | succ d ih =>
    intro i a l2 h h2 hm h0 hn
    have hi : i < l.length := by omega
    have hw : IntKind.i64.wrap ((i : Int) + 1) = ((i + 1 : Nat) : Int) := by rw [w64 (by omega) (by omega)]; omega
    have e1 := nds_drop l i hi
    have e2 := nd_eq (r79 l i)
    obtain ⟨t, ht⟩ := markE (a := a) h0 (by omega)
    have w1 : IntKind.i64.wrap (a + 1) = a + 1 := w64 (by omega) (by omega)
    have w2 : IntKind.i64.wrap (a + 1 + 1) = a + 1 + 1 := w64 (by omega) (by omega)
    have w3 : IntKind.i64.wrap (a + 1 + 1 + 1) = a + 1 + 1 + 1 := w64 (by omega) (by omega)
    have w4 : IntKind.i64.wrap (a + 1 + 1 + 1 + 1) = a + 1 + 1 + 1 + 1 := w64 (by omega) (by omega)
    obtain ⟨v, l', g, g0, g1⟩ := hq i hi (a + 1 + 1 + 1 + 1) (by omega) (by omega)
    have hx : ∀ b c d, (r79 (l2.set i ⟨t, b, c, d, (r79 l2 i).f4⟩) i).f4 = (r79 l i).f4 := by
      intro b c d
      rw [r79_set _ _ _ (by omega), hm i (Nat.le_refl _)]
    obtain ⟨u, l3, g3, g4, g5⟩ := ih (i + 1) v (l2.set i ⟨t, decide (Int.tmod (a + 1) 3 = 0), a + 1 + 1, a + 1 + 1 + 1, l'⟩) (by omega) (by rw [List.length_set]; exact h2) (fun m hm2 => by rw [r79_ne _ _ _ _ (by omega)]; exact hm m (by omega)) (by omega) (by omega)
    refine ⟨u, l3, ?_, by omega, by omega⟩
    apply e_loop
    simp only [f121i.l2, f121i.l2.step, decide_eq_true_eq, hw, w1, w2, w3, w4, Int.toNat_natCast, set79_len]
    refine e_pos (by omega) (E.bind ht (e_pos (by omega) (e_pos (by omega) (e_pos (by omega) (e_pos (by omega) (e_pos (by omega) (e_pos (by omega) (e_pos (by omega) (e_pos (by omega) (e_pos (by omega) (e_pos (by omega) ?_)))))))))))
    rw [set79_chain l2 i (by omega)]
    have hy : ∀ b c d, set79 (l2.set i ⟨t, b, c, d, (r79 l2 i).f4⟩) i 4 [.sl 79 l'] = l2.set i ⟨t, b, c, d, l'⟩ := by
      intro b c d
      rw [set79_is _ i 4 _ (y := ⟨t, b, c, d, l'⟩) (by rw [r79_set _ _ _ (by omega)]; rfl), List.set_set]
    refine E.bind (a := (v, l')) ?_ ?_
    · have := hx (decide (Int.tmod (a + 1) 3 = 0)) (a + 1 + 1) (a + 1 + 1 + 1)
      simp only [fold79, this]
      exact g
    · simp only [hy]
      exact g3
theorem mkP (n : Nat) : ∀ l : List S79, nds l ≤ n → nds l ≤ 2000000 → MkP l := by
  induction n with
  | zero =>
    intro l h h2
    have := nds_len l
    intro a a0 a1
    have e : l.length = 0 := by omega
    obtain ⟨v, l', g, g0, g1⟩ := mk_loop l (by omega) (fun i hi => absurd hi (by omega)) l.length 0 a l (by omega) rfl (fun _ _ => rfl) a0 (by rw [List.drop_zero]; omega)
    refine ⟨v, l', ?_, g0, by rw [List.drop_zero] at g1; exact g1⟩
    apply e_rec
    simp only [f121i.r, f121i, f121i.step]
    exact E.bind (e_use g) (E.now _)
  | succ n ih =>
    intro l h h2 a a0 a1
    have hl := nds_len l
    have hk : ∀ i, i < l.length → nds (r79 l i).f4 + 1 ≤ nds l := by
      intro i hi
      have e1 : ∀ (l : List S79) (i : Nat), i < l.length → nd (r79 l i) ≤ nds l := by
        intro l i hi
        have : ∀ (m : Nat), m ≤ l.length → nds (l.drop m) ≤ nds l := by
          intro m
          induction m with
          | zero => intro _; rw [List.drop_zero]; omega
          | succ m ih => intro hm; have := ih (by omega); have := nds_drop l m (by omega); omega
        have := this i (by omega)
        have := nds_drop l i hi
        omega
      have := e1 l i hi
      have := nd_eq (r79 l i)
      omega
    obtain ⟨v, l', g, g0, g1⟩ := mk_loop l (by omega) (fun i hi => ih _ (by have := hk i hi; omega) (by have := hk i hi; omega)) l.length 0 a l (by omega) rfl (fun _ _ => rfl) a0 (by rw [List.drop_zero]; omega)
    refine ⟨v, l', ?_, g0, by rw [List.drop_zero] at g1; exact g1⟩
    apply e_rec
    simp only [f121i.r, f121i, f121i.step]
    exact E.bind (e_use g) (E.now _)
/-! ### routes marked, and what they hold -/
def r158 (l : List S158) (i : Nat) : S158 := List.getD l i ⟨ByteArray.empty, 0, 0⟩
theorem set158_is (l : List S158) (i off : Nat) (cs : List (Cell T)) {y : S158} (h : putCells (E := env) 158 (r158 l i) off cs = some y) : set158 l i off cs = l.set i y := by
  have hg : List.getD l i (env.dflt 158) = r158 l i := rfl
  simp only [set158, setE]
  erw [hg, h]
  rfl
theorem set158_len (l : List S158) (i off : Nat) (cs : List (Cell T)) : (set158 l i off cs).length = l.length := by
  exact List.length_set
theorem r158_set (l : List S158) (i : Nat) (y : S158) (h : i < l.length) : r158 (l.set i y) i = y := by
  simp [r158, List.getD_eq_getElem?_getD, h]
theorem r158_ne (l : List S158) (i m : Nat) (y : S158) (h : i ≠ m) : r158 (l.set i y) m = r158 l m := by
  simp only [r158, List.getD_eq_getElem?_getD, List.getElem?_set_ne h]
theorem set158_chain (l : List S158) (i : Nat) (h : i < l.length) (t : ByteArray) (c d : Int) : set158 (set158 (set158 l i 0 [.s (.string t)]) i 1 [.s (.int .i64 c)]) i 2 [.s (.int .i64 d)] = l.set i ⟨t, c, d⟩ := by
  rw [set158_is l i 0 _ (y := ⟨t, (r158 l i).f1, (r158 l i).f2⟩) rfl]
  rw [set158_is _ i 1 _ (y := ⟨t, c, (r158 l i).f2⟩) (by rw [r158_set _ _ _ h]; rfl), List.set_set]
  rw [set158_is _ i 2 _ (y := ⟨t, c, d⟩) (by rw [r158_set _ _ _ h]; rfl), List.set_set]
theorem fold158 (l : List S158) (i : Nat) : List.getD l i (⟨ByteArray.empty, 0, 0⟩ : S158) = r158 l i := rfl
theorem held (l : List S158) (hl : l.length ≤ 2000000) : ∃ v l', E (fun k _ _ => f53 k l 1) (v, l') ∧ E (fun k _ _ => f54 k l' 1) v ∧ 0 ≤ v := by
  have htx : ∃ tx : Int → ByteArray, ∀ a : Int, 0 ≤ a → a < 1000000000000000 → E (fun k _ _ => f122 k a) (tx a) := by
    have : ∀ a : Int, ∃ t, 0 ≤ a → a < 1000000000000000 → E (fun k _ _ => f122 k a) t := by
      intro a
      by_cases c : 0 ≤ a ∧ a < 1000000000000000
      · obtain ⟨t, ht⟩ := markE c.1 c.2
        exact ⟨t, fun _ _ => ht⟩
      · exact ⟨ByteArray.empty, fun h1 h2 => absurd ⟨h1, h2⟩ c⟩
    exact ⟨fun a => (this a).choose, fun a => (this a).choose_spec⟩
  obtain ⟨tx, htx⟩ := htx
  let M (m : Nat) : S158 := ⟨tx (1 + 3 * m), 1 + 3 * m + 1, 1 + 3 * m + 1 + 1⟩
  have lp : ∀ (d i : Nat) (l2 : List S158), i + d = l.length → l2.length = l.length → (∀ m, m < i → r158 l2 m = M m) → ∃ l', E (fun k _ n => f53.l2 k n (1 + 3 * (i : Int)) (i : Int) l2) (1 + 3 * (l.length : Int), l') ∧ l'.length = l.length ∧ ∀ m, m < l.length → r158 l' m = M m := by
    intro d
    induction d with
    | zero =>
      intro i l2 h h2 hm
      have hi : i = l.length := by omega
      subst hi
      refine ⟨l2, ?_, h2, hm⟩
      apply e_loop
      simp only [f53.l2, f53.l2.step, decide_eq_true_eq]
      exact e_neg (by omega) (E.now _)
    | succ d ih =>
      intro i l2 h h2 hm
      have hw : IntKind.i64.wrap ((i : Int) + 1) = ((i + 1 : Nat) : Int) := by rw [w64 (by omega) (by omega)]; omega
      have w1 : IntKind.i64.wrap (1 + 3 * (i : Int) + 1) = 1 + 3 * (i : Int) + 1 := w64 (by omega) (by omega)
      have w2 : IntKind.i64.wrap (1 + 3 * (i : Int) + 1 + 1) = 1 + 3 * (i : Int) + 1 + 1 := w64 (by omega) (by omega)
      have w3 : IntKind.i64.wrap (1 + 3 * (i : Int) + 1 + 1 + 1) = 1 + 3 * ((i + 1 : Nat) : Int) := by rw [w64 (by omega) (by omega)]; omega
      obtain ⟨l', g, g0, g1⟩ := ih (i + 1) (l2.set i (M i)) (by omega) (by rw [List.length_set]; exact h2) (fun m hm2 => by
        by_cases c : i = m
        · subst c; exact r158_set _ _ _ (by omega)
        · rw [r158_ne _ _ _ _ c]; exact hm m (by omega))
      refine ⟨l', ?_, g0, g1⟩
      apply e_loop
      simp only [f53.l2, f53.l2.step, decide_eq_true_eq, hw, w1, w2, w3, Int.toNat_natCast, set158_len, set158_chain l2 i (show i < l2.length by omega)]
      exact e_pos (by omega) (E.bind (htx _ (by omega) (by omega)) (e_pos (by omega) (e_pos (by omega) (e_pos (by omega) (e_pos (by omega) (e_pos (by omega) (e_pos (by omega) g)))))))
  obtain ⟨l', g, g0, g1⟩ := lp l.length 0 l (by omega) rfl (fun m hm => absurd hm (by omega))
  have lq : ∀ (d i : Nat), i + d = l.length → E (fun k _ n => f54.l2 k n l' (1 + 3 * (i : Int)) (i : Int)) (.inr (1 + 3 * (l.length : Int))) := by
    intro d
    induction d with
    | zero =>
      intro i h
      have hi : i = l.length := by omega
      subst hi
      apply e_loop
      simp only [f54.l2, f54.l2.step, decide_eq_true_eq]
      exact e_neg (by omega) (E.now _)
    | succ d ih =>
      intro i h
      have hw : IntKind.i64.wrap ((i : Int) + 1) = ((i + 1 : Nat) : Int) := by rw [w64 (by omega) (by omega)]; omega
      have w1 : IntKind.i64.wrap (1 + 3 * (i : Int) + 1) = 1 + 3 * (i : Int) + 1 := w64 (by omega) (by omega)
      have w2 : IntKind.i64.wrap (1 + 3 * (i : Int) + 1 + 1) = 1 + 3 * (i : Int) + 1 + 1 := w64 (by omega) (by omega)
      have w3 : IntKind.i64.wrap (1 + 3 * (i : Int) + 1 + 1 + 1) = 1 + 3 * ((i + 1 : Nat) : Int) := by rw [w64 (by omega) (by omega)]; omega
      have hM := g1 i (by omega)
      have g := ih (i + 1) (by omega)
      apply e_loop
      simp only [f54.l2, f54.l2.step, decide_eq_true_eq, hw, w1, w2, w3, Int.toNat_natCast]
      simp only [fold158, hM, M]
      exact e_pos (by omega) (e_pos (by omega) (e_pos (by omega) (E.bind (htx _ (by omega) (by omega)) (e_neg (by simp) (e_pos (by omega) (e_pos (by omega) (e_neg (by simp) (e_pos (by omega) (e_pos (by omega) (e_neg (by simp) g))))))))))
  refine ⟨1 + 3 * (l.length : Int), l', ?_, ?_, by omega⟩
  · simp only [f53, f53.step]
    exact E.bind (e_use g) (E.now _)
  · simp only [f54, f54.step]
    exact E.bind (e_use (lq l.length 0 (by omega))) (E.now _)
theorem FnExactTrieRoutes : Says := by
  intro a b c d l ha _ hc hd hl
  have hok : OK72 ⟨a, b, c, d, l⟩ := OK72.mk ha trivial hc hd hl.1 hl.2
  refine E.out ?_
  obtain ⟨r, g, hr⟩ := szP _ hok 1048576 (by omega) (by omega)
  have g := e_fn g
  simp only [f8, f8.step, f46, decide_eq_true_eq, decide_eq_false_iff_not]
  refine E.bind g (e_ite (fun _ => E.now _) (fun hn => ?_))
  obtain ⟨r0, r1⟩ := hr.resolve_left hn
  have hw : wt (conv ⟨a, b, c, d, l⟩) ≤ 1048576 := by omega
  have ht := e_fn (toP _ hok hw)
  have he := eqP _ hok hw
  rw [conv_eq] at he hw
  have he := e_fn he
  have hm : nd (⟨a, b, c, d, convS l⟩ : S79) ≤ 2000000 := by have := nd_le (⟨a, b, c, d, convS l⟩ : S79); have hw : wt (⟨a, b, c, d, convS l⟩ : S79) ≤ 1048576 := hw; omega
  obtain ⟨B, HB⟩ := bits_fun
  obtain ⟨v, g1, g2⟩ := trieOK_ev B HB ⟨a, b, c, d, convS l⟩ hm
  have hrt := rts_len (⟨a, b, c, d, convS l⟩ : S79)
  obtain ⟨q1, q2⟩ := rtP _ ⟨a, b, c, d, convS l⟩ (Nat.le_refl _) hm [] (by simp; omega)
  rw [List.nil_append] at q1 q2
  have hre : ∀ x : List S158, x.length ≤ 2000000 → E (fun k _ _ => f50 k x x) true := fun x hx => e_k 2000001 (fun k hk => route_refl k x hx hk)
  have hmk : ∃ w, E (fun k _ _ => f52 k a b c d (convS l) 1) w ∧ ¬ w.1 < 0 := by
    have e := nd_eq (⟨a, b, c, d, convS l⟩ : S79)
    obtain ⟨v, l', g, g0, g3⟩ := mkP _ (convS l) (Nat.le_refl _) (by simp only at e; omega) 1 (by omega) (by simp only at e; omega)
    refine ⟨(v, false, false, false, false, l'), ?_, by simp only; omega⟩
    simp only [f52, f52.step, f121]
    exact E.bind (e_fn g) (E.now _)
  obtain ⟨w, hw1, hw2⟩ := hmk
  cases v with
  | false =>
    have s1 : E (fun k _ _ => f47 k a b c d (convS l)) ([], 1) := by
      simp only [f47, f47.step]
      exact E.bind g1 (e_pos rfl (E.now _))
    have s2 : E (fun k _ _ => f49 k a b c d (convS l)) (.inl 1) := by
      simp only [f49, f49.step]
      exact E.bind g2 (e_pos rfl (E.now _))
    obtain ⟨u, l', h1, h2, h3⟩ := held [] (by simp)
    have el : l' = [] := by
      have := e_unique h1 (r' := (1, [])) (by
        simp only [f53, f53.step]
        refine E.bind (a := ((1 : Int), ([] : List S158))) (e_use (g := fun k _ n => f53.l2 k n 1 0 []) ?_) (E.now _)
        apply e_loop
        simp only [f53.l2, f53.l2.step, decide_eq_true_eq]
        exact e_neg (by simp) (E.now _))
      exact (Prod.mk.inj this).2
    subst el
    have z := hre [] (by simp)
    refine E.bind ht (E.bind s1 (E.bind ht (E.bind s2 ?_)))
    refine E.bind z (e_pos rfl (e_neg (by simp) (E.bind ht (E.bind he (e_neg (by simp) (E.bind hw1 (e_pos hw2 ?_)))))))
    refine E.bind z (e_pos rfl (e_neg (by simp) (E.bind h1 (E.bind h2 (e_neg (by omega) (e_neg (by simp) ?_))))))
    refine E.bind ht (E.bind s2 ?_)
    exact E.bind z (e_pos rfl (e_neg (by simp) (E.bind h2 (e_neg (by omega) (e_neg (by simp) (E.now _))))))
  | true =>
    have s1 : E (fun k _ _ => f47 k a b c d (convS l)) (rts ⟨a, b, c, d, convS l⟩, 0) := by
      simp only [f47, f47.step, f115]
      exact E.bind g1 (e_neg (by simp) (E.bind (e_fn q1) (E.now _)))
    have s2 : E (fun k _ _ => f49 k a b c d (convS l)) (.inr (rts ⟨a, b, c, d, convS l⟩, 0)) := by
      simp only [f49, f49.step, f118]
      exact E.bind g2 (e_neg (by simp) (E.bind (e_fn q2) (E.now _)))
    obtain ⟨u, l', h1, h2, h3⟩ := held (rts ⟨a, b, c, d, convS l⟩) (by omega)
    have z := hre (rts ⟨a, b, c, d, convS l⟩) (by omega)
    refine E.bind ht (E.bind s1 (E.bind ht (E.bind s2 ?_)))
    refine E.bind z (e_pos rfl (e_neg (by simp) (E.bind ht (E.bind he (e_neg (by simp) (E.bind hw1 (e_pos hw2 ?_)))))))
    refine E.bind z (e_pos rfl (e_neg (by simp) (E.bind h1 (E.bind h2 (e_neg (by omega) (e_neg (by simp) ?_))))))
    refine E.bind ht (E.bind s2 ?_)
    exact E.bind z (e_pos rfl (e_neg (by simp) (E.bind h2 (e_neg (by omega) (e_neg (by simp) (E.now _))))))
end Go.Proofs.Ytildepkogbcdpaa.Pure

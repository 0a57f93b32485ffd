/- The plain law of FnExactNewQueues. -/
import Derived.Test.YtildepkogbcdpaaSaysFnExactNewQueues
namespace Go.Proofs.Ytildepkogbcdpaa.Pure
open Go Go.B Go.Proofs.Ytildepkogbcdpaa.B Go.Proofs.Ytildepkogbcdpaa.SaysFnExactNewQueues
set_option linter.unusedVariables false
set_option linter.unusedSimpArgs false
theorem w64 {n : Int} (h0 : -9223372036854775808 ≤ n) (h1 : n ≤ 9223372036854775807) : IntKind.i64.wrap n = n := by
  rw [IntKind.wrap_i64]; omega
theorem tb {c : Prop} [Decidable c] (h : c) : decide c = true := decide_eq_true h
theorem fb {c : Prop} [Decidable c] (h : ¬ c) : ¬ decide c = true := by simpa using h
theorem ff {c : Prop} [Decidable c] (h : ¬ c) : decide c = false := by simpa using h
theorem gm {α : Type} (pre rest : List α) (x d : α) : List.getD (pre ++ x :: rest) (Int.toNat (pre.length : Int)) d = x := by
  simp [List.getD_eq_getElem?_getD]
theorem lt_mid {α : Type} (pre rest : List α) (x : α) : (pre.length : Int) < ((pre ++ x :: rest).length : Int) := by simp; omega
theorem set_mid {α : Type} (pre rest : List α) (x y : α) : List.set (pre ++ x :: rest) (Int.toNat (pre.length : Int)) y = pre ++ y :: rest := by
  simp
theorem set_at {e : TypeId} (pre rest : List (env.T e)) (x y : env.T e) {off : Nat} {cs : List (Cell env.T)} (h : putCells (E := env) e x off cs = some y) : setE env e (pre ++ x :: rest) (Int.toNat (pre.length : Int)) off cs = pre ++ y :: rest := by
  have hg : List.getD (pre ++ x :: rest) (Int.toNat (pre.length : Int)) (env.dflt e) = x := gm pre rest x _
  simp only [setE, hg, h, Option.getD_some, set_mid]
theorem mid_next {α : Type} (pre rest : List α) (x : α) : pre ++ x :: rest = (pre ++ [x]) ++ rest := by simp
/-! ### rows of whole numbers -/
theorem copyI_loop (k : Nat) (xs : List Int) (hl : xs.length ≤ 1048576) : ∀ (rest pre : List Int) (j : Nat), xs = pre ++ rest → rest.length < j → f22.l3 k j xs (pre.length : Int) (pre ++ List.replicate rest.length 0) = some xs := by
  intro rest
  induction rest with
  | nil =>
    intro pre j hx hj
    obtain ⟨j, rfl⟩ : ∃ j', j = j' + 1 := ⟨j - 1, by omega⟩
    simp only [f22.l3, f22.l3.step]
    have : xs.length = pre.length := by rw [hx]; simp
    rw [if_neg (fb (by omega)), hx]; simp
  | cons x rest ih =>
    intro pre j hx hj
    obtain ⟨j, rfl⟩ : ∃ j', j = j' + 1 := ⟨j - 1, by omega⟩
    have hlt : (pre.length : Int) < (xs.length : Int) := by rw [hx]; exact lt_mid _ _ _
    have hg : xs.getD (Int.toNat (pre.length : Int)) 0 = x := by rw [hx]; exact gm _ _ _ _
    simp only [f22.l3, f22.l3.step, hg, List.length_cons, List.replicate_succ, set_mid]
    rw [if_pos (tb hlt), if_pos (by omega), if_pos hlt, if_pos (by omega), if_pos (lt_mid _ _ _), w64 (by omega) (by omega)]
    have := ih (pre ++ [x]) j (by rw [hx]; simp) (by simp at hj; omega)
    simp only [List.length_append, List.length_singleton, List.append_assoc, List.singleton_append] at this
    exact this
theorem copyI (k : Nat) (hK : 2097152 ≤ k) {xs : List Int} (hl : xs.length ≤ 1048576) : f22 k xs = some xs := by
  have := copyI_loop k xs hl xs [] k rfl (by omega)
  simp only [f22, f22.step]
  rw [if_pos (by omega), if_pos (by simp [maxN]; omega)]
  have h0 : f22.l3 k k xs 0 (List.replicate (Int.toNat (xs.length : Int)) 0) = some xs := this
  rw [h0]; rfl
theorem eqI_loop (k : Nat) (xs : List Int) (hl : xs.length ≤ 1048576) : ∀ (d i j : Nat), i + d = xs.length → d < j → f25.l4 k j xs xs (i : Int) = some (.inr ()) := by
  intro d
  induction d with
  | zero =>
    intro i j hi hj
    obtain ⟨j, rfl⟩ : ∃ j', j = j' + 1 := ⟨j - 1, by omega⟩
    simp only [f25.l4, f25.l4.step]
    rw [if_neg (fb (by omega))]
  | succ d ih =>
    intro i j hi hj
    obtain ⟨j, rfl⟩ : ∃ j', j = j' + 1 := ⟨j - 1, by omega⟩
    simp only [f25.l4, f25.l4.step]
    rw [if_pos (tb (by omega)), if_pos (by omega), if_pos (by omega), if_pos (by omega), if_pos (by omega), if_neg (by simp), w64 (by omega) (by omega)]
    exact ih (i + 1) j (by omega) (by omega)
theorem eqI (k : Nat) (hK : 2097152 ≤ k) {xs : List Int} (hl : xs.length ≤ 1048576) : f25 k xs xs = some true := by
  have h0 : f25.l4 k k xs xs 0 = some (.inr ()) := eqI_loop k xs hl xs.length 0 k (by omega) (by omega)
  simp only [f25, f25.step, h0]
  simp
theorem markI_loop (k : Nat) : ∀ (rest pre : List Int) (j : Nat) (a : Int), rest.length < j → pre.length + rest.length ≤ 1048576 → 0 ≤ a → a + rest.length ≤ 10000000000 → ∃ ys, f26.l2 k j a (pre.length : Int) (pre ++ rest) = some (a + (rest.length : Int), ys) := by
  intro rest
  induction rest with
  | nil =>
    intro pre j a hj hl h0 h1
    obtain ⟨j, rfl⟩ : ∃ j', j = j' + 1 := ⟨j - 1, by omega⟩
    simp only [f26.l2, f26.l2.step]
    rw [if_neg (fb (by simp))]
    exact ⟨_, by simp; rfl⟩
  | cons x rest ih =>
    intro pre j a hj hl h0 h1
    obtain ⟨j, rfl⟩ : ∃ j', j = j' + 1 := ⟨j - 1, by omega⟩
    simp only [List.length_cons] at hj hl h1
    simp only [f26.l2, f26.l2.step, set_mid]
    rw [if_pos (tb (lt_mid _ _ _)), if_pos (by omega), if_pos (lt_mid _ _ _), w64 (by omega) (by omega), w64 (by omega) (by omega)]
    obtain ⟨ys, h⟩ := ih (pre ++ [a]) j (a + 1) (by omega) (by simp; omega) (by omega) (by omega)
    simp only [List.length_append, List.length_singleton, List.append_assoc, List.singleton_append] at h
    refine ⟨ys, Eq.trans h ?_⟩
    simp only [List.length_cons]
    rw [show a + 1 + (rest.length : Int) = a + ((rest.length + 1 : Nat) : Int) by omega]
theorem markI (k : Nat) (hK : 2097152 ≤ k) {xs : List Int} (hl : xs.length ≤ 1048576) {a : Int} (h0 : 0 ≤ a) (h1 : a ≤ 1000000000) : ∃ ys, f26 k xs a = some (a + (xs.length : Int), ys) := by
  obtain ⟨ys, h⟩ := markI_loop k xs [] k a (by omega) (by simpa using hl) h0 (by omega)
  have h : f26.l2 k k a 0 xs = some (a + (xs.length : Int), ys) := h
  exact ⟨ys, by simp only [f26, f26.step, h]; rfl⟩
/-! ### the two functions -/
def cl (a b : Int) : S123 := ⟨a, b, [], 0, 0, 0⟩
theorem in_spec (k : Nat) (a b c : Int) : f86 k a b c = some (decide (b ≤ a ∧ a ≤ c)) := by
  simp only [f86, f86.step]
  split <;> simp at * <;> omega
theorem in_impl (k : Nat) (a b c : Int) : f83 k a b c = some (decide (b ≤ a ∧ a ≤ c)) := by
  simp only [f83, f83.step]
  split <;> simp at * <;> omega
def goods (xs ys : List Int) : List S123 := List.zipWith cl xs ys
theorem new_loop (k : Nat) (xs ys : List Int) (hx : xs.length ≤ 5) (hy : ys.length = xs.length) : ∀ (xr yr xp yp : List Int) (j j' : Nat), xs = xp ++ xr → ys = yp ++ yr → xr.length = yr.length → xp.length = yp.length → xr.length < j → xr.length < j' →
    (∃ t t', f21.l7 k j xs ys (xp.length : Int) false false (goods xp yp) = some (.inl t) ∧ t.1 = 4 ∧ t.2.1 = false ∧
      f23.l7 k j' xs ys (xs.length : Int) (xp.length : Int) false (goods xp yp ++ List.replicate xr.length (⟨0, 0, [], 0, 0, 0⟩ : S123)) false = some (.inl t') ∧ t'.1 = 4 ∧ t'.2.1 = false) ∨
    (f21.l7 k j xs ys (xp.length : Int) false false (goods xp yp) = some (.inr (false, false, goods xs ys)) ∧
      f23.l7 k j' xs ys (xs.length : Int) (xp.length : Int) false (goods xp yp ++ List.replicate xr.length (⟨0, 0, [], 0, 0, 0⟩ : S123)) false = some (.inr (false, goods xs ys, false))) := by
  intro xr
  induction xr with
  | nil =>
    intro yr xp yp j j' h1 h2 h3 h4 h5 h6
    obtain ⟨j, rfl⟩ : ∃ i, j = i + 1 := ⟨j - 1, by omega⟩
    obtain ⟨j', rfl⟩ : ∃ i, j' = i + 1 := ⟨j' - 1, by omega⟩
    have : yr = [] := List.length_eq_zero_iff.1 h3.symm
    subst this
    simp only [List.append_nil] at h1 h2
    subst h1; subst h2
    simp only [f21.l7, f21.l7.step, f23.l7, f23.l7.step]
    rw [if_neg (fb (by omega)), if_neg (fb (by omega))]
    exact .inr ⟨rfl, by simp⟩
  | cons x xr ih =>
    intro yr xp yp j j' h1 h2 h3 h4 h5 h6
    obtain ⟨j, rfl⟩ : ∃ i, j = i + 1 := ⟨j - 1, by omega⟩
    obtain ⟨j', rfl⟩ : ∃ i, j' = i + 1 := ⟨j' - 1, by omega⟩
    cases yr with
    | nil => simp at h3
    | cons y yr =>
    simp only [List.length_cons] at h3 h5 h6
    have gx : ∀ d, xs.getD (Int.toNat (xp.length : Int)) d = x := fun d => by rw [h1]; exact gm _ _ _ _
    have gy : ∀ d, ys.getD (Int.toNat (xp.length : Int)) d = y := fun d => by rw [h2, h4]; exact gm _ _ _ _
    have lx : (xp.length : Int) < (xs.length : Int) := by rw [h1]; exact lt_mid _ _ _
    have ly : (xp.length : Int) < (ys.length : Int) := by rw [hy]; exact lx
    have gl : (goods xp yp).length = xp.length := by simp [goods]; omega
    have lg : (xp.length : Int) < ((goods xp yp ++ List.replicate (xr.length + 1) (⟨0, 0, [], 0, 0, 0⟩ : S123)).length : Int) := by rw [List.length_append, gl, List.length_replicate]; omega
    have sg : List.set (goods xp yp ++ List.replicate (xr.length + 1) (⟨0, 0, [], 0, 0, 0⟩ : S123)) (Int.toNat (xp.length : Int)) (cl x y) = goods (xp ++ [x]) (yp ++ [y]) ++ List.replicate xr.length (⟨0, 0, [], 0, 0, 0⟩ : S123) := by
      have := set_mid (goods xp yp) (List.replicate xr.length (⟨0, 0, [], 0, 0, 0⟩ : S123)) ⟨0, 0, [], 0, 0, 0⟩ (cl x y)
      rw [gl] at this
      rw [List.replicate_succ, this]
      simp [goods, List.zipWith_append h4]
    have ag : goods xp yp ++ [cl x y] = goods (xp ++ [x]) (yp ++ [y]) := by simp [goods, List.zipWith_append h4]
    simp only [f21.l7, f21.l7.step, f23.l7, f23.l7.step, gx, gy, in_spec, in_impl, Option.bind_some, List.length_cons]
    have hp : (0 : Int) ≤ (xp.length : Int) := by omega
    have hw : IntKind.i64.wrap ((xp.length : Int) + 1) = (xp.length : Int) + 1 := w64 (by omega) (by omega)
    simp only [lx, ly, hp, if_true, decide_true]
    by_cases c1 : 1500 ≤ x ∧ x ≤ 3000
    · by_cases c2 : 0 ≤ y ∧ y ≤ 100000
      · have := ih yr (xp ++ [x]) (yp ++ [y]) j j' (by rw [h1]; simp) (by rw [h2]; simp) (by omega) (by simp [h4]) (by omega) (by omega)
        simp only [List.length_append, List.length_singleton] at this
        have e1 : (⟨x, y, [], 0, 0, 0⟩ : S123) = cl x y := rfl
        have e2 : ((xp.length + 1 : Nat) : Int) = (xp.length : Int) + 1 := by omega
        rw [e2] at this
        simp only [tb c1, tb c2, Bool.not_true, Bool.false_eq_true, if_false, if_true, lg, hw, e1, sg, ag]
        rw [if_pos (by rw [gl]; simp [maxN]; omega)]
        exact this
      · simp only [tb c1, ff c2, Bool.not_true, Bool.not_false, if_true]
        exact .inl ⟨_, _, rfl, rfl, rfl, rfl, rfl, rfl⟩
    · simp only [ff c1, Bool.not_false, Bool.true_eq_false, if_false]
      exact .inl ⟨_, _, rfl, rfl, rfl, rfl, rfl, rfl⟩
theorem new_ok (k : Nat) (hK : 2097152 ≤ k) (xs ys : List Int) : (∃ c, f21 k xs ys = some (.inl (false, c)) ∧ f23 k xs ys = some (.inl (false, c))) ∨ (xs.length ≤ 5 ∧ f21 k xs ys = some (.inr (goods xs ys, false, 0)) ∧ f23 k xs ys = some (.inr (goods xs ys, false, 0))) := by
  simp only [f21, f21.step, f23, f23.step, in_spec, in_impl, Option.bind_some]
  by_cases c1 : (xs.length : Int) > 4096
  · rw [if_neg (by rw [tb c1]; simp), if_neg (by rw [tb c1]; simp)]; exact .inl ⟨_, rfl, rfl⟩
  rw [if_pos (ff c1), if_pos (ff c1)]
  by_cases c2 : (ys.length : Int) > 4096
  · rw [if_pos (tb c2), if_pos (tb c2)]; exact .inl ⟨_, rfl, rfl⟩
  rw [if_neg (fb c2), if_neg (fb c2)]
  by_cases c3 : 1 ≤ (xs.length : Int) ∧ (xs.length : Int) ≤ 5
  · simp only [tb c3, Bool.not_true, if_true]
    by_cases c4 : (ys.length : Int) = xs.length
    · have hm : (Int.toNat (xs.length : Int)) * 64 ≤ maxN := by simp [maxN]; omega
      have hp : (0 : Int) ≤ (xs.length : Int) := by omega
      simp only [ne_eq, c4, not_true_eq_false, decide_false, Bool.false_eq_true, if_false, hp, hm, if_true]
      have := new_loop k xs ys (by omega) (by omega) xs ys [] [] k k rfl rfl (by omega) rfl (by omega) (by omega)
      simp only [List.length_nil] at this
      rcases this with ⟨t, t', h1, h2, h3, h4, h5, h6⟩ | ⟨h1, h2⟩
      · have h1 : f21.l7 k k xs ys 0 false false [] = some (.inl t) := h1
        have h4 : f23.l7 k k xs ys (xs.length : Int) 0 false (List.replicate (Int.toNat (xs.length : Int)) ⟨0, 0, [], 0, 0, 0⟩) false = some (.inl t') := h4
        rw [h1, h4]
        exact .inl ⟨4, by simp [h2, h3], by simp [h5, h6]⟩
      · have h1 : f21.l7 k k xs ys 0 false false [] = some (.inr (false, false, goods xs ys)) := h1
        have h2 : f23.l7 k k xs ys (xs.length : Int) 0 false (List.replicate (Int.toNat (xs.length : Int)) ⟨0, 0, [], 0, 0, 0⟩) false = some (.inr (false, goods xs ys, false)) := h2
        rw [h1, h2]
        exact .inr ⟨by omega, rfl, rfl⟩
    · have c5 : ¬ (xs.length : Int) = ys.length := fun h => c4 h.symm
      simp only [ne_eq, c4, c5, not_false_eq_true, decide_true, if_true]; exact .inl ⟨_, rfl, rfl⟩
  · simp only [ff c3, Bool.not_false, Bool.true_eq_false, if_false]; exact .inl ⟨_, rfl, rfl⟩
/-! ### classes without items -/
def Bare (l : List S123) : Prop := ∀ x ∈ l, x.f2 = []
theorem goods_bare (xs ys : List Int) : Bare (goods xs ys) := by
  intro x hx
  simp only [goods, List.mem_iff_getElem?, List.getElem?_zipWith] at hx
  obtain ⟨i, hi⟩ := hx
  cases h1 : xs[i]? with
  | none => simp [h1] at hi
  | some a =>
    cases h2 : ys[i]? with
    | none => simp [h1, h2] at hi
    | some b => simp [h1, h2] at hi; subst hi; rfl
theorem goods_len (xs ys : List Int) : (goods xs ys).length ≤ xs.length := by simp [goods]; omega
theorem eqC_loop (k : Nat) (hk : 0 < k) (xs : List S123) (hb : Bare xs) (hl : xs.length ≤ 5) : ∀ (d i j : Nat), i + d = xs.length → d < j → f88.l4 k j xs xs (i : Int) = some (.inr ()) := by
  have e0 : f183 k [] [] = some true := by
    obtain ⟨k, rfl⟩ : ∃ i, k = i + 1 := ⟨k - 1, by omega⟩
    simp [f183, f183.step, f183.l4, f183.l4.step]
  intro d
  induction d with
  | zero =>
    intro i j hi hj
    obtain ⟨j, rfl⟩ : ∃ j', j = j' + 1 := ⟨j - 1, by omega⟩
    simp only [f88.l4, f88.l4.step]
    rw [if_neg (fb (by omega))]
  | succ d ih =>
    intro i j hi hj
    obtain ⟨j, rfl⟩ : ∃ j', j = j' + 1 := ⟨j - 1, by omega⟩
    have hlt : i < xs.length := by omega
    have hg : ∀ q, (xs.getD (Int.toNat (i : Int)) q) = xs[i] := fun q => by simp [List.getD_eq_getElem?_getD, List.getElem?_eq_getElem hlt]
    have h2 : (xs[i]).f2 = [] := hb _ (List.getElem_mem hlt)
    simp only [f88.l4, f88.l4.step, hg, h2, f147, f147.step, e0]
    rw [if_pos (tb (by omega)), if_pos (by omega), if_pos (by omega), if_pos (by omega), if_pos (by omega), w64 (by omega) (by omega)]
    simp only [ne_eq, not_true_eq_false, decide_false, Bool.false_eq_true, if_false, Option.bind_some, Bool.not_true]
    exact ih (i + 1) j (by omega) (by omega)
theorem eqQ (k : Nat) (hK : 2097152 ≤ k) (xs : List S123) (hb : Bare xs) (hl : xs.length ≤ 5) : f24 k xs [] false xs [] false = some true := by
  have h0 : f88.l4 k k xs xs 0 = some (.inr ()) := eqC_loop k (by omega) xs hb hl xs.length 0 k (by omega) (by omega)
  simp only [f24, f24.step, f88, f88.step, h0, eqI k hK (xs := []) (by simp)]
  simp
def Held : Int → List S123 → Prop
  | _, [] => True
  | a, y :: ys => y = ⟨a, a + 1, [], a + 2, a + 3, a + 4⟩ ∧ Held (a + 5) ys
theorem s123_0 (pre rest : List S123) (q l : Int) (it : List S131) (c s d a : Int) : set123 (pre ++ ⟨q, l, it, c, s, d⟩ :: rest) (Int.toNat (pre.length : Int)) 0 [.s (.int .i64 a)] = pre ++ ⟨a, l, it, c, s, d⟩ :: rest := set_at (e := 123) pre rest _ _ rfl
theorem s123_1 (pre rest : List S123) (q l : Int) (it : List S131) (c s d a : Int) : set123 (pre ++ ⟨q, l, it, c, s, d⟩ :: rest) (Int.toNat (pre.length : Int)) 1 [.s (.int .i64 a)] = pre ++ ⟨q, a, it, c, s, d⟩ :: rest := set_at (e := 123) pre rest _ _ rfl
theorem s123_2 (pre rest : List S123) (q l : Int) (it it' : List S131) (c s d : Int) : set123 (pre ++ ⟨q, l, it, c, s, d⟩ :: rest) (Int.toNat (pre.length : Int)) 2 [.sl 131 it'] = pre ++ ⟨q, l, it', c, s, d⟩ :: rest := set_at (e := 123) pre rest _ _ rfl
theorem s123_3 (pre rest : List S123) (q l : Int) (it : List S131) (c s d a : Int) : set123 (pre ++ ⟨q, l, it, c, s, d⟩ :: rest) (Int.toNat (pre.length : Int)) 3 [.s (.int .i64 a)] = pre ++ ⟨q, l, it, a, s, d⟩ :: rest := set_at (e := 123) pre rest _ _ rfl
theorem s123_4 (pre rest : List S123) (q l : Int) (it : List S131) (c s d a : Int) : set123 (pre ++ ⟨q, l, it, c, s, d⟩ :: rest) (Int.toNat (pre.length : Int)) 4 [.s (.int .i64 a)] = pre ++ ⟨q, l, it, c, a, d⟩ :: rest := set_at (e := 123) pre rest _ _ rfl
theorem s123_5 (pre rest : List S123) (q l : Int) (it : List S131) (c s d a : Int) : set123 (pre ++ ⟨q, l, it, c, s, d⟩ :: rest) (Int.toNat (pre.length : Int)) 5 [.s (.int .i64 a)] = pre ++ ⟨q, l, it, c, s, a⟩ :: rest := set_at (e := 123) pre rest _ _ rfl
theorem markC_loop (k : Nat) (hk : 0 < k) : ∀ (rest pre : List S123) (j : Nat) (a : Int), Bare rest → rest.length < j → pre.length + rest.length ≤ 1000 → 0 ≤ a → a + 5 * rest.length ≤ 1000000 → ∃ ys, f89.l2 k j a (pre.length : Int) (pre ++ rest) = some (a + 5 * (rest.length : Int), pre ++ ys) ∧ Held a ys ∧ ys.length = rest.length := by
  have e0 : ∀ a, f148 k [] a = some (a, []) := fun a => by
    obtain ⟨k, rfl⟩ : ∃ i, k = i + 1 := ⟨k - 1, by omega⟩
    simp [f148, f148.step, f148.l2, f148.l2.step]
  intro rest
  induction rest with
  | nil =>
    intro pre j a hb hj hl h0 h1
    obtain ⟨j, rfl⟩ : ∃ j', j = j' + 1 := ⟨j - 1, by omega⟩
    simp only [f89.l2, f89.l2.step]
    rw [if_neg (fb (by simp))]
    exact ⟨[], by simp, trivial, rfl⟩
  | cons x rest ih =>
    intro pre j a hb hj hl h0 h1
    obtain ⟨j, rfl⟩ : ∃ j', j = j' + 1 := ⟨j - 1, by omega⟩
    simp only [List.length_cons] at hj hl h1
    obtain ⟨q, l, it, c, s, d⟩ := x
    have hit : it = [] := hb _ (List.mem_cons_self)
    subst hit
    simp only [f89.l2, f89.l2.step, s123_0, s123_1, s123_2, s123_3, s123_4, s123_5, gm, e0, Option.bind_some]
    have hp : (0 : Int) ≤ (pre.length : Int) := by omega
    simp only [lt_mid, hp, if_true, decide_true]
    rw [w64 (n := a + 1) (by omega) (by omega), w64 (n := a + 1 + 1) (by omega) (by omega), w64 (n := a + 1 + 1 + 1) (by omega) (by omega), w64 (n := a + 1 + 1 + 1 + 1) (by omega) (by omega), w64 (n := a + 1 + 1 + 1 + 1 + 1) (by omega) (by omega), w64 (by omega) (by omega)]
    obtain ⟨ys, h, hh, hl2⟩ := ih (pre ++ [⟨a, a + 1, [], a + 1 + 1, a + 1 + 1 + 1, a + 1 + 1 + 1 + 1⟩]) j (a + 1 + 1 + 1 + 1 + 1) (fun y hy => hb y (List.mem_cons_of_mem _ hy)) (by omega) (by simp; omega) (by omega) (by omega)
    simp only [List.length_append, List.length_singleton, List.append_assoc, List.singleton_append] at h
    refine ⟨⟨a, a + 1, [], a + 1 + 1, a + 1 + 1 + 1, a + 1 + 1 + 1 + 1⟩ :: ys, Eq.trans h ?_, ⟨?_, ?_⟩, by simp [hl2]⟩
    · simp only [List.length_cons]
      rw [show a + 1 + 1 + 1 + 1 + 1 + 5 * (rest.length : Int) = a + 5 * ((rest.length + 1 : Nat) : Int) by omega]
    · simp only [S123.mk.injEq]; exact ⟨trivial, trivial, trivial, by omega, by omega, by omega⟩
    · rw [show a + 5 = a + 1 + 1 + 1 + 1 + 1 by omega]; exact hh
theorem heldC_loop (k : Nat) (hk : 0 < k) : ∀ (ys pre : List S123) (j : Nat) (a : Int), Held a ys → ys.length < j → pre.length + ys.length ≤ 1000 → 0 ≤ a → a + 5 * ys.length ≤ 1000000 → f90.l2 k j (pre ++ ys) a (pre.length : Int) = some (.inr (a + 5 * (ys.length : Int))) := by
  have e0 : ∀ a, f149 k [] a = some a := fun a => by
    obtain ⟨k, rfl⟩ : ∃ i, k = i + 1 := ⟨k - 1, by omega⟩
    simp [f149, f149.step, f149.l2, f149.l2.step]
  intro ys
  induction ys with
  | nil =>
    intro pre j a hh hj hl h0 h1
    obtain ⟨j, rfl⟩ : ∃ j', j = j' + 1 := ⟨j - 1, by omega⟩
    simp only [f90.l2, f90.l2.step]
    rw [if_neg (fb (by simp))]
    simp
  | cons y ys ih =>
    intro pre j a hh hj hl h0 h1
    obtain ⟨j, rfl⟩ : ∃ j', j = j' + 1 := ⟨j - 1, by omega⟩
    simp only [List.length_cons] at hj hl h1
    obtain ⟨rfl, hh⟩ := hh
    have hp : (0 : Int) ≤ (pre.length : Int) := by omega
    simp only [f90.l2, f90.l2.step, gm, e0, Option.bind_some]
    simp only [lt_mid, hp, if_true, decide_true]
    rw [w64 (n := a + 1) (by omega) (by omega), w64 (n := a + 1 + 1) (by omega) (by omega), w64 (n := a + 1 + 1 + 1) (by omega) (by omega), w64 (n := a + 1 + 1 + 1 + 1) (by omega) (by omega), w64 (n := a + 1 + 1 + 1 + 1 + 1) (by omega) (by omega), w64 (n := (pre.length : Int) + 1) (by omega) (by omega)]
    rw [if_neg (fb (by omega)), if_neg (fb (by omega)), if_neg (fb (by omega)), if_neg (fb (by omega)), if_neg (fb (by omega)), if_neg (fb (by omega))]
    have := ih (pre ++ [⟨a, a + 1, [], a + 2, a + 3, a + 4⟩]) j (a + 1 + 1 + 1 + 1 + 1) (by rw [show a + 1 + 1 + 1 + 1 + 1 = a + 5 by omega]; exact hh) (by omega) (by simp; omega) (by omega) (by omega)
    simp only [List.length_append, List.length_singleton, List.append_assoc, List.singleton_append] at this
    refine Eq.trans this ?_
    simp only [List.length_cons]
    rw [show a + 1 + 1 + 1 + 1 + 1 + 5 * (ys.length : Int) = a + 5 * ((ys.length + 1 : Nat) : Int) by omega]
theorem markQ (k : Nat) (hK : 2097152 ≤ k) (xs : List S123) (hb : Bare xs) (hl : xs.length ≤ 5) : ∃ a ys zs, f27 k xs [] false 1 = some (a, ys, zs, false) ∧ 0 ≤ a ∧ f28 k ys [] false 1 = some a := by
  obtain ⟨ys, h1, h2, h3⟩ := markC_loop k (by omega) xs [] k 1 hb (by omega) (by simp; omega) (by omega) (by omega)
  have h1 : f89.l2 k k 1 0 xs = some (1 + 5 * (xs.length : Int), ys) := h1
  have h4 := heldC_loop k (by omega) ys [] k 1 h2 (by omega) (by simp; omega) (by omega) (by omega)
  have h4 : f90.l2 k k ys 1 0 = some (.inr (1 + 5 * (ys.length : Int))) := h4
  obtain ⟨zs, h5⟩ := markI k hK (xs := []) (by simp) (a := 1 + 5 * (xs.length : Int)) (by omega) (by omega)
  have h6 : f67 k [] (1 + 5 * (ys.length : Int)) = some (1 + 5 * (ys.length : Int)) := by
    obtain ⟨k, rfl⟩ : ∃ i, k = i + 1 := ⟨k - 1, by omega⟩
    simp [f67, f67.step, f67.l2, f67.l2.step]
  refine ⟨1 + 5 * (xs.length : Int), ys, zs, by simp [f27, f27.step, f89, f89.step, h1, h5], by omega, ?_⟩
  simp only [f28, f28.step, f90, f90.step, h4, Option.bind_some, Sum.elim_inr, h6]
  rw [if_neg (fb (by omega)), if_neg (fb (by omega)), h3]
theorem markQ0 (k : Nat) (hK : 2097152 ≤ k) : f27 k [] [] false 1 = some (1, [], [], false) ∧ f28 k [] [] false 1 = some 1 := by
  obtain ⟨k, rfl⟩ : ∃ i, k = i + 1 := ⟨k - 1, by omega⟩
  constructor
  · simp [f27, f27.step, f89, f89.step, f89.l2, f89.l2.step, f26, f26.step, f26.l2, f26.l2.step]
  · simp [f28, f28.step, f90, f90.step, f90.l2, f90.l2.step, f67, f67.step, f67.l2, f67.l2.step]
theorem FnExactNewQueues : Says := by
  intro xs ys ⟨hl0, hb0⟩ ⟨hl1, hb1⟩
  obtain ⟨k, hK⟩ : ∃ k : Nat, 2097152 ≤ k := ⟨_, Nat.le_refl _⟩
  refine ⟨k, ?_⟩
  simp only [f4, f4.step]
  by_cases c0 : (xs.length : Int) > 1048576
  · rw [if_pos (tb c0)]
  by_cases c1 : (ys.length : Int) > 1048576
  · rw [if_neg (fb c0), if_pos (tb c1)]
  rw [if_neg (fb c0), if_neg (fb c1)]
  obtain ⟨m1, hm1⟩ := markI k hK (xs := xs) (by omega) (a := 1) (by omega) (by omega)
  obtain ⟨m2, hm2⟩ := markI k hK (xs := ys) (by omega) (a := 1 + (xs.length : Int)) (by omega) (by omega)
  have e1 := copyI k hK (xs := xs) (by omega)
  have e2 := copyI k hK (xs := ys) (by omega)
  have e3 := eqI k hK (xs := xs) (by omega)
  have e4 := eqI k hK (xs := ys) (by omega)
  have c2 : decide (1 + (xs.length : Int) + (ys.length : Int) < 0) = false := ff (by omega)
  rcases new_ok k hK xs ys with ⟨c, h1, h2⟩ | ⟨hl, h1, h2⟩
  · have q1 := eqQ k hK [] (fun x hx => by simp at hx) (by simp)
    obtain ⟨q2, q5⟩ := markQ0 k hK
    simp [e1, e2, e3, e4, h1, h2, hm1, hm2, c2, q1, q2, q5]
    omega
  · have q1 := eqQ k hK _ (goods_bare xs ys) (Nat.le_trans (goods_len xs ys) hl)
    obtain ⟨a, u, v, q2, q3, q4⟩ := markQ k hK _ (goods_bare xs ys) (Nat.le_trans (goods_len xs ys) hl)
    have q6 : decide (a < 0) = false := ff (by omega)
    simp [e1, e2, e3, e4, h1, h2, hm1, hm2, c2, q1, q2, q4, q6]
    rw [if_pos (by omega), if_neg (by omega), if_neg (by omega)]
end Go.Proofs.Ytildepkogbcdpaa.Pure

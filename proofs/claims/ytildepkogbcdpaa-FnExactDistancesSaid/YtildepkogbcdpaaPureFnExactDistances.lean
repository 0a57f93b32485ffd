/- The plain law of FnExactDistances. -/
import Derived.Test.YtildepkogbcdpaaSaysFnExactDistances
namespace Go.Proofs.Ytildepkogbcdpaa.Pure
open Go Go.B Go.Proofs.Ytildepkogbcdpaa.B Go.Proofs.Ytildepkogbcdpaa.SaysFnExactDistances
set_option linter.unusedVariables false
set_option linter.unusedSimpArgs false
theorem w64 {n : Int} (h0 : -9223372036854775808 ≤ n) (h1 : n ≤ 9223372036854775807) : IntKind.i64.wrap n = n := by
  rw [IntKind.wrap_i64]; omega
theorem tb {c : Prop} [Decidable c] (h : c) : decide c = true := decide_eq_true h
theorem fb {c : Prop} [Decidable c] (h : ¬ c) : ¬ decide c = true := by simpa using h
theorem ff {c : Prop} [Decidable c] (h : ¬ c) : decide c = false := by simpa using h
theorem gm {α : Type} (pre rest : List α) (x d : α) : List.getD (pre ++ x :: rest) (Int.toNat (pre.length : Int)) d = x := by
  simp [List.getD_eq_getElem?_getD]
theorem lt_mid {α : Type} (pre rest : List α) (x : α) : (pre.length : Int) < ((pre ++ x :: rest).length : Int) := by simp; omega
theorem set_mid {α : Type} (pre rest : List α) (x y : α) : List.set (pre ++ x :: rest) (Int.toNat (pre.length : Int)) y = pre ++ y :: rest := by
  simp
theorem set_at {e : TypeId} (pre rest : List (env.T e)) (x y : env.T e) {off : Nat} {cs : List (Cell env.T)} (h : putCells (E := env) e x off cs = some y) : setE env e (pre ++ x :: rest) (Int.toNat (pre.length : Int)) off cs = pre ++ y :: rest := by
  have hg : List.getD (pre ++ x :: rest) (Int.toNat (pre.length : Int)) (env.dflt e) = x := gm pre rest x _
  simp only [setE, hg, h, Option.getD_some, set_mid]
theorem mid_next {α : Type} (pre rest : List α) (x : α) : pre ++ x :: rest = (pre ++ [x]) ++ rest := by simp
/-! ### areas: told, compared -/
theorem set_mid' {α : Type} (pre' : List α) {n : Nat} (h : n = pre'.length) (rest : List α) (x y : α) : List.set (pre' ++ x :: rest) (Int.toNat (n : Int)) y = pre' ++ y :: rest := by
  subst h; simp
theorem lt_mid' {α : Type} (pre' : List α) {n : Nat} (h : n = pre'.length) (rest : List α) (x : α) : (n : Int) < ((pre' ++ x :: rest).length : Int) := by subst h; exact lt_mid _ _ _
theorem wnext {α : Type} (pre : List α) (x : α) (h : pre.length ≤ 4611686018427387904) : IntKind.i64.wrap ((pre.length : Int) + 1) = ((pre ++ [x]).length : Int) := by rw [w64 (by omega) (by omega)]; simp
def cE (x : S195) : S146 := ⟨x.f0, x.f1, x.f2, x.f3⟩
def cN (x : S225) : S142 := ⟨x.f0, x.f1, x.f2⟩
theorem toE_loop (k : Nat) (hK : 2097152 ≤ k) (xs : List S195) (hl : xs.length ≤ 1048576)  : ∀ (rest pre : List S195) (j : Nat), xs = pre ++ rest → rest.length < j →
    f107.l3 k j xs (pre.length : Int) (pre.map cE ++ List.replicate rest.length (⟨0, 0, 0, false⟩ : S146)) = some (xs.map cE) := by
  intro rest
  induction rest with
  | nil =>
    intro pre j hx hj
    obtain ⟨j, rfl⟩ : ∃ j', j = j' + 1 := ⟨j - 1, by omega⟩
    simp only [f107.l3, f107.l3.step]
    have : xs.length = pre.length := by rw [hx]; simp
    rw [if_neg (fb (by omega)), hx]; simp
  | cons x rest ih =>
    intro pre j hx hj
    obtain ⟨j, rfl⟩ : ∃ j', j = j' + 1 := ⟨j - 1, by omega⟩
    have hlt : (pre.length : Int) < (xs.length : Int) := by rw [hx]; exact lt_mid _ _ _
    have hg : ∀ d, xs.getD (Int.toNat (pre.length : Int)) d = x := fun d => by rw [hx]; exact gm _ _ _ _
    have hxm : x ∈ xs := by rw [hx]; simp
    simp only [f107.l3, f107.l3.step, hg, f157, f157.step, Option.bind_some, List.length_cons, List.replicate_succ]
    rw [set_mid' (pre.map cE) (n := pre.length) (by simp)]
    have hw := wnext pre x (by omega)
    rw [if_pos (tb hlt), if_pos (by omega), if_pos hlt, if_pos (by omega), if_pos (lt_mid' _ (by simp) _ _), hw]
    have := ih (pre ++ [x]) j (by rw [hx]; simp) (by simp at hj; omega)
    simp only [List.map_append, List.map_cons, List.map_nil, List.append_assoc, List.singleton_append] at this
    exact this
theorem toE (k : Nat) (hK : 2097152 ≤ k) {xs : List S195} (hl : xs.length ≤ 1048576)  : f107 k xs = some (xs.map cE) := by
  have := toE_loop k hK xs hl  xs [] k rfl (by omega)
  simp only [f107, f107.step]
  rw [if_pos (by omega), if_pos (by simp [maxN]; omega)]
  have h0 : f107.l3 k k xs 0 (List.replicate (Int.toNat (xs.length : Int)) (⟨0, 0, 0, false⟩ : S146)) = some (xs.map cE) := this
  rw [h0]; rfl
theorem toN_loop (k : Nat) (hK : 2097152 ≤ k) (xs : List S225) (hl : xs.length ≤ 1048576)  : ∀ (rest pre : List S225) (j : Nat), xs = pre ++ rest → rest.length < j →
    f158.l3 k j xs (pre.length : Int) (pre.map cN ++ List.replicate rest.length (⟨0, 0, 0⟩ : S142)) = some (xs.map cN) := by
  intro rest
  induction rest with
  | nil =>
    intro pre j hx hj
    obtain ⟨j, rfl⟩ : ∃ j', j = j' + 1 := ⟨j - 1, by omega⟩
    simp only [f158.l3, f158.l3.step]
    have : xs.length = pre.length := by rw [hx]; simp
    rw [if_neg (fb (by omega)), hx]; simp
  | cons x rest ih =>
    intro pre j hx hj
    obtain ⟨j, rfl⟩ : ∃ j', j = j' + 1 := ⟨j - 1, by omega⟩
    have hlt : (pre.length : Int) < (xs.length : Int) := by rw [hx]; exact lt_mid _ _ _
    have hg : ∀ d, xs.getD (Int.toNat (pre.length : Int)) d = x := fun d => by rw [hx]; exact gm _ _ _ _
    have hxm : x ∈ xs := by rw [hx]; simp
    simp only [f158.l3, f158.l3.step, hg, f186, f186.step, Option.bind_some, List.length_cons, List.replicate_succ]
    rw [set_mid' (pre.map cN) (n := pre.length) (by simp)]
    have hw := wnext pre x (by omega)
    rw [if_pos (tb hlt), if_pos (by omega), if_pos hlt, if_pos (by omega), if_pos (lt_mid' _ (by simp) _ _), hw]
    have := ih (pre ++ [x]) j (by rw [hx]; simp) (by simp at hj; omega)
    simp only [List.map_append, List.map_cons, List.map_nil, List.append_assoc, List.singleton_append] at this
    exact this
theorem toN (k : Nat) (hK : 2097152 ≤ k) {xs : List S225} (hl : xs.length ≤ 1048576)  : f158 k xs = some (xs.map cN) := by
  have := toN_loop k hK xs hl  xs [] k rfl (by omega)
  simp only [f158, f158.step]
  rw [if_pos (by omega), if_pos (by simp [maxN]; omega)]
  have h0 : f158.l3 k k xs 0 (List.replicate (Int.toNat (xs.length : Int)) (⟨0, 0, 0⟩ : S142)) = some (xs.map cN) := this
  rw [h0]; rfl
theorem toNS_loop (k : Nat) (hK : 2097152 ≤ k) (xs : List (List S225)) (hl : xs.length ≤ 1048576) (hs : ∀ x ∈ xs, x.length ≤ 1048576) : ∀ (rest pre : List (List S225)) (j : Nat), xs = pre ++ rest → rest.length < j →
    f108.l3 k j xs (pre.length : Int) (pre.map (List.map cN) ++ List.replicate rest.length ([] : (List S142))) = some (xs.map (List.map cN)) := by
  intro rest
  induction rest with
  | nil =>
    intro pre j hx hj
    obtain ⟨j, rfl⟩ : ∃ j', j = j' + 1 := ⟨j - 1, by omega⟩
    simp only [f108.l3, f108.l3.step]
    have : xs.length = pre.length := by rw [hx]; simp
    rw [if_neg (fb (by omega)), hx]; simp
  | cons x rest ih =>
    intro pre j hx hj
    obtain ⟨j, rfl⟩ : ∃ j', j = j' + 1 := ⟨j - 1, by omega⟩
    have hlt : (pre.length : Int) < (xs.length : Int) := by rw [hx]; exact lt_mid _ _ _
    have hg : ∀ d, xs.getD (Int.toNat (pre.length : Int)) d = x := fun d => by rw [hx]; exact gm _ _ _ _
    have hxm : x ∈ xs := by rw [hx]; simp
    have e := toN k hK (hs x hxm)
    simp only [f108.l3, f108.l3.step, hg, e, Option.bind_some, List.length_cons, List.replicate_succ]
    rw [set_mid' (pre.map (List.map cN)) (n := pre.length) (by simp)]
    have hw := wnext pre x (by omega)
    rw [if_pos (tb hlt), if_pos (by omega), if_pos hlt, if_pos (by omega), if_pos (lt_mid' _ (by simp) _ _), hw]
    have := ih (pre ++ [x]) j (by rw [hx]; simp) (by simp at hj; omega)
    simp only [List.map_append, List.map_cons, List.map_nil, List.append_assoc, List.singleton_append] at this
    exact this
theorem toNS (k : Nat) (hK : 2097152 ≤ k) {xs : List (List S225)} (hl : xs.length ≤ 1048576) (hs : ∀ x ∈ xs, x.length ≤ 1048576) : f108 k xs = some (xs.map (List.map cN)) := by
  have := toNS_loop k hK xs hl hs xs [] k rfl (by omega)
  simp only [f108, f108.step]
  rw [if_pos (by omega), if_pos (by simp [maxN]; omega)]
  have h0 : f108.l3 k k xs 0 (List.replicate (Int.toNat (xs.length : Int)) ([] : (List S142))) = some (xs.map (List.map cN)) := this
  rw [h0]; rfl
theorem eqE_loop (k : Nat) (hK : 2097152 ≤ k) (xs : List S146) (hl : xs.length ≤ 1048576)  : ∀ (rest pre : List S146) (j : Nat), xs = pre ++ rest → rest.length < j → f111.l4 k j xs xs (pre.length : Int) = some (.inr ()) := by
  intro rest
  induction rest with
  | nil =>
    intro pre j hx hj
    obtain ⟨j, rfl⟩ : ∃ j', j = j' + 1 := ⟨j - 1, by omega⟩
    simp only [f111.l4, f111.l4.step]
    have : xs.length = pre.length := by rw [hx]; simp
    rw [if_neg (fb (by omega))]
  | cons x rest ih =>
    intro pre j hx hj
    obtain ⟨j, rfl⟩ : ∃ j', j = j' + 1 := ⟨j - 1, by omega⟩
    have hlt : (pre.length : Int) < (xs.length : Int) := by rw [hx]; exact lt_mid _ _ _
    have hg : ∀ d, xs.getD (Int.toNat (pre.length : Int)) d = x := fun d => by rw [hx]; exact gm _ _ _ _
    have hxm : x ∈ xs := by rw [hx]; simp
    have hw := wnext pre x (by omega)
    have e : f159 k x.f0 x.f1 x.f2 x.f3 x.f0 x.f1 x.f2 x.f3 = some true := by simp [f159, f159.step]
    have hp : (0 : Int) ≤ (pre.length : Int) := by omega
    simp only [f111.l4, f111.l4.step, hg, e, hw, Option.bind_some]
    simp only [hlt, hp, if_true, decide_true, Bool.not_true, Bool.false_eq_true, if_false]
    exact ih (pre ++ [x]) j (by rw [hx]; simp) (by simp at hj; omega)
theorem eqE (k : Nat) (hK : 2097152 ≤ k) {xs : List S146} (hl : xs.length ≤ 1048576)  : f111 k xs xs = some true := by
  have h0 : f111.l4 k k xs xs 0 = some (.inr ()) := eqE_loop k hK xs hl  xs [] k rfl (by omega)
  simp [f111, f111.step, h0]
theorem eqN_loop (k : Nat) (hK : 2097152 ≤ k) (xs : List S142) (hl : xs.length ≤ 1048576)  : ∀ (rest pre : List S142) (j : Nat), xs = pre ++ rest → rest.length < j → f160.l4 k j xs xs (pre.length : Int) = some (.inr ()) := by
  intro rest
  induction rest with
  | nil =>
    intro pre j hx hj
    obtain ⟨j, rfl⟩ : ∃ j', j = j' + 1 := ⟨j - 1, by omega⟩
    simp only [f160.l4, f160.l4.step]
    have : xs.length = pre.length := by rw [hx]; simp
    rw [if_neg (fb (by omega))]
  | cons x rest ih =>
    intro pre j hx hj
    obtain ⟨j, rfl⟩ : ∃ j', j = j' + 1 := ⟨j - 1, by omega⟩
    have hlt : (pre.length : Int) < (xs.length : Int) := by rw [hx]; exact lt_mid _ _ _
    have hg : ∀ d, xs.getD (Int.toNat (pre.length : Int)) d = x := fun d => by rw [hx]; exact gm _ _ _ _
    have hxm : x ∈ xs := by rw [hx]; simp
    have hw := wnext pre x (by omega)
    have e : f187 k x.f0 x.f1 x.f2 x.f0 x.f1 x.f2 = some true := by simp [f187, f187.step]
    have hp : (0 : Int) ≤ (pre.length : Int) := by omega
    simp only [f160.l4, f160.l4.step, hg, e, hw, Option.bind_some]
    simp only [hlt, hp, if_true, decide_true, Bool.not_true, Bool.false_eq_true, if_false]
    exact ih (pre ++ [x]) j (by rw [hx]; simp) (by simp at hj; omega)
theorem eqN (k : Nat) (hK : 2097152 ≤ k) {xs : List S142} (hl : xs.length ≤ 1048576)  : f160 k xs xs = some true := by
  have h0 : f160.l4 k k xs xs 0 = some (.inr ()) := eqN_loop k hK xs hl  xs [] k rfl (by omega)
  simp [f160, f160.step, h0]
theorem eqNS_loop (k : Nat) (hK : 2097152 ≤ k) (xs : List (List S142)) (hl : xs.length ≤ 1048576) (hs : ∀ x ∈ xs, x.length ≤ 1048576) : ∀ (rest pre : List (List S142)) (j : Nat), xs = pre ++ rest → rest.length < j → f112.l4 k j xs xs (pre.length : Int) = some (.inr ()) := by
  intro rest
  induction rest with
  | nil =>
    intro pre j hx hj
    obtain ⟨j, rfl⟩ : ∃ j', j = j' + 1 := ⟨j - 1, by omega⟩
    simp only [f112.l4, f112.l4.step]
    have : xs.length = pre.length := by rw [hx]; simp
    rw [if_neg (fb (by omega))]
  | cons x rest ih =>
    intro pre j hx hj
    obtain ⟨j, rfl⟩ : ∃ j', j = j' + 1 := ⟨j - 1, by omega⟩
    have hlt : (pre.length : Int) < (xs.length : Int) := by rw [hx]; exact lt_mid _ _ _
    have hg : ∀ d, xs.getD (Int.toNat (pre.length : Int)) d = x := fun d => by rw [hx]; exact gm _ _ _ _
    have hxm : x ∈ xs := by rw [hx]; simp
    have hw := wnext pre x (by omega)
    have e := eqN k hK (hs x hxm)
    have hp : (0 : Int) ≤ (pre.length : Int) := by omega
    simp only [f112.l4, f112.l4.step, hg, e, hw, Option.bind_some]
    simp only [hlt, hp, if_true, decide_true, Bool.not_true, Bool.false_eq_true, if_false]
    exact ih (pre ++ [x]) j (by rw [hx]; simp) (by simp at hj; omega)
theorem eqNS (k : Nat) (hK : 2097152 ≤ k) {xs : List (List S142)} (hl : xs.length ≤ 1048576) (hs : ∀ x ∈ xs, x.length ≤ 1048576) : f112 k xs xs = some true := by
  have h0 : f112.l4 k k xs xs 0 = some (.inr ()) := eqNS_loop k hK xs hl hs xs [] k rfl (by omega)
  simp [f112, f112.step, h0]
theorem eqA (k : Nat) (hK : 2097152 ≤ k) {es : List S146} {ts : List (List S142)} (n : Int) (h1 : es.length ≤ 1048576) (h2 : ts.length ≤ 1048576) (h3 : ∀ x ∈ ts, x.length ≤ 1048576) : f45 k es ts n es ts n = some true := by
  simp [f45, f45.step, eqE k hK h1, eqNS k hK h2 h3]
/-! sizes -/
def datN : List (List S225) → Nat
  | [] => 0
  | x :: l => x.length + datN l
theorem datN_mem : ∀ {l : List (List S225)} {x : List S225}, x ∈ l → x.length ≤ datN l
  | [], _, h => by cases h
  | y :: l, x, h => by
    rcases List.mem_cons.mp h with rfl | h
    · simp [datN]
    · have := datN_mem h; simp only [datN]; omega
theorem szN_loop (k : Nat) (xs : List (List S225)) (hl : xs.length ≤ 1048576) (hm : ∀ x ∈ xs, x.length ≤ maxLen) : ∀ (rest pre : List (List S225)) (j : Nat) (a : Int), xs = pre ++ rest → rest.length < j → 0 ≤ a → a ≤ 1048576 →
    (∃ n, f103.l5 k j xs a (pre.length : Int) = some (.inl (n, -1))) ∨ (f103.l5 k j xs a (pre.length : Int) = some (.inr (a - datN rest)) ∧ (datN rest : Int) ≤ a) := by
  have hq : maxLen = 9223372036854775807 := by decide
  intro rest
  induction rest with
  | nil =>
    intro pre j a hx hj h0 h1
    obtain ⟨j, rfl⟩ : ∃ j', j = j' + 1 := ⟨j - 1, by omega⟩
    simp only [f103.l5, f103.l5.step]
    have : xs.length = pre.length := by rw [hx]; simp
    rw [if_neg (fb (by omega))]
    exact .inr ⟨by simp [datN], by simp [datN]; omega⟩
  | cons x rest ih =>
    intro pre j a hx hj h0 h1
    obtain ⟨j, rfl⟩ : ∃ j', j = j' + 1 := ⟨j - 1, by omega⟩
    have hlt : (pre.length : Int) < (xs.length : Int) := by rw [hx]; exact lt_mid _ _ _
    have hg : ∀ d, xs.getD (Int.toNat (pre.length : Int)) d = x := fun d => by rw [hx]; exact gm _ _ _ _
    have hxl := hm x (by rw [hx]; simp)
    have hw := wnext pre x (by omega)
    have e1 : IntKind.i64.wrap (a - (x.length : Int)) = a - (x.length : Int) := w64 (by omega) (by omega)
    simp only [f103.l5, f103.l5.step, hg, f156, f156.step, e1, hw]
    rw [if_pos (tb hlt), if_pos (by omega), if_pos hlt]
    by_cases c : a - (x.length : Int) < 0
    · rw [if_pos (tb c)]
      simp only [Option.bind_some]
      exact .inl ⟨-1, rfl⟩
    · rw [if_neg (fb c)]
      simp only [Option.bind_some]
      rw [if_neg (fb c)]
      rcases ih (pre ++ [x]) j (a - x.length) (by rw [hx]; simp) (by simp at hj; omega) (by omega) (by omega) with h | ⟨h, h2⟩
      · exact .inl h
      · refine .inr ⟨h.trans ?_, ?_⟩
        · simp only [datN]; congr 2; omega
        · simp only [datN]; omega
theorem szA (k : Nat) (hK : 2097152 ≤ k) (es : List S195) (ts : List (List S225)) (n : Int) (he : es.length ≤ maxLen) (hl : ts.length ≤ maxLen) (hm : ∀ x ∈ ts, x.length ≤ maxLen) :
    ∃ r, f41 k es ts n 1048576 = some r ∧ (r < 0 ∨ (es.length + ts.length + datN ts ≤ 1048576 ∧ 0 ≤ r)) := by
  have hq : maxLen = 9223372036854775807 := by decide
  simp only [f41, f41.step, f102, f102.step]
  have e0 : IntKind.i64.wrap (1048576 - (es.length : Int)) = 1048576 - (es.length : Int) := w64 (by omega) (by omega)
  rw [e0]
  by_cases c0 : 1048576 - (es.length : Int) < 0
  · rw [if_pos (tb c0)]
    simp only [Option.bind_some]
    rw [if_pos (by decide)]
    exact ⟨-1, rfl, .inl (by omega)⟩
  rw [if_neg (fb c0)]
  simp only [Option.bind_some]
  rw [if_neg (fb c0)]
  simp only [f103, f103.step]
  have e1 : IntKind.i64.wrap (1048576 - (es.length : Int) - (ts.length : Int)) = 1048576 - (es.length : Int) - (ts.length : Int) := w64 (by omega) (by omega)
  rw [e1]
  by_cases c : 1048576 - (es.length : Int) - (ts.length : Int) < 0
  · rw [if_pos (tb c)]
    simp only [Option.bind_some]
    rw [if_pos (by decide)]
    exact ⟨-1, rfl, .inl (by omega)⟩
  · rw [if_neg (fb c)]
    rcases szN_loop k ts (by omega) hm ts [] k (1048576 - es.length - ts.length) rfl (by omega) (by omega) (by omega) with ⟨n, h⟩ | ⟨h, h2⟩
    · have h : f103.l5 k k ts (1048576 - es.length - ts.length) 0 = some (.inl (n, -1)) := h
      rw [h]
      simp only [Option.bind_some, Sum.elim_inl]
      rw [if_pos (by decide)]
      exact ⟨-1, rfl, .inl (by omega)⟩
    · have h : f103.l5 k k ts (1048576 - es.length - ts.length) 0 = some (.inr (1048576 - es.length - ts.length - datN ts)) := h
      rw [h]
      simp only [Option.bind_some, Sum.elim_inr]
      rw [if_neg (fb (by omega))]
      exact ⟨_, rfl, .inr ⟨by omega, by omega⟩⟩
/-! ### right areas -/
theorem in_spec (k : Nat) (a b c : Int) : f86 k a b c = some (decide (b ≤ a ∧ a ≤ c)) := by
  simp only [f86, f86.step]
  split <;> simp at * <;> omega
theorem in_impl (k : Nat) (a b c : Int) : f83 k a b c = some (decide (b ≤ a ∧ a ≤ c)) := by
  simp only [f83, f83.step]
  split <;> simp at * <;> omega
/-- Whether an edge goes between two routers. -/
def conn (a b : Int) (e : S146) : Bool := (decide (e.f0 = a) && decide (e.f1 = b)) || (decide (e.f0 = b) && decide (e.f1 = a))
/-- The number of the edge between two routers, or -1. -/
def fe (a b : Int) : Int → List S146 → Int
  | _, [] => -1
  | i, e :: r => if conn a b e = true then i else fe a b (i + 1) r
theorem fe_any (a b : Int) : ∀ (l : List S146) (i : Int), 0 ≤ i → decide (fe a b i l ≥ 0) = l.any (conn a b)
  | [], i, _ => by simp [fe]
  | e :: r, i, h => by
    simp only [fe, List.any_cons]
    rcases Bool.eq_false_or_eq_true (conn a b e) with hc | hc
    · simp [hc, h]
    · simp only [hc, Bool.false_eq_true, if_false, Bool.false_or]; exact fe_any a b r (i + 1) (by omega)
theorem fe_neg (a b : Int) : ∀ (l : List S146) (i : Int), 0 ≤ i → (fe a b i l < 0 ↔ l.any (conn a b) = false)
  | l, i, h => by
    have := fe_any a b l i h
    constructor
    · intro h2; rw [← this]; simp; omega
    · intro h2; rw [h2] at this; simp at this; omega
theorem fe_lt (a b : Int) : ∀ (l : List S146) (i : Int), 0 ≤ i → fe a b i l < i + l.length
  | [], i, h => by simp [fe]; omega
  | e :: r, i, h => by
    simp only [fe, List.length_cons]
    split
    · omega
    · have := fe_lt a b r (i + 1) (by omega); omega
theorem spec_fe (k : Nat) (a b : Int) : ∀ (rest pre : List S146) (j : Nat), rest.length < j → (pre ++ rest).length ≤ 1000 →
    ∃ r, f106.l2 k j (pre ++ rest) a b (pre.length : Int) = some r ∧ Sum.elim (fun t => t) (fun _ => -1) r = fe a b (pre.length : Int) rest := by
  intro rest
  induction rest with
  | nil =>
    intro pre j hj hl
    obtain ⟨j, rfl⟩ : ∃ j', j = j' + 1 := ⟨j - 1, by omega⟩
    simp only [f106.l2, f106.l2.step]
    rw [if_neg (fb (by simp))]
    exact ⟨_, rfl, rfl⟩
  | cons x rest ih =>
    intro pre j hj hl
    obtain ⟨j, rfl⟩ : ∃ j', j = j' + 1 := ⟨j - 1, by omega⟩
    have hp : (0 : Int) ≤ (pre.length : Int) := by omega
    have hw := wnext pre x (by simp at hl; omega)
    have := ih (pre ++ [x]) j (by simp at hj; omega) (by simpa using hl)
    simp only [List.append_assoc, List.singleton_append] at this
    have hn : ((pre ++ [x]).length : Int) = (pre.length : Int) + 1 := by simp
    rw [hn] at this
    simp only [f106.l2, f106.l2.step, gm, hw, hn, fe, conn]
    simp only [lt_mid, hp, if_true, decide_true]
    by_cases c1 : x.f0 = a <;> by_cases c2 : x.f1 = b <;> by_cases c3 : x.f0 = b <;> by_cases c4 : x.f1 = a <;> simp only [c1, c2, c3, c4, decide_true, decide_false, if_true, Bool.false_eq_true, if_false, Bool.true_eq_false, Bool.and_true, Bool.and_false, Bool.or_true, Bool.or_false, Bool.true_and, Bool.false_and] <;> first | exact this | exact ⟨_, rfl, rfl⟩ | (simp_all; done)
theorem find_spec (k : Nat) (hK : 2097152 ≤ k) (a b : Int) (l : List S146) (hl : l.length ≤ 1000) : f106 k l a b = some (fe a b 0 l) := by
  obtain ⟨r, h1, h2⟩ := spec_fe k a b l [] k (by omega) (by simpa using hl)
  have h1 : f106.l2 k k l a b 0 = some r := h1
  have h2 : Sum.elim (fun t => t) (fun _ => -1) r = fe a b 0 l := h2
  simp only [f106, f106.step, h1, Option.bind_some, ← h2]
  rcases r with r | r <;> rfl
theorem conn_impl (k : Nat) (a b : Int) (x : S146) : f171 k x.f0 x.f1 x.f2 x.f3 a b = some (conn a b x) := by
  simp only [f171, f171.step, conn]
  by_cases c1 : x.f0 = a <;> by_cases c2 : x.f1 = b <;> by_cases c3 : x.f0 = b <;> by_cases c4 : x.f1 = a <;> simp [c1, c2, c3, c4] <;> (try (by_cases q : a = b <;> simp_all))
theorem impl_fe (k : Nat) (a b : Int) : ∀ (rest pre : List S146) (j : Nat), rest.length < j → (pre ++ rest).length ≤ 1000 →
    ∃ r, f170.l2 k j (pre ++ rest) a b ((pre ++ rest).length : Int) (pre.length : Int) = some r ∧ Sum.elim (fun t => t) (fun _ => -1) r = fe a b (pre.length : Int) rest := by
  intro rest
  induction rest with
  | nil =>
    intro pre j hj hl
    obtain ⟨j, rfl⟩ : ∃ j', j = j' + 1 := ⟨j - 1, by omega⟩
    simp only [f170.l2, f170.l2.step]
    rw [if_neg (fb (by simp))]
    exact ⟨_, rfl, rfl⟩
  | cons x rest ih =>
    intro pre j hj hl
    obtain ⟨j, rfl⟩ : ∃ j', j = j' + 1 := ⟨j - 1, by omega⟩
    have hp : (0 : Int) ≤ (pre.length : Int) := by omega
    have hw := wnext pre x (by simp at hl; omega)
    have := ih (pre ++ [x]) j (by simp at hj; omega) (by simpa using hl)
    simp only [List.append_assoc, List.singleton_append] at this
    have hn : ((pre ++ [x]).length : Int) = (pre.length : Int) + 1 := by simp
    rw [hn] at this
    simp only [f170.l2, f170.l2.step, gm, hw, hn, fe, conn_impl, Option.bind_some]
    simp only [lt_mid, hp, if_true, decide_true]
    rcases Bool.eq_false_or_eq_true (conn a b x) with hc | hc
    · simp only [hc, if_true]; exact ⟨_, rfl, rfl⟩
    · simp only [hc, Bool.false_eq_true, if_false]; exact this
theorem find_impl (k : Nat) (hK : 2097152 ≤ k) (a b : Int) (l : List S146) (ts : List (List S142)) (n : Int) (hl : l.length ≤ 1000) : f129 k l ts n a b = some (fe a b 0 l, l, ts, n) := by
  obtain ⟨r, h1, h2⟩ := impl_fe k a b l [] k (by omega) (by simpa using hl)
  have h1 : f170.l2 k k l a b (l.length : Int) 0 = some r := h1
  have h2 : Sum.elim (fun t => t) (fun _ => -1) r = fe a b 0 l := h2
  simp only [f129, f129.step, f170, f170.step, h1, Option.bind_some, ← h2]
  rcases r with r | r <;> rfl
/-! edges -/
def eo (n : Int) (e : S146) : Prop := (0 ≤ e.f0 ∧ e.f0 ≤ n - 1) ∧ (0 ≤ e.f1 ∧ e.f1 ≤ n - 1) ∧ e.f0 ≠ e.f1 ∧ (1 ≤ e.f2 ∧ e.f2 ≤ 16)
instance (n : Int) (e : S146) : Decidable (eo n e) := by unfold eo; infer_instance
def gE (n : Int) : List S146 → List S146 → Bool
  | _, [] => true
  | pre, e :: r => decide (eo n e) && (!(pre.any (conn e.f0 e.f1)) && gE n (pre ++ [e]) r)
theorem take_midE (pre rest : List S146) : List.drop 0 (List.take (Int.toNat (pre.length : Int)) (pre ++ rest)) = pre := by simp
theorem spec_edges (k : Nat) (hK : 2097152 ≤ k) (n : Int) (hn : 1 ≤ n ∧ n ≤ 5) : ∀ (rest pre : List S146) (j : Nat), rest.length < j → (pre ++ rest).length ≤ 100 →
    f104.l4 k j n (pre ++ rest) (pre.length : Int) = some (if gE n pre rest = true then .inr () else .inl false) := by
  have wn : IntKind.i64.wrap (n - 1) = n - 1 := w64 (by omega) (by omega)
  intro rest
  induction rest with
  | nil =>
    intro pre j hj hl
    obtain ⟨j, rfl⟩ : ∃ j', j = j' + 1 := ⟨j - 1, by omega⟩
    simp only [f104.l4, f104.l4.step]
    rw [if_neg (fb (by simp))]
    simp [gE]
  | cons x rest ih =>
    intro pre j hj hl
    obtain ⟨j, rfl⟩ : ∃ j', j = j' + 1 := ⟨j - 1, by omega⟩
    have hp : (0 : Int) ≤ (pre.length : Int) := by omega
    have hw := wnext pre x (by simp at hl; omega)
    have := ih (pre ++ [x]) j (by simp at hj; omega) (by simpa using hl)
    simp only [List.append_assoc, List.singleton_append] at this
    have hle : (pre.length : Int) ≤ ((pre ++ x :: rest).length : Int) := by simp; omega
    have hpl : pre.length ≤ 1000 := by simp at hl; omega
    simp only [f104.l4, f104.l4.step, gm, hw, wn, in_spec, Option.bind_some, take_midE, find_spec k hK _ _ _ hpl, fe_any _ _ _ _ (Int.le_refl 0), gE]
    simp only [lt_mid, hp, hle, if_true, decide_true]
    by_cases c1 : 0 ≤ x.f0 ∧ x.f0 ≤ n - 1
    case neg => simp [c1, eo]
    by_cases c2 : 0 ≤ x.f1 ∧ x.f1 ≤ n - 1
    case neg => simp [c1, c2, eo]
    by_cases c3 : x.f0 = x.f1
    · simp [c3, eo]
    by_cases c4 : 1 ≤ x.f2 ∧ x.f2 ≤ 16
    case neg => simp [c1, c2, c3, c4, eo]
    have ok : eo n x := ⟨c1, c2, c3, c4⟩
    simp only [tb c1, tb c2, ff c3, tb c4, tb ok, Bool.not_true, if_true, Bool.true_and]
    rcases Bool.eq_false_or_eq_true (pre.any (conn x.f0 x.f1)) with hc | hc
    · simp [hc]
    · simp only [hc, Bool.false_eq_true, if_false, Bool.not_false, Bool.true_and]
      exact this
theorem edges_spec (k : Nat) (hK : 2097152 ≤ k) (n : Int) (es : List S146) : f104 k n es = some (decide ((1 ≤ n ∧ n ≤ 5) ∧ es.length ≤ 8) && gE n [] es) := by
  simp only [f104, f104.step, in_spec, Option.bind_some]
  by_cases c1 : 1 ≤ n ∧ n ≤ 5
  case neg => simp [c1]
  by_cases c2 : es.length ≤ 8
  case neg =>
    have : (es.length : Int) > 8 := by omega
    simp [c1, c2, this]
  have c2' : ¬ (es.length : Int) > 8 := by omega
  have e : f104.l4 k k n es 0 = _ := spec_edges k hK n c1 es [] k (by omega) (by simp; omega)
  rw [if_pos (by rw [tb c1]; rfl), if_neg (fb c2'), e]
  cases gE n [] es <;> simp [c1, c2]
/-- The list of 25 truths. -/
theorem eta25 {B : List Bool} (h : B.length = 25) : [B.getD 0 false, B.getD 1 false, B.getD 2 false, B.getD 3 false, B.getD 4 false, B.getD 5 false, B.getD 6 false, B.getD 7 false, B.getD 8 false, B.getD 9 false, B.getD 10 false, B.getD 11 false, B.getD 12 false, B.getD 13 false, B.getD 14 false, B.getD 15 false, B.getD 16 false, B.getD 17 false, B.getD 18 false, B.getD 19 false, B.getD 20 false, B.getD 21 false, B.getD 22 false, B.getD 23 false, B.getD 24 false] = B := by
  apply List.ext_getElem?
  intro i
  by_cases hi : i < 25
  · have : ∀ m (hm : m < 25), (B.getD m false) = B[m]'(by omega) := fun m hm => by simp [List.getD_eq_getElem?_getD, List.getElem?_eq_getElem (show m < B.length by omega)]
    rw [List.getElem?_eq_getElem (show i < B.length by omega)]
    match i, hi with
    | 0, _ | 1, _ | 2, _ | 3, _ | 4, _ | 5, _ | 6, _ | 7, _ | 8, _ | 9, _ | 10, _ | 11, _ | 12, _ | 13, _ | 14, _ | 15, _ | 16, _ | 17, _ | 18, _ | 19, _ | 20, _ | 21, _ | 22, _ | 23, _ | 24, _ => exact congrArg some (this _ (by decide))
    | n + 25, h => omega
  · rw [List.getElem?_eq_none (by simp; omega), List.getElem?_eq_none (by omega)]
/-- The program's loop over a list of 25 truths. -/
def L5 (k j : Nat) (n : Int) (es : List S146) (m i : Int) (B : List Bool) : Option (Bool ⊕ Unit) :=
  f109.l5 k j n es m i (B.getD 0 false) (B.getD 1 false) (B.getD 2 false) (B.getD 3 false) (B.getD 4 false) (B.getD 5 false) (B.getD 6 false) (B.getD 7 false) (B.getD 8 false) (B.getD 9 false) (B.getD 10 false) (B.getD 11 false) (B.getD 12 false) (B.getD 13 false) (B.getD 14 false) (B.getD 15 false) (B.getD 16 false) (B.getD 17 false) (B.getD 18 false) (B.getD 19 false) (B.getD 20 false) (B.getD 21 false) (B.getD 22 false) (B.getD 23 false) (B.getD 24 false)
/-- What the truths tell: between which routers an edge goes. -/
def Seen (B : List Bool) (pre : List S146) : Prop := ∀ a b : Nat, a < 5 → b < 5 → B.getD (a * 5 + b) false = pre.any (conn a b)
theorem any_append_one (p : S146 → Bool) (pre : List S146) (x : S146) : (pre ++ [x]).any p = (pre.any p || p x) := by simp
theorem getD_set (B : List Bool) (i m : Nat) (v : Bool) (hi : i < B.length) : (B.set i v).getD m false = if i = m then v else B.getD m false := by
  simp only [List.getD_eq_getElem?_getD, List.getElem?_set]
  split
  · simp [hi]
  · rfl
theorem seen_next {B : List Bool} (hB : B.length = 25) {pre : List S146} (h : Seen B pre) {x : S146} {a b : Nat} (ha : a < 5) (hb : b < 5) (e0 : x.f0 = (a : Int)) (e1 : x.f1 = (b : Int)) : Seen ((B.set (a * 5 + b) true).set (b * 5 + a) true) (pre ++ [x]) := by
  intro c d hc hd
  rw [any_append_one, ← h c d hc hd, getD_set _ _ _ _ (by simp; omega), getD_set _ _ _ _ (by omega)]
  by_cases p1 : b * 5 + a = c * 5 + d
  · have q1 : b = c := by omega
    have q2 : a = d := by omega
    rw [if_pos p1]; simp [conn, e0, e1, q1, q2]
  · by_cases p2 : a * 5 + b = c * 5 + d
    · have q1 : b = d := by omega
      have q2 : a = c := by omega
      rw [if_neg p1, if_pos p2]; simp [conn, e0, e1, q1, q2]
    · have q : conn (c : Int) (d : Int) x = false := by
        simp only [conn, e0, e1, Bool.or_eq_false_iff, Bool.and_eq_false_iff, decide_eq_false_iff_not]
        omega
      rw [if_neg p1, if_neg p2, q, Bool.or_false]
theorem impl_edges (k : Nat) (n : Int) (hn : 1 ≤ n ∧ n ≤ 5) : ∀ (rest pre : List S146) (j : Nat) (B : List Bool), rest.length < j → (pre ++ rest).length ≤ 100 → B.length = 25 → Seen B pre →
    L5 k j n (pre ++ rest) ((pre ++ rest).length : Int) (pre.length : Int) B = some (if gE n pre rest = true then .inr () else .inl false) := by
  have wn : IntKind.i64.wrap (n - 1) = n - 1 := w64 (by omega) (by omega)
  intro rest
  induction rest with
  | nil =>
    intro pre j B hj hl hB hs
    obtain ⟨j, rfl⟩ : ∃ j', j = j' + 1 := ⟨j - 1, by omega⟩
    simp only [L5, f109.l5, f109.l5.step]
    rw [if_neg (fb (by simp))]
    simp [gE]
  | cons x rest ih =>
    intro pre j B hj hl hB hs
    obtain ⟨j, rfl⟩ : ∃ j', j = j' + 1 := ⟨j - 1, by omega⟩
    have hp : (0 : Int) ≤ (pre.length : Int) := by omega
    have hw := wnext pre x (by simp at hl; omega)
    have hB1 : ∀ p, (List.set B p true).length = 25 := fun p => by simp [hB]
    simp only [L5, f109.l5, f109.l5.step, gm, hw, wn, in_impl, Option.bind_some, gE, eta25 hB, eta25 (hB1 _)]
    simp only [lt_mid, hp, if_true, decide_true]
    by_cases c1 : 0 ≤ x.f0 ∧ x.f0 ≤ n - 1
    case neg => simp [c1, eo]
    by_cases c2 : 0 ≤ x.f1 ∧ x.f1 ≤ n - 1
    case neg => simp [c1, c2, eo]
    by_cases c3 : x.f0 = x.f1
    · simp [c3, eo]
    by_cases c4 : 1 ≤ x.f2 ∧ x.f2 ≤ 16
    case neg => simp [c1, c2, c3, c4, eo]
    have ok : eo n x := ⟨c1, c2, c3, c4⟩
    obtain ⟨a, ha⟩ : ∃ a : Nat, x.f0 = (a : Int) := ⟨x.f0.toNat, by omega⟩
    obtain ⟨b, hb⟩ : ∃ b : Nat, x.f1 = (b : Int) := ⟨x.f1.toNat, by omega⟩
    have ha5 : a < 5 := by omega
    have hb5 : b < 5 := by omega
    have d1 : (a : Int) ≤ n - 1 := by omega
    have d2 : (b : Int) ≤ n - 1 := by omega
    have d3 : decide ((a : Int) = (b : Int)) = false := ff (by omega)
    have g1 : (0 : Int) ≤ (a : Int) := by omega
    have g2 : (a : Int) < 5 := by omega
    have g3 : (0 : Int) ≤ (b : Int) := by omega
    have g4 : (b : Int) < 5 := by omega
    have g5 : a * 5 + b < 25 := by omega
    have g6 : b * 5 + a < 25 := by omega
    have hsn := hs a b ha5 hb5
    simp only [tb ok, ha, hb, d1, d2, d3, tb c4, Bool.not_true, if_true, Bool.true_and, g1, g2, g3, g4, g5, g6, and_true, true_and, decide_true, decide_false, Int.toNat_natCast, Nat.mul_one, hsn]
    have hih := ih (pre ++ [x]) j ((B.set (a * 5 + b) true).set (b * 5 + a) true) (by simp at hj; omega) (by simpa using hl) (by simp [hB]) (seen_next hB hs ha5 hb5 ha hb)
    simp only [List.append_assoc, List.singleton_append] at hih
    rcases Bool.eq_false_or_eq_true (pre.any (conn a b)) with hc | hc
    · simp [hc]
    · simp only [hc, Bool.false_eq_true, if_false, Bool.not_false, Bool.true_and]
      exact hih
theorem edges_impl (k : Nat) (hK : 2097152 ≤ k) (n : Int) (es : List S146) : f109 k n es = some (decide ((1 ≤ n ∧ n ≤ 5) ∧ es.length ≤ 8) && gE n [] es) := by
  simp only [f109, f109.step, in_impl, Option.bind_some]
  by_cases c1 : 1 ≤ n ∧ n ≤ 5
  case neg => simp [c1]
  by_cases c2 : es.length ≤ 8
  case neg =>
    have : (es.length : Int) > 8 := by omega
    simp [c1, c2, this]
  have c2' : ¬ (es.length : Int) > 8 := by omega
  have e := impl_edges k n c1 es [] k (List.replicate 25 false) (by omega) (by simp; omega) rfl (fun a b ha hb => by
    have : a * 5 + b < 25 := by omega
    rw [List.getD_eq_getElem?_getD, List.getElem?_replicate, if_pos this]; rfl)
  rw [if_pos (by rw [tb c1]; rfl), if_neg (fb c2')]
  have e : f109.l5 k k n es (es.length : Int) 0 false false false false false false false false false false false false false false false false false false false false false false false false false = _ := e
  rw [e]
  cases gE n [] es <;> simp [c1, c2]
theorem gE_mem (n : Int) : ∀ (l pre : List S146), gE n pre l = true → ∀ e ∈ l, eo n e
  | [], _, _, _, h => by simp at h
  | x :: l, pre, h, e, he => by
    simp only [gE, Bool.and_eq_true, decide_eq_true_eq] at h
    rcases List.mem_cons.mp he with h1 | h1
    · subst h1; exact h.1
    · exact gE_mem n l _ h.2.2 e h1
/-- An edge that is there ends in range. -/
theorem fe_range {n : Int} {es : List S146} (hE : ∀ e ∈ es, eo n e) {r v : Int} (h : 0 ≤ fe r v 0 es) : 0 ≤ v ∧ v ≤ n - 1 := by
  have h1 := fe_any r v es 0 (Int.le_refl 0)
  rw [tb h] at h1
  obtain ⟨e, he, hc⟩ := List.any_eq_true.mp h1.symm
  have := hE e he
  simp only [eo] at this
  simp only [conn, Bool.or_eq_true, Bool.and_eq_true, decide_eq_true_eq] at hc
  omega
/-! the table's entries -/
/-- An entry that can be the table's. -/
def eK (es : List S146) (r d : Int) (x : S142) : Bool :=
  if r = d then decide (x.f0 = 0) && (decide (x.f1 = r) && decide (x.f2 = 0))
  else decide (1 ≤ x.f0 ∧ x.f0 ≤ 16) && (decide (0 ≤ x.f2 ∧ x.f2 ≤ 6) &&
    (if x.f1 = -1 then decide (x.f0 = 16) && decide (x.f2 = 0) else decide (0 ≤ fe r x.f1 0 es) && (decide (x.f0 = 16) || (List.getD es (Int.toNat (fe r x.f1 0 es)) ⟨0, 0, 0, false⟩).f3)))
def rK (es : List S146) (r : Int) : Int → List S142 → Bool
  | _, [] => true
  | d, x :: l => eK es r d x && rK es r (d + 1) l
theorem gm2 {α : Type} {xs : List (List α)} {r : Nat} {row pre rest : List α} {x : α} (hr : List.getD xs r [] = row) (he : row = pre ++ x :: rest) (d : α) : List.getD (List.getD xs r []) (Int.toNat (pre.length : Int)) d = x := by
  rw [hr, he, gm]
theorem spec_row (k : Nat) (hK : 2097152 ≤ k) (n : Int) (hn : 1 ≤ n ∧ n ≤ 5) (es : List S146) (hl : es.length ≤ 1000) (hE : ∀ e ∈ es, eo n e) (ts : List (List S142)) (r : Nat) (hr : r < ts.length) (row : List S142) (hrow : List.getD ts r [] = row) (hrn : (row.length : Int) = n) :
    ∀ (rest pre : List S142) (j : Nat), row = pre ++ rest → rest.length < j →
    f42.l9 k j (r : Int) (pre.length : Int) es ts n = some (if rK es (r : Int) (pre.length : Int) rest = true then .inr ((r : Int), es, ts, n) else .inl (false, (r : Int), es, ts, n)) := by
  have wn : IntKind.i64.wrap (n - 1) = n - 1 := w64 (by omega) (by omega)
  intro rest
  induction rest with
  | nil =>
    intro pre j he hj
    obtain ⟨j, rfl⟩ : ∃ j', j = j' + 1 := ⟨j - 1, by omega⟩
    simp only [List.append_nil] at he
    simp only [f42.l9, f42.l9.step]
    rw [if_neg (fb (by rw [← he]; omega))]
    simp [rK]
  | cons x rest ih =>
    intro pre j he hj
    obtain ⟨j, rfl⟩ : ∃ j', j = j' + 1 := ⟨j - 1, by omega⟩
    have hp : (0 : Int) ≤ (pre.length : Int) := by omega
    have hr0 : (0 : Int) ≤ (r : Int) := by omega
    have hr1 : (r : Int) < (ts.length : Int) := by omega
    have hlen : pre.length + rest.length + 1 = row.length := by rw [he]; simp; omega
    have hpn : (pre.length : Int) < n := by omega
    have hpr : (pre.length : Int) < ((List.length (List.getD ts r [])) : Int) := by rw [hrow]; omega
    have hw := wnext pre x (by omega)
    have := ih (pre ++ [x]) j (by rw [he]; simp) (by simp at hj; omega)
    have hn2 : ((pre ++ [x]).length : Int) = (pre.length : Int) + 1 := by simp
    rw [hn2] at this hw
    simp only [f42.l9, f42.l9.step, f105, f105.step, Int.toNat_natCast (n := r), gm2 hrow he, hw, wn, in_spec, Option.bind_some, find_spec k hK _ _ _ hl, rK]
    simp only [hpn, hr0, hr1, hp, hpr, if_true, decide_true, eK]
    have hfl := fe_lt (r : Int) x.f1 es 0 (Int.le_refl 0)
    have hfl : fe (r : Int) x.f1 0 es < (es.length : Int) := by omega
    by_cases c0 : (r : Int) = (pre.length : Int)
    · simp only [c0, decide_true, if_true]
      rw [c0] at this
      by_cases d1 : x.f0 = 0
      case neg => simp [d1]
      by_cases d2 : x.f1 = (pre.length : Int)
      case neg => simp [d1, d2]
      by_cases d3 : x.f2 = 0
      case neg => simp [d1, d2, d3]
      simpa [d1, d2, d3] using this
    · simp only [ff c0, c0, Bool.false_eq_true, if_false, Option.bind_some]
      by_cases d1 : 1 ≤ x.f0 ∧ x.f0 ≤ 16
      case neg => simp [d1]
      by_cases d2 : 0 ≤ x.f2 ∧ x.f2 ≤ 6
      case neg => simp [d1, d2]
      simp only [tb d1, tb d2, Bool.not_true, if_true, Bool.true_and]
      by_cases d3 : x.f1 = -1
      · have e1 : (-1 : Int) ≤ x.f1 ∧ x.f1 ≤ n - 1 := by omega
        have e2 : x.f1 < 0 := by omega
        have e3 : ¬ x.f1 ≥ 0 := by omega
        simp only [tb e1, tb e2, ff e3, Bool.not_true, if_true]
        simp only [d3, decide_true, if_true, Bool.true_and, Bool.and_true]
        by_cases d4 : x.f0 = 16
        case neg => simp [d4]
        by_cases d5 : x.f2 = 0
        case neg => simp [d4, d5]
        simpa [d4, d5] using this
      · by_cases d4 : 0 ≤ fe (r : Int) x.f1 0 es
        case neg =>
          simp only [d3, d4, decide_false, Bool.false_and, if_false, Bool.false_eq_true]
          by_cases e1 : (-1 : Int) ≤ x.f1 ∧ x.f1 ≤ n - 1
          case neg => simp [e1]
          have e2 : ¬ x.f1 < 0 := by omega
          have e3 : x.f1 ≥ 0 := by omega
          have e4 : fe (r : Int) x.f1 0 es < 0 := by omega
          simp only [tb e1, ff e2, tb e3, tb e4, Bool.not_true, if_true]
          simp
        · have hv := fe_range hE d4
          have e1 : (-1 : Int) ≤ x.f1 ∧ x.f1 ≤ n - 1 := by omega
          have e2 : ¬ x.f1 < 0 := by omega
          have e3 : x.f1 ≥ 0 := by omega
          have e4 : ¬ fe (r : Int) x.f1 0 es < 0 := by omega
          simp only [tb e1, ff e2, tb e3, ff e4, tb d4, d4, hfl, Bool.not_true, if_true]
          simp only [d3, decide_false, Bool.false_and, Bool.and_false, if_false, Bool.true_and, Bool.not_false, beq_self_eq_true, Bool.not_true, Bool.false_eq_true, if_true]
          by_cases d5 : x.f0 = 16
          · have : ¬ x.f0 < 16 := by omega
            simpa [d3, d5] using ‹f42.l9 k j _ _ _ _ _ = _›
          · have : x.f0 < 16 := by omega
            simp only [tb this, ff d5, if_true, Bool.false_or]
            rcases Bool.eq_false_or_eq_true (List.getD es (Int.toNat (fe (r : Int) x.f1 0 es)) ⟨0, 0, 0, false⟩).f3 with hu | hu
            · simp only [hu]; simpa [d3, d5] using ‹f42.l9 k j _ _ _ _ _ = _›
            · simp only [hu]; simp [d3, d5]
def specK (n : Int) (es : List S146) : Int → List (List S142) → Bool
  | _, [] => true
  | i, x :: l => decide ((x.length : Int) = n) && (rK es i 0 x && specK n es (i + 1) l)
def rowsK (es : List S146) : Int → List (List S142) → Bool
  | _, [] => true
  | i, x :: l => rK es i 0 x && rowsK es (i + 1) l
theorem specK_eq (n : Int) (es : List S146) : ∀ (l : List (List S142)) (i : Int), specK n es i l = (l.all (fun x => decide ((x.length : Int) = n)) && rowsK es i l)
  | [], i => rfl
  | x :: l, i => by
    simp only [specK, rowsK, List.all_cons, specK_eq n es l (i + 1)]
    cases decide ((x.length : Int) = n) <;> cases rK es i 0 x <;> cases (l.all (fun x => decide ((x.length : Int) = n))) <;> rfl
theorem spec_rows (k : Nat) (hK : 2097152 ≤ k) (n : Int) (hn : 1 ≤ n ∧ n ≤ 5) (es : List S146) (hl : es.length ≤ 1000) (hE : ∀ e ∈ es, eo n e) (ts : List (List S142)) (htn : (ts.length : Int) = n) :
    ∀ (rest pre : List (List S142)) (j : Nat), ts = pre ++ rest → rest.length < j →
    f42.l4 k j (pre.length : Int) es ts n = some (if specK n es (pre.length : Int) rest = true then .inr () else .inl false) := by
  intro rest
  induction rest with
  | nil =>
    intro pre j he hj
    obtain ⟨j, rfl⟩ : ∃ j', j = j' + 1 := ⟨j - 1, by omega⟩
    simp only [List.append_nil] at he
    simp only [f42.l4, f42.l4.step]
    rw [if_neg (fb (by rw [← he]; omega))]
    simp [specK]
  | cons x rest ih =>
    intro pre j he hj
    obtain ⟨j, rfl⟩ : ∃ j', j = j' + 1 := ⟨j - 1, by omega⟩
    have hp : (0 : Int) ≤ (pre.length : Int) := by omega
    have hlen : pre.length + rest.length + 1 = ts.length := by rw [he]; simp; omega
    have hpn : (pre.length : Int) < n := by omega
    have hpt : (pre.length : Int) < (ts.length : Int) := by omega
    have hrow : List.getD ts (Int.toNat (pre.length : Int)) [] = x := by rw [he, gm]
    have hw := wnext pre x (by omega)
    have := ih (pre ++ [x]) j (by rw [he]; simp) (by simp at hj; omega)
    have hn2 : ((pre ++ [x]).length : Int) = (pre.length : Int) + 1 := by simp
    rw [hn2] at this hw
    simp only [f42.l4, f42.l4.step, hrow, hpn, hp, hpt, if_true, decide_true, specK]
    by_cases c : (x.length : Int) = n
    case neg => simp [c]
    have e := spec_row k hK n hn es hl hE ts pre.length (by omega) x hrow c x [] k rfl (by omega)
    have e : f42.l9 k k (pre.length : Int) 0 es ts n = some (if rK es (pre.length : Int) 0 x = true then .inr ((pre.length : Int), es, ts, n) else .inl (false, (pre.length : Int), es, ts, n)) := e
    rw [if_neg (fb (by simpa using c)), e]
    simp only [Option.bind_some]
    rcases Bool.eq_false_or_eq_true (rK es (pre.length : Int) 0 x) with h | h
    · simp only [h, if_true, Sum.elim_inr, hw, this, Bool.true_and, tb c]
    · simp [h]
theorem area_spec (k : Nat) (hK : 2097152 ≤ k) (es : List S146) (ts : List (List S142)) (n : Int) :
    f42 k es ts n = some ((decide ((1 ≤ n ∧ n ≤ 5) ∧ es.length ≤ 8) && gE n [] es) && (decide ((ts.length : Int) = n) && (ts.all (fun x => decide ((x.length : Int) = n)) && rowsK es 0 ts))) := by
  simp only [f42, f42.step, edges_spec k hK, Option.bind_some]
  rcases Bool.eq_false_or_eq_true (decide ((1 ≤ n ∧ n ≤ 5) ∧ es.length ≤ 8) && gE n [] es) with h | h
  case inr => rw [h]; rfl
  rw [h]
  have h' := h
  simp only [Bool.and_eq_true, decide_eq_true_eq] at h'
  by_cases c : (ts.length : Int) = n
  case neg => simp [c]
  have e : f42.l4 k k 0 es ts n = some (if specK n es 0 ts = true then .inr () else .inl false) := spec_rows k hK n h'.1.1 es (by omega) (gE_mem n es [] h'.2) ts c ts [] k rfl (by omega)
  rw [if_pos (by rfl), if_neg (fb (by simpa using c)), e]
  simp only [tb c, Bool.true_and, specK_eq]
  cases (ts.all (fun x => decide ((x.length : Int) = n)) && rowsK es 0 ts) <;> rfl
theorem impl_entry (k : Nat) (hK : 2097152 ≤ k) (es : List S146) (hl : es.length ≤ 1000) (ts : List (List S142)) (n : Int) {r : Nat} (hr : r < ts.length) {row pre rest : List S142} {x : S142} (hrow : List.getD ts r [] = row) (he : row = pre ++ x :: rest) :
    f110 k es ts n (r : Int) (pre.length : Int) = some (eK es (r : Int) (pre.length : Int) x, es, ts, n) := by
  have hp : (0 : Int) ≤ (pre.length : Int) := by omega
  have hr0 : (0 : Int) ≤ (r : Int) := by omega
  have hr1 : (r : Int) < (ts.length : Int) := by omega
  have hpr : (pre.length : Int) < ((List.length (List.getD ts r [])) : Int) := by rw [hrow, he]; simp; omega
  simp only [f110, f110.step, Int.toNat_natCast (n := r), gm2 hrow he, in_impl, Option.bind_some, find_impl k hK _ _ _ _ _ hl]
  simp only [hr0, hr1, hp, hpr, if_true, decide_true, eK]
  have hfl := fe_lt (r : Int) x.f1 es 0 (Int.le_refl 0)
  have hfl : fe (r : Int) x.f1 0 es < (es.length : Int) := by omega
  by_cases c0 : (r : Int) = (pre.length : Int)
  · simp only [c0, decide_true, if_true, Bool.and_true]
  · have c0' : ¬ (pre.length : Int) = (r : Int) := fun h => c0 h.symm
    simp only [ff c0', c0, Bool.false_eq_true, if_false]
    by_cases d1 : 1 ≤ x.f0 ∧ x.f0 ≤ 16
    case neg => simp [d1]
    by_cases d2 : 0 ≤ x.f2 ∧ x.f2 ≤ 6
    case neg => simp [d1, d2]
    simp only [tb d1, tb d2, Bool.not_true, if_true, Bool.true_and, Bool.false_eq_true, if_false]
    by_cases d3 : x.f1 = -1
    · by_cases d4 : x.f0 = 16 <;> simp [d3, d4]
    · by_cases d4 : 0 ≤ fe (r : Int) x.f1 0 es
      case neg =>
        have : ¬ fe (r : Int) x.f1 0 es ≥ 0 := by omega
        simp [d3, d4]
      have e4 : fe (r : Int) x.f1 0 es ≥ 0 := d4
      by_cases d5 : x.f0 = 16 <;> simp [d3, d4, e4, d5, hfl]
theorem impl_row (k : Nat) (hK : 2097152 ≤ k) (es : List S146) (hl : es.length ≤ 1000) (ts : List (List S142)) (n : Int) (r : Nat) (hr : r < ts.length) (row : List S142) (hrow : List.getD ts r [] = row) (hrl : row.length ≤ 1048577) (m : Int) :
    ∀ (rest pre : List S142) (j : Nat), row = pre ++ rest → rest.length < j →
    f44.l13 k j (r : Int) m (r : Int) (row.length : Int) (pre.length : Int) es ts n = some (if rK es (r : Int) (pre.length : Int) rest = true then .inr (m, (r : Int), es, ts, n) else .inl (false, m, (r : Int), es, ts, n)) := by
  intro rest
  induction rest with
  | nil =>
    intro pre j he hj
    obtain ⟨j, rfl⟩ : ∃ j', j = j' + 1 := ⟨j - 1, by omega⟩
    simp only [List.append_nil] at he
    simp only [f44.l13, f44.l13.step]
    rw [if_neg (fb (by rw [← he]; omega))]
    simp [rK]
  | cons x rest ih =>
    intro pre j he hj
    obtain ⟨j, rfl⟩ : ∃ j', j = j' + 1 := ⟨j - 1, by omega⟩
    have hlen : pre.length + rest.length + 1 = row.length := by rw [he]; simp; omega
    have hpn : (pre.length : Int) < (row.length : Int) := by omega
    have hw := wnext pre x (by omega)
    have := ih (pre ++ [x]) j (by rw [he]; simp) (by simp at hj; omega)
    have hn2 : ((pre ++ [x]).length : Int) = (pre.length : Int) + 1 := by simp
    rw [hn2] at this hw
    simp only [f44.l13, f44.l13.step, impl_entry k hK es hl ts n hr hrow he, hpn, if_true, decide_true, Option.bind_some, hw, this, rK]
    rcases Bool.eq_false_or_eq_true (eK es (r : Int) (pre.length : Int) x) with h | h <;> simp [h]
theorem impl_rows (k : Nat) (hK : 2097152 ≤ k) (es : List S146) (hl : es.length ≤ 1000) (ts : List (List S142)) (n : Int) (htl : ts.length ≤ 1048577) (hts : ∀ x ∈ ts, x.length ≤ 1048577) :
    ∀ (rest pre : List (List S142)) (j : Nat), ts = pre ++ rest → rest.length < j →
    f44.l10 k j (ts.length : Int) (pre.length : Int) es ts n = some (if rowsK es (pre.length : Int) rest = true then .inr () else .inl false) := by
  intro rest
  induction rest with
  | nil =>
    intro pre j he hj
    obtain ⟨j, rfl⟩ : ∃ j', j = j' + 1 := ⟨j - 1, by omega⟩
    simp only [List.append_nil] at he
    simp only [f44.l10, f44.l10.step]
    rw [if_neg (fb (by rw [← he]; omega))]
    simp [rowsK]
  | cons x rest ih =>
    intro pre j he hj
    obtain ⟨j, rfl⟩ : ∃ j', j = j' + 1 := ⟨j - 1, by omega⟩
    have hp : (0 : Int) ≤ (pre.length : Int) := by omega
    have hlen : pre.length + rest.length + 1 = ts.length := by rw [he]; simp; omega
    have hpt : (pre.length : Int) < (ts.length : Int) := by omega
    have hrow : List.getD ts (Int.toNat (pre.length : Int)) [] = x := by rw [he, gm]
    have hw := wnext pre x (by omega)
    have := ih (pre ++ [x]) j (by rw [he]; simp) (by simp at hj; omega)
    have hn2 : ((pre ++ [x]).length : Int) = (pre.length : Int) + 1 := by simp
    rw [hn2] at this hw
    have hx : x.length ≤ 1048577 := hts x (by rw [he]; simp)
    have e := impl_row k hK es hl ts n pre.length (by omega) x hrow hx (ts.length : Int) x [] k rfl (by omega)
    have e : f44.l13 k k (pre.length : Int) (ts.length : Int) (pre.length : Int) (x.length : Int) 0 es ts n = some (if rK es (pre.length : Int) 0 x = true then .inr ((ts.length : Int), (pre.length : Int), es, ts, n) else .inl (false, (ts.length : Int), (pre.length : Int), es, ts, n)) := e
    simp only [f44.l10, f44.l10.step, hrow, hp, hpt, if_true, decide_true, e, Option.bind_some, rowsK]
    rcases Bool.eq_false_or_eq_true (rK es (pre.length : Int) 0 x) with h | h
    · simp only [h, if_true, Sum.elim_inr, hw, this, Bool.true_and]
    · simp [h]
theorem impl_lens (k : Nat) (es : List S146) (ts : List (List S142)) (n : Int) (htl : ts.length ≤ 1048577) :
    ∀ (rest pre : List (List S142)) (j : Nat), ts = pre ++ rest → rest.length < j →
    f44.l4 k j ts (ts.length : Int) (pre.length : Int) es ts n = some (if rest.all (fun x => decide ((x.length : Int) = n)) = true then .inr (es, ts, n) else .inl (false, es, ts, n)) := by
  intro rest
  induction rest with
  | nil =>
    intro pre j he hj
    obtain ⟨j, rfl⟩ : ∃ j', j = j' + 1 := ⟨j - 1, by omega⟩
    simp only [List.append_nil] at he
    simp only [f44.l4, f44.l4.step]
    rw [if_neg (fb (by rw [← he]; omega))]
    simp
  | cons x rest ih =>
    intro pre j he hj
    obtain ⟨j, rfl⟩ : ∃ j', j = j' + 1 := ⟨j - 1, by omega⟩
    have hp : (0 : Int) ≤ (pre.length : Int) := by omega
    have hlen : pre.length + rest.length + 1 = ts.length := by rw [he]; simp; omega
    have hpt : (pre.length : Int) < (ts.length : Int) := by omega
    have hrow : List.getD ts (Int.toNat (pre.length : Int)) [] = x := by rw [he, gm]
    have hw := wnext pre x (by omega)
    have := ih (pre ++ [x]) j (by rw [he]; simp) (by simp at hj; omega)
    simp only [f44.l4, f44.l4.step, hrow, hp, hpt, if_true, decide_true, hw, this, List.all_cons]
    by_cases c : (x.length : Int) = n <;> simp [c]
theorem area_impl (k : Nat) (hK : 2097152 ≤ k) (es : List S146) (ts : List (List S142)) (n : Int) (htl : ts.length ≤ 1048577) (hts : ∀ x ∈ ts, x.length ≤ 1048577) :
    f44 k es ts n = some ((decide ((1 ≤ n ∧ n ≤ 5) ∧ es.length ≤ 8) && gE n [] es) && (decide ((ts.length : Int) = n) && (ts.all (fun x => decide ((x.length : Int) = n)) && rowsK es 0 ts))) := by
  simp only [f44, f44.step, edges_impl k hK, Option.bind_some]
  rcases Bool.eq_false_or_eq_true (decide ((1 ≤ n ∧ n ≤ 5) ∧ es.length ≤ 8) && gE n [] es) with h | h
  case inr => rw [h]; rfl
  rw [h]
  have h' := h
  simp only [Bool.and_eq_true, decide_eq_true_eq] at h'
  by_cases c : (ts.length : Int) = n
  case neg => simp [c]
  have e1 : f44.l4 k k ts (ts.length : Int) 0 es ts n = _ := impl_lens k es ts n htl ts [] k rfl (by omega)
  have e2 : f44.l10 k k (ts.length : Int) 0 es ts n = some (if rowsK es 0 ts = true then .inr () else .inl false) := impl_rows k hK es (by omega) ts n htl hts ts [] k rfl (by omega)
  rw [if_pos (by rfl), if_neg (fb (by simpa using c)), e1]
  simp only [List.length_nil, tb c, Bool.true_and, Option.bind_some]
  cases (ts.all (fun x => decide ((x.length : Int) = n)))
  · rfl
  · simp only [if_true, Sum.elim_inr, e2, Option.bind_some]
    cases rowsK es 0 ts <;> rfl
/-! ### marks of ints and of areas -/
theorem eqI_loop (k : Nat) (xs : List Int) (hl : xs.length ≤ 1048576) : ∀ (rest pre : List Int) (j : Nat), xs = pre ++ rest → rest.length < j → f25.l4 k j xs xs (pre.length : Int) = some (.inr ()) := by
  intro rest
  induction rest with
  | nil =>
    intro pre j he hj
    obtain ⟨j, rfl⟩ : ∃ j', j = j' + 1 := ⟨j - 1, by omega⟩
    simp only [List.append_nil] at he
    simp only [f25.l4, f25.l4.step]
    rw [if_neg (fb (by rw [← he]; omega))]
  | cons x rest ih =>
    intro pre j he hj
    obtain ⟨j, rfl⟩ : ∃ j', j = j' + 1 := ⟨j - 1, by omega⟩
    have hp : (0 : Int) ≤ (pre.length : Int) := by omega
    have hlen : pre.length + rest.length + 1 = xs.length := by rw [he]; simp; omega
    have hlt : (pre.length : Int) < (xs.length : Int) := by omega
    have hw := wnext pre x (by omega)
    simp only [f25.l4, f25.l4.step, hp, hlt, if_true, decide_true, hw, ne_eq, not_true, decide_false, Bool.false_eq_true, if_false]
    exact ih (pre ++ [x]) j (by rw [he]; simp) (by simp at hj; omega)
theorem eqI (k : Nat) (hK : 2097152 ≤ k) {xs : List Int} (hl : xs.length ≤ 1048576) : f25 k xs xs = some true := by
  have h0 : f25.l4 k k xs xs 0 = some (.inr ()) := eqI_loop k xs hl xs [] k rfl (by omega)
  simp only [f25, f25.step, h0]
  simp
def HeldI : Int → List Int → Prop
  | _, [] => True
  | a, y :: ys => y = a ∧ HeldI (a + 1) ys
theorem markI_loop (k : Nat) : ∀ (rest pre : List Int) (j : Nat) (a : Int), rest.length < j → pre.length + rest.length ≤ 1048576 → 0 ≤ a → a + rest.length ≤ 10000000000 → ∃ ys, f26.l2 k j a (pre.length : Int) (pre ++ rest) = some (a + (rest.length : Int), pre ++ ys) ∧ HeldI a ys ∧ ys.length = rest.length := by
  intro rest
  induction rest with
  | nil =>
    intro pre j a hj hl h0 h1
    obtain ⟨j, rfl⟩ : ∃ j', j = j' + 1 := ⟨j - 1, by omega⟩
    simp only [f26.l2, f26.l2.step]
    rw [if_neg (fb (by simp))]
    exact ⟨[], by simp, trivial, rfl⟩
  | cons x rest ih =>
    intro pre j a hj hl h0 h1
    obtain ⟨j, rfl⟩ : ∃ j', j = j' + 1 := ⟨j - 1, by omega⟩
    simp only [List.length_cons] at hj hl h1
    simp only [f26.l2, f26.l2.step, set_mid]
    rw [if_pos (tb (lt_mid _ _ _)), if_pos (by omega), if_pos (lt_mid _ _ _), w64 (by omega) (by omega), w64 (by omega) (by omega)]
    obtain ⟨ys, h, h2, h3⟩ := ih (pre ++ [a]) j (a + 1) (by omega) (by simp; omega) (by omega) (by omega)
    simp only [List.length_append, List.length_singleton, List.append_assoc, List.singleton_append] at h
    refine ⟨a :: ys, Eq.trans h ?_, ⟨rfl, h2⟩, by simp [h3]⟩
    simp only [List.length_cons]
    rw [show a + 1 + (rest.length : Int) = a + ((rest.length + 1 : Nat) : Int) by omega]
theorem heldI_loop (k : Nat) : ∀ (ys pre : List Int) (j : Nat) (a : Int), HeldI a ys → ys.length < j → pre.length + ys.length ≤ 1048576 → 0 ≤ a → a + ys.length ≤ 10000000000 → f67.l2 k j (pre ++ ys) a (pre.length : Int) = some (.inr (a + (ys.length : Int))) := by
  intro ys
  induction ys with
  | nil =>
    intro pre j a hH hj hl h0 h1
    obtain ⟨j, rfl⟩ : ∃ j', j = j' + 1 := ⟨j - 1, by omega⟩
    simp only [f67.l2, f67.l2.step]
    rw [if_neg (fb (by simp))]
    simp
  | cons x rest ih =>
    intro pre j a hH hj hl h0 h1
    obtain ⟨j, rfl⟩ : ∃ j', j = j' + 1 := ⟨j - 1, by omega⟩
    simp only [List.length_cons] at hj hl h1
    have hx : x = a := hH.1
    simp only [f67.l2, f67.l2.step, gm]
    rw [if_pos (tb (lt_mid _ _ _)), if_pos (by omega), if_pos (lt_mid _ _ _), if_neg (fb (by simp [hx])), w64 (by omega) (by omega), w64 (by omega) (by omega)]
    have h := ih (pre ++ [x]) j (a + 1) hH.2 (by omega) (by simp; omega) (by omega) (by omega)
    simp only [List.length_append, List.length_singleton, List.append_assoc, List.singleton_append] at h
    refine Eq.trans h ?_
    simp only [List.length_cons]
    rw [show a + 1 + (rest.length : Int) = a + ((rest.length + 1 : Nat) : Int) by omega]
theorem markI (k : Nat) (hK : 2097152 ≤ k) (xs : List Int) (hl : xs.length ≤ 1048576) : ∃ a ys, f26 k xs 1 = some (a, ys) ∧ 0 ≤ a ∧ f67 k ys 1 = some a := by
  obtain ⟨ys, h, h2, h3⟩ := markI_loop k xs [] k 1 (by omega) (by simpa using hl) (by omega) (by omega)
  have h : f26.l2 k k 1 0 xs = some (1 + (xs.length : Int), ys) := h
  have h4 := heldI_loop k ys [] k 1 h2 (by omega) (by simp; omega) (by omega) (by omega)
  have h4 : f67.l2 k k ys 1 0 = some (.inr (1 + (ys.length : Int))) := h4
  refine ⟨_, ys, by simp only [f26, f26.step, h]; rfl, by omega, ?_⟩
  simp only [f67, f67.step, h4, h3]; rfl
theorem s146_0 (pre rest : List S146) (p0 : Int) (p1 : Int) (p2 : Int) (p3 : Bool) (a : Int) : set146 (pre ++ ⟨p0, p1, p2, p3⟩ :: rest) (Int.toNat (pre.length : Int)) 0 [.s (.int .i64 a)] = pre ++ ⟨a, p1, p2, p3⟩ :: rest := set_at (e := 146) pre rest _ _ rfl
theorem s146_1 (pre rest : List S146) (p0 : Int) (p1 : Int) (p2 : Int) (p3 : Bool) (a : Int) : set146 (pre ++ ⟨p0, p1, p2, p3⟩ :: rest) (Int.toNat (pre.length : Int)) 1 [.s (.int .i64 a)] = pre ++ ⟨p0, a, p2, p3⟩ :: rest := set_at (e := 146) pre rest _ _ rfl
theorem s146_2 (pre rest : List S146) (p0 : Int) (p1 : Int) (p2 : Int) (p3 : Bool) (a : Int) : set146 (pre ++ ⟨p0, p1, p2, p3⟩ :: rest) (Int.toNat (pre.length : Int)) 2 [.s (.int .i64 a)] = pre ++ ⟨p0, p1, a, p3⟩ :: rest := set_at (e := 146) pre rest _ _ rfl
theorem s146_3 (pre rest : List S146) (p0 : Int) (p1 : Int) (p2 : Int) (p3 : Bool) (a : Bool) : set146 (pre ++ ⟨p0, p1, p2, p3⟩ :: rest) (Int.toNat (pre.length : Int)) 3 [.s (.bool a)] = pre ++ ⟨p0, p1, p2, a⟩ :: rest := set_at (e := 146) pre rest _ _ rfl
theorem s142_0 (pre rest : List S142) (p0 : Int) (p1 : Int) (p2 : Int) (a : Int) : set142 (pre ++ ⟨p0, p1, p2⟩ :: rest) (Int.toNat (pre.length : Int)) 0 [.s (.int .i64 a)] = pre ++ ⟨a, p1, p2⟩ :: rest := set_at (e := 142) pre rest _ _ rfl
theorem s142_1 (pre rest : List S142) (p0 : Int) (p1 : Int) (p2 : Int) (a : Int) : set142 (pre ++ ⟨p0, p1, p2⟩ :: rest) (Int.toNat (pre.length : Int)) 1 [.s (.int .i64 a)] = pre ++ ⟨p0, a, p2⟩ :: rest := set_at (e := 142) pre rest _ _ rfl
theorem s142_2 (pre rest : List S142) (p0 : Int) (p1 : Int) (p2 : Int) (a : Int) : set142 (pre ++ ⟨p0, p1, p2⟩ :: rest) (Int.toNat (pre.length : Int)) 2 [.s (.int .i64 a)] = pre ++ ⟨p0, p1, a⟩ :: rest := set_at (e := 142) pre rest _ _ rfl
theorem markE_loop (k : Nat) : ∀ (rest pre : List S146) (j : Nat) (a : Int), rest.length < j → pre.length + rest.length ≤ 1048576 → 0 ≤ a → a + 4 * rest.length ≤ 10000000000 → ∃ ys, f131.l2 k j a (pre.length : Int) (pre ++ rest) = some (a + 4 * (rest.length : Int), ys) := by
  intro rest
  induction rest with
  | nil =>
    intro pre j a hj hl h0 h1
    obtain ⟨j, rfl⟩ : ∃ j', j = j' + 1 := ⟨j - 1, by omega⟩
    simp only [f131.l2, f131.l2.step]
    rw [if_neg (fb (by simp))]
    exact ⟨_, by simp; rfl⟩
  | cons x rest ih =>
    intro pre j a hj hl h0 h1
    obtain ⟨j, rfl⟩ : ∃ j', j = j' + 1 := ⟨j - 1, by omega⟩
    simp only [List.length_cons] at hj hl h1
    have hp : (0 : Int) ≤ (pre.length : Int) := by omega
    have w1 : IntKind.i64.wrap (a + 1) = a + 1 := w64 (by omega) (by omega)
    have w2 : IntKind.i64.wrap (a + 1 + 1) = a + 1 + 1 := w64 (by omega) (by omega)
    have w3 : IntKind.i64.wrap (a + 1 + 1 + 1) = a + 1 + 1 + 1 := w64 (by omega) (by omega)
    have w4 : IntKind.i64.wrap (a + 1 + 1 + 1 + 1) = a + 1 + 1 + 1 + 1 := w64 (by omega) (by omega)
    have wl : IntKind.i64.wrap ((pre.length : Int) + 1) = (pre.length : Int) + 1 := w64 (by omega) (by omega)
    obtain ⟨p0, p1, p2, p3⟩ := x
    simp only [f131.l2, f131.l2.step, w1, w2, w3, w4, s146_0, s146_1, s146_2, s146_3]
    simp only [lt_mid, hp, if_true, decide_true, wl]
    obtain ⟨ys, h⟩ := ih (pre ++ [_]) j (a + 4) (by omega) (by simp; omega) (by omega) (by omega)
    simp only [List.length_append, List.length_singleton, List.append_assoc, List.singleton_append] at h
    have w5 : a + 1 + 1 + 1 + 1 = a + 4 := by omega
    rw [w5]
    refine ⟨ys, Eq.trans h ?_⟩
    simp only [List.length_cons]
    rw [show a + 4 + 4 * (rest.length : Int) = a + 4 * ((rest.length + 1 : Nat) : Int) by omega]
theorem markE (k : Nat) (hK : 2097152 ≤ k) {xs : List S146} (hl : xs.length ≤ 1048576) {a : Int} (h0 : 0 ≤ a) (h1 : a ≤ 1000000000) : ∃ ys, f131 k xs a = some (a + 4 * (xs.length : Int), ys) := by
  obtain ⟨ys, h⟩ := markE_loop k xs [] k a (by omega) (by simpa using hl) h0 (by omega)
  have h : f131.l2 k k a 0 xs = some (a + 4 * (xs.length : Int), ys) := h
  exact ⟨ys, by simp only [f131, f131.step, h]; rfl⟩
theorem markN_loop (k : Nat) : ∀ (rest pre : List S142) (j : Nat) (a : Int), rest.length < j → pre.length + rest.length ≤ 1048576 → 0 ≤ a → a + 3 * rest.length ≤ 10000000000 → ∃ ys, f172.l2 k j a (pre.length : Int) (pre ++ rest) = some (a + 3 * (rest.length : Int), ys) := by
  intro rest
  induction rest with
  | nil =>
    intro pre j a hj hl h0 h1
    obtain ⟨j, rfl⟩ : ∃ j', j = j' + 1 := ⟨j - 1, by omega⟩
    simp only [f172.l2, f172.l2.step]
    rw [if_neg (fb (by simp))]
    exact ⟨_, by simp; rfl⟩
  | cons x rest ih =>
    intro pre j a hj hl h0 h1
    obtain ⟨j, rfl⟩ : ∃ j', j = j' + 1 := ⟨j - 1, by omega⟩
    simp only [List.length_cons] at hj hl h1
    have hp : (0 : Int) ≤ (pre.length : Int) := by omega
    have w1 : IntKind.i64.wrap (a + 1) = a + 1 := w64 (by omega) (by omega)
    have w2 : IntKind.i64.wrap (a + 1 + 1) = a + 1 + 1 := w64 (by omega) (by omega)
    have w3 : IntKind.i64.wrap (a + 1 + 1 + 1) = a + 1 + 1 + 1 := w64 (by omega) (by omega)
    have w4 : IntKind.i64.wrap (a + 1 + 1 + 1 + 1) = a + 1 + 1 + 1 + 1 := w64 (by omega) (by omega)
    have wl : IntKind.i64.wrap ((pre.length : Int) + 1) = (pre.length : Int) + 1 := w64 (by omega) (by omega)
    obtain ⟨p0, p1, p2⟩ := x
    simp only [f172.l2, f172.l2.step, w1, w2, w3, w4, s142_0, s142_1, s142_2]
    simp only [lt_mid, hp, if_true, decide_true, wl]
    obtain ⟨ys, h⟩ := ih (pre ++ [_]) j (a + 3) (by omega) (by simp; omega) (by omega) (by omega)
    simp only [List.length_append, List.length_singleton, List.append_assoc, List.singleton_append] at h
    have w5 : a + 1 + 1 + 1 = a + 3 := by omega
    rw [w5]
    refine ⟨ys, Eq.trans h ?_⟩
    simp only [List.length_cons]
    rw [show a + 3 + 3 * (rest.length : Int) = a + 3 * ((rest.length + 1 : Nat) : Int) by omega]
theorem markN (k : Nat) (hK : 2097152 ≤ k) {xs : List S142} (hl : xs.length ≤ 1048576) {a : Int} (h0 : 0 ≤ a) (h1 : a ≤ 1000000000) : ∃ ys, f172 k xs a = some (a + 3 * (xs.length : Int), ys) := by
  obtain ⟨ys, h⟩ := markN_loop k xs [] k a (by omega) (by simpa using hl) h0 (by omega)
  have h : f172.l2 k k a 0 xs = some (a + 3 * (xs.length : Int), ys) := h
  exact ⟨ys, by simp only [f172, f172.step, h]; rfl⟩
def datM : List (List S142) → Nat
  | [] => 0
  | x :: l => x.length + datM l
theorem datM_cN : ∀ l : List (List S225), datM (l.map (List.map cN)) = datN l
  | [] => rfl
  | x :: l => by simp [datM, datN, datM_cN l]
theorem markNS_loop (k : Nat) (hK : 2097152 ≤ k) : ∀ (rest pre : List (List S142)) (j : Nat) (a : Int), rest.length < j → pre.length + rest.length ≤ 1048576 → 0 ≤ a → datM rest ≤ 1048576 → a + 3 * datM rest ≤ 1000000000 → ∃ ys, f132.l2 k j a (pre.length : Int) (pre ++ rest) = some (a + 3 * (datM rest : Int), ys) := by
  intro rest
  induction rest with
  | nil =>
    intro pre j a hj hl h0 h1 h2
    obtain ⟨j, rfl⟩ : ∃ j', j = j' + 1 := ⟨j - 1, by omega⟩
    simp only [f132.l2, f132.l2.step]
    rw [if_neg (fb (by simp))]
    exact ⟨_, by simp [datM]; rfl⟩
  | cons x rest ih =>
    intro pre j a hj hl h0 h1 h2
    obtain ⟨j, rfl⟩ : ∃ j', j = j' + 1 := ⟨j - 1, by omega⟩
    simp only [List.length_cons, datM] at hj hl h1 h2
    have hp : (0 : Int) ≤ (pre.length : Int) := by omega
    have wl : IntKind.i64.wrap ((pre.length : Int) + 1) = (pre.length : Int) + 1 := w64 (by omega) (by omega)
    obtain ⟨zs, hz⟩ := markN k hK (xs := x) (by omega) h0 (by omega)
    simp only [f132.l2, f132.l2.step, gm, hz, Option.bind_some, set_mid]
    simp only [lt_mid, hp, if_true, decide_true, wl]
    obtain ⟨ys, h⟩ := ih (pre ++ [zs]) j (a + 3 * (x.length : Int)) (by omega) (by simp; omega) (by omega) (by omega) (by omega)
    simp only [List.length_append, List.length_singleton, List.append_assoc, List.singleton_append] at h
    refine ⟨ys, Eq.trans h ?_⟩
    simp only [datM]
    rw [show a + 3 * (x.length : Int) + 3 * (datM rest : Int) = a + 3 * ((x.length + datM rest : Nat) : Int) by omega]
theorem markA (k : Nat) (hK : 2097152 ≤ k) {es : List S146} {ts : List (List S142)} (n : Int) (h : es.length + ts.length + datM ts ≤ 1048576) : ∃ a es' ts', f66 k es ts n 1 = some (a, es', ts', false) ∧ 0 ≤ a := by
  obtain ⟨es', h1⟩ := markE k hK (xs := es) (by omega) (a := 1) (by omega) (by omega)
  obtain ⟨ts', h2⟩ := markNS_loop k hK ts [] k (1 + 4 * (es.length : Int)) (by omega) (by simp; omega) (by omega) (by omega) (by omega)
  have h2 : f132.l2 k k (1 + 4 * (es.length : Int)) 0 ts = _ := h2
  refine ⟨1 + 4 * (es.length : Int) + 3 * (datM ts : Int), es', ts', ?_, ?_⟩
  · simp only [f66, f66.step, h1, Option.bind_some, f132, f132.step, h2]
  · omega
/-! ### matrices -/
def at_ (M : List (List Int)) (i j : Nat) : Int := List.getD (List.getD M i []) j 0
def Dim (n : Nat) (M : List (List Int)) : Prop := M.length = n ∧ ∀ i, i < n → (List.getD M i []).length = n
def put_ (M : List (List Int)) (i j : Nat) (v : Int) : List (List Int) := M.set i ((List.getD M i []).set j v)
theorem getD_set_eq {α : Type} (xs : List α) (i j : Nat) (v d : α) (h : i < xs.length) : List.getD (xs.set i v) j d = if j = i then v else List.getD xs j d := by
  simp only [List.getD_eq_getElem?_getD, List.getElem?_set]
  by_cases e : i = j
  · subst e; simp [h]
  · rw [if_neg e, if_neg (fun h => e h.symm)]
theorem put_dim {n : Nat} {M : List (List Int)} (h : Dim n M) (i j : Nat) (v : Int) : Dim n (put_ M i j v) := by
  refine ⟨by simp [put_, h.1], fun a ha => ?_⟩
  by_cases hi : i < M.length
  · rw [put_, getD_set_eq _ _ _ _ _ hi]
    split
    · rename_i e; subst e; rw [List.length_set]; exact h.2 a ha
    · exact h.2 a ha
  · rw [put_, List.set_eq_of_length_le (by omega)]; exact h.2 a ha
theorem put_at {n : Nat} {M : List (List Int)} (h : Dim n M) {i j : Nat} (hi : i < n) (hj : j < n) (v : Int) (a b : Nat) : at_ (put_ M i j v) a b = if a = i ∧ b = j then v else at_ M a b := by
  have h1 : i < M.length := by rw [h.1]; exact hi
  have h2 : j < (List.getD M i []).length := by rw [h.2 i hi]; exact hj
  unfold at_ put_
  rw [getD_set_eq _ _ _ _ _ h1]
  by_cases e : a = i
  · subst e
    rw [if_pos rfl, getD_set_eq _ _ _ _ _ h2]
    simp
  · rw [if_neg e, if_neg (fun h => e h.1)]
theorem dim_ext {n : Nat} {M N : List (List Int)} (h : Dim n M) (h' : Dim n N) (e : ∀ i j, i < n → j < n → at_ M i j = at_ N i j) : M = N := by
  apply List.ext_getElem (by rw [h.1, h'.1])
  intro i h1 h2
  have hi : i < n := by rw [← h.1]; exact h1
  have r1 := h.2 i hi
  have r2 := h'.2 i hi
  have g1 : List.getD M i [] = M[i] := by simp [List.getD_eq_getElem?_getD, h1]
  have g2 : List.getD N i [] = N[i] := by simp [List.getD_eq_getElem?_getD, h2]
  rw [g1] at r1
  rw [g2] at r2
  apply List.ext_getElem (by rw [r1, r2])
  intro j h3 h4
  have := e i j hi (by omega)
  unfold at_ at this
  rw [g1, g2] at this
  simpa [List.getD_eq_getElem?_getD, h3, h4] using this
/-! ### ways -/
/-- An edge that is up, in either direction. -/
def Arc (es : List S146) (a b : Nat) (c : Int) : Prop := ∃ e ∈ es, e.f3 = true ∧ e.f2 = c ∧ ((e.f0 = (a : Int) ∧ e.f1 = (b : Int)) ∨ (e.f0 = (b : Int) ∧ e.f1 = (a : Int)))
/-- What holds of the distances all along: noughts, at most 16, each led to by an edge. -/
structure FW (es : List S146) (n : Nat) (M : List (List Int)) : Prop where
  dim : Dim n M
  dg : ∀ i, i < n → at_ M i i = 0
  nn : ∀ i j, i < n → j < n → 0 ≤ at_ M i j
  le : ∀ i j, i < n → j < n → at_ M i j ≤ 16
  ed : ∀ a b c, a < n → b < n → Arc es a b c → at_ M a b ≤ c
  tt : ∀ i j, i < n → j < n → i ≠ j → at_ M i j < 16 → ∃ b c, b < n ∧ Arc es i b c ∧ c + at_ M b j ≤ at_ M i j
def Tri (n k : Nat) (M : List (List Int)) : Prop := ∀ i j, i < n → j < n → at_ M i j ≤ at_ M i k + at_ M k j
theorem fw_step {es : List S146} {n k : Nat} (hk : k < n) {M N : List (List Int)} (h : FW es n M) (hN : Dim n N) (e : ∀ i j, i < n → j < n → at_ N i j = min (at_ M i j) (at_ M i k + at_ M k j)) (hc : ∀ a b c, Arc es a b c → 0 ≤ c) :
    FW es n N ∧ Tri n k N ∧ ∀ k', k' < n → Tri n k' M → Tri n k' N := by
  have ik : ∀ i, i < n → at_ N i k = at_ M i k := fun i hi => by rw [e i k hi hk, h.dg k hk]; omega
  have kj : ∀ j, j < n → at_ N k j = at_ M k j := fun j hj => by rw [e k j hk hj, h.dg k hk]; omega
  refine ⟨⟨hN, fun i hi => ?_, fun i j hi hj => ?_, fun i j hi hj => ?_, fun a b c ha hb hab => ?_, fun i j hi hj hij hlt => ?_⟩, fun i j hi hj => ?_, fun k' hk' ht i j hi hj => ?_⟩
  · rw [e i i hi hi, h.dg i hi]
    have := h.nn i k hi hk; have := h.nn k i hk hi; omega
  · rw [e i j hi hj]
    have := h.nn i k hi hk; have := h.nn k j hk hj; have := h.nn i j hi hj; omega
  · rw [e i j hi hj]; have := h.le i j hi hj; omega
  · rw [e a b ha hb]; have := h.ed a b c ha hb hab; omega
  · by_cases hm : at_ M i j ≤ at_ M i k + at_ M k j
    · have hs : at_ N i j = at_ M i j := by rw [e i j hi hj]; omega
      obtain ⟨b, c, hb, hab, hle⟩ := h.tt i j hi hj hij (by omega)
      exact ⟨b, c, hb, hab, by rw [hs, e b j hb hj]; omega⟩
    · have hs : at_ N i j = at_ M i k + at_ M k j := by rw [e i j hi hj]; omega
      have hik : i ≠ k := fun he => by subst he; rw [h.dg i hi] at hm; omega
      have := h.nn k j hk hj
      obtain ⟨b, c, hb, hab, hle⟩ := h.tt i k hi hk hik (by omega)
      exact ⟨b, c, hb, hab, by rw [hs, e b j hb hj]; omega⟩
  · rw [ik i hi, kj j hj, e i j hi hj]; omega
  · rw [e i j hi hj, e i k' hi hk', e k' j hk' hj]
    have := ht i j hi hj; have := ht k j hk hj; have := ht i k hi hk
    have := h.nn k k' hk hk'; have := h.nn k' k hk' hk
    omega
/-- How many routers are nearer to d. -/
def rank (n : Nat) (D : List (List Int)) (i d : Nat) : Nat := ((List.range n).filter fun v => decide (at_ D v d < at_ D i d)).length
theorem filter_mono {α : Type} {p q : α → Bool} : ∀ (l : List α), (∀ x ∈ l, p x = true → q x = true) → (l.filter p).length ≤ (l.filter q).length
  | [], _ => Nat.le_refl _
  | x :: l, h => by
    have ih := filter_mono l fun y hy => h y (List.mem_cons_of_mem _ hy)
    have hx := h x List.mem_cons_self
    cases hp : p x with
    | false => cases hq : q x <;> simp [List.filter, hp, hq] <;> omega
    | true => rw [hp] at hx; simp [List.filter, hp, hx rfl]; exact ih
theorem filter_lt {α : Type} {p q : α → Bool} : ∀ (l : List α), (∀ x ∈ l, p x = true → q x = true) → (∃ x ∈ l, p x = false ∧ q x = true) → (l.filter p).length < (l.filter q).length
  | [], _, ⟨_, hx, _⟩ => by cases hx
  | x :: l, h, ⟨y, hy, h1, h2⟩ => by
    have hm := filter_mono l fun z hz => h z (List.mem_cons_of_mem _ hz)
    have hx := h x List.mem_cons_self
    rcases List.mem_cons.1 hy with rfl | hy
    · simp [List.filter, h1, h2]; omega
    · have ih := filter_lt l (fun z hz => h z (List.mem_cons_of_mem _ hz)) ⟨y, hy, h1, h2⟩
      cases hp : p x with
      | false => cases hq : q x <;> simp [List.filter, hp, hq] <;> omega
      | true => rw [hp] at hx; simp [List.filter, hp, hx rfl]; exact ih
theorem rank_lt {n : Nat} {D : List (List Int)} {i b d : Nat} (hb : b < n) (h : at_ D b d < at_ D i d) : rank n D b d < rank n D i d := by
  unfold rank
  refine filter_lt _ (fun v _ hv => ?_) ⟨b, List.mem_range.2 hb, ?_, ?_⟩
  · simp at hv ⊢; omega
  · simp
  · simpa using h
theorem rank_n {n : Nat} {D : List (List Int)} {i d : Nat} (hi : i < n) : rank n D i d < n := by
  unfold rank
  have := filter_lt (p := fun v => decide (at_ D v d < at_ D i d)) (q := fun _ => true) (List.range n) (fun _ _ _ => rfl) ⟨i, List.mem_range.2 hi, by simp, rfl⟩
  have e : ((List.range n).filter fun _ => true) = List.range n := by simp
  rw [e, List.length_range] at this
  exact this
/-- What rounds over the edges have told so far. -/
structure BF (es : List S146) (n : Nat) (D M : List (List Int)) (r : Nat) : Prop where
  dim : Dim n M
  ge : ∀ i j, i < n → j < n → at_ D i j ≤ at_ M i j
  le : ∀ i j, i < n → j < n → at_ M i j ≤ 16
  up : ∀ i j, i < n → j < n → rank n D i j ≤ r → at_ M i j ≤ at_ D i j
/-- The edges that this round has been over. -/
def Done (n : Nat) (D M : List (List Int)) (r : Nat) (a b : Nat) (c : Int) (d : Nat) : Prop := (rank n D b d ≤ r → at_ M a d ≤ at_ D b d + c) ∧ (rank n D a d ≤ r → at_ M b d ≤ at_ D a d + c)
theorem bf_next {es : List S146} {n : Nat} {D M : List (List Int)} {r : Nat} (hD : FW es n D) (hc : ∀ a b c, Arc es a b c → 1 ≤ c) (h : BF es n D M r) (hd : ∀ a b c d, a < n → b < n → d < n → Arc es a b c → rank n D b d ≤ r → at_ M a d ≤ at_ D b d + c)
    (h0 : ∀ i, i < n → at_ M i i ≤ 0) : BF es n D M (r + 1) := by
  refine ⟨h.dim, h.ge, h.le, fun i j hi hj hr => ?_⟩
  by_cases hij : i = j
  · subst hij; rw [hD.dg i hi]; exact h0 i hi
  · by_cases hlt : at_ D i j < 16
    · obtain ⟨b, c, hb, hab, hle⟩ := hD.tt i j hi hj hij hlt
      have := hc i b c hab
      have hrk := rank_lt (i := i) (d := j) hb (show at_ D b j < at_ D i j by omega)
      have := hd i b c j hi hb hj hab (by omega)
      omega
    · have := h.le i j hi hj; omega
/-! ### the program's loops -/
def loopN {α : Type} (g : Nat → α → α) : Nat → Nat → α → α
  | 0, _, M => M
  | t + 1, d, M => loopN g t (d + 1) (g d M)
theorem loopN_inv {α : Type} {g : Nat → α → α} {n : Nat} (P : Nat → α → Prop) (h : ∀ d M, d < n → P d M → P (d + 1) (g d M)) : ∀ (t d : Nat) (M : α), d + t = n → P d M → P n (loopN g t d M)
  | 0, d, M, e, hp => by rw [show n = d by omega]; exact hp
  | t + 1, d, M, e, hp => loopN_inv P h t (d + 1) _ (by omega) (h d M (by omega) hp)
theorem put_len (M : List (List Int)) (i j : Nat) (v : Int) : (put_ M i j v).length = M.length := by simp [put_]
theorem put_row (M : List (List Int)) (i j : Nat) (v : Int) (a : Nat) : (List.getD (put_ M i j v) a []).length = (List.getD M a []).length := by
  by_cases hi : i < M.length
  · rw [put_, getD_set_eq _ _ _ _ _ hi]
    split
    · rename_i e; subst e; rw [List.length_set]
    · rfl
  · rw [put_, List.set_eq_of_length_le (by omega)]
theorem put_at' {M : List (List Int)} {i j : Nat} (h1 : i < M.length) (h2 : j < (List.getD M i []).length) (v : Int) (a b : Nat) : at_ (put_ M i j v) a b = if a = i ∧ b = j then v else at_ M a b := by
  unfold at_ put_
  rw [getD_set_eq _ _ _ _ _ h1]
  by_cases e : a = i
  · subst e
    rw [if_pos rfl, getD_set_eq _ _ _ _ _ h2]
    simp
  · rw [if_neg e, if_neg (fun h => e h.1)]
theorem wn1 {n d : Nat} (hn : n ≤ 1000) (hd : d < n) : IntKind.i64.wrap ((d : Int) + 1) = ((d + 1 : Nat) : Int) := by rw [w64 (by omega) (by omega)]; omega
def g9 (r d : Nat) (M : List (List Int)) : List (List Int) := if d = r then M else put_ M r d 16
theorem l9_run (k n r : Nat) (hn : n ≤ 1000) (hr : r < n) (a b : Int) (es : List S146) (ts : List (List S142)) (c : Int) : ∀ (t d j : Nat) (M : List (List Int)), d + t = n → t < j → M.length = n → (List.getD M r []).length = n →
    f72.l9 k j (r : Int) a b (n : Int) (d : Int) es ts c M = some (a, b, es, ts, c, loopN (g9 r) t d M)
  | t, d, 0, M, e, hj, hl, hw => by omega
  | 0, d, j + 1, M, e, hj, hl, hw => by
    have h1 : ¬ (d : Int) < (n : Int) := by omega
    simp only [f72.l9, f72.l9.step, h1, decide_false, loopN]; rfl
  | t + 1, d, j + 1, M, e, hj, hl, hw => by
    have h1 : (d : Int) < (n : Int) := by omega
    have ih := l9_run k n r hn hr a b es ts c t (d + 1) j (g9 r d M) (by omega) (by omega) (by unfold g9; split <;> simp [put_len, hl]) (by unfold g9; split <;> simp only [put_row, hw])
    have h2 : (0 : Int) ≤ (r : Int) := by omega
    have h3 : (0 : Int) ≤ (d : Int) := by omega
    have h4 : (r : Int) < ((List.length M : Nat) : Int) := by omega
    have h5 : (d : Int) < ((List.length (List.getD M r []) : Nat) : Int) := by rw [hw]; exact h1
    have h6 : d < List.length (List.getD M r []) := by rw [hw]; omega
    simp only [f72.l9, f72.l9.step, h1, h2, h3, h4, h5, h6, decide_true, if_true, wn1 hn (show d < n by omega), Int.toNat_natCast]
    by_cases hd : d = r
    · subst hd
      have : g9 d d M = M := by simp [g9]
      rw [this] at ih
      simp only [ne_eq, not_true_eq_false, decide_false]
      simpa [loopN, this] using ih
    · have h7 : (d : Int) ≠ (r : Int) := by omega
      have : g9 r d M = put_ M r d 16 := by simp [g9, hd]
      rw [this] at ih
      simp only [h7, decide_true, ne_eq, not_false_eq_true, if_true]
      simpa [loopN, this, put_] using ih
def g5 (n r : Nat) (M : List (List Int)) : List (List Int) := loopN (g9 r) n 0 (M.set r (List.replicate n 0))
theorem g9_len (r : Nat) : ∀ (t d : Nat) (M : List (List Int)), (loopN (g9 r) t d M).length = M.length
  | 0, _, M => rfl
  | t + 1, d, M => by rw [loopN, g9_len r t]; unfold g9; split <;> simp [put_len]
theorem set_row (M : List (List Int)) (r : Nat) (row : List Int) (h : r < M.length) (a : Nat) : List.getD (M.set r row) a [] = if a = r then row else List.getD M a [] := getD_set_eq _ _ _ _ _ h
theorem l5_run (k n : Nat) (hK : 2097152 ≤ k) (hn : n ≤ 1000) (es : List S146) (ts : List (List S142)) : ∀ (t r j : Nat) (M : List (List Int)), r + t = n → t < j → M.length = n →
    f72.l5 k j (n : Int) (r : Int) es ts (n : Int) M = some (es, ts, (n : Int), loopN (g5 n) t r M)
  | t, r, 0, M, e, hj, hl => by omega
  | 0, r, j + 1, M, e, hj, hl => by
    have h1 : ¬ (r : Int) < (n : Int) := by omega
    simp only [f72.l5, f72.l5.step, h1, decide_false, loopN]; rfl
  | t + 1, r, j + 1, M, e, hj, hl => by
    have h1 : (r : Int) < (n : Int) := by omega
    have h2 : (0 : Int) ≤ (r : Int) := by omega
    have h3 : (0 : Int) ≤ (n : Int) := by omega
    have h4 : (r : Int) < ((List.length M : Nat) : Int) := by omega
    have h5 : n * 8 ≤ maxN := by have : maxN = 140737488351232 := rfl; omega
    have hr : List.getD (M.set r (List.replicate n (0 : Int))) r [] = List.replicate n 0 := by rw [set_row _ _ _ (by omega), if_pos rfl]
    have h6 : (r : Int) < ((List.length (M.set r (List.replicate n (0 : Int))) : Nat) : Int) := by simp; omega
    have e9 : f72.l9 k k (r : Int) (n : Int) (r : Int) (n : Int) (0 : Int) es ts (n : Int) (M.set r (List.replicate n 0)) = some ((n : Int), (r : Int), es, ts, (n : Int), loopN (g9 r) n 0 (M.set r (List.replicate n 0))) := l9_run k n r hn (by omega) (n : Int) (r : Int) es ts (n : Int) n 0 k (M.set r (List.replicate n 0)) (by omega) (by omega) (by simp [hl]) (by rw [hr]; simp)
    have ih := l5_run k n hK hn es ts t (r + 1) j (g5 n r M) (by omega) (by omega) (by unfold g5; rw [g9_len]; simp [hl])
    simp only [f72.l5, f72.l5.step, h1, h2, h3, h4, decide_true, if_true, Int.toNat_natCast, h5, h6, hr, List.length_replicate]
    rw [e9]
    simp only [Option.bind_some, wn1 hn (show r < n by omega)]
    exact ih
/-- Noughts where a router is itself, 16 elsewhere. -/
def Ini (n : Nat) (M : List (List Int)) : Prop := Dim n M ∧ ∀ i j, i < n → j < n → at_ M i j = if i = j then 0 else 16
theorem g9_at {n r : Nat} (hr : r < n) {M : List (List Int)} (hl : M.length = n) (hw : List.getD M r [] = List.replicate n 0) : (∀ a, a ≠ r → List.getD (loopN (g9 r) n 0 M) a [] = List.getD M a []) ∧ (List.getD (loopN (g9 r) n 0 M) r []).length = n ∧ ∀ j, j < n → at_ (loopN (g9 r) n 0 M) r j = if r = j then 0 else 16 := by
  have := loopN_inv (g := g9 r) (n := n) (fun d N => N.length = n ∧ (∀ a, a ≠ r → List.getD N a [] = List.getD M a []) ∧ (List.getD N r []).length = n ∧ ∀ j, j < n → at_ N r j = if j < d ∧ r ≠ j then 16 else 0)
    (fun d N hd ⟨h1, h2, h3, h4⟩ => by
      unfold g9
      split
      · rename_i e
        subst e
        refine ⟨h1, h2, h3, fun j hj => ?_⟩
        rw [h4 j hj]
        by_cases hj2 : j < d ∧ d ≠ j
        · rw [if_pos hj2, if_pos ⟨by omega, hj2.2⟩]
        · rw [if_neg hj2, if_neg (by omega)]
      · rename_i hne
        refine ⟨by rw [put_len]; exact h1, fun a ha => ?_, by rw [put_row]; exact h3, fun j hj => ?_⟩
        · rw [put_, set_row _ _ _ (by omega), if_neg ha]; exact h2 a ha
        · rw [put_at' (by omega) (by rw [h3]; exact hd), h4 j hj]
          by_cases e : j = d
          · subst e; rw [if_pos ⟨rfl, rfl⟩, if_pos ⟨by omega, fun h => hne h.symm⟩]
          · rw [if_neg (fun h => e h.2)]
            by_cases hj2 : j < d ∧ r ≠ j
            · rw [if_pos hj2, if_pos ⟨by omega, hj2.2⟩]
            · rw [if_neg hj2, if_neg (by omega)])
    n 0 M (by omega) ⟨hl, fun _ _ => rfl, by rw [hw]; simp, fun j hj => by
      rw [if_neg (by omega)]; unfold at_; rw [hw]; simp [List.getD_eq_getElem?_getD, hj]⟩
  obtain ⟨_, h2, h3, h4⟩ := this
  refine ⟨h2, h3, fun j hj => ?_⟩
  rw [h4 j hj]
  by_cases e : r = j
  · rw [if_neg (fun h => h.2 e), if_pos e]
  · rw [if_pos ⟨hj, e⟩, if_neg e]
theorem ini_impl (n : Nat) : Ini n (loopN (g5 n) n 0 (List.replicate n [])) := by
  have := loopN_inv (g := g5 n) (n := n) (fun r N => N.length = n ∧ ∀ i, i < r → i < n → (List.getD N i []).length = n ∧ ∀ j, j < n → at_ N i j = if i = j then 0 else 16)
    (fun r N hr ⟨h1, h2⟩ => by
      have hs : List.getD (N.set r (List.replicate n (0 : Int))) r [] = List.replicate n 0 := by rw [set_row _ _ _ (by omega), if_pos rfl]
      obtain ⟨q1, q2, q3⟩ := g9_at hr (by simp [h1]) hs
      refine ⟨by unfold g5; rw [g9_len]; simp [h1], fun i hi hin => ?_⟩
      by_cases e : i = r
      · subst e; exact ⟨q2, q3⟩
      · have hq : List.getD (g5 n r N) i [] = List.getD N i [] := by unfold g5; rw [q1 i e, set_row _ _ _ (by omega), if_neg e]
        obtain ⟨p1, p2⟩ := h2 i (by omega) hin
        refine ⟨by rw [hq]; exact p1, fun j hj => ?_⟩
        unfold at_
        rw [hq]; exact p2 j hj)
    n 0 (List.replicate n []) (by omega) ⟨by simp, fun i hi => absurd hi (Nat.not_lt_zero _)⟩
  exact ⟨⟨this.1, fun i hi => (this.2 i hi hi).1⟩, fun i j hi hj => (this.2 i hi hi).2 j hj⟩
/-- An edge, told. -/
def g16 (e : S146) (M : List (List Int)) : List (List Int) := if e.f3 = true then put_ (put_ M (Int.toNat e.f0) (Int.toNat e.f1) e.f2) (Int.toNat e.f1) (Int.toNat e.f0) e.f2 else M
theorem l16_run (k n : Nat) (hn : n ≤ 5) (es : List S146) : ∀ (rest pre : List S146) (j : Nat) (M : List (List Int)), es = pre ++ rest → rest.length < j → es.length ≤ 1000 → (∀ e ∈ rest, eo n e) → Dim n M →
    f72.l16 k j es (es.length : Int) (pre.length : Int) M = some (rest.foldl (fun M e => g16 e M) M)
  | rest, pre, 0, M, e, hj, hl, he, hM => by omega
  | [], pre, j + 1, M, e, hj, hl, he, hM => by
    subst e
    have h1 : ¬ (pre.length : Int) < (((pre ++ []).length : Nat) : Int) := by simp
    simp only [f72.l16, f72.l16.step, h1, decide_false, List.foldl_nil]; rfl
  | x :: rest, pre, j + 1, M, e, hj, hl, he, hM => by
    have h1 : (pre.length : Int) < ((es.length : Nat) : Int) := by subst e; exact lt_mid _ _ _
    have h2 : (0 : Int) ≤ (pre.length : Int) := by omega
    have hg : List.getD es (Int.toNat (pre.length : Int)) (⟨(0 : Int), (0 : Int), (0 : Int), false⟩ : S146) = x := by subst e; exact gm _ _ _ _
    have hx := he x List.mem_cons_self
    obtain ⟨⟨a0, a1⟩, ⟨b0, b1⟩, hab, _⟩ := hx
    have hM1 := put_dim hM (Int.toNat x.f0) (Int.toNat x.f1) x.f2
    have hM' : Dim n (g16 x M) := by unfold g16; split; exact put_dim hM1 _ _ _; exact hM
    have ih := l16_run k n hn es rest (pre ++ [x]) j (g16 x M) (by rw [e]; simp) (by simp at hj; omega) hl (fun y hy => he y (List.mem_cons_of_mem _ hy)) hM'
    have hel : es.length = pre.length + (x :: rest).length := by rw [e]; simp
    have hw : IntKind.i64.wrap ((pre.length : Int) + 1) = ((pre ++ [x]).length : Int) := wnext _ _ (by omega)
    simp only [f72.l16, f72.l16.step, h1, h2, hg, decide_true, if_true, hw, List.foldl_cons]
    by_cases hu : x.f3 = true
    · have hg16 : g16 x M = put_ (put_ M (Int.toNat x.f0) (Int.toNat x.f1) x.f2) (Int.toNat x.f1) (Int.toNat x.f0) x.f2 := by simp [g16, hu]
      have l1 : x.f0 < ((M.length : Nat) : Int) := by rw [hM.1]; omega
      have l2 : x.f1 < ((M.length : Nat) : Int) := by rw [hM.1]; omega
      have r0 := hM.2 (Int.toNat x.f0) (by omega)
      have r1 := hM1.2 (Int.toNat x.f1) (by omega)
      have l3 : x.f1 < (((List.getD M (Int.toNat x.f0) []).length : Nat) : Int) := by rw [r0]; omega
      have l4 : Int.toNat x.f1 < (List.getD M (Int.toNat x.f0) []).length := by rw [r0]; omega
      have l5 : x.f0 < (((List.getD (put_ M (Int.toNat x.f0) (Int.toNat x.f1) x.f2) (Int.toNat x.f1) []).length : Nat) : Int) := by rw [r1]; omega
      have l6 : Int.toNat x.f0 < (List.getD (put_ M (Int.toNat x.f0) (Int.toNat x.f1) x.f2) (Int.toNat x.f1) []).length := by rw [r1]; omega
      rw [hg16] at ih ⊢
      simp only [hu, if_true, a0, b0, l1, l2, l3, l4]
      unfold put_ at l5 l6 ih ⊢
      simp only [l5, l6, if_true]
      exact ih
    · have hg16 : g16 x M = M := by simp [g16, hu]
      rw [hg16] at ih ⊢
      simp only [hu, if_false]
      exact ih
def Bd (n : Nat) (M : List (List Int)) : Prop := ∀ i j, i < n → j < n → 0 ≤ at_ M i j ∧ at_ M i j ≤ 16
def g28 (q i j : Nat) (M : List (List Int)) : List (List Int) := put_ M i j (if at_ M i q + at_ M q j < at_ M i j then at_ M i q + at_ M q j else at_ M i j)
theorem g28_ok {n q i j : Nat} (hq : q < n) (hi : i < n) (hj : j < n) {M : List (List Int)} (hM : Dim n M) (hB : Bd n M) : Dim n (g28 q i j M) ∧ Bd n (g28 q i j M) := by
  refine ⟨put_dim hM _ _ _, fun a b ha hb => ?_⟩
  unfold g28
  rw [put_at hM hi hj]
  have := hB i q hi hq; have := hB q j hq hj; have := hB i j hi hj; have := hB a b ha hb
  split
  · split <;> omega
  · omega
theorem l28_run (k n q i : Nat) (hn : n ≤ 1000) (hq : q < n) (hi : i < n) (a b c d : Int) : ∀ (t jj j : Nat) (M : List (List Int)), jj + t = n → t < j → Dim n M → Bd n M →
    f72.l28 k j (q : Int) (i : Int) a b c d (n : Int) (jj : Int) M = some ((q : Int), a, b, c, d, loopN (g28 q i) t jj M)
  | t, jj, 0, M, e, hj, hM, hB => by omega
  | 0, jj, j + 1, M, e, hj, hM, hB => by
    have h1 : ¬ (jj : Int) < (n : Int) := by omega
    simp only [f72.l28, f72.l28.step, h1, decide_false, loopN]; rfl
  | t + 1, jj, j + 1, M, e, hj, hM, hB => by
    have hjj : jj < n := by omega
    obtain ⟨hM', hB'⟩ := g28_ok hq hi hjj hM hB
    have ih := l28_run k n q i hn hq hi a b c d t (jj + 1) j _ (by omega) (by omega) hM' hB'
    have h1 : (jj : Int) < (n : Int) := by omega
    have p1 : (0 : Int) ≤ (q : Int) := by omega
    have p2 : (0 : Int) ≤ (i : Int) := by omega
    have p3 : (0 : Int) ≤ (jj : Int) := by omega
    have q1 : (q : Int) < ((List.length M : Nat) : Int) := by rw [hM.1]; omega
    have q2 : (i : Int) < ((List.length M : Nat) : Int) := by rw [hM.1]; omega
    have r1 := hM.2 i hi
    have r2 := hM.2 q hq
    have s1 : (jj : Int) < ((List.length (List.getD M i []) : Nat) : Int) := by rw [r1]; omega
    have s2 : jj < List.length (List.getD M i []) := by rw [r1]; omega
    have s3 : (q : Int) < ((List.length (List.getD M i []) : Nat) : Int) := by rw [r1]; omega
    have s4 : q < List.length (List.getD M i []) := by rw [r1]; omega
    have s5 : (jj : Int) < ((List.length (List.getD M q []) : Nat) : Int) := by rw [r2]; omega
    have s6 : jj < List.length (List.getD M q []) := by rw [r2]; omega
    have hw : IntKind.i64.wrap (List.getD (List.getD M i []) q 0 + List.getD (List.getD M q []) jj 0) = List.getD (List.getD M i []) q 0 + List.getD (List.getD M q []) jj 0 := by
      have := hB i q hi hq; have := hB q jj hq hjj
      unfold at_ at *
      exact w64 (by omega) (by omega)
    simp only [f72.l28, f72.l28.step, h1, p1, p2, p3, q1, q2, decide_true, if_true, Int.toNat_natCast, s1, s2, s3, s4, s5, s6, hw, wn1 hn hjj]
    exact ih
def g25 (n q i : Nat) (M : List (List Int)) : List (List Int) := loopN (g28 q i) n 0 M
theorem g25_ok {n q i : Nat} (hq : q < n) (hi : i < n) {M : List (List Int)} (hM : Dim n M) (hB : Bd n M) : Dim n (g25 n q i M) ∧ Bd n (g25 n q i M) :=
  loopN_inv (g := g28 q i) (n := n) (fun _ N => Dim n N ∧ Bd n N) (fun j N hj h => g28_ok hq hi hj h.1 h.2) n 0 M (by omega) ⟨hM, hB⟩
theorem l25_run (k n q : Nat) (hK : 2097152 ≤ k) (hn : n ≤ 1000) (hq : q < n) (a b : Int) : ∀ (t i j : Nat) (M : List (List Int)), i + t = n → t < j → Dim n M → Bd n M →
    f72.l25 k j (q : Int) a b (n : Int) (i : Int) M = some (a, b, loopN (g25 n q) t i M)
  | t, i, 0, M, e, hj, hM, hB => by omega
  | 0, i, j + 1, M, e, hj, hM, hB => by
    have h1 : ¬ (i : Int) < (n : Int) := by omega
    simp only [f72.l25, f72.l25.step, h1, decide_false, loopN]; rfl
  | t + 1, i, j + 1, M, e, hj, hM, hB => by
    have hi : i < n := by omega
    obtain ⟨hM', hB'⟩ := g25_ok hq hi hM hB
    have ih := l25_run k n q hK hn hq a b t (i + 1) j _ (by omega) (by omega) hM' hB'
    have h1 : (i : Int) < (n : Int) := by omega
    have e28 : f72.l28 k k (q : Int) (i : Int) a b (n : Int) (i : Int) (n : Int) 0 M = some ((q : Int), a, b, (n : Int), (i : Int), loopN (g28 q i) n 0 M) := l28_run k n q i hn hq hi a b n i n 0 k M (by omega) (by omega) hM hB
    simp only [f72.l25, f72.l25.step, h1, decide_true, if_true, hM.1, e28, Option.bind_some, wn1 hn hi]
    exact ih
def g22 (n q : Nat) (M : List (List Int)) : List (List Int) := loopN (g25 n q) n 0 M
theorem g22_ok {n q : Nat} (hq : q < n) {M : List (List Int)} (hM : Dim n M) (hB : Bd n M) : Dim n (g22 n q M) ∧ Bd n (g22 n q M) :=
  loopN_inv (g := g25 n q) (n := n) (fun _ N => Dim n N ∧ Bd n N) (fun i N hi h => g25_ok hq hi h.1 h.2) n 0 M (by omega) ⟨hM, hB⟩
theorem l22_run (k n : Nat) (hK : 2097152 ≤ k) (hn : n ≤ 1000) : ∀ (t q j : Nat) (M : List (List Int)), q + t = n → t < j → Dim n M → Bd n M →
    f72.l22 k j (n : Int) (q : Int) M = some (loopN (g22 n) t q M)
  | t, q, 0, M, e, hj, hM, hB => by omega
  | 0, q, j + 1, M, e, hj, hM, hB => by
    have h1 : ¬ (q : Int) < (n : Int) := by omega
    simp only [f72.l22, f72.l22.step, h1, decide_false, loopN]; rfl
  | t + 1, q, j + 1, M, e, hj, hM, hB => by
    have hq : q < n := by omega
    obtain ⟨hM', hB'⟩ := g22_ok hq hM hB
    have ih := l22_run k n hK hn t (q + 1) j _ (by omega) (by omega) hM' hB'
    have h1 : (q : Int) < (n : Int) := by omega
    have e25 : f72.l25 k k (q : Int) (n : Int) (q : Int) (n : Int) 0 M = some ((n : Int), (q : Int), loopN (g25 n q) n 0 M) := l25_run k n q hK hn hq n q n 0 k M (by omega) (by omega) hM hB
    simp only [f72.l22, f72.l22.step, h1, decide_true, if_true, hM.1, e25, Option.bind_some, wn1 hn hq]
    exact ih
/-- A round over a third router, at once. -/
theorem g25_at {n q i : Nat} (hq : q < n) (hi : i < n) {M : List (List Int)} (hM : Dim n M) (h0 : ∀ i, i < n → at_ M i i = 0) (hB : Bd n M) : ∀ a b, a < n → b < n → at_ (g25 n q i M) a b = if a = i then min (at_ M a b) (at_ M a q + at_ M q b) else at_ M a b := by
  have := loopN_inv (g := g28 q i) (n := n) (fun j N => Dim n N ∧ Bd n N ∧ ∀ a b, a < n → b < n → at_ N a b = if a = i ∧ b < j then min (at_ M a b) (at_ M a q + at_ M q b) else at_ M a b)
    (fun j N hj ⟨h1, h2, h3⟩ => by
      obtain ⟨h4, h5⟩ := g28_ok hq hi hj h1 h2
      refine ⟨h4, h5, fun a b ha hb => ?_⟩
      unfold g28
      rw [put_at h1 hi hj]
      have e1 : at_ N i q = at_ M i q := by
        rw [h3 i q hi hq]
        split
        · rw [h0 q hq]; omega
        · rfl
      have e2 : at_ N q j = at_ M q j := by
        rw [h3 q j hq hj]
        split
        · rename_i h; omega
        · rfl
      have e3 : at_ N i j = at_ M i j := by rw [h3 i j hi hj, if_neg (by omega)]
      by_cases hab : a = i ∧ b = j
      · obtain ⟨rfl, rfl⟩ := hab
        rw [if_pos ⟨rfl, rfl⟩, e1, e2, e3, if_pos (show a = a ∧ b < b + 1 from ⟨rfl, by omega⟩)]
        split <;> omega
      · rw [if_neg hab, h3 a b ha hb]
        by_cases hc : a = i ∧ b < j
        · rw [if_pos hc, if_pos ⟨hc.1, by omega⟩]
        · rw [if_neg hc, if_neg (by omega)])
    n 0 M (by omega) ⟨hM, hB, fun a b _ _ => by rw [if_neg (by omega)]⟩
  intro a b ha hb
  have h := this.2.2 a b ha hb
  unfold g25
  rw [h]
  by_cases e : a = i
  · rw [if_pos ⟨e, hb⟩, if_pos e]
  · rw [if_neg (fun h => e h.1), if_neg e]
theorem g22_at {n q : Nat} (hq : q < n) {M : List (List Int)} (hM : Dim n M) (h0 : ∀ i, i < n → at_ M i i = 0) (hB : Bd n M) : ∀ a b, a < n → b < n → at_ (g22 n q M) a b = min (at_ M a b) (at_ M a q + at_ M q b) := by
  have := loopN_inv (g := g25 n q) (n := n) (fun i N => Dim n N ∧ Bd n N ∧ ∀ a b, a < n → b < n → at_ N a b = if a < i then min (at_ M a b) (at_ M a q + at_ M q b) else at_ M a b)
    (fun i N hi ⟨h1, h2, h3⟩ => by
      obtain ⟨h4, h5⟩ := g25_ok hq hi h1 h2
      have d0 : ∀ x, x < n → at_ N x x = 0 := fun x hx => by
        rw [h3 x x hx hx, h0 x hx]
        have := hB x q hx hq; have := hB q x hq hx
        split <;> omega
      refine ⟨h4, h5, fun a b ha hb => ?_⟩
      rw [g25_at hq hi h1 d0 h2 a b ha hb]
      have e2 : at_ N q b = at_ M q b := by
        rw [h3 q b hq hb]
        split
        · rw [h0 q hq]; have := hB q b hq hb; omega
        · rfl
      by_cases e : a = i
      · subst e
        rw [if_pos rfl, if_pos (by omega), e2, h3 a b ha hb, if_neg (by omega), h3 a q ha hq, if_neg (by omega)]
      · rw [if_neg e, h3 a b ha hb]
        by_cases hc : a < i
        · rw [if_pos hc, if_pos (by omega)]
        · rw [if_neg hc, if_neg (by omega)])
    n 0 M (by omega) ⟨hM, hB, fun a b _ _ => by rw [if_neg (by omega)]⟩
  intro a b ha hb
  have h := this.2.2 a b ha hb
  unfold g22
  rw [h, if_pos ha]
/-- All rounds: the distances. -/
theorem fw_all {es : List S146} {n : Nat} {M : List (List Int)} (h : FW es n M) (hc : ∀ a b c, Arc es a b c → 1 ≤ c) : FW es n (loopN (g22 n) n 0 M) ∧ ∀ q, q < n → Tri n q (loopN (g22 n) n 0 M) := by
  have := loopN_inv (g := g22 n) (n := n) (fun q N => FW es n N ∧ ∀ q', q' < q → q' < n → Tri n q' N)
    (fun q N hq ⟨h1, h2⟩ => by
      have hB : Bd n N := fun i j hi hj => ⟨h1.nn i j hi hj, h1.le i j hi hj⟩
      obtain ⟨g1, g2, g3⟩ := fw_step hq h1 (g22_ok hq h1.dim hB).1 (g22_at hq h1.dim h1.dg hB) (fun a b c h => by have := hc a b c h; omega)
      refine ⟨g1, fun q' hq' hqn => ?_⟩
      by_cases e : q' = q
      · subst e; exact g2
      · exact g3 q' hqn (h2 q' (by omega) hqn))
    n 0 M (by omega) ⟨h, fun q' hq' => absurd hq' (Nat.not_lt_zero _)⟩
  exact ⟨this.1, fun q hq => this.2 q hq hq⟩
theorem g16_dim {n : Nat} {e : S146} {M : List (List Int)} (h : Dim n M) : Dim n (g16 e M) := by
  unfold g16; split
  · exact put_dim (put_dim h _ _ _) _ _ _
  · exact h
structure Told (es pre : List S146) (n : Nat) (M : List (List Int)) : Prop where
  dim : Dim n M
  dg : ∀ i, i < n → at_ M i i = 0
  off : ∀ i j, i < n → j < n → i ≠ j → at_ M i j = 16 ∨ Arc es i j (at_ M i j)
  ed : ∀ a b c, a < n → b < n → Arc pre a b c → at_ M a b = c
theorem told_next {es pre : List S146} {n : Nat} {M : List (List Int)} {x : S146} (h : Told es pre n M) (hx : eo n x) (hm : x ∈ es) (hd : pre.any (conn x.f0 x.f1) = false) : Told es (pre ++ [x]) n (g16 x M) := by
  obtain ⟨⟨a0, a1⟩, ⟨b0, b1⟩, hab, _⟩ := hx
  have old : ∀ {a b c}, Arc (pre ++ [x]) a b c → Arc pre a b c ∨ (x.f3 = true ∧ x.f2 = c ∧ ((x.f0 = (a : Int) ∧ x.f1 = (b : Int)) ∨ (x.f0 = (b : Int) ∧ x.f1 = (a : Int)))) := fun ⟨e, he, h1⟩ => by
    rcases List.mem_append.1 he with he | he
    · exact .inl ⟨e, he, h1⟩
    · simp at he; subst he; exact .inr h1
  have cf : ∀ {a b c}, Arc pre a b c → ¬ ((x.f0 = (a : Int) ∧ x.f1 = (b : Int)) ∨ (x.f0 = (b : Int) ∧ x.f1 = (a : Int))) := fun ⟨e, he, _, _, h2⟩ h3 => by
    have := List.any_eq_false.1 hd e he
    apply this
    simp only [conn, Bool.or_eq_true, Bool.and_eq_true, decide_eq_true_eq]
    rcases h2 with ⟨p1, p2⟩ | ⟨p1, p2⟩ <;> rcases h3 with ⟨q1, q2⟩ | ⟨q1, q2⟩
    · left; constructor <;> omega
    · right; constructor <;> omega
    · right; constructor <;> omega
    · left; constructor <;> omega
  by_cases hu : x.f3 = true
  · have hA : Int.toNat x.f0 < n := by omega
    have hB : Int.toNat x.f1 < n := by omega
    have hne : Int.toNat x.f0 ≠ Int.toNat x.f1 := by omega
    have hg : g16 x M = put_ (put_ M (Int.toNat x.f0) (Int.toNat x.f1) x.f2) (Int.toNat x.f1) (Int.toNat x.f0) x.f2 := by simp [g16, hu]
    have key : ∀ i j, at_ (g16 x M) i j = if (i = Int.toNat x.f1 ∧ j = Int.toNat x.f0) ∨ (i = Int.toNat x.f0 ∧ j = Int.toNat x.f1) then x.f2 else at_ M i j := fun i j => by
      rw [hg, put_at (put_dim h.dim _ _ _) hB hA, put_at h.dim hA hB]
      by_cases h1 : i = Int.toNat x.f1 ∧ j = Int.toNat x.f0
      · rw [if_pos h1, if_pos (.inl h1)]
      · rw [if_neg h1]
        by_cases h2 : i = Int.toNat x.f0 ∧ j = Int.toNat x.f1
        · rw [if_pos h2, if_pos (.inr h2)]
        · rw [if_neg h2, if_neg (fun h => h.elim h1 h2)]
    refine ⟨g16_dim h.dim, fun i hi => ?_, fun i j hi hj hij => ?_, fun a b c ha hb hab' => ?_⟩
    · rw [key, if_neg (by omega)]; exact h.dg i hi
    · rw [key]
      split
      · rename_i hc
        refine .inr ⟨x, hm, hu, rfl, ?_⟩
        rcases hc with ⟨q1, q2⟩ | ⟨q1, q2⟩
        · right; constructor <;> omega
        · left; constructor <;> omega
      · exact h.off i j hi hj hij
    · rw [key]
      rcases old hab' with h1 | ⟨_, rfl, h1⟩
      · have := cf h1
        rw [if_neg (fun hc => this (by rcases hc with ⟨q1, q2⟩ | ⟨q1, q2⟩; (right; constructor <;> omega); (left; constructor <;> omega)))]
        exact h.ed a b c ha hb h1
      · rw [if_pos (by rcases h1 with ⟨q1, q2⟩ | ⟨q1, q2⟩; (right; constructor <;> omega); (left; constructor <;> omega))]
  · have hg : g16 x M = M := by simp [g16, hu]
    rw [hg]
    refine ⟨h.dim, h.dg, h.off, fun a b c ha hb hab' => ?_⟩
    rcases old hab' with h1 | ⟨h1, _⟩
    · exact h.ed a b c ha hb h1
    · exact absurd h1 hu
theorem told_all {es : List S146} {n : Nat} : ∀ (rest pre : List S146) (M : List (List Int)), (∀ x ∈ rest, x ∈ es) → gE n pre rest = true → Told es pre n M → Told es (pre ++ rest) n (rest.foldl (fun M e => g16 e M) M)
  | [], pre, M, hm, hg, h => by simpa using h
  | x :: rest, pre, M, hm, hg, h => by
    simp only [gE, Bool.and_eq_true, decide_eq_true_eq, Bool.not_eq_true'] at hg
    obtain ⟨h1, h2, h3⟩ := hg
    have := told_all rest (pre ++ [x]) (g16 x M) (fun y hy => hm y (List.mem_cons_of_mem _ hy)) h3 (told_next h h1 (hm x List.mem_cons_self) h2)
    simpa using this
theorem arc_cost {es : List S146} {n : Int} (hE : ∀ e ∈ es, eo n e) : ∀ a b c, Arc es a b c → 1 ≤ c ∧ c ≤ 16 := fun a b c ⟨e, he, _, hc, _⟩ => by
  obtain ⟨_, _, _, h1, h2⟩ := hE e he
  omega
theorem fw_ini {es : List S146} {n : Nat} {M : List (List Int)} (hE : ∀ e ∈ es, eo n e) (hg : gE n [] es = true) (h : Ini n M) : FW es n (es.foldl (fun M e => g16 e M) M) := by
  have h0 : Told es [] n M := ⟨h.1, fun i hi => by rw [h.2 i i hi hi, if_pos rfl], fun i j hi hj hij => .inl (by rw [h.2 i j hi hj, if_neg hij]), fun a b c _ _ ⟨e, he, _⟩ => by cases he⟩
  have ht := told_all es [] M (fun x hx => hx) hg h0
  rw [List.nil_append] at ht
  have off : ∀ i j, i < n → j < n → i ≠ j → 1 ≤ at_ (es.foldl (fun M e => g16 e M) M) i j ∧ at_ (es.foldl (fun M e => g16 e M) M) i j ≤ 16 := fun i j hi hj hij => by
    rcases ht.off i j hi hj hij with h1 | h1
    · omega
    · exact arc_cost hE _ _ _ h1
  refine ⟨ht.dim, ht.dg, fun i j hi hj => ?_, fun i j hi hj => ?_, fun a b c ha hb hab => by rw [ht.ed a b c ha hb hab]; exact Int.le_refl _, fun i j hi hj hij hlt => ?_⟩
  · by_cases e : i = j
    · subst e; rw [ht.dg i hi]; exact Int.le_refl _
    · have := off i j hi hj e; omega
  · by_cases e : i = j
    · subst e; rw [ht.dg i hi]; omega
    · exact (off i j hi hj e).2
  · rcases ht.off i j hi hj hij with h1 | h1
    · omega
    · exact ⟨j, _, hj, h1, by rw [ht.dg j hj]; omega⟩
/-! the reference's rounds -/
def g19 (e : S146) (d : Nat) (M : List (List Int)) : List (List Int) :=
  let a := Int.toNat e.f0; let b := Int.toNat e.f1
  let N := put_ M a d (if at_ M b d + e.f2 < at_ M a d then at_ M b d + e.f2 else at_ M a d)
  put_ N b d (if at_ N a d + e.f2 < at_ N b d then at_ N a d + e.f2 else at_ N b d)
theorem g19_ok {n : Nat} {e : S146} (he : eo n e) {d : Nat} (hd : d < n) {M : List (List Int)} (hM : Dim n M) (hB : Bd n M) :
    Dim n (g19 e d M) ∧ Bd n (g19 e d M) ∧ (∀ i j, i < n → j < n → at_ (g19 e d M) i j ≤ at_ M i j) ∧
      (∀ x y : Nat, e.f0 = x → e.f1 = y → at_ (g19 e d M) x d ≤ at_ M y d + e.f2 ∧ at_ (g19 e d M) y d ≤ at_ M x d + e.f2) ∧
      ∀ D : List (List Int), (∀ i j, i < n → j < n → at_ D i j ≤ at_ M i j) → (∀ x y : Nat, e.f0 = x → e.f1 = y → ∀ j, j < n → at_ D x j ≤ at_ D y j + e.f2 ∧ at_ D y j ≤ at_ D x j + e.f2) → ∀ i j, i < n → j < n → at_ D i j ≤ at_ (g19 e d M) i j := by
  obtain ⟨⟨a0, a1⟩, ⟨b0, b1⟩, hab, c0, c1⟩ := he
  have hA : Int.toNat e.f0 < n := by omega
  have hBn : Int.toNat e.f1 < n := by omega
  have hne : Int.toNat e.f0 ≠ Int.toNat e.f1 := by omega
  have hN := put_dim hM (Int.toNat e.f0) d (if at_ M (Int.toNat e.f1) d + e.f2 < at_ M (Int.toNat e.f0) d then at_ M (Int.toNat e.f1) d + e.f2 else at_ M (Int.toNat e.f0) d)
  have k1 := hB _ _ hA hd
  have k2 := hB _ _ hBn hd
  have key : ∀ i j, at_ (g19 e d M) i j = if i = Int.toNat e.f1 ∧ j = d then (min (at_ M (Int.toNat e.f1) d) (min (at_ M (Int.toNat e.f0) d) (at_ M (Int.toNat e.f1) d + e.f2) + e.f2)) else if i = Int.toNat e.f0 ∧ j = d then min (at_ M (Int.toNat e.f0) d) (at_ M (Int.toNat e.f1) d + e.f2) else at_ M i j := fun i j => by
    simp only [g19]
    rw [put_at hN hBn hd, put_at hM hA hd, put_at hM hA hd, put_at hM hA hd, if_pos (⟨rfl, rfl⟩ : Int.toNat e.f0 = Int.toNat e.f0 ∧ d = d), if_neg (fun h : Int.toNat e.f1 = Int.toNat e.f0 ∧ d = d => hne h.1.symm)]
    by_cases h1 : i = Int.toNat e.f1 ∧ j = d
    · rw [if_pos h1, if_pos h1]; repeat' split
      all_goals omega
    · rw [if_neg h1, if_neg h1]
      by_cases h2 : i = Int.toNat e.f0 ∧ j = d
      · rw [if_pos h2, if_pos h2]; split <;> omega
      · rw [if_neg h2, if_neg h2]
  refine ⟨put_dim (put_dim hM _ _ _) _ _ _, fun i j hi hj => ?_, fun i j hi hj => ?_, fun x y hx hy => ?_, fun D h1 h2 i j hi hj => ?_⟩
  · rw [key]; have := hB i j hi hj
    repeat' split
    all_goals omega
  · rw [key]
    split
    · rename_i h; rw [h.1, h.2]; omega
    · split
      · rename_i h; rw [h.1, h.2]; omega
      · exact Int.le_refl _
  · have ex : Int.toNat e.f0 = x := by omega
    have ey : Int.toNat e.f1 = y := by omega
    rw [key, key, ex, ey]
    rw [ex, ey] at hne
    rw [ex] at k1
    rw [ey] at k2
    rw [if_neg (fun h => hne h.1), if_pos (⟨rfl, rfl⟩ : x = x ∧ d = d), if_pos (⟨rfl, rfl⟩ : y = y ∧ d = d)]
    omega
  · have q := h2 (Int.toNat e.f0) (Int.toNat e.f1) (by omega) (by omega) d hd
    have r1 := h1 _ _ hA hd
    have r2 := h1 _ _ hBn hd
    rw [key]
    split
    · rename_i h; rw [h.1, h.2]; omega
    · split
      · rename_i h; rw [h.1, h.2]; omega
      · exact h1 i j hi hj
def iniRow (r m : Nat) : List Int := (List.range m).map fun d => if r = d then 0 else 16
theorem iniRow_succ (r d : Nat) : iniRow r (d + 1) = iniRow r d ++ [if r = d then 0 else 16] := by simp [iniRow, List.range_succ]
theorem self_run (k r d : Nat) : f105 k (r : Int) (d : Int) = some (if r = d then (0, (r : Int), 0) else (16, -1, 0)) := by
  by_cases h : r = d
  · subst h; simp [f105, f105.step]
  · have h' : ¬ (r : Int) = (d : Int) := by omega
    simp [f105, f105.step, h, h']
theorem l7_run (k n r : Nat) (hn : n ≤ 1000) (es : List S146) (ts : List (List S142)) (M : List (List Int)) : ∀ (t d j : Nat), d + t = n → t < j →
    f138.l7 k j (r : Int) (d : Int) es ts (n : Int) M (iniRow r d) = some ((r : Int), es, ts, (n : Int), M, iniRow r n)
  | t, d, 0, e, hj => by omega
  | 0, d, j + 1, e, hj => by
    have h1 : ¬ (d : Int) < (n : Int) := by omega
    rw [show n = d by omega] at h1 ⊢
    simp only [f138.l7, f138.l7.step, h1, decide_false]; rfl
  | t + 1, d, j + 1, e, hj => by
    have h1 : (d : Int) < (n : Int) := by omega
    have hl : (iniRow r d).length = d := by simp [iniRow]
    have h2 : (d + 1) * 8 ≤ maxN := by have : maxN = 140737488351232 := rfl; omega
    have ih := l7_run k n r hn es ts M t (d + 1) j (by omega) (by omega)
    rw [iniRow_succ] at ih
    simp only [f138.l7, f138.l7.step, h1, decide_true, if_true, self_run, Option.bind_some, hl, List.length_singleton, h2, wn1 hn (show d < n by omega)]
    by_cases h : r = d
    · subst h; simpa using ih
    · simp only [h, if_false] at ih ⊢; exact ih
def iniM (n m : Nat) : List (List Int) := (List.range m).map fun r => iniRow r n
theorem iniM_succ (n r : Nat) : iniM n (r + 1) = iniM n r ++ [iniRow r n] := by simp [iniM, List.range_succ]
theorem l3_run (k n : Nat) (hK : 2097152 ≤ k) (hn : n ≤ 1000) (es : List S146) (ts : List (List S142)) : ∀ (t r j : Nat), r + t = n → t < j →
    f138.l3 k j (r : Int) es ts (n : Int) (iniM n r) = some (es, ts, (n : Int), iniM n n)
  | t, r, 0, e, hj => by omega
  | 0, r, j + 1, e, hj => by
    have h1 : ¬ (r : Int) < (n : Int) := by omega
    rw [show r = n by omega] at h1 ⊢
    simp only [f138.l3, f138.l3.step, h1, decide_false]; rfl
  | t + 1, r, j + 1, e, hj => by
    have h1 : (r : Int) < (n : Int) := by omega
    have hl : (iniM n r).length = r := by simp [iniM]
    have h2 : (r + 1) * 24 ≤ maxN := by have : maxN = 140737488351232 := rfl; omega
    have e7 : f138.l7 k k (r : Int) 0 es ts (n : Int) (iniM n r) [] = some ((r : Int), es, ts, (n : Int), iniM n r, iniRow r n) := l7_run k n r hn es ts (iniM n r) n 0 k (by omega) (by omega)
    have ih := l3_run k n hK hn es ts t (r + 1) j (by omega) (by omega)
    rw [iniM_succ] at ih
    simp only [f138.l3, f138.l3.step, h1, decide_true, if_true, e7, Option.bind_some, hl, List.length_singleton, h2, wn1 hn (show r < n by omega)]
    exact ih
theorem ini_spec (n : Nat) : Ini n (iniM n n) := by
  have hr : ∀ i, i < n → List.getD (iniM n n) i [] = iniRow i n := fun i hi => by simp [iniM, List.getD_eq_getElem?_getD, hi]
  refine ⟨⟨by simp [iniM], fun i hi => by rw [hr i hi]; simp [iniRow]⟩, fun i j hi hj => ?_⟩
  unfold at_
  rw [hr i hi]
  simp [iniRow, List.getD_eq_getElem?_getD, hj]
theorem l19_run (k n : Nat) (hn : n ≤ 1000) (x : S146) (hx : eo n x) (hu : x.f3 = true) (a b : Int) (es : List S146) (ts : List (List S142)) : ∀ (t d j : Nat) (M : List (List Int)), d + t = n → t < j → Dim n M → Bd n M →
    f138.l19 k j a b (d : Int) es ts (n : Int) M x.f0 x.f1 x.f2 x.f3 = some (a, b, es, ts, (n : Int), loopN (g19 x) t d M)
  | t, d, 0, M, e, hj, hM, hB => by omega
  | 0, d, j + 1, M, e, hj, hM, hB => by
    have h1 : ¬ (d : Int) < (n : Int) := by omega
    simp only [f138.l19, f138.l19.step, hu, h1, decide_false, if_true, loopN]; rfl
  | t + 1, d, j + 1, M, e, hj, hM, hB => by
    have hd : d < n := by omega
    obtain ⟨hM', hB', _⟩ := g19_ok hx hd hM hB
    have ih := l19_run k n hn x hx hu a b es ts t (d + 1) j _ (by omega) (by omega) hM' hB'
    have h1 : (d : Int) < (n : Int) := by omega
    obtain ⟨⟨a0, a1⟩, ⟨b0, b1⟩, hab, c0, c1⟩ := hx
    have p3 : (0 : Int) ≤ (d : Int) := by omega
    have hA : Int.toNat x.f0 < n := by omega
    have hBn : Int.toNat x.f1 < n := by omega
    have l1 : x.f0 < ((M.length : Nat) : Int) := by rw [hM.1]; omega
    have l2 : x.f1 < ((M.length : Nat) : Int) := by rw [hM.1]; omega
    have r0 := hM.2 _ hA
    have r1 := hM.2 _ hBn
    have s1 : (d : Int) < (((List.getD M (Int.toNat x.f0) []).length : Nat) : Int) := by rw [r0]; omega
    have s2 : d < (List.getD M (Int.toNat x.f0) []).length := by rw [r0]; omega
    have s3 : (d : Int) < (((List.getD M (Int.toNat x.f1) []).length : Nat) : Int) := by rw [r1]; omega
    have s4 : d < (List.getD M (Int.toNat x.f1) []).length := by rw [r1]; omega
    have k1 := hB _ _ hA hd
    have k2 := hB _ _ hBn hd
    have hw1 : IntKind.i64.wrap (List.getD (List.getD M (Int.toNat x.f1) []) d 0 + x.f2) = at_ M (Int.toNat x.f1) d + x.f2 := w64 (by unfold at_ at k2; omega) (by unfold at_ at k2; omega)
    let N := put_ M (Int.toNat x.f0) d (if at_ M (Int.toNat x.f1) d + x.f2 < at_ M (Int.toNat x.f0) d then at_ M (Int.toNat x.f1) d + x.f2 else at_ M (Int.toNat x.f0) d)
    have hN : M.set (Int.toNat x.f0) ((List.getD M (Int.toNat x.f0) []).set d (if at_ M (Int.toNat x.f1) d + x.f2 < at_ M (Int.toNat x.f0) d then at_ M (Int.toNat x.f1) d + x.f2 else at_ M (Int.toNat x.f0) d)) = N := rfl
    have hND : Dim n N := put_dim hM _ _ _
    have hNA : at_ N (Int.toNat x.f0) d = if at_ M (Int.toNat x.f1) d + x.f2 < at_ M (Int.toNat x.f0) d then at_ M (Int.toNat x.f1) d + x.f2 else at_ M (Int.toNat x.f0) d := by
      show at_ (put_ M _ _ _) _ _ = _
      rw [put_at hM hA hd, if_pos ⟨rfl, rfl⟩]
    have r2 := hND.2 _ hA
    have r3 := hND.2 _ hBn
    have t1 : x.f0 < ((N.length : Nat) : Int) := by rw [hND.1]; omega
    have t2 : x.f1 < ((N.length : Nat) : Int) := by rw [hND.1]; omega
    have t3 : (d : Int) < (((List.getD N (Int.toNat x.f0) []).length : Nat) : Int) := by rw [r2]; omega
    have t4 : d < (List.getD N (Int.toNat x.f0) []).length := by rw [r2]; omega
    have t5 : (d : Int) < (((List.getD N (Int.toNat x.f1) []).length : Nat) : Int) := by rw [r3]; omega
    have t6 : d < (List.getD N (Int.toNat x.f1) []).length := by rw [r3]; omega
    have hw2 : IntKind.i64.wrap (List.getD (List.getD N (Int.toNat x.f0) []) d 0 + x.f2) = at_ N (Int.toNat x.f0) d + x.f2 := by
      have : 0 ≤ at_ N (Int.toNat x.f0) d ∧ at_ N (Int.toNat x.f0) d ≤ 16 := by rw [hNA]; split <;> omega
      exact w64 (by unfold at_ at this; omega) (by unfold at_ at this; omega)
    have e0 : List.getD (List.getD M (Int.toNat x.f0) []) d 0 = at_ M (Int.toNat x.f0) d := rfl
    have e1 : List.getD (List.getD N (Int.toNat x.f1) []) d 0 = at_ N (Int.toNat x.f1) d := rfl
    simp only [f138.l19, f138.l19.step, hu, h1, decide_true, if_true, a0, b0, p3, l1, l2, Int.toNat_natCast, s1, s2, s3, s4, hw1, e0, hN, t1, t2, t3, t4, t5, t6, hw2, e1, wn1 hn hd]
    rw [hu] at ih
    exact ih
def gEd (n : Nat) (x : S146) (M : List (List Int)) : List (List Int) := if x.f3 = true then loopN (g19 x) n 0 M else M
theorem gEd_ok {n : Nat} {x : S146} (hx : eo n x) {M : List (List Int)} (hM : Dim n M) (hB : Bd n M) :
    Dim n (gEd n x M) ∧ Bd n (gEd n x M) ∧ (∀ i j, i < n → j < n → at_ (gEd n x M) i j ≤ at_ M i j) ∧
      (x.f3 = true → ∀ p q : Nat, x.f0 = p → x.f1 = q → ∀ d, d < n → at_ (gEd n x M) p d ≤ at_ M q d + x.f2 ∧ at_ (gEd n x M) q d ≤ at_ M p d + x.f2) ∧
      ∀ D : List (List Int), (∀ i j, i < n → j < n → at_ D i j ≤ at_ M i j) → (x.f3 = true → ∀ p q : Nat, x.f0 = p → x.f1 = q → ∀ j, j < n → at_ D p j ≤ at_ D q j + x.f2 ∧ at_ D q j ≤ at_ D p j + x.f2) → ∀ i j, i < n → j < n → at_ D i j ≤ at_ (gEd n x M) i j := by
  unfold gEd
  by_cases hu : x.f3 = true
  case neg => rw [if_neg hu]; exact ⟨hM, hB, fun _ _ _ _ => Int.le_refl _, fun h => absurd h hu, fun D h _ => h⟩
  rw [if_pos hu]
  have hx0 := hx
  obtain ⟨⟨a0, a1⟩, ⟨b0, b1⟩, hab, c0, c1⟩ := hx0
  have := loopN_inv (g := g19 x) (n := n) (fun d N => Dim n N ∧ Bd n N ∧ (∀ i j, i < n → j < n → at_ N i j ≤ at_ M i j) ∧
      (∀ p q : Nat, x.f0 = p → x.f1 = q → ∀ d', d' < d → at_ N p d' ≤ at_ M q d' + x.f2 ∧ at_ N q d' ≤ at_ M p d' + x.f2) ∧
      ∀ D : List (List Int), (∀ i j, i < n → j < n → at_ D i j ≤ at_ M i j) → (∀ p q : Nat, x.f0 = p → x.f1 = q → ∀ j, j < n → at_ D p j ≤ at_ D q j + x.f2 ∧ at_ D q j ≤ at_ D p j + x.f2) → ∀ i j, i < n → j < n → at_ D i j ≤ at_ N i j)
    (fun d N hd ⟨h1, h2, h3, h4, h5⟩ => by
      obtain ⟨g1, g2, g3, g4, g5⟩ := g19_ok hx hd h1 h2
      refine ⟨g1, g2, fun i j hi hj => Int.le_trans (g3 i j hi hj) (h3 i j hi hj), fun p q hp hq d' hd' => ?_, fun D q1 q2 => g5 D (h5 D q1 q2) q2⟩
      have hpn : p < n := by omega
      have hqn : q < n := by omega
      by_cases e : d' = d
      · subst e
        obtain ⟨r1, r2⟩ := g4 p q hp hq
        have := h3 q d' hqn hd; have := h3 p d' hpn hd
        omega
      · obtain ⟨r1, r2⟩ := h4 p q hp hq d' (by omega)
        have := g3 p d' hpn (by omega); have := g3 q d' hqn (by omega)
        omega)
    n 0 M (by omega) ⟨hM, hB, fun _ _ _ _ => Int.le_refl _, fun _ _ _ _ d' hd' => absurd hd' (Nat.not_lt_zero _), fun D h _ => h⟩
  exact ⟨this.1, this.2.1, this.2.2.1, fun _ => this.2.2.2.1, fun D h1 h2 => this.2.2.2.2 D h1 (h2 hu)⟩
theorem l15_run (k n : Nat) (hK : 2097152 ≤ k) (hn : n ≤ 5) (a : Int) (es : List S146) (ts : List (List S142)) (hel : es.length ≤ 1000) : ∀ (rest pre : List S146) (j : Nat) (M : List (List Int)), es = pre ++ rest → rest.length < j → (∀ e ∈ rest, eo n e) → Dim n M → Bd n M →
    f138.l15 k j a (pre.length : Int) es ts (n : Int) M = some (a, es, ts, (n : Int), rest.foldl (fun M x => gEd n x M) M)
  | rest, pre, 0, M, e, hj, he, hM, hB => by omega
  | [], pre, j + 1, M, e, hj, he, hM, hB => by
    subst e
    have h1 : ¬ (pre.length : Int) < (((pre ++ []).length : Nat) : Int) := by simp
    simp only [f138.l15, f138.l15.step, h1, decide_false, List.foldl_nil]; rfl
  | x :: rest, pre, j + 1, M, e, hj, he, hM, hB => by
    have h1 : (pre.length : Int) < ((es.length : Nat) : Int) := by subst e; exact lt_mid _ _ _
    have h2 : (0 : Int) ≤ (pre.length : Int) := by omega
    have hg : List.getD es (Int.toNat (pre.length : Int)) (⟨(0 : Int), (0 : Int), (0 : Int), false⟩ : S146) = x := by subst e; exact gm _ _ _ _
    have hx := he x List.mem_cons_self
    obtain ⟨hM', hB', _⟩ := gEd_ok hx hM hB
    have ih := l15_run k n hK hn a es ts hel rest (pre ++ [x]) j (gEd n x M) (by rw [e]; simp) (by simp at hj; omega) (fun y hy => he y (List.mem_cons_of_mem _ hy)) hM' hB'
    have hel' : es.length = pre.length + (x :: rest).length := by rw [e]; simp
    have hw : IntKind.i64.wrap ((pre.length : Int) + 1) = ((pre ++ [x]).length : Int) := wnext _ _ (by omega)
    have e19 : f138.l19 k k a (pre.length : Int) 0 es ts (n : Int) M x.f0 x.f1 x.f2 x.f3 = some (a, (pre.length : Int), es, ts, (n : Int), gEd n x M) := by
      by_cases hu : x.f3 = true
      · have := l19_run k n (by omega) x hx hu a (pre.length : Int) es ts n 0 k M (by omega) (by omega) hM hB
        unfold gEd; rw [if_pos hu]; exact this
      · obtain ⟨k', rfl⟩ : ∃ k', k = k' + 1 := ⟨k - 1, by omega⟩
        unfold gEd; rw [if_neg hu]
        simp only [f138.l19, f138.l19.step, hu]; rfl
    simp only [f138.l15, f138.l15.step, h1, h2, hg, decide_true, if_true, e19, Option.bind_some, hw, List.foldl_cons]
    exact ih
def gRd (n : Nat) (es : List S146) (_ : Nat) (M : List (List Int)) : List (List Int) := es.foldl (fun M x => gEd n x M) M
/-- A round over all edges. -/
theorem rd_ok {es : List S146} {n : Nat} {D : List (List Int)} {r : Nat} (hD : FW es n D) (hT : ∀ q, q < n → Tri n q D) (hE : ∀ e ∈ es, eo n e) : ∀ (rest pre : List S146) (M : List (List Int)), es = pre ++ rest → Dim n M → Bd n M → BF es n D M r → (∀ i, i < n → at_ M i i ≤ 0) →
    (∀ a b c d, a < n → b < n → d < n → Arc pre a b c → rank n D b d ≤ r → at_ M a d ≤ at_ D b d + c) →
    Dim n (rest.foldl (fun M x => gEd n x M) M) ∧ Bd n (rest.foldl (fun M x => gEd n x M) M) ∧ BF es n D (rest.foldl (fun M x => gEd n x M) M) r ∧ (∀ i, i < n → at_ (rest.foldl (fun M x => gEd n x M) M) i i ≤ 0) ∧
    (∀ a b c d, a < n → b < n → d < n → Arc es a b c → rank n D b d ≤ r → at_ (rest.foldl (fun M x => gEd n x M) M) a d ≤ at_ D b d + c)
  | [], pre, M, e, hM, hB, h, h0, hd => ⟨hM, hB, h, h0, fun a b c d ha hb hdn hab hr => hd a b c d ha hb hdn (by rw [e] at hab; simpa using hab) hr⟩
  | x :: rest, pre, M, e, hM, hB, h, h0, hd => by
    have hm : x ∈ es := by rw [e]; simp
    have hx := hE x hm
    obtain ⟨g1, g2, g3, g4, g5⟩ := gEd_ok hx hM hB
    have hx0 := hx
    obtain ⟨⟨a0, a1⟩, ⟨b0, b1⟩, hab, c0, c1⟩ := hx0
    have hDx : x.f3 = true → ∀ p q : Nat, x.f0 = p → x.f1 = q → ∀ j, j < n → at_ D p j ≤ at_ D q j + x.f2 ∧ at_ D q j ≤ at_ D p j + x.f2 := fun hu p q hp hq j hj => by
      have hpn : p < n := by omega
      have hqn : q < n := by omega
      have q1 := hT q hqn p j hpn hj
      have q2 := hT p hpn q j hqn hj
      have q3 := hD.ed p q x.f2 hpn hqn ⟨x, hm, hu, rfl, .inl ⟨hp, hq⟩⟩
      have q4 := hD.ed q p x.f2 hqn hpn ⟨x, hm, hu, rfl, .inr ⟨hp, hq⟩⟩
      omega
    refine rd_ok hD hT hE rest (pre ++ [x]) (gEd n x M) (by rw [e]; simp) g1 g2 ⟨g1, g5 D h.ge hDx, fun i j hi hj => Int.le_trans (g3 i j hi hj) (h.le i j hi hj), fun i j hi hj hr => Int.le_trans (g3 i j hi hj) (h.up i j hi hj hr)⟩ (fun i hi => Int.le_trans (g3 i i hi hi) (h0 i hi)) (fun a b c d ha hb hdn hab hr => ?_)
    obtain ⟨y, hy, hu, hc, hyab⟩ := hab
    rcases List.mem_append.1 hy with hy | hy
    · exact Int.le_trans (g3 a d ha hdn) (hd a b c d ha hb hdn ⟨y, hy, hu, hc, hyab⟩ hr)
    · simp at hy
      subst hy
      have := h.up b d hb hdn hr
      rcases hyab with ⟨p1, p2⟩ | ⟨p1, p2⟩
      · have := (g4 hu a b p1 p2 d hdn).1; omega
      · have := (g4 hu b a p1 p2 d hdn).2; omega
theorem l12_run (k n : Nat) (hK : 2097152 ≤ k) (hn : n ≤ 5) (es : List S146) (ts : List (List S142)) (hel : es.length ≤ 1000) (hE : ∀ e ∈ es, eo n e) : ∀ (t r j : Nat) (M : List (List Int)), r + t = n → t < j → Dim n M → Bd n M →
    f138.l12 k j (r : Int) es ts (n : Int) M = some (loopN (gRd n es) t r M)
  | t, r, 0, M, e, hj, hM, hB => by omega
  | 0, r, j + 1, M, e, hj, hM, hB => by
    have h1 : ¬ (r : Int) < (n : Int) := by omega
    simp only [f138.l12, f138.l12.step, h1, decide_false, loopN]; rfl
  | t + 1, r, j + 1, M, e, hj, hM, hB => by
    have hr : r < n := by omega
    have fold : ∀ (l : List S146) (N : List (List Int)), (∀ x ∈ l, eo n x) → Dim n N → Bd n N → Dim n (l.foldl (fun M x => gEd n x M) N) ∧ Bd n (l.foldl (fun M x => gEd n x M) N) := by
      intro l
      induction l with
      | nil => intro N _ h1 h2; exact ⟨h1, h2⟩
      | cons x l ih =>
        intro N hx h1 h2
        obtain ⟨g1, g2, _⟩ := gEd_ok (hx x List.mem_cons_self) h1 h2
        exact ih _ (fun y hy => hx y (List.mem_cons_of_mem _ hy)) g1 g2
    obtain ⟨hM', hB'⟩ := fold es M hE hM hB
    have ih := l12_run k n hK hn es ts hel hE t (r + 1) j _ (by omega) (by omega) hM' hB'
    have h1 : (r : Int) < (n : Int) := by omega
    have e15 : f138.l15 k k (r : Int) 0 es ts (n : Int) M = some ((r : Int), es, ts, (n : Int), es.foldl (fun M x => gEd n x M) M) := l15_run k n hK hn (r : Int) es ts hel es [] k M rfl (by omega) hE hM hB
    simp only [f138.l12, f138.l12.step, h1, decide_true, if_true, e15, Option.bind_some, wn1 (show n ≤ 1000 by omega) hr]
    exact ih
/-- The reference's distances are the program's. -/
theorem same_dist {es : List S146} {n : Nat} {M0 M1 : List (List Int)} (hE : ∀ e ∈ es, eo n e) (hg : gE n [] es = true) (h0 : Ini n M0) (h1 : Ini n M1) : loopN (gRd n es) n 0 M0 = loopN (g22 n) n 0 (es.foldl (fun M e => g16 e M) M1) ∧ Dim n (loopN (gRd n es) n 0 M0) := by
  have hc := arc_cost hE
  obtain ⟨hD, hT⟩ := fw_all (fw_ini hE hg h1) (fun a b c h => (hc a b c h).1)
  generalize loopN (g22 n) n 0 (es.foldl (fun M e => g16 e M) M1) = D at hD hT ⊢
  have hB0 : Bd n M0 := fun i j hi hj => by rw [h0.2 i j hi hj]; split <;> omega
  have hge : ∀ i j, i < n → j < n → at_ D i j ≤ at_ M0 i j := fun i j hi hj => by
    rw [h0.2 i j hi hj]
    split
    · rename_i e; subst e; rw [hD.dg i hi]; exact Int.le_refl _
    · exact hD.le i j hi hj
  have z0 : ∀ i, i < n → at_ M0 i i ≤ 0 := fun i hi => by rw [h0.2 i i hi hi, if_pos rfl]; exact Int.le_refl _
  have b0 : BF es n D M0 0 := by
    refine ⟨h0.1, hge, fun i j hi hj => (hB0 i j hi hj).2, fun i j hi hj hr => ?_⟩
    by_cases hij : i = j
    · subst hij; rw [hD.dg i hi]; exact z0 i hi
    · by_cases hlt : at_ D i j < 16
      · obtain ⟨b, c, hb, hab, hle⟩ := hD.tt i j hi hj hij hlt
        have := (hc i b c hab).1
        have := rank_lt (i := i) (d := j) hb (show at_ D b j < at_ D i j by omega)
        omega
      · have := (hB0 i j hi hj).2; omega
  have := loopN_inv (g := gRd n es) (n := n) (fun r N => Dim n N ∧ Bd n N ∧ BF es n D N r ∧ ∀ i, i < n → at_ N i i ≤ 0)
    (fun r N hr ⟨q1, q2, q3, q4⟩ => by
      obtain ⟨p1, p2, p3, p4, p5⟩ := rd_ok hD hT hE es [] N rfl q1 q2 q3 q4 (fun a b c d _ _ _ ⟨e, he, _⟩ => by cases he)
      exact ⟨p1, p2, bf_next hD (fun a b c h => (hc a b c h).1) p3 p5 p4, p4⟩)
    n 0 M0 (by omega) ⟨h0.1, hB0, b0, z0⟩
  obtain ⟨q1, q2, q3, q4⟩ := this
  refine ⟨dim_ext q1 hD.dim fun i j hi hj => ?_, q1⟩
  have := q3.ge i j hi hj
  have := q3.up i j hi hj (by have := rank_n (D := D) (d := j) hi; omega)
  omega
theorem dist_ok (k : Nat) (hK : 2097152 ≤ k) (es : List S146) (ts : List (List S142)) (n : Int) (htl : ts.length ≤ 1048577) (hts : ∀ x ∈ ts, x.length ≤ 1048577) :
    (∃ c, f71 k es ts n = some ([], c) ∧ f72 k es ts n = some (.inl c)) ∨ (∃ l c, l.length ≤ 5 ∧ (∀ x ∈ l, x.length ≤ 5) ∧ f71 k es ts n = some (l, c) ∧ f72 k es ts n = some (.inr (l, c)) ∧ c = 0 ∧ (l.length : Int) = n) := by
  simp only [f71, f71.step, f72, f72.step, area_spec k hK, area_impl k hK es ts n htl hts, Option.bind_some]
  rcases Bool.eq_false_or_eq_true ((decide ((1 ≤ n ∧ n ≤ 5) ∧ es.length ≤ 8) && gE n [] es) && (decide ((ts.length : Int) = n) && (ts.all (fun x => decide ((x.length : Int) = n)) && rowsK es 0 ts))) with h | h
  case inr => rw [h]; exact .inl ⟨1, rfl, rfl⟩
  rw [h]
  right
  simp only [Bool.and_eq_true, decide_eq_true_eq] at h
  obtain ⟨⟨⟨⟨hn1, hn5⟩, hel⟩, hg⟩, _⟩ := h
  obtain ⟨m, rfl⟩ : ∃ m : Nat, n = (m : Int) := ⟨n.toNat, by omega⟩
  have hm : m ≤ 5 := by omega
  have hE := gE_mem (m : Int) es [] hg
  obtain ⟨hs, hd⟩ := same_dist hE hg (ini_spec m) (ini_impl m)
  refine ⟨loopN (gRd m es) m 0 (iniM m m), 0, by rw [hd.1]; exact hm, fun x hx => ?_, ?_, ?_, rfl, by rw [hd.1]⟩
  · obtain ⟨i, hi, rfl⟩ := List.mem_iff_getElem.1 hx
    have := hd.2 i (by rw [← hd.1]; exact hi)
    simp only [List.getD_eq_getElem?_getD, List.getElem?_eq_getElem hi, Option.getD_some] at this
    omega
  · have e3 : f138.l3 k k 0 es ts (m : Int) [] = some (es, ts, (m : Int), iniM m m) := l3_run k m hK (by omega) es ts m 0 k (by omega) (by omega)
    have e12 : f138.l12 k k 0 es ts (m : Int) (iniM m m) = some (loopN (gRd m es) m 0 (iniM m m)) := l12_run k m hK hm es ts (by omega) hE m 0 k _ (by omega) (by omega) (ini_spec m).1 (fun i j hi hj => by rw [(ini_spec m).2 i j hi hj]; split <;> omega)
    simp only [f138, f138.step, e3, e12, Option.bind_some, Bool.not_true]
    rfl
  · have hm0 : (0 : Int) ≤ (m : Int) := by omega
    have hmx : m * 24 ≤ maxN := by have : maxN = 140737488351232 := rfl; omega
    have hI := ini_impl m
    have hF := fw_ini hE hg hI
    have e5 : f72.l5 k k (m : Int) 0 es ts (m : Int) (List.replicate m []) = some (es, ts, (m : Int), loopN (g5 m) m 0 (List.replicate m [])) := l5_run k m hK (by omega) es ts m 0 k _ (by omega) (by omega) (by simp)
    have e16 : f72.l16 k k es (es.length : Int) 0 (loopN (g5 m) m 0 (List.replicate m [])) = some (es.foldl (fun M e => g16 e M) (loopN (g5 m) m 0 (List.replicate m []))) := l16_run k m hm es es [] k _ rfl (by omega) (by omega) hE hI.1
    have e22 : f72.l22 k k (m : Int) 0 (es.foldl (fun M e => g16 e M) (loopN (g5 m) m 0 (List.replicate m []))) = some (loopN (g22 m) m 0 (es.foldl (fun M e => g16 e M) (loopN (g5 m) m 0 (List.replicate m [])))) := l22_run k m hK (by omega) m 0 k _ (by omega) (by omega) hF.dim (fun i j hi hj => ⟨hF.nn i j hi hj, hF.le i j hi hj⟩)
    have hl : (es.foldl (fun M e => g16 e M) (loopN (g5 m) m 0 (List.replicate m []))).length = m := hF.dim.1
    simp only [hm0, hmx, Int.toNat_natCast, if_true, List.length_replicate, e5, e16, hl, e22, Option.bind_some, Bool.not_true, hs]
    rfl
theorem eqISS (k : Nat) (hK : 2097152 ≤ k) {xs : List (List Int)} (hl : xs.length ≤ 1048576) (hs : ∀ x ∈ xs, x.length ≤ 1048576) : f73 k xs xs = some true := by
  have loop : ∀ (rest pre : List (List Int)) (j : Nat), xs = pre ++ rest → rest.length < j → f73.l4 k j xs xs (pre.length : Int) = some (.inr ()) := by
    intro rest
    induction rest with
    | nil =>
      intro pre j e hj
      obtain ⟨j, rfl⟩ : ∃ j', j = j' + 1 := ⟨j - 1, by omega⟩
      subst e
      simp [f73.l4, f73.l4.step]
    | cons x rest ih =>
      intro pre j e hj
      obtain ⟨j, rfl⟩ : ∃ j', j = j' + 1 := ⟨j - 1, by omega⟩
      have hx : x ∈ xs := by rw [e]; simp
      have h1 : (pre.length : Int) < ((xs.length : Nat) : Int) := by subst e; exact lt_mid _ _ _
      have h2 : (0 : Int) ≤ (pre.length : Int) := by omega
      have hg : List.getD xs (Int.toNat (pre.length : Int)) [] = x := by subst e; exact gm _ _ _ _
      have hel : xs.length = pre.length + (x :: rest).length := by rw [e]; simp
      have hw : IntKind.i64.wrap ((pre.length : Int) + 1) = ((pre ++ [x]).length : Int) := wnext _ _ (by omega)
      have := ih (pre ++ [x]) j (by rw [e]; simp) (by simp at hj; omega)
      simp only [f73.l4, f73.l4.step, h1, h2, hg, decide_true, if_true, eqI k hK (hs x hx), Option.bind_some, Bool.not_true, hw]
      exact this
  have h0 : f73.l4 k k xs xs 0 = some (.inr ()) := loop xs [] k rfl (by omega)
  simp [f73, f73.step, h0]
theorem markI_any (k : Nat) (hK : 2097152 ≤ k) (xs : List Int) (hl : xs.length ≤ 1000) (a : Int) (h0 : 0 ≤ a) (h1 : a ≤ 1000000000) : ∃ ys, f26 k xs a = some (a + xs.length, ys) ∧ ys.length = xs.length ∧ f67 k ys a = some (a + xs.length) := by
  obtain ⟨ys, e1, e3, e2⟩ := markI_loop k xs [] k a (by omega) (by simp; omega) h0 (by omega)
  simp only [List.length_nil, List.nil_append] at e1
  have e1' : f26.l2 k k a 0 xs = some (a + xs.length, ys) := e1
  have e4 := heldI_loop k ys [] k a e3 (by omega) (by simp; omega) h0 (by omega)
  simp only [List.length_nil, List.nil_append] at e4
  have e4' : f67.l2 k k ys a 0 = some (.inr (a + ys.length)) := e4
  exact ⟨ys, by simp [f26, f26.step, e1'], e2, by simp [f67, f67.step, e4', e2]⟩
def HeldS (k : Nat) : Int → List (List Int) → Int → Prop
  | a, [], b => a = b
  | a, y :: ys, b => ∃ a', f67 k y a = some a' ∧ 0 ≤ a' ∧ HeldS k a' ys b
theorem markSS_loop (k : Nat) (hK : 2097152 ≤ k) : ∀ (rest pre : List (List Int)) (j : Nat) (a : Int), rest.length < j → pre.length + rest.length ≤ 1000 → (∀ x ∈ rest, x.length ≤ 1000) → 0 ≤ a → a + 1000 * rest.length ≤ 100000000 → ∃ b ys, f74.l2 k j a (pre.length : Int) (pre ++ rest) = some (b, pre ++ ys) ∧ ys.length = rest.length ∧ 0 ≤ b ∧ HeldS k a ys b := by
  intro rest
  induction rest with
  | nil =>
    intro pre j a hj hl hs h0 h1
    obtain ⟨j, rfl⟩ : ∃ j', j = j' + 1 := ⟨j - 1, by omega⟩
    simp only [f74.l2, f74.l2.step]
    rw [if_neg (fb (by simp))]
    exact ⟨a, [], by simp, rfl, h0, rfl⟩
  | cons x rest ih =>
    intro pre j a hj hl hs h0 h1
    obtain ⟨j, rfl⟩ : ∃ j', j = j' + 1 := ⟨j - 1, by omega⟩
    simp only [List.length_cons] at hj hl h1
    have hx := hs x List.mem_cons_self
    obtain ⟨zs, e1, e2, e3⟩ := markI_any k hK x hx a h0 (by omega)
    obtain ⟨b, ys, i1, i2, i3, i4⟩ := ih (pre ++ [zs]) j (a + x.length) (by omega) (by simp; omega) (fun y hy => hs y (List.mem_cons_of_mem _ hy)) (by omega) (by omega)
    simp only [List.length_append, List.length_singleton, List.append_assoc, List.singleton_append] at i1
    refine ⟨b, zs :: ys, ?_, by simp [i2], i3, a + x.length, e3, by omega, i4⟩
    simp only [f74.l2, f74.l2.step, gm, e1, Option.bind_some, set_mid]
    rw [if_pos (tb (lt_mid _ _ _)), if_pos (by omega), if_pos (lt_mid _ _ _), w64 (by omega) (by omega)]
    exact i1
theorem heldSS_loop (k : Nat) : ∀ (ys pre : List (List Int)) (j : Nat) (a b : Int), HeldS k a ys b → ys.length < j → pre.length + ys.length ≤ 1000 → f75.l2 k j (pre ++ ys) a (pre.length : Int) = some (.inr b) := by
  intro ys
  induction ys with
  | nil =>
    intro pre j a b hH hj hl
    obtain ⟨j, rfl⟩ : ∃ j', j = j' + 1 := ⟨j - 1, by omega⟩
    simp only [f75.l2, f75.l2.step]
    rw [if_neg (fb (by simp))]
    have : a = b := hH
    rw [this]
  | cons x rest ih =>
    intro pre j a b hH hj hl
    obtain ⟨j, rfl⟩ : ∃ j', j = j' + 1 := ⟨j - 1, by omega⟩
    simp only [List.length_cons] at hj hl
    obtain ⟨a', e1, e2, e3⟩ := hH
    have h := ih (pre ++ [x]) j a' b e3 (by omega) (by simp; omega)
    simp only [List.length_append, List.length_singleton, List.append_assoc, List.singleton_append] at h
    have : ¬ a' < 0 := by omega
    simp only [f75.l2, f75.l2.step, gm, e1, Option.bind_some]
    rw [if_pos (tb (lt_mid _ _ _)), if_pos (by omega), if_pos (lt_mid _ _ _), if_neg (fb this), w64 (by omega) (by omega)]
    exact h
theorem markSS (k : Nat) (hK : 2097152 ≤ k) (xs : List (List Int)) (hl : xs.length ≤ 1000) (hs : ∀ x ∈ xs, x.length ≤ 1000) : ∃ a ys, f74 k xs 1 = some (a, ys) ∧ 0 ≤ a ∧ f75 k ys 1 = some a := by
  obtain ⟨b, ys, h1, h2, h3, h4⟩ := markSS_loop k hK xs [] k 1 (by omega) (by simpa using hl) hs (by omega) (by omega)
  have h1 : f74.l2 k k 1 0 xs = some (b, ys) := h1
  have h5 : f75.l2 k k ys 1 0 = some (.inr b) := heldSS_loop k ys [] k 1 b h4 (by omega) (by simp; omega)
  exact ⟨b, ys, by simp only [f74, f74.step, h1]; rfl, h3, by simp only [f75, f75.step, h5]; rfl⟩
/-- The plain law. -/
theorem FnExactDistances : Says := by
  intro es ts n he ht hn
  have hq : maxLen = 9223372036854775807 := by decide
  obtain ⟨k, hK⟩ : ∃ k : Nat, 2097152 ≤ k := ⟨_, Nat.le_refl _⟩
  refine ⟨k, ?_⟩
  simp only [f13, f13.step]
  obtain ⟨s, e, hs⟩ := szA k hK es ts n he.1 ht.1 (fun x hx => (ht.2 x hx).1)
  rw [e]
  simp only [Option.bind_some]
  rcases hs with hs | ⟨hs, h0⟩
  · rw [if_pos (tb hs)]
  rw [if_neg (fb (by omega))]
  have hm : ∀ x ∈ ts, x.length ≤ 1048576 := fun x hx => by have := datN_mem hx; omega
  have hto : f43 k es ts n = some (es.map cE, ts.map (List.map cN), n) := by
    simp only [f43, f43.step, toE k hK (show es.length ≤ 1048576 by omega), toNS k hK (show ts.length ≤ 1048576 by omega) hm, Option.bind_some]
  have hm2 : ∀ x ∈ ts.map (List.map cN), x.length ≤ 1048576 := fun x hx => by
    obtain ⟨y, hy, rfl⟩ := List.mem_map.mp hx
    simpa using hm y hy
  have q : f45 k (es.map cE) (ts.map (List.map cN)) n (es.map cE) (ts.map (List.map cN)) n = some true := eqA k hK n (by simp; omega) (by simp; omega) hm2
  obtain ⟨a, es', ts', m1, m2⟩ := markA k hK (es := es.map cE) (ts := ts.map (List.map cN)) n (by simp [datM_cN]; omega)
  have m3 : ¬ a < 0 := by omega
  rcases dist_ok k hK (es.map cE) (ts.map (List.map cN)) n (by simp; omega) (fun x hx => Nat.le_trans (hm2 x hx) (by omega)) with ⟨c, h1, h2⟩ | ⟨l, c, hl, hls, h1, h2, _⟩
  · obtain ⟨j, rfl⟩ : ∃ j', k = j' + 1 := ⟨k - 1, by omega⟩
    have z1 : f74 (j + 1) [] 1 = some (1, []) := by simp [f74, f74.step, f74.l2, f74.l2.step]
    have z2 : f75 (j + 1) [] 1 = some 1 := by simp [f75, f75.step, f75.l2, f75.l2.step]
    have z3 : f73 (j + 1) [] [] = some true := eqISS (j + 1) hK (by simp) (by simp)
    simp only [hto, h1, h2, q, m1, z1, z2, z3, Option.bind_some, Sum.elim_inl]
    simp [m3]
  · obtain ⟨b, ys, i1, i2, i3⟩ := markSS k hK l (by omega) (fun x hx => by have := hls x hx; omega)
    have i4 : ¬ b < 0 := by omega
    simp only [hto, h1, h2, q, m1, i1, i3, eqISS k hK (show l.length ≤ 1048576 by omega) (fun x hx => by have := hls x hx; omega), Option.bind_some, Sum.elim_inr]
    simp [m3, i4]
end Go.Proofs.Ytildepkogbcdpaa.Pure

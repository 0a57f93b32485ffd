/- The plain law of FnExactAdvert. -/
import Derived.Test.YtildepkogbcdpaaSaysFnExactAdvert
namespace Go.Proofs.Ytildepkogbcdpaa.Pure
open Go Go.B Go.Proofs.Ytildepkogbcdpaa.B Go.Proofs.Ytildepkogbcdpaa.SaysFnExactAdvert
set_option linter.unusedVariables false
set_option linter.unusedSimpArgs false
theorem w64 {n : Int} (h0 : -9223372036854775808 ≤ n) (h1 : n ≤ 9223372036854775807) : IntKind.i64.wrap n = n := by
  rw [IntKind.wrap_i64]; omega
theorem tb {c : Prop} [Decidable c] (h : c) : decide c = true := decide_eq_true h
theorem fb {c : Prop} [Decidable c] (h : ¬ c) : ¬ decide c = true := by simpa using h
theorem ff {c : Prop} [Decidable c] (h : ¬ c) : decide c = false := by simpa using h
theorem gm {α : Type} (pre rest : List α) (x d : α) : List.getD (pre ++ x :: rest) (Int.toNat (pre.length : Int)) d = x := by
  simp [List.getD_eq_getElem?_getD]
theorem lt_mid {α : Type} (pre rest : List α) (x : α) : (pre.length : Int) < ((pre ++ x :: rest).length : Int) := by simp; omega
theorem set_mid {α : Type} (pre rest : List α) (x y : α) : List.set (pre ++ x :: rest) (Int.toNat (pre.length : Int)) y = pre ++ y :: rest := by
  simp
theorem set_at {e : TypeId} (pre rest : List (env.T e)) (x y : env.T e) {off : Nat} {cs : List (Cell env.T)} (h : putCells (E := env) e x off cs = some y) : setE env e (pre ++ x :: rest) (Int.toNat (pre.length : Int)) off cs = pre ++ y :: rest := by
  have hg : List.getD (pre ++ x :: rest) (Int.toNat (pre.length : Int)) (env.dflt e) = x := gm pre rest x _
  simp only [setE, hg, h, Option.getD_some, set_mid]
theorem mid_next {α : Type} (pre rest : List α) (x : α) : pre ++ x :: rest = (pre ++ [x]) ++ rest := by simp
/-! ### areas: told, compared -/
theorem set_mid' {α : Type} (pre' : List α) {n : Nat} (h : n = pre'.length) (rest : List α) (x y : α) : List.set (pre' ++ x :: rest) (Int.toNat (n : Int)) y = pre' ++ y :: rest := by
  subst h; simp
theorem lt_mid' {α : Type} (pre' : List α) {n : Nat} (h : n = pre'.length) (rest : List α) (x : α) : (n : Int) < ((pre' ++ x :: rest).length : Int) := by subst h; exact lt_mid _ _ _
theorem wnext {α : Type} (pre : List α) (x : α) (h : pre.length ≤ 4611686018427387904) : IntKind.i64.wrap ((pre.length : Int) + 1) = ((pre ++ [x]).length : Int) := by rw [w64 (by omega) (by omega)]; simp
def cE (x : S195) : S146 := ⟨x.f0, x.f1, x.f2, x.f3⟩
def cN (x : S225) : S142 := ⟨x.f0, x.f1, x.f2⟩
theorem toE_loop (k : Nat) (hK : 2097152 ≤ k) (xs : List S195) (hl : xs.length ≤ 1048576)  : ∀ (rest pre : List S195) (j : Nat), xs = pre ++ rest → rest.length < j →
    f107.l3 k j xs (pre.length : Int) (pre.map cE ++ List.replicate rest.length (⟨0, 0, 0, false⟩ : S146)) = some (xs.map cE) := by
  intro rest
  induction rest with
  | nil =>
    intro pre j hx hj
    obtain ⟨j, rfl⟩ : ∃ j', j = j' + 1 := ⟨j - 1, by omega⟩
    simp only [f107.l3, f107.l3.step]
    have : xs.length = pre.length := by rw [hx]; simp
    rw [if_neg (fb (by omega)), hx]; simp
  | cons x rest ih =>
    intro pre j hx hj
    obtain ⟨j, rfl⟩ : ∃ j', j = j' + 1 := ⟨j - 1, by omega⟩
    have hlt : (pre.length : Int) < (xs.length : Int) := by rw [hx]; exact lt_mid _ _ _
    have hg : ∀ d, xs.getD (Int.toNat (pre.length : Int)) d = x := fun d => by rw [hx]; exact gm _ _ _ _
    have hxm : x ∈ xs := by rw [hx]; simp
    simp only [f107.l3, f107.l3.step, hg, f157, f157.step, Option.bind_some, List.length_cons, List.replicate_succ]
    rw [set_mid' (pre.map cE) (n := pre.length) (by simp)]
    have hw := wnext pre x (by omega)
    rw [if_pos (tb hlt), if_pos (by omega), if_pos hlt, if_pos (by omega), if_pos (lt_mid' _ (by simp) _ _), hw]
    have := ih (pre ++ [x]) j (by rw [hx]; simp) (by simp at hj; omega)
    simp only [List.map_append, List.map_cons, List.map_nil, List.append_assoc, List.singleton_append] at this
    exact this
theorem toE (k : Nat) (hK : 2097152 ≤ k) {xs : List S195} (hl : xs.length ≤ 1048576)  : f107 k xs = some (xs.map cE) := by
  have := toE_loop k hK xs hl  xs [] k rfl (by omega)
  simp only [f107, f107.step]
  rw [if_pos (by omega), if_pos (by simp [maxN]; omega)]
  have h0 : f107.l3 k k xs 0 (List.replicate (Int.toNat (xs.length : Int)) (⟨0, 0, 0, false⟩ : S146)) = some (xs.map cE) := this
  rw [h0]; rfl
theorem toN_loop (k : Nat) (hK : 2097152 ≤ k) (xs : List S225) (hl : xs.length ≤ 1048576)  : ∀ (rest pre : List S225) (j : Nat), xs = pre ++ rest → rest.length < j →
    f158.l3 k j xs (pre.length : Int) (pre.map cN ++ List.replicate rest.length (⟨0, 0, 0⟩ : S142)) = some (xs.map cN) := by
  intro rest
  induction rest with
  | nil =>
    intro pre j hx hj
    obtain ⟨j, rfl⟩ : ∃ j', j = j' + 1 := ⟨j - 1, by omega⟩
    simp only [f158.l3, f158.l3.step]
    have : xs.length = pre.length := by rw [hx]; simp
    rw [if_neg (fb (by omega)), hx]; simp
  | cons x rest ih =>
    intro pre j hx hj
    obtain ⟨j, rfl⟩ : ∃ j', j = j' + 1 := ⟨j - 1, by omega⟩
    have hlt : (pre.length : Int) < (xs.length : Int) := by rw [hx]; exact lt_mid _ _ _
    have hg : ∀ d, xs.getD (Int.toNat (pre.length : Int)) d = x := fun d => by rw [hx]; exact gm _ _ _ _
    have hxm : x ∈ xs := by rw [hx]; simp
    simp only [f158.l3, f158.l3.step, hg, f186, f186.step, Option.bind_some, List.length_cons, List.replicate_succ]
    rw [set_mid' (pre.map cN) (n := pre.length) (by simp)]
    have hw := wnext pre x (by omega)
    rw [if_pos (tb hlt), if_pos (by omega), if_pos hlt, if_pos (by omega), if_pos (lt_mid' _ (by simp) _ _), hw]
    have := ih (pre ++ [x]) j (by rw [hx]; simp) (by simp at hj; omega)
    simp only [List.map_append, List.map_cons, List.map_nil, List.append_assoc, List.singleton_append] at this
    exact this
theorem toN (k : Nat) (hK : 2097152 ≤ k) {xs : List S225} (hl : xs.length ≤ 1048576)  : f158 k xs = some (xs.map cN) := by
  have := toN_loop k hK xs hl  xs [] k rfl (by omega)
  simp only [f158, f158.step]
  rw [if_pos (by omega), if_pos (by simp [maxN]; omega)]
  have h0 : f158.l3 k k xs 0 (List.replicate (Int.toNat (xs.length : Int)) (⟨0, 0, 0⟩ : S142)) = some (xs.map cN) := this
  rw [h0]; rfl
theorem toNS_loop (k : Nat) (hK : 2097152 ≤ k) (xs : List (List S225)) (hl : xs.length ≤ 1048576) (hs : ∀ x ∈ xs, x.length ≤ 1048576) : ∀ (rest pre : List (List S225)) (j : Nat), xs = pre ++ rest → rest.length < j →
    f108.l3 k j xs (pre.length : Int) (pre.map (List.map cN) ++ List.replicate rest.length ([] : (List S142))) = some (xs.map (List.map cN)) := by
  intro rest
  induction rest with
  | nil =>
    intro pre j hx hj
    obtain ⟨j, rfl⟩ : ∃ j', j = j' + 1 := ⟨j - 1, by omega⟩
    simp only [f108.l3, f108.l3.step]
    have : xs.length = pre.length := by rw [hx]; simp
    rw [if_neg (fb (by omega)), hx]; simp
  | cons x rest ih =>
    intro pre j hx hj
    obtain ⟨j, rfl⟩ : ∃ j', j = j' + 1 := ⟨j - 1, by omega⟩
    have hlt : (pre.length : Int) < (xs.length : Int) := by rw [hx]; exact lt_mid _ _ _
    have hg : ∀ d, xs.getD (Int.toNat (pre.length : Int)) d = x := fun d => by rw [hx]; exact gm _ _ _ _
    have hxm : x ∈ xs := by rw [hx]; simp
    have e := toN k hK (hs x hxm)
    simp only [f108.l3, f108.l3.step, hg, e, Option.bind_some, List.length_cons, List.replicate_succ]
    rw [set_mid' (pre.map (List.map cN)) (n := pre.length) (by simp)]
    have hw := wnext pre x (by omega)
    rw [if_pos (tb hlt), if_pos (by omega), if_pos hlt, if_pos (by omega), if_pos (lt_mid' _ (by simp) _ _), hw]
    have := ih (pre ++ [x]) j (by rw [hx]; simp) (by simp at hj; omega)
    simp only [List.map_append, List.map_cons, List.map_nil, List.append_assoc, List.singleton_append] at this
    exact this
theorem toNS (k : Nat) (hK : 2097152 ≤ k) {xs : List (List S225)} (hl : xs.length ≤ 1048576) (hs : ∀ x ∈ xs, x.length ≤ 1048576) : f108 k xs = some (xs.map (List.map cN)) := by
  have := toNS_loop k hK xs hl hs xs [] k rfl (by omega)
  simp only [f108, f108.step]
  rw [if_pos (by omega), if_pos (by simp [maxN]; omega)]
  have h0 : f108.l3 k k xs 0 (List.replicate (Int.toNat (xs.length : Int)) ([] : (List S142))) = some (xs.map (List.map cN)) := this
  rw [h0]; rfl
theorem eqE_loop (k : Nat) (hK : 2097152 ≤ k) (xs : List S146) (hl : xs.length ≤ 1048576)  : ∀ (rest pre : List S146) (j : Nat), xs = pre ++ rest → rest.length < j → f111.l4 k j xs xs (pre.length : Int) = some (.inr ()) := by
  intro rest
  induction rest with
  | nil =>
    intro pre j hx hj
    obtain ⟨j, rfl⟩ : ∃ j', j = j' + 1 := ⟨j - 1, by omega⟩
    simp only [f111.l4, f111.l4.step]
    have : xs.length = pre.length := by rw [hx]; simp
    rw [if_neg (fb (by omega))]
  | cons x rest ih =>
    intro pre j hx hj
    obtain ⟨j, rfl⟩ : ∃ j', j = j' + 1 := ⟨j - 1, by omega⟩
    have hlt : (pre.length : Int) < (xs.length : Int) := by rw [hx]; exact lt_mid _ _ _
    have hg : ∀ d, xs.getD (Int.toNat (pre.length : Int)) d = x := fun d => by rw [hx]; exact gm _ _ _ _
    have hxm : x ∈ xs := by rw [hx]; simp
    have hw := wnext pre x (by omega)
    have e : f159 k x.f0 x.f1 x.f2 x.f3 x.f0 x.f1 x.f2 x.f3 = some true := by simp [f159, f159.step]
    have hp : (0 : Int) ≤ (pre.length : Int) := by omega
    simp only [f111.l4, f111.l4.step, hg, e, hw, Option.bind_some]
    simp only [hlt, hp, if_true, decide_true, Bool.not_true, Bool.false_eq_true, if_false]
    exact ih (pre ++ [x]) j (by rw [hx]; simp) (by simp at hj; omega)
theorem eqE (k : Nat) (hK : 2097152 ≤ k) {xs : List S146} (hl : xs.length ≤ 1048576)  : f111 k xs xs = some true := by
  have h0 : f111.l4 k k xs xs 0 = some (.inr ()) := eqE_loop k hK xs hl  xs [] k rfl (by omega)
  simp [f111, f111.step, h0]
theorem eqN_loop (k : Nat) (hK : 2097152 ≤ k) (xs : List S142) (hl : xs.length ≤ 1048576)  : ∀ (rest pre : List S142) (j : Nat), xs = pre ++ rest → rest.length < j → f160.l4 k j xs xs (pre.length : Int) = some (.inr ()) := by
  intro rest
  induction rest with
  | nil =>
    intro pre j hx hj
    obtain ⟨j, rfl⟩ : ∃ j', j = j' + 1 := ⟨j - 1, by omega⟩
    simp only [f160.l4, f160.l4.step]
    have : xs.length = pre.length := by rw [hx]; simp
    rw [if_neg (fb (by omega))]
  | cons x rest ih =>
    intro pre j hx hj
    obtain ⟨j, rfl⟩ : ∃ j', j = j' + 1 := ⟨j - 1, by omega⟩
    have hlt : (pre.length : Int) < (xs.length : Int) := by rw [hx]; exact lt_mid _ _ _
    have hg : ∀ d, xs.getD (Int.toNat (pre.length : Int)) d = x := fun d => by rw [hx]; exact gm _ _ _ _
    have hxm : x ∈ xs := by rw [hx]; simp
    have hw := wnext pre x (by omega)
    have e : f187 k x.f0 x.f1 x.f2 x.f0 x.f1 x.f2 = some true := by simp [f187, f187.step]
    have hp : (0 : Int) ≤ (pre.length : Int) := by omega
    simp only [f160.l4, f160.l4.step, hg, e, hw, Option.bind_some]
    simp only [hlt, hp, if_true, decide_true, Bool.not_true, Bool.false_eq_true, if_false]
    exact ih (pre ++ [x]) j (by rw [hx]; simp) (by simp at hj; omega)
theorem eqN (k : Nat) (hK : 2097152 ≤ k) {xs : List S142} (hl : xs.length ≤ 1048576)  : f160 k xs xs = some true := by
  have h0 : f160.l4 k k xs xs 0 = some (.inr ()) := eqN_loop k hK xs hl  xs [] k rfl (by omega)
  simp [f160, f160.step, h0]
theorem eqNS_loop (k : Nat) (hK : 2097152 ≤ k) (xs : List (List S142)) (hl : xs.length ≤ 1048576) (hs : ∀ x ∈ xs, x.length ≤ 1048576) : ∀ (rest pre : List (List S142)) (j : Nat), xs = pre ++ rest → rest.length < j → f112.l4 k j xs xs (pre.length : Int) = some (.inr ()) := by
  intro rest
  induction rest with
  | nil =>
    intro pre j hx hj
    obtain ⟨j, rfl⟩ : ∃ j', j = j' + 1 := ⟨j - 1, by omega⟩
    simp only [f112.l4, f112.l4.step]
    have : xs.length = pre.length := by rw [hx]; simp
    rw [if_neg (fb (by omega))]
  | cons x rest ih =>
    intro pre j hx hj
    obtain ⟨j, rfl⟩ : ∃ j', j = j' + 1 := ⟨j - 1, by omega⟩
    have hlt : (pre.length : Int) < (xs.length : Int) := by rw [hx]; exact lt_mid _ _ _
    have hg : ∀ d, xs.getD (Int.toNat (pre.length : Int)) d = x := fun d => by rw [hx]; exact gm _ _ _ _
    have hxm : x ∈ xs := by rw [hx]; simp
    have hw := wnext pre x (by omega)
    have e := eqN k hK (hs x hxm)
    have hp : (0 : Int) ≤ (pre.length : Int) := by omega
    simp only [f112.l4, f112.l4.step, hg, e, hw, Option.bind_some]
    simp only [hlt, hp, if_true, decide_true, Bool.not_true, Bool.false_eq_true, if_false]
    exact ih (pre ++ [x]) j (by rw [hx]; simp) (by simp at hj; omega)
theorem eqNS (k : Nat) (hK : 2097152 ≤ k) {xs : List (List S142)} (hl : xs.length ≤ 1048576) (hs : ∀ x ∈ xs, x.length ≤ 1048576) : f112 k xs xs = some true := by
  have h0 : f112.l4 k k xs xs 0 = some (.inr ()) := eqNS_loop k hK xs hl hs xs [] k rfl (by omega)
  simp [f112, f112.step, h0]
theorem eqA (k : Nat) (hK : 2097152 ≤ k) {es : List S146} {ts : List (List S142)} (n : Int) (h1 : es.length ≤ 1048576) (h2 : ts.length ≤ 1048576) (h3 : ∀ x ∈ ts, x.length ≤ 1048576) : f45 k es ts n es ts n = some true := by
  simp [f45, f45.step, eqE k hK h1, eqNS k hK h2 h3]
/-! sizes -/
def datN : List (List S225) → Nat
  | [] => 0
  | x :: l => x.length + datN l
theorem datN_mem : ∀ {l : List (List S225)} {x : List S225}, x ∈ l → x.length ≤ datN l
  | [], _, h => by cases h
  | y :: l, x, h => by
    rcases List.mem_cons.mp h with rfl | h
    · simp [datN]
    · have := datN_mem h; simp only [datN]; omega
theorem szN_loop (k : Nat) (xs : List (List S225)) (hl : xs.length ≤ 1048576) (hm : ∀ x ∈ xs, x.length ≤ maxLen) : ∀ (rest pre : List (List S225)) (j : Nat) (a : Int), xs = pre ++ rest → rest.length < j → 0 ≤ a → a ≤ 1048576 →
    (∃ n, f103.l5 k j xs a (pre.length : Int) = some (.inl (n, -1))) ∨ (f103.l5 k j xs a (pre.length : Int) = some (.inr (a - datN rest)) ∧ (datN rest : Int) ≤ a) := by
  have hq : maxLen = 9223372036854775807 := by decide
  intro rest
  induction rest with
  | nil =>
    intro pre j a hx hj h0 h1
    obtain ⟨j, rfl⟩ : ∃ j', j = j' + 1 := ⟨j - 1, by omega⟩
    simp only [f103.l5, f103.l5.step]
    have : xs.length = pre.length := by rw [hx]; simp
    rw [if_neg (fb (by omega))]
    exact .inr ⟨by simp [datN], by simp [datN]; omega⟩
  | cons x rest ih =>
    intro pre j a hx hj h0 h1
    obtain ⟨j, rfl⟩ : ∃ j', j = j' + 1 := ⟨j - 1, by omega⟩
    have hlt : (pre.length : Int) < (xs.length : Int) := by rw [hx]; exact lt_mid _ _ _
    have hg : ∀ d, xs.getD (Int.toNat (pre.length : Int)) d = x := fun d => by rw [hx]; exact gm _ _ _ _
    have hxl := hm x (by rw [hx]; simp)
    have hw := wnext pre x (by omega)
    have e1 : IntKind.i64.wrap (a - (x.length : Int)) = a - (x.length : Int) := w64 (by omega) (by omega)
    simp only [f103.l5, f103.l5.step, hg, f156, f156.step, e1, hw]
    rw [if_pos (tb hlt), if_pos (by omega), if_pos hlt]
    by_cases c : a - (x.length : Int) < 0
    · rw [if_pos (tb c)]
      simp only [Option.bind_some]
      exact .inl ⟨-1, rfl⟩
    · rw [if_neg (fb c)]
      simp only [Option.bind_some]
      rw [if_neg (fb c)]
      rcases ih (pre ++ [x]) j (a - x.length) (by rw [hx]; simp) (by simp at hj; omega) (by omega) (by omega) with h | ⟨h, h2⟩
      · exact .inl h
      · refine .inr ⟨h.trans ?_, ?_⟩
        · simp only [datN]; congr 2; omega
        · simp only [datN]; omega
theorem szA (k : Nat) (hK : 2097152 ≤ k) (es : List S195) (ts : List (List S225)) (n : Int) (he : es.length ≤ maxLen) (hl : ts.length ≤ maxLen) (hm : ∀ x ∈ ts, x.length ≤ maxLen) :
    ∃ r, f41 k es ts n 1048576 = some r ∧ (r < 0 ∨ (es.length + ts.length + datN ts ≤ 1048576 ∧ 0 ≤ r)) := by
  have hq : maxLen = 9223372036854775807 := by decide
  simp only [f41, f41.step, f102, f102.step]
  have e0 : IntKind.i64.wrap (1048576 - (es.length : Int)) = 1048576 - (es.length : Int) := w64 (by omega) (by omega)
  rw [e0]
  by_cases c0 : 1048576 - (es.length : Int) < 0
  · rw [if_pos (tb c0)]
    simp only [Option.bind_some]
    rw [if_pos (by decide)]
    exact ⟨-1, rfl, .inl (by omega)⟩
  rw [if_neg (fb c0)]
  simp only [Option.bind_some]
  rw [if_neg (fb c0)]
  simp only [f103, f103.step]
  have e1 : IntKind.i64.wrap (1048576 - (es.length : Int) - (ts.length : Int)) = 1048576 - (es.length : Int) - (ts.length : Int) := w64 (by omega) (by omega)
  rw [e1]
  by_cases c : 1048576 - (es.length : Int) - (ts.length : Int) < 0
  · rw [if_pos (tb c)]
    simp only [Option.bind_some]
    rw [if_pos (by decide)]
    exact ⟨-1, rfl, .inl (by omega)⟩
  · rw [if_neg (fb c)]
    rcases szN_loop k ts (by omega) hm ts [] k (1048576 - es.length - ts.length) rfl (by omega) (by omega) (by omega) with ⟨n, h⟩ | ⟨h, h2⟩
    · have h : f103.l5 k k ts (1048576 - es.length - ts.length) 0 = some (.inl (n, -1)) := h
      rw [h]
      simp only [Option.bind_some, Sum.elim_inl]
      rw [if_pos (by decide)]
      exact ⟨-1, rfl, .inl (by omega)⟩
    · have h : f103.l5 k k ts (1048576 - es.length - ts.length) 0 = some (.inr (1048576 - es.length - ts.length - datN ts)) := h
      rw [h]
      simp only [Option.bind_some, Sum.elim_inr]
      rw [if_neg (fb (by omega))]
      exact ⟨_, rfl, .inr ⟨by omega, by omega⟩⟩
/-! ### right areas -/
theorem in_spec (k : Nat) (a b c : Int) : f86 k a b c = some (decide (b ≤ a ∧ a ≤ c)) := by
  simp only [f86, f86.step]
  split <;> simp at * <;> omega
theorem in_impl (k : Nat) (a b c : Int) : f83 k a b c = some (decide (b ≤ a ∧ a ≤ c)) := by
  simp only [f83, f83.step]
  split <;> simp at * <;> omega
/-- Whether an edge goes between two routers. -/
def conn (a b : Int) (e : S146) : Bool := (decide (e.f0 = a) && decide (e.f1 = b)) || (decide (e.f0 = b) && decide (e.f1 = a))
/-- The number of the edge between two routers, or -1. -/
def fe (a b : Int) : Int → List S146 → Int
  | _, [] => -1
  | i, e :: r => if conn a b e = true then i else fe a b (i + 1) r
theorem fe_any (a b : Int) : ∀ (l : List S146) (i : Int), 0 ≤ i → decide (fe a b i l ≥ 0) = l.any (conn a b)
  | [], i, _ => by simp [fe]
  | e :: r, i, h => by
    simp only [fe, List.any_cons]
    rcases Bool.eq_false_or_eq_true (conn a b e) with hc | hc
    · simp [hc, h]
    · simp only [hc, Bool.false_eq_true, if_false, Bool.false_or]; exact fe_any a b r (i + 1) (by omega)
theorem fe_neg (a b : Int) : ∀ (l : List S146) (i : Int), 0 ≤ i → (fe a b i l < 0 ↔ l.any (conn a b) = false)
  | l, i, h => by
    have := fe_any a b l i h
    constructor
    · intro h2; rw [← this]; simp; omega
    · intro h2; rw [h2] at this; simp at this; omega
theorem fe_lt (a b : Int) : ∀ (l : List S146) (i : Int), 0 ≤ i → fe a b i l < i + l.length
  | [], i, h => by simp [fe]; omega
  | e :: r, i, h => by
    simp only [fe, List.length_cons]
    split
    · omega
    · have := fe_lt a b r (i + 1) (by omega); omega
theorem spec_fe (k : Nat) (a b : Int) : ∀ (rest pre : List S146) (j : Nat), rest.length < j → (pre ++ rest).length ≤ 1000 →
    ∃ r, f106.l2 k j (pre ++ rest) a b (pre.length : Int) = some r ∧ Sum.elim (fun t => t) (fun _ => -1) r = fe a b (pre.length : Int) rest := by
  intro rest
  induction rest with
  | nil =>
    intro pre j hj hl
    obtain ⟨j, rfl⟩ : ∃ j', j = j' + 1 := ⟨j - 1, by omega⟩
    simp only [f106.l2, f106.l2.step]
    rw [if_neg (fb (by simp))]
    exact ⟨_, rfl, rfl⟩
  | cons x rest ih =>
    intro pre j hj hl
    obtain ⟨j, rfl⟩ : ∃ j', j = j' + 1 := ⟨j - 1, by omega⟩
    have hp : (0 : Int) ≤ (pre.length : Int) := by omega
    have hw := wnext pre x (by simp at hl; omega)
    have := ih (pre ++ [x]) j (by simp at hj; omega) (by simpa using hl)
    simp only [List.append_assoc, List.singleton_append] at this
    have hn : ((pre ++ [x]).length : Int) = (pre.length : Int) + 1 := by simp
    rw [hn] at this
    simp only [f106.l2, f106.l2.step, gm, hw, hn, fe, conn]
    simp only [lt_mid, hp, if_true, decide_true]
    by_cases c1 : x.f0 = a <;> by_cases c2 : x.f1 = b <;> by_cases c3 : x.f0 = b <;> by_cases c4 : x.f1 = a <;> simp only [c1, c2, c3, c4, decide_true, decide_false, if_true, Bool.false_eq_true, if_false, Bool.true_eq_false, Bool.and_true, Bool.and_false, Bool.or_true, Bool.or_false, Bool.true_and, Bool.false_and] <;> first | exact this | exact ⟨_, rfl, rfl⟩ | (simp_all; done)
theorem find_spec (k : Nat) (hK : 2097152 ≤ k) (a b : Int) (l : List S146) (hl : l.length ≤ 1000) : f106 k l a b = some (fe a b 0 l) := by
  obtain ⟨r, h1, h2⟩ := spec_fe k a b l [] k (by omega) (by simpa using hl)
  have h1 : f106.l2 k k l a b 0 = some r := h1
  have h2 : Sum.elim (fun t => t) (fun _ => -1) r = fe a b 0 l := h2
  simp only [f106, f106.step, h1, Option.bind_some, ← h2]
  rcases r with r | r <;> rfl
theorem conn_impl (k : Nat) (a b : Int) (x : S146) : f171 k x.f0 x.f1 x.f2 x.f3 a b = some (conn a b x) := by
  simp only [f171, f171.step, conn]
  by_cases c1 : x.f0 = a <;> by_cases c2 : x.f1 = b <;> by_cases c3 : x.f0 = b <;> by_cases c4 : x.f1 = a <;> simp [c1, c2, c3, c4] <;> (try (by_cases q : a = b <;> simp_all))
theorem impl_fe (k : Nat) (a b : Int) : ∀ (rest pre : List S146) (j : Nat), rest.length < j → (pre ++ rest).length ≤ 1000 →
    ∃ r, f170.l2 k j (pre ++ rest) a b ((pre ++ rest).length : Int) (pre.length : Int) = some r ∧ Sum.elim (fun t => t) (fun _ => -1) r = fe a b (pre.length : Int) rest := by
  intro rest
  induction rest with
  | nil =>
    intro pre j hj hl
    obtain ⟨j, rfl⟩ : ∃ j', j = j' + 1 := ⟨j - 1, by omega⟩
    simp only [f170.l2, f170.l2.step]
    rw [if_neg (fb (by simp))]
    exact ⟨_, rfl, rfl⟩
  | cons x rest ih =>
    intro pre j hj hl
    obtain ⟨j, rfl⟩ : ∃ j', j = j' + 1 := ⟨j - 1, by omega⟩
    have hp : (0 : Int) ≤ (pre.length : Int) := by omega
    have hw := wnext pre x (by simp at hl; omega)
    have := ih (pre ++ [x]) j (by simp at hj; omega) (by simpa using hl)
    simp only [List.append_assoc, List.singleton_append] at this
    have hn : ((pre ++ [x]).length : Int) = (pre.length : Int) + 1 := by simp
    rw [hn] at this
    simp only [f170.l2, f170.l2.step, gm, hw, hn, fe, conn_impl, Option.bind_some]
    simp only [lt_mid, hp, if_true, decide_true]
    rcases Bool.eq_false_or_eq_true (conn a b x) with hc | hc
    · simp only [hc, if_true]; exact ⟨_, rfl, rfl⟩
    · simp only [hc, Bool.false_eq_true, if_false]; exact this
theorem find_impl (k : Nat) (hK : 2097152 ≤ k) (a b : Int) (l : List S146) (ts : List (List S142)) (n : Int) (hl : l.length ≤ 1000) : f129 k l ts n a b = some (fe a b 0 l, l, ts, n) := by
  obtain ⟨r, h1, h2⟩ := impl_fe k a b l [] k (by omega) (by simpa using hl)
  have h1 : f170.l2 k k l a b (l.length : Int) 0 = some r := h1
  have h2 : Sum.elim (fun t => t) (fun _ => -1) r = fe a b 0 l := h2
  simp only [f129, f129.step, f170, f170.step, h1, Option.bind_some, ← h2]
  rcases r with r | r <;> rfl
/-! edges -/
def eo (n : Int) (e : S146) : Prop := (0 ≤ e.f0 ∧ e.f0 ≤ n - 1) ∧ (0 ≤ e.f1 ∧ e.f1 ≤ n - 1) ∧ e.f0 ≠ e.f1 ∧ (1 ≤ e.f2 ∧ e.f2 ≤ 16)
instance (n : Int) (e : S146) : Decidable (eo n e) := by unfold eo; infer_instance
def gE (n : Int) : List S146 → List S146 → Bool
  | _, [] => true
  | pre, e :: r => decide (eo n e) && (!(pre.any (conn e.f0 e.f1)) && gE n (pre ++ [e]) r)
theorem take_midE (pre rest : List S146) : List.drop 0 (List.take (Int.toNat (pre.length : Int)) (pre ++ rest)) = pre := by simp
theorem spec_edges (k : Nat) (hK : 2097152 ≤ k) (n : Int) (hn : 1 ≤ n ∧ n ≤ 5) : ∀ (rest pre : List S146) (j : Nat), rest.length < j → (pre ++ rest).length ≤ 100 →
    f104.l4 k j n (pre ++ rest) (pre.length : Int) = some (if gE n pre rest = true then .inr () else .inl false) := by
  have wn : IntKind.i64.wrap (n - 1) = n - 1 := w64 (by omega) (by omega)
  intro rest
  induction rest with
  | nil =>
    intro pre j hj hl
    obtain ⟨j, rfl⟩ : ∃ j', j = j' + 1 := ⟨j - 1, by omega⟩
    simp only [f104.l4, f104.l4.step]
    rw [if_neg (fb (by simp))]
    simp [gE]
  | cons x rest ih =>
    intro pre j hj hl
    obtain ⟨j, rfl⟩ : ∃ j', j = j' + 1 := ⟨j - 1, by omega⟩
    have hp : (0 : Int) ≤ (pre.length : Int) := by omega
    have hw := wnext pre x (by simp at hl; omega)
    have := ih (pre ++ [x]) j (by simp at hj; omega) (by simpa using hl)
    simp only [List.append_assoc, List.singleton_append] at this
    have hle : (pre.length : Int) ≤ ((pre ++ x :: rest).length : Int) := by simp; omega
    have hpl : pre.length ≤ 1000 := by simp at hl; omega
    simp only [f104.l4, f104.l4.step, gm, hw, wn, in_spec, Option.bind_some, take_midE, find_spec k hK _ _ _ hpl, fe_any _ _ _ _ (Int.le_refl 0), gE]
    simp only [lt_mid, hp, hle, if_true, decide_true]
    by_cases c1 : 0 ≤ x.f0 ∧ x.f0 ≤ n - 1
    case neg => simp [c1, eo]
    by_cases c2 : 0 ≤ x.f1 ∧ x.f1 ≤ n - 1
    case neg => simp [c1, c2, eo]
    by_cases c3 : x.f0 = x.f1
    · simp [c3, eo]
    by_cases c4 : 1 ≤ x.f2 ∧ x.f2 ≤ 16
    case neg => simp [c1, c2, c3, c4, eo]
    have ok : eo n x := ⟨c1, c2, c3, c4⟩
    simp only [tb c1, tb c2, ff c3, tb c4, tb ok, Bool.not_true, if_true, Bool.true_and]
    rcases Bool.eq_false_or_eq_true (pre.any (conn x.f0 x.f1)) with hc | hc
    · simp [hc]
    · simp only [hc, Bool.false_eq_true, if_false, Bool.not_false, Bool.true_and]
      exact this
theorem edges_spec (k : Nat) (hK : 2097152 ≤ k) (n : Int) (es : List S146) : f104 k n es = some (decide ((1 ≤ n ∧ n ≤ 5) ∧ es.length ≤ 8) && gE n [] es) := by
  simp only [f104, f104.step, in_spec, Option.bind_some]
  by_cases c1 : 1 ≤ n ∧ n ≤ 5
  case neg => simp [c1]
  by_cases c2 : es.length ≤ 8
  case neg =>
    have : (es.length : Int) > 8 := by omega
    simp [c1, c2, this]
  have c2' : ¬ (es.length : Int) > 8 := by omega
  have e : f104.l4 k k n es 0 = _ := spec_edges k hK n c1 es [] k (by omega) (by simp; omega)
  rw [if_pos (by rw [tb c1]; rfl), if_neg (fb c2'), e]
  cases gE n [] es <;> simp [c1, c2]
/-- The list of 25 truths. -/
theorem eta25 {B : List Bool} (h : B.length = 25) : [B.getD 0 false, B.getD 1 false, B.getD 2 false, B.getD 3 false, B.getD 4 false, B.getD 5 false, B.getD 6 false, B.getD 7 false, B.getD 8 false, B.getD 9 false, B.getD 10 false, B.getD 11 false, B.getD 12 false, B.getD 13 false, B.getD 14 false, B.getD 15 false, B.getD 16 false, B.getD 17 false, B.getD 18 false, B.getD 19 false, B.getD 20 false, B.getD 21 false, B.getD 22 false, B.getD 23 false, B.getD 24 false] = B := by
  apply List.ext_getElem?
  intro i
  by_cases hi : i < 25
  · have : ∀ m (hm : m < 25), (B.getD m false) = B[m]'(by omega) := fun m hm => by simp [List.getD_eq_getElem?_getD, List.getElem?_eq_getElem (show m < B.length by omega)]
    rw [List.getElem?_eq_getElem (show i < B.length by omega)]
    match i, hi with
    | 0, _ | 1, _ | 2, _ | 3, _ | 4, _ | 5, _ | 6, _ | 7, _ | 8, _ | 9, _ | 10, _ | 11, _ | 12, _ | 13, _ | 14, _ | 15, _ | 16, _ | 17, _ | 18, _ | 19, _ | 20, _ | 21, _ | 22, _ | 23, _ | 24, _ => exact congrArg some (this _ (by decide))
    | n + 25, h => omega
  · rw [List.getElem?_eq_none (by simp; omega), List.getElem?_eq_none (by omega)]
/-- The program's loop over a list of 25 truths. -/
def L5 (k j : Nat) (n : Int) (es : List S146) (m i : Int) (B : List Bool) : Option (Bool ⊕ Unit) :=
  f109.l5 k j n es m i (B.getD 0 false) (B.getD 1 false) (B.getD 2 false) (B.getD 3 false) (B.getD 4 false) (B.getD 5 false) (B.getD 6 false) (B.getD 7 false) (B.getD 8 false) (B.getD 9 false) (B.getD 10 false) (B.getD 11 false) (B.getD 12 false) (B.getD 13 false) (B.getD 14 false) (B.getD 15 false) (B.getD 16 false) (B.getD 17 false) (B.getD 18 false) (B.getD 19 false) (B.getD 20 false) (B.getD 21 false) (B.getD 22 false) (B.getD 23 false) (B.getD 24 false)
/-- What the truths tell: between which routers an edge goes. -/
def Seen (B : List Bool) (pre : List S146) : Prop := ∀ a b : Nat, a < 5 → b < 5 → B.getD (a * 5 + b) false = pre.any (conn a b)
theorem any_append_one (p : S146 → Bool) (pre : List S146) (x : S146) : (pre ++ [x]).any p = (pre.any p || p x) := by simp
theorem getD_set (B : List Bool) (i m : Nat) (v : Bool) (hi : i < B.length) : (B.set i v).getD m false = if i = m then v else B.getD m false := by
  simp only [List.getD_eq_getElem?_getD, List.getElem?_set]
  split
  · simp [hi]
  · rfl
theorem seen_next {B : List Bool} (hB : B.length = 25) {pre : List S146} (h : Seen B pre) {x : S146} {a b : Nat} (ha : a < 5) (hb : b < 5) (e0 : x.f0 = (a : Int)) (e1 : x.f1 = (b : Int)) : Seen ((B.set (a * 5 + b) true).set (b * 5 + a) true) (pre ++ [x]) := by
  intro c d hc hd
  rw [any_append_one, ← h c d hc hd, getD_set _ _ _ _ (by simp; omega), getD_set _ _ _ _ (by omega)]
  by_cases p1 : b * 5 + a = c * 5 + d
  · have q1 : b = c := by omega
    have q2 : a = d := by omega
    rw [if_pos p1]; simp [conn, e0, e1, q1, q2]
  · by_cases p2 : a * 5 + b = c * 5 + d
    · have q1 : b = d := by omega
      have q2 : a = c := by omega
      rw [if_neg p1, if_pos p2]; simp [conn, e0, e1, q1, q2]
    · have q : conn (c : Int) (d : Int) x = false := by
        simp only [conn, e0, e1, Bool.or_eq_false_iff, Bool.and_eq_false_iff, decide_eq_false_iff_not]
        omega
      rw [if_neg p1, if_neg p2, q, Bool.or_false]
theorem impl_edges (k : Nat) (n : Int) (hn : 1 ≤ n ∧ n ≤ 5) : ∀ (rest pre : List S146) (j : Nat) (B : List Bool), rest.length < j → (pre ++ rest).length ≤ 100 → B.length = 25 → Seen B pre →
    L5 k j n (pre ++ rest) ((pre ++ rest).length : Int) (pre.length : Int) B = some (if gE n pre rest = true then .inr () else .inl false) := by
  have wn : IntKind.i64.wrap (n - 1) = n - 1 := w64 (by omega) (by omega)
  intro rest
  induction rest with
  | nil =>
    intro pre j B hj hl hB hs
    obtain ⟨j, rfl⟩ : ∃ j', j = j' + 1 := ⟨j - 1, by omega⟩
    simp only [L5, f109.l5, f109.l5.step]
    rw [if_neg (fb (by simp))]
    simp [gE]
  | cons x rest ih =>
    intro pre j B hj hl hB hs
    obtain ⟨j, rfl⟩ : ∃ j', j = j' + 1 := ⟨j - 1, by omega⟩
    have hp : (0 : Int) ≤ (pre.length : Int) := by omega
    have hw := wnext pre x (by simp at hl; omega)
    have hB1 : ∀ p, (List.set B p true).length = 25 := fun p => by simp [hB]
    simp only [L5, f109.l5, f109.l5.step, gm, hw, wn, in_impl, Option.bind_some, gE, eta25 hB, eta25 (hB1 _)]
    simp only [lt_mid, hp, if_true, decide_true]
    by_cases c1 : 0 ≤ x.f0 ∧ x.f0 ≤ n - 1
    case neg => simp [c1, eo]
    by_cases c2 : 0 ≤ x.f1 ∧ x.f1 ≤ n - 1
    case neg => simp [c1, c2, eo]
    by_cases c3 : x.f0 = x.f1
    · simp [c3, eo]
    by_cases c4 : 1 ≤ x.f2 ∧ x.f2 ≤ 16
    case neg => simp [c1, c2, c3, c4, eo]
    have ok : eo n x := ⟨c1, c2, c3, c4⟩
    obtain ⟨a, ha⟩ : ∃ a : Nat, x.f0 = (a : Int) := ⟨x.f0.toNat, by omega⟩
    obtain ⟨b, hb⟩ : ∃ b : Nat, x.f1 = (b : Int) := ⟨x.f1.toNat, by omega⟩
    have ha5 : a < 5 := by omega
    have hb5 : b < 5 := by omega
    have d1 : (a : Int) ≤ n - 1 := by omega
    have d2 : (b : Int) ≤ n - 1 := by omega
    have d3 : decide ((a : Int) = (b : Int)) = false := ff (by omega)
    have g1 : (0 : Int) ≤ (a : Int) := by omega
    have g2 : (a : Int) < 5 := by omega
    have g3 : (0 : Int) ≤ (b : Int) := by omega
    have g4 : (b : Int) < 5 := by omega
    have g5 : a * 5 + b < 25 := by omega
    have g6 : b * 5 + a < 25 := by omega
    have hsn := hs a b ha5 hb5
    simp only [tb ok, ha, hb, d1, d2, d3, tb c4, Bool.not_true, if_true, Bool.true_and, g1, g2, g3, g4, g5, g6, and_true, true_and, decide_true, decide_false, Int.toNat_natCast, Nat.mul_one, hsn]
    have hih := ih (pre ++ [x]) j ((B.set (a * 5 + b) true).set (b * 5 + a) true) (by simp at hj; omega) (by simpa using hl) (by simp [hB]) (seen_next hB hs ha5 hb5 ha hb)
    simp only [List.append_assoc, List.singleton_append] at hih
    rcases Bool.eq_false_or_eq_true (pre.any (conn a b)) with hc | hc
    · simp [hc]
    · simp only [hc, Bool.false_eq_true, if_false, Bool.not_false, Bool.true_and]
      exact hih
theorem edges_impl (k : Nat) (hK : 2097152 ≤ k) (n : Int) (es : List S146) : f109 k n es = some (decide ((1 ≤ n ∧ n ≤ 5) ∧ es.length ≤ 8) && gE n [] es) := by
  simp only [f109, f109.step, in_impl, Option.bind_some]
  by_cases c1 : 1 ≤ n ∧ n ≤ 5
  case neg => simp [c1]
  by_cases c2 : es.length ≤ 8
  case neg =>
    have : (es.length : Int) > 8 := by omega
    simp [c1, c2, this]
  have c2' : ¬ (es.length : Int) > 8 := by omega
  have e := impl_edges k n c1 es [] k (List.replicate 25 false) (by omega) (by simp; omega) rfl (fun a b ha hb => by
    have : a * 5 + b < 25 := by omega
    rw [List.getD_eq_getElem?_getD, List.getElem?_replicate, if_pos this]; rfl)
  rw [if_pos (by rw [tb c1]; rfl), if_neg (fb c2')]
  have e : f109.l5 k k n es (es.length : Int) 0 false false false false false false false false false false false false false false false false false false false false false false false false false = _ := e
  rw [e]
  cases gE n [] es <;> simp [c1, c2]
theorem gE_mem (n : Int) : ∀ (l pre : List S146), gE n pre l = true → ∀ e ∈ l, eo n e
  | [], _, _, _, h => by simp at h
  | x :: l, pre, h, e, he => by
    simp only [gE, Bool.and_eq_true, decide_eq_true_eq] at h
    rcases List.mem_cons.mp he with h1 | h1
    · subst h1; exact h.1
    · exact gE_mem n l _ h.2.2 e h1
/-- An edge that is there ends in range. -/
theorem fe_range {n : Int} {es : List S146} (hE : ∀ e ∈ es, eo n e) {r v : Int} (h : 0 ≤ fe r v 0 es) : 0 ≤ v ∧ v ≤ n - 1 := by
  have h1 := fe_any r v es 0 (Int.le_refl 0)
  rw [tb h] at h1
  obtain ⟨e, he, hc⟩ := List.any_eq_true.mp h1.symm
  have := hE e he
  simp only [eo] at this
  simp only [conn, Bool.or_eq_true, Bool.and_eq_true, decide_eq_true_eq] at hc
  omega
/-! the table's entries -/
/-- An entry that can be the table's. -/
def eK (es : List S146) (r d : Int) (x : S142) : Bool :=
  if r = d then decide (x.f0 = 0) && (decide (x.f1 = r) && decide (x.f2 = 0))
  else decide (1 ≤ x.f0 ∧ x.f0 ≤ 16) && (decide (0 ≤ x.f2 ∧ x.f2 ≤ 6) &&
    (if x.f1 = -1 then decide (x.f0 = 16) && decide (x.f2 = 0) else decide (0 ≤ fe r x.f1 0 es) && (decide (x.f0 = 16) || (List.getD es (Int.toNat (fe r x.f1 0 es)) ⟨0, 0, 0, false⟩).f3)))
def rK (es : List S146) (r : Int) : Int → List S142 → Bool
  | _, [] => true
  | d, x :: l => eK es r d x && rK es r (d + 1) l
theorem gm2 {α : Type} {xs : List (List α)} {r : Nat} {row pre rest : List α} {x : α} (hr : List.getD xs r [] = row) (he : row = pre ++ x :: rest) (d : α) : List.getD (List.getD xs r []) (Int.toNat (pre.length : Int)) d = x := by
  rw [hr, he, gm]
theorem spec_row (k : Nat) (hK : 2097152 ≤ k) (n : Int) (hn : 1 ≤ n ∧ n ≤ 5) (es : List S146) (hl : es.length ≤ 1000) (hE : ∀ e ∈ es, eo n e) (ts : List (List S142)) (r : Nat) (hr : r < ts.length) (row : List S142) (hrow : List.getD ts r [] = row) (hrn : (row.length : Int) = n) :
    ∀ (rest pre : List S142) (j : Nat), row = pre ++ rest → rest.length < j →
    f42.l9 k j (r : Int) (pre.length : Int) es ts n = some (if rK es (r : Int) (pre.length : Int) rest = true then .inr ((r : Int), es, ts, n) else .inl (false, (r : Int), es, ts, n)) := by
  have wn : IntKind.i64.wrap (n - 1) = n - 1 := w64 (by omega) (by omega)
  intro rest
  induction rest with
  | nil =>
    intro pre j he hj
    obtain ⟨j, rfl⟩ : ∃ j', j = j' + 1 := ⟨j - 1, by omega⟩
    simp only [List.append_nil] at he
    simp only [f42.l9, f42.l9.step]
    rw [if_neg (fb (by rw [← he]; omega))]
    simp [rK]
  | cons x rest ih =>
    intro pre j he hj
    obtain ⟨j, rfl⟩ : ∃ j', j = j' + 1 := ⟨j - 1, by omega⟩
    have hp : (0 : Int) ≤ (pre.length : Int) := by omega
    have hr0 : (0 : Int) ≤ (r : Int) := by omega
    have hr1 : (r : Int) < (ts.length : Int) := by omega
    have hlen : pre.length + rest.length + 1 = row.length := by rw [he]; simp; omega
    have hpn : (pre.length : Int) < n := by omega
    have hpr : (pre.length : Int) < ((List.length (List.getD ts r [])) : Int) := by rw [hrow]; omega
    have hw := wnext pre x (by omega)
    have := ih (pre ++ [x]) j (by rw [he]; simp) (by simp at hj; omega)
    have hn2 : ((pre ++ [x]).length : Int) = (pre.length : Int) + 1 := by simp
    rw [hn2] at this hw
    simp only [f42.l9, f42.l9.step, f105, f105.step, Int.toNat_natCast (n := r), gm2 hrow he, hw, wn, in_spec, Option.bind_some, find_spec k hK _ _ _ hl, rK]
    simp only [hpn, hr0, hr1, hp, hpr, if_true, decide_true, eK]
    have hfl := fe_lt (r : Int) x.f1 es 0 (Int.le_refl 0)
    have hfl : fe (r : Int) x.f1 0 es < (es.length : Int) := by omega
    by_cases c0 : (r : Int) = (pre.length : Int)
    · simp only [c0, decide_true, if_true]
      rw [c0] at this
      by_cases d1 : x.f0 = 0
      case neg => simp [d1]
      by_cases d2 : x.f1 = (pre.length : Int)
      case neg => simp [d1, d2]
      by_cases d3 : x.f2 = 0
      case neg => simp [d1, d2, d3]
      simpa [d1, d2, d3] using this
    · simp only [ff c0, c0, Bool.false_eq_true, if_false, Option.bind_some]
      by_cases d1 : 1 ≤ x.f0 ∧ x.f0 ≤ 16
      case neg => simp [d1]
      by_cases d2 : 0 ≤ x.f2 ∧ x.f2 ≤ 6
      case neg => simp [d1, d2]
      simp only [tb d1, tb d2, Bool.not_true, if_true, Bool.true_and]
      by_cases d3 : x.f1 = -1
      · have e1 : (-1 : Int) ≤ x.f1 ∧ x.f1 ≤ n - 1 := by omega
        have e2 : x.f1 < 0 := by omega
        have e3 : ¬ x.f1 ≥ 0 := by omega
        simp only [tb e1, tb e2, ff e3, Bool.not_true, if_true]
        simp only [d3, decide_true, if_true, Bool.true_and, Bool.and_true]
        by_cases d4 : x.f0 = 16
        case neg => simp [d4]
        by_cases d5 : x.f2 = 0
        case neg => simp [d4, d5]
        simpa [d4, d5] using this
      · by_cases d4 : 0 ≤ fe (r : Int) x.f1 0 es
        case neg =>
          simp only [d3, d4, decide_false, Bool.false_and, if_false, Bool.false_eq_true]
          by_cases e1 : (-1 : Int) ≤ x.f1 ∧ x.f1 ≤ n - 1
          case neg => simp [e1]
          have e2 : ¬ x.f1 < 0 := by omega
          have e3 : x.f1 ≥ 0 := by omega
          have e4 : fe (r : Int) x.f1 0 es < 0 := by omega
          simp only [tb e1, ff e2, tb e3, tb e4, Bool.not_true, if_true]
          simp
        · have hv := fe_range hE d4
          have e1 : (-1 : Int) ≤ x.f1 ∧ x.f1 ≤ n - 1 := by omega
          have e2 : ¬ x.f1 < 0 := by omega
          have e3 : x.f1 ≥ 0 := by omega
          have e4 : ¬ fe (r : Int) x.f1 0 es < 0 := by omega
          simp only [tb e1, ff e2, tb e3, ff e4, tb d4, d4, hfl, Bool.not_true, if_true]
          simp only [d3, decide_false, Bool.false_and, Bool.and_false, if_false, Bool.true_and, Bool.not_false, beq_self_eq_true, Bool.not_true, Bool.false_eq_true, if_true]
          by_cases d5 : x.f0 = 16
          · have : ¬ x.f0 < 16 := by omega
            simpa [d3, d5] using ‹f42.l9 k j _ _ _ _ _ = _›
          · have : x.f0 < 16 := by omega
            simp only [tb this, ff d5, if_true, Bool.false_or]
            rcases Bool.eq_false_or_eq_true (List.getD es (Int.toNat (fe (r : Int) x.f1 0 es)) ⟨0, 0, 0, false⟩).f3 with hu | hu
            · simp only [hu]; simpa [d3, d5] using ‹f42.l9 k j _ _ _ _ _ = _›
            · simp only [hu]; simp [d3, d5]
def specK (n : Int) (es : List S146) : Int → List (List S142) → Bool
  | _, [] => true
  | i, x :: l => decide ((x.length : Int) = n) && (rK es i 0 x && specK n es (i + 1) l)
def rowsK (es : List S146) : Int → List (List S142) → Bool
  | _, [] => true
  | i, x :: l => rK es i 0 x && rowsK es (i + 1) l
theorem specK_eq (n : Int) (es : List S146) : ∀ (l : List (List S142)) (i : Int), specK n es i l = (l.all (fun x => decide ((x.length : Int) = n)) && rowsK es i l)
  | [], i => rfl
  | x :: l, i => by
    simp only [specK, rowsK, List.all_cons, specK_eq n es l (i + 1)]
    cases decide ((x.length : Int) = n) <;> cases rK es i 0 x <;> cases (l.all (fun x => decide ((x.length : Int) = n))) <;> rfl
theorem spec_rows (k : Nat) (hK : 2097152 ≤ k) (n : Int) (hn : 1 ≤ n ∧ n ≤ 5) (es : List S146) (hl : es.length ≤ 1000) (hE : ∀ e ∈ es, eo n e) (ts : List (List S142)) (htn : (ts.length : Int) = n) :
    ∀ (rest pre : List (List S142)) (j : Nat), ts = pre ++ rest → rest.length < j →
    f42.l4 k j (pre.length : Int) es ts n = some (if specK n es (pre.length : Int) rest = true then .inr () else .inl false) := by
  intro rest
  induction rest with
  | nil =>
    intro pre j he hj
    obtain ⟨j, rfl⟩ : ∃ j', j = j' + 1 := ⟨j - 1, by omega⟩
    simp only [List.append_nil] at he
    simp only [f42.l4, f42.l4.step]
    rw [if_neg (fb (by rw [← he]; omega))]
    simp [specK]
  | cons x rest ih =>
    intro pre j he hj
    obtain ⟨j, rfl⟩ : ∃ j', j = j' + 1 := ⟨j - 1, by omega⟩
    have hp : (0 : Int) ≤ (pre.length : Int) := by omega
    have hlen : pre.length + rest.length + 1 = ts.length := by rw [he]; simp; omega
    have hpn : (pre.length : Int) < n := by omega
    have hpt : (pre.length : Int) < (ts.length : Int) := by omega
    have hrow : List.getD ts (Int.toNat (pre.length : Int)) [] = x := by rw [he, gm]
    have hw := wnext pre x (by omega)
    have := ih (pre ++ [x]) j (by rw [he]; simp) (by simp at hj; omega)
    have hn2 : ((pre ++ [x]).length : Int) = (pre.length : Int) + 1 := by simp
    rw [hn2] at this hw
    simp only [f42.l4, f42.l4.step, hrow, hpn, hp, hpt, if_true, decide_true, specK]
    by_cases c : (x.length : Int) = n
    case neg => simp [c]
    have e := spec_row k hK n hn es hl hE ts pre.length (by omega) x hrow c x [] k rfl (by omega)
    have e : f42.l9 k k (pre.length : Int) 0 es ts n = some (if rK es (pre.length : Int) 0 x = true then .inr ((pre.length : Int), es, ts, n) else .inl (false, (pre.length : Int), es, ts, n)) := e
    rw [if_neg (fb (by simpa using c)), e]
    simp only [Option.bind_some]
    rcases Bool.eq_false_or_eq_true (rK es (pre.length : Int) 0 x) with h | h
    · simp only [h, if_true, Sum.elim_inr, hw, this, Bool.true_and, tb c]
    · simp [h]
theorem area_spec (k : Nat) (hK : 2097152 ≤ k) (es : List S146) (ts : List (List S142)) (n : Int) :
    f42 k es ts n = some ((decide ((1 ≤ n ∧ n ≤ 5) ∧ es.length ≤ 8) && gE n [] es) && (decide ((ts.length : Int) = n) && (ts.all (fun x => decide ((x.length : Int) = n)) && rowsK es 0 ts))) := by
  simp only [f42, f42.step, edges_spec k hK, Option.bind_some]
  rcases Bool.eq_false_or_eq_true (decide ((1 ≤ n ∧ n ≤ 5) ∧ es.length ≤ 8) && gE n [] es) with h | h
  case inr => rw [h]; rfl
  rw [h]
  have h' := h
  simp only [Bool.and_eq_true, decide_eq_true_eq] at h'
  by_cases c : (ts.length : Int) = n
  case neg => simp [c]
  have e : f42.l4 k k 0 es ts n = some (if specK n es 0 ts = true then .inr () else .inl false) := spec_rows k hK n h'.1.1 es (by omega) (gE_mem n es [] h'.2) ts c ts [] k rfl (by omega)
  rw [if_pos (by rfl), if_neg (fb (by simpa using c)), e]
  simp only [tb c, Bool.true_and, specK_eq]
  cases (ts.all (fun x => decide ((x.length : Int) = n)) && rowsK es 0 ts) <;> rfl
theorem impl_entry (k : Nat) (hK : 2097152 ≤ k) (es : List S146) (hl : es.length ≤ 1000) (ts : List (List S142)) (n : Int) {r : Nat} (hr : r < ts.length) {row pre rest : List S142} {x : S142} (hrow : List.getD ts r [] = row) (he : row = pre ++ x :: rest) :
    f110 k es ts n (r : Int) (pre.length : Int) = some (eK es (r : Int) (pre.length : Int) x, es, ts, n) := by
  have hp : (0 : Int) ≤ (pre.length : Int) := by omega
  have hr0 : (0 : Int) ≤ (r : Int) := by omega
  have hr1 : (r : Int) < (ts.length : Int) := by omega
  have hpr : (pre.length : Int) < ((List.length (List.getD ts r [])) : Int) := by rw [hrow, he]; simp; omega
  simp only [f110, f110.step, Int.toNat_natCast (n := r), gm2 hrow he, in_impl, Option.bind_some, find_impl k hK _ _ _ _ _ hl]
  simp only [hr0, hr1, hp, hpr, if_true, decide_true, eK]
  have hfl := fe_lt (r : Int) x.f1 es 0 (Int.le_refl 0)
  have hfl : fe (r : Int) x.f1 0 es < (es.length : Int) := by omega
  by_cases c0 : (r : Int) = (pre.length : Int)
  · simp only [c0, decide_true, if_true, Bool.and_true]
  · have c0' : ¬ (pre.length : Int) = (r : Int) := fun h => c0 h.symm
    simp only [ff c0', c0, Bool.false_eq_true, if_false]
    by_cases d1 : 1 ≤ x.f0 ∧ x.f0 ≤ 16
    case neg => simp [d1]
    by_cases d2 : 0 ≤ x.f2 ∧ x.f2 ≤ 6
    case neg => simp [d1, d2]
    simp only [tb d1, tb d2, Bool.not_true, if_true, Bool.true_and, Bool.false_eq_true, if_false]
    by_cases d3 : x.f1 = -1
    · by_cases d4 : x.f0 = 16 <;> simp [d3, d4]
    · by_cases d4 : 0 ≤ fe (r : Int) x.f1 0 es
      case neg =>
        have : ¬ fe (r : Int) x.f1 0 es ≥ 0 := by omega
        simp [d3, d4]
      have e4 : fe (r : Int) x.f1 0 es ≥ 0 := d4
      by_cases d5 : x.f0 = 16 <;> simp [d3, d4, e4, d5, hfl]
theorem impl_row (k : Nat) (hK : 2097152 ≤ k) (es : List S146) (hl : es.length ≤ 1000) (ts : List (List S142)) (n : Int) (r : Nat) (hr : r < ts.length) (row : List S142) (hrow : List.getD ts r [] = row) (hrl : row.length ≤ 1048577) (m : Int) :
    ∀ (rest pre : List S142) (j : Nat), row = pre ++ rest → rest.length < j →
    f44.l13 k j (r : Int) m (r : Int) (row.length : Int) (pre.length : Int) es ts n = some (if rK es (r : Int) (pre.length : Int) rest = true then .inr (m, (r : Int), es, ts, n) else .inl (false, m, (r : Int), es, ts, n)) := by
  intro rest
  induction rest with
  | nil =>
    intro pre j he hj
    obtain ⟨j, rfl⟩ : ∃ j', j = j' + 1 := ⟨j - 1, by omega⟩
    simp only [List.append_nil] at he
    simp only [f44.l13, f44.l13.step]
    rw [if_neg (fb (by rw [← he]; omega))]
    simp [rK]
  | cons x rest ih =>
    intro pre j he hj
    obtain ⟨j, rfl⟩ : ∃ j', j = j' + 1 := ⟨j - 1, by omega⟩
    have hlen : pre.length + rest.length + 1 = row.length := by rw [he]; simp; omega
    have hpn : (pre.length : Int) < (row.length : Int) := by omega
    have hw := wnext pre x (by omega)
    have := ih (pre ++ [x]) j (by rw [he]; simp) (by simp at hj; omega)
    have hn2 : ((pre ++ [x]).length : Int) = (pre.length : Int) + 1 := by simp
    rw [hn2] at this hw
    simp only [f44.l13, f44.l13.step, impl_entry k hK es hl ts n hr hrow he, hpn, if_true, decide_true, Option.bind_some, hw, this, rK]
    rcases Bool.eq_false_or_eq_true (eK es (r : Int) (pre.length : Int) x) with h | h <;> simp [h]
theorem impl_rows (k : Nat) (hK : 2097152 ≤ k) (es : List S146) (hl : es.length ≤ 1000) (ts : List (List S142)) (n : Int) (htl : ts.length ≤ 1048577) (hts : ∀ x ∈ ts, x.length ≤ 1048577) :
    ∀ (rest pre : List (List S142)) (j : Nat), ts = pre ++ rest → rest.length < j →
    f44.l10 k j (ts.length : Int) (pre.length : Int) es ts n = some (if rowsK es (pre.length : Int) rest = true then .inr () else .inl false) := by
  intro rest
  induction rest with
  | nil =>
    intro pre j he hj
    obtain ⟨j, rfl⟩ : ∃ j', j = j' + 1 := ⟨j - 1, by omega⟩
    simp only [List.append_nil] at he
    simp only [f44.l10, f44.l10.step]
    rw [if_neg (fb (by rw [← he]; omega))]
    simp [rowsK]
  | cons x rest ih =>
    intro pre j he hj
    obtain ⟨j, rfl⟩ : ∃ j', j = j' + 1 := ⟨j - 1, by omega⟩
    have hp : (0 : Int) ≤ (pre.length : Int) := by omega
    have hlen : pre.length + rest.length + 1 = ts.length := by rw [he]; simp; omega
    have hpt : (pre.length : Int) < (ts.length : Int) := by omega
    have hrow : List.getD ts (Int.toNat (pre.length : Int)) [] = x := by rw [he, gm]
    have hw := wnext pre x (by omega)
    have := ih (pre ++ [x]) j (by rw [he]; simp) (by simp at hj; omega)
    have hn2 : ((pre ++ [x]).length : Int) = (pre.length : Int) + 1 := by simp
    rw [hn2] at this hw
    have hx : x.length ≤ 1048577 := hts x (by rw [he]; simp)
    have e := impl_row k hK es hl ts n pre.length (by omega) x hrow hx (ts.length : Int) x [] k rfl (by omega)
    have e : f44.l13 k k (pre.length : Int) (ts.length : Int) (pre.length : Int) (x.length : Int) 0 es ts n = some (if rK es (pre.length : Int) 0 x = true then .inr ((ts.length : Int), (pre.length : Int), es, ts, n) else .inl (false, (ts.length : Int), (pre.length : Int), es, ts, n)) := e
    simp only [f44.l10, f44.l10.step, hrow, hp, hpt, if_true, decide_true, e, Option.bind_some, rowsK]
    rcases Bool.eq_false_or_eq_true (rK es (pre.length : Int) 0 x) with h | h
    · simp only [h, if_true, Sum.elim_inr, hw, this, Bool.true_and]
    · simp [h]
theorem impl_lens (k : Nat) (es : List S146) (ts : List (List S142)) (n : Int) (htl : ts.length ≤ 1048577) :
    ∀ (rest pre : List (List S142)) (j : Nat), ts = pre ++ rest → rest.length < j →
    f44.l4 k j ts (ts.length : Int) (pre.length : Int) es ts n = some (if rest.all (fun x => decide ((x.length : Int) = n)) = true then .inr (es, ts, n) else .inl (false, es, ts, n)) := by
  intro rest
  induction rest with
  | nil =>
    intro pre j he hj
    obtain ⟨j, rfl⟩ : ∃ j', j = j' + 1 := ⟨j - 1, by omega⟩
    simp only [List.append_nil] at he
    simp only [f44.l4, f44.l4.step]
    rw [if_neg (fb (by rw [← he]; omega))]
    simp
  | cons x rest ih =>
    intro pre j he hj
    obtain ⟨j, rfl⟩ : ∃ j', j = j' + 1 := ⟨j - 1, by omega⟩
    have hp : (0 : Int) ≤ (pre.length : Int) := by omega
    have hlen : pre.length + rest.length + 1 = ts.length := by rw [he]; simp; omega
    have hpt : (pre.length : Int) < (ts.length : Int) := by omega
    have hrow : List.getD ts (Int.toNat (pre.length : Int)) [] = x := by rw [he, gm]
    have hw := wnext pre x (by omega)
    have := ih (pre ++ [x]) j (by rw [he]; simp) (by simp at hj; omega)
    simp only [f44.l4, f44.l4.step, hrow, hp, hpt, if_true, decide_true, hw, this, List.all_cons]
    by_cases c : (x.length : Int) = n <;> simp [c]
theorem area_impl (k : Nat) (hK : 2097152 ≤ k) (es : List S146) (ts : List (List S142)) (n : Int) (htl : ts.length ≤ 1048577) (hts : ∀ x ∈ ts, x.length ≤ 1048577) :
    f44 k es ts n = some ((decide ((1 ≤ n ∧ n ≤ 5) ∧ es.length ≤ 8) && gE n [] es) && (decide ((ts.length : Int) = n) && (ts.all (fun x => decide ((x.length : Int) = n)) && rowsK es 0 ts))) := by
  simp only [f44, f44.step, edges_impl k hK, Option.bind_some]
  rcases Bool.eq_false_or_eq_true (decide ((1 ≤ n ∧ n ≤ 5) ∧ es.length ≤ 8) && gE n [] es) with h | h
  case inr => rw [h]; rfl
  rw [h]
  have h' := h
  simp only [Bool.and_eq_true, decide_eq_true_eq] at h'
  by_cases c : (ts.length : Int) = n
  case neg => simp [c]
  have e1 : f44.l4 k k ts (ts.length : Int) 0 es ts n = _ := impl_lens k es ts n htl ts [] k rfl (by omega)
  have e2 : f44.l10 k k (ts.length : Int) 0 es ts n = some (if rowsK es 0 ts = true then .inr () else .inl false) := impl_rows k hK es (by omega) ts n htl hts ts [] k rfl (by omega)
  rw [if_pos (by rfl), if_neg (fb (by simpa using c)), e1]
  simp only [List.length_nil, tb c, Bool.true_and, Option.bind_some]
  cases (ts.all (fun x => decide ((x.length : Int) = n)))
  · rfl
  · simp only [if_true, Sum.elim_inr, e2, Option.bind_some]
    cases rowsK es 0 ts <;> rfl
/-! ### marks of ints and of areas -/
theorem eqI_loop (k : Nat) (xs : List Int) (hl : xs.length ≤ 1048576) : ∀ (rest pre : List Int) (j : Nat), xs = pre ++ rest → rest.length < j → f25.l4 k j xs xs (pre.length : Int) = some (.inr ()) := by
  intro rest
  induction rest with
  | nil =>
    intro pre j he hj
    obtain ⟨j, rfl⟩ : ∃ j', j = j' + 1 := ⟨j - 1, by omega⟩
    simp only [List.append_nil] at he
    simp only [f25.l4, f25.l4.step]
    rw [if_neg (fb (by rw [← he]; omega))]
  | cons x rest ih =>
    intro pre j he hj
    obtain ⟨j, rfl⟩ : ∃ j', j = j' + 1 := ⟨j - 1, by omega⟩
    have hp : (0 : Int) ≤ (pre.length : Int) := by omega
    have hlen : pre.length + rest.length + 1 = xs.length := by rw [he]; simp; omega
    have hlt : (pre.length : Int) < (xs.length : Int) := by omega
    have hw := wnext pre x (by omega)
    simp only [f25.l4, f25.l4.step, hp, hlt, if_true, decide_true, hw, ne_eq, not_true, decide_false, Bool.false_eq_true, if_false]
    exact ih (pre ++ [x]) j (by rw [he]; simp) (by simp at hj; omega)
theorem eqI (k : Nat) (hK : 2097152 ≤ k) {xs : List Int} (hl : xs.length ≤ 1048576) : f25 k xs xs = some true := by
  have h0 : f25.l4 k k xs xs 0 = some (.inr ()) := eqI_loop k xs hl xs [] k rfl (by omega)
  simp only [f25, f25.step, h0]
  simp
def HeldI : Int → List Int → Prop
  | _, [] => True
  | a, y :: ys => y = a ∧ HeldI (a + 1) ys
theorem markI_loop (k : Nat) : ∀ (rest pre : List Int) (j : Nat) (a : Int), rest.length < j → pre.length + rest.length ≤ 1048576 → 0 ≤ a → a + rest.length ≤ 10000000000 → ∃ ys, f26.l2 k j a (pre.length : Int) (pre ++ rest) = some (a + (rest.length : Int), pre ++ ys) ∧ HeldI a ys ∧ ys.length = rest.length := by
  intro rest
  induction rest with
  | nil =>
    intro pre j a hj hl h0 h1
    obtain ⟨j, rfl⟩ : ∃ j', j = j' + 1 := ⟨j - 1, by omega⟩
    simp only [f26.l2, f26.l2.step]
    rw [if_neg (fb (by simp))]
    exact ⟨[], by simp, trivial, rfl⟩
  | cons x rest ih =>
    intro pre j a hj hl h0 h1
    obtain ⟨j, rfl⟩ : ∃ j', j = j' + 1 := ⟨j - 1, by omega⟩
    simp only [List.length_cons] at hj hl h1
    simp only [f26.l2, f26.l2.step, set_mid]
    rw [if_pos (tb (lt_mid _ _ _)), if_pos (by omega), if_pos (lt_mid _ _ _), w64 (by omega) (by omega), w64 (by omega) (by omega)]
    obtain ⟨ys, h, h2, h3⟩ := ih (pre ++ [a]) j (a + 1) (by omega) (by simp; omega) (by omega) (by omega)
    simp only [List.length_append, List.length_singleton, List.append_assoc, List.singleton_append] at h
    refine ⟨a :: ys, Eq.trans h ?_, ⟨rfl, h2⟩, by simp [h3]⟩
    simp only [List.length_cons]
    rw [show a + 1 + (rest.length : Int) = a + ((rest.length + 1 : Nat) : Int) by omega]
theorem heldI_loop (k : Nat) : ∀ (ys pre : List Int) (j : Nat) (a : Int), HeldI a ys → ys.length < j → pre.length + ys.length ≤ 1048576 → 0 ≤ a → a + ys.length ≤ 10000000000 → f67.l2 k j (pre ++ ys) a (pre.length : Int) = some (.inr (a + (ys.length : Int))) := by
  intro ys
  induction ys with
  | nil =>
    intro pre j a hH hj hl h0 h1
    obtain ⟨j, rfl⟩ : ∃ j', j = j' + 1 := ⟨j - 1, by omega⟩
    simp only [f67.l2, f67.l2.step]
    rw [if_neg (fb (by simp))]
    simp
  | cons x rest ih =>
    intro pre j a hH hj hl h0 h1
    obtain ⟨j, rfl⟩ : ∃ j', j = j' + 1 := ⟨j - 1, by omega⟩
    simp only [List.length_cons] at hj hl h1
    have hx : x = a := hH.1
    simp only [f67.l2, f67.l2.step, gm]
    rw [if_pos (tb (lt_mid _ _ _)), if_pos (by omega), if_pos (lt_mid _ _ _), if_neg (fb (by simp [hx])), w64 (by omega) (by omega), w64 (by omega) (by omega)]
    have h := ih (pre ++ [x]) j (a + 1) hH.2 (by omega) (by simp; omega) (by omega) (by omega)
    simp only [List.length_append, List.length_singleton, List.append_assoc, List.singleton_append] at h
    refine Eq.trans h ?_
    simp only [List.length_cons]
    rw [show a + 1 + (rest.length : Int) = a + ((rest.length + 1 : Nat) : Int) by omega]
theorem markI (k : Nat) (hK : 2097152 ≤ k) (xs : List Int) (hl : xs.length ≤ 1048576) : ∃ a ys, f26 k xs 1 = some (a, ys) ∧ 0 ≤ a ∧ f67 k ys 1 = some a := by
  obtain ⟨ys, h, h2, h3⟩ := markI_loop k xs [] k 1 (by omega) (by simpa using hl) (by omega) (by omega)
  have h : f26.l2 k k 1 0 xs = some (1 + (xs.length : Int), ys) := h
  have h4 := heldI_loop k ys [] k 1 h2 (by omega) (by simp; omega) (by omega) (by omega)
  have h4 : f67.l2 k k ys 1 0 = some (.inr (1 + (ys.length : Int))) := h4
  refine ⟨_, ys, by simp only [f26, f26.step, h]; rfl, by omega, ?_⟩
  simp only [f67, f67.step, h4, h3]; rfl
theorem s146_0 (pre rest : List S146) (p0 : Int) (p1 : Int) (p2 : Int) (p3 : Bool) (a : Int) : set146 (pre ++ ⟨p0, p1, p2, p3⟩ :: rest) (Int.toNat (pre.length : Int)) 0 [.s (.int .i64 a)] = pre ++ ⟨a, p1, p2, p3⟩ :: rest := set_at (e := 146) pre rest _ _ rfl
theorem s146_1 (pre rest : List S146) (p0 : Int) (p1 : Int) (p2 : Int) (p3 : Bool) (a : Int) : set146 (pre ++ ⟨p0, p1, p2, p3⟩ :: rest) (Int.toNat (pre.length : Int)) 1 [.s (.int .i64 a)] = pre ++ ⟨p0, a, p2, p3⟩ :: rest := set_at (e := 146) pre rest _ _ rfl
theorem s146_2 (pre rest : List S146) (p0 : Int) (p1 : Int) (p2 : Int) (p3 : Bool) (a : Int) : set146 (pre ++ ⟨p0, p1, p2, p3⟩ :: rest) (Int.toNat (pre.length : Int)) 2 [.s (.int .i64 a)] = pre ++ ⟨p0, p1, a, p3⟩ :: rest := set_at (e := 146) pre rest _ _ rfl
theorem s146_3 (pre rest : List S146) (p0 : Int) (p1 : Int) (p2 : Int) (p3 : Bool) (a : Bool) : set146 (pre ++ ⟨p0, p1, p2, p3⟩ :: rest) (Int.toNat (pre.length : Int)) 3 [.s (.bool a)] = pre ++ ⟨p0, p1, p2, a⟩ :: rest := set_at (e := 146) pre rest _ _ rfl
theorem s142_0 (pre rest : List S142) (p0 : Int) (p1 : Int) (p2 : Int) (a : Int) : set142 (pre ++ ⟨p0, p1, p2⟩ :: rest) (Int.toNat (pre.length : Int)) 0 [.s (.int .i64 a)] = pre ++ ⟨a, p1, p2⟩ :: rest := set_at (e := 142) pre rest _ _ rfl
theorem s142_1 (pre rest : List S142) (p0 : Int) (p1 : Int) (p2 : Int) (a : Int) : set142 (pre ++ ⟨p0, p1, p2⟩ :: rest) (Int.toNat (pre.length : Int)) 1 [.s (.int .i64 a)] = pre ++ ⟨p0, a, p2⟩ :: rest := set_at (e := 142) pre rest _ _ rfl
theorem s142_2 (pre rest : List S142) (p0 : Int) (p1 : Int) (p2 : Int) (a : Int) : set142 (pre ++ ⟨p0, p1, p2⟩ :: rest) (Int.toNat (pre.length : Int)) 2 [.s (.int .i64 a)] = pre ++ ⟨p0, p1, a⟩ :: rest := set_at (e := 142) pre rest _ _ rfl
theorem markE_loop (k : Nat) : ∀ (rest pre : List S146) (j : Nat) (a : Int), rest.length < j → pre.length + rest.length ≤ 1048576 → 0 ≤ a → a + 4 * rest.length ≤ 10000000000 → ∃ ys, f131.l2 k j a (pre.length : Int) (pre ++ rest) = some (a + 4 * (rest.length : Int), ys) := by
  intro rest
  induction rest with
  | nil =>
    intro pre j a hj hl h0 h1
    obtain ⟨j, rfl⟩ : ∃ j', j = j' + 1 := ⟨j - 1, by omega⟩
    simp only [f131.l2, f131.l2.step]
    rw [if_neg (fb (by simp))]
    exact ⟨_, by simp; rfl⟩
  | cons x rest ih =>
    intro pre j a hj hl h0 h1
    obtain ⟨j, rfl⟩ : ∃ j', j = j' + 1 := ⟨j - 1, by omega⟩
    simp only [List.length_cons] at hj hl h1
    have hp : (0 : Int) ≤ (pre.length : Int) := by omega
    have w1 : IntKind.i64.wrap (a + 1) = a + 1 := w64 (by omega) (by omega)
    have w2 : IntKind.i64.wrap (a + 1 + 1) = a + 1 + 1 := w64 (by omega) (by omega)
    have w3 : IntKind.i64.wrap (a + 1 + 1 + 1) = a + 1 + 1 + 1 := w64 (by omega) (by omega)
    have w4 : IntKind.i64.wrap (a + 1 + 1 + 1 + 1) = a + 1 + 1 + 1 + 1 := w64 (by omega) (by omega)
    have wl : IntKind.i64.wrap ((pre.length : Int) + 1) = (pre.length : Int) + 1 := w64 (by omega) (by omega)
    obtain ⟨p0, p1, p2, p3⟩ := x
    simp only [f131.l2, f131.l2.step, w1, w2, w3, w4, s146_0, s146_1, s146_2, s146_3]
    simp only [lt_mid, hp, if_true, decide_true, wl]
    obtain ⟨ys, h⟩ := ih (pre ++ [_]) j (a + 4) (by omega) (by simp; omega) (by omega) (by omega)
    simp only [List.length_append, List.length_singleton, List.append_assoc, List.singleton_append] at h
    have w5 : a + 1 + 1 + 1 + 1 = a + 4 := by omega
    rw [w5]
    refine ⟨ys, Eq.trans h ?_⟩
    simp only [List.length_cons]
    rw [show a + 4 + 4 * (rest.length : Int) = a + 4 * ((rest.length + 1 : Nat) : Int) by omega]
theorem markE (k : Nat) (hK : 2097152 ≤ k) {xs : List S146} (hl : xs.length ≤ 1048576) {a : Int} (h0 : 0 ≤ a) (h1 : a ≤ 1000000000) : ∃ ys, f131 k xs a = some (a + 4 * (xs.length : Int), ys) := by
  obtain ⟨ys, h⟩ := markE_loop k xs [] k a (by omega) (by simpa using hl) h0 (by omega)
  have h : f131.l2 k k a 0 xs = some (a + 4 * (xs.length : Int), ys) := h
  exact ⟨ys, by simp only [f131, f131.step, h]; rfl⟩
theorem markN_loop (k : Nat) : ∀ (rest pre : List S142) (j : Nat) (a : Int), rest.length < j → pre.length + rest.length ≤ 1048576 → 0 ≤ a → a + 3 * rest.length ≤ 10000000000 → ∃ ys, f172.l2 k j a (pre.length : Int) (pre ++ rest) = some (a + 3 * (rest.length : Int), ys) := by
  intro rest
  induction rest with
  | nil =>
    intro pre j a hj hl h0 h1
    obtain ⟨j, rfl⟩ : ∃ j', j = j' + 1 := ⟨j - 1, by omega⟩
    simp only [f172.l2, f172.l2.step]
    rw [if_neg (fb (by simp))]
    exact ⟨_, by simp; rfl⟩
  | cons x rest ih =>
    intro pre j a hj hl h0 h1
    obtain ⟨j, rfl⟩ : ∃ j', j = j' + 1 := ⟨j - 1, by omega⟩
    simp only [List.length_cons] at hj hl h1
    have hp : (0 : Int) ≤ (pre.length : Int) := by omega
    have w1 : IntKind.i64.wrap (a + 1) = a + 1 := w64 (by omega) (by omega)
    have w2 : IntKind.i64.wrap (a + 1 + 1) = a + 1 + 1 := w64 (by omega) (by omega)
    have w3 : IntKind.i64.wrap (a + 1 + 1 + 1) = a + 1 + 1 + 1 := w64 (by omega) (by omega)
    have w4 : IntKind.i64.wrap (a + 1 + 1 + 1 + 1) = a + 1 + 1 + 1 + 1 := w64 (by omega) (by omega)
    have wl : IntKind.i64.wrap ((pre.length : Int) + 1) = (pre.length : Int) + 1 := w64 (by omega) (by omega)
    obtain ⟨p0, p1, p2⟩ := x
    simp only [f172.l2, f172.l2.step, w1, w2, w3, w4, s142_0, s142_1, s142_2]
    simp only [lt_mid, hp, if_true, decide_true, wl]
    obtain ⟨ys, h⟩ := ih (pre ++ [_]) j (a + 3) (by omega) (by simp; omega) (by omega) (by omega)
    simp only [List.length_append, List.length_singleton, List.append_assoc, List.singleton_append] at h
    have w5 : a + 1 + 1 + 1 = a + 3 := by omega
    rw [w5]
    refine ⟨ys, Eq.trans h ?_⟩
    simp only [List.length_cons]
    rw [show a + 3 + 3 * (rest.length : Int) = a + 3 * ((rest.length + 1 : Nat) : Int) by omega]
theorem markN (k : Nat) (hK : 2097152 ≤ k) {xs : List S142} (hl : xs.length ≤ 1048576) {a : Int} (h0 : 0 ≤ a) (h1 : a ≤ 1000000000) : ∃ ys, f172 k xs a = some (a + 3 * (xs.length : Int), ys) := by
  obtain ⟨ys, h⟩ := markN_loop k xs [] k a (by omega) (by simpa using hl) h0 (by omega)
  have h : f172.l2 k k a 0 xs = some (a + 3 * (xs.length : Int), ys) := h
  exact ⟨ys, by simp only [f172, f172.step, h]; rfl⟩
def datM : List (List S142) → Nat
  | [] => 0
  | x :: l => x.length + datM l
theorem datM_cN : ∀ l : List (List S225), datM (l.map (List.map cN)) = datN l
  | [] => rfl
  | x :: l => by simp [datM, datN, datM_cN l]
theorem markNS_loop (k : Nat) (hK : 2097152 ≤ k) : ∀ (rest pre : List (List S142)) (j : Nat) (a : Int), rest.length < j → pre.length + rest.length ≤ 1048576 → 0 ≤ a → datM rest ≤ 1048576 → a + 3 * datM rest ≤ 1000000000 → ∃ ys, f132.l2 k j a (pre.length : Int) (pre ++ rest) = some (a + 3 * (datM rest : Int), ys) := by
  intro rest
  induction rest with
  | nil =>
    intro pre j a hj hl h0 h1 h2
    obtain ⟨j, rfl⟩ : ∃ j', j = j' + 1 := ⟨j - 1, by omega⟩
    simp only [f132.l2, f132.l2.step]
    rw [if_neg (fb (by simp))]
    exact ⟨_, by simp [datM]; rfl⟩
  | cons x rest ih =>
    intro pre j a hj hl h0 h1 h2
    obtain ⟨j, rfl⟩ : ∃ j', j = j' + 1 := ⟨j - 1, by omega⟩
    simp only [List.length_cons, datM] at hj hl h1 h2
    have hp : (0 : Int) ≤ (pre.length : Int) := by omega
    have wl : IntKind.i64.wrap ((pre.length : Int) + 1) = (pre.length : Int) + 1 := w64 (by omega) (by omega)
    obtain ⟨zs, hz⟩ := markN k hK (xs := x) (by omega) h0 (by omega)
    simp only [f132.l2, f132.l2.step, gm, hz, Option.bind_some, set_mid]
    simp only [lt_mid, hp, if_true, decide_true, wl]
    obtain ⟨ys, h⟩ := ih (pre ++ [zs]) j (a + 3 * (x.length : Int)) (by omega) (by simp; omega) (by omega) (by omega) (by omega)
    simp only [List.length_append, List.length_singleton, List.append_assoc, List.singleton_append] at h
    refine ⟨ys, Eq.trans h ?_⟩
    simp only [datM]
    rw [show a + 3 * (x.length : Int) + 3 * (datM rest : Int) = a + 3 * ((x.length + datM rest : Nat) : Int) by omega]
theorem markA (k : Nat) (hK : 2097152 ≤ k) {es : List S146} {ts : List (List S142)} (n : Int) (h : es.length + ts.length + datM ts ≤ 1048576) : ∃ a es' ts', f66 k es ts n 1 = some (a, es', ts', false) ∧ 0 ≤ a := by
  obtain ⟨es', h1⟩ := markE k hK (xs := es) (by omega) (a := 1) (by omega) (by omega)
  obtain ⟨ts', h2⟩ := markNS_loop k hK ts [] k (1 + 4 * (es.length : Int)) (by omega) (by simp; omega) (by omega) (by omega) (by omega)
  have h2 : f132.l2 k k (1 + 4 * (es.length : Int)) 0 ts = _ := h2
  refine ⟨1 + 4 * (es.length : Int) + 3 * (datM ts : Int), es', ts', ?_, ?_⟩
  · simp only [f66, f66.step, h1, Option.bind_some, f132, f132.step, h2]
  · omega
/-! ### adverts -/
/-- What a router tells another of its table's row. -/
def adv (to : Int) (x : S142) : Int := if x.f1 = to then 16 else x.f0
theorem spec_adv (k : Nat) (hK : 2097152 ≤ k) (es : List S146) (ts : List (List S142)) (n : Int) (r : Nat) (hr : r < ts.length) (row : List S142) (hrow : List.getD ts r [] = row) (hrn : (row.length : Int) = n) (hn : n ≤ 5) (to : Int) (hto : (r : Int) ≠ to) (hK : rK es (r : Int) 0 row = true) :
    ∀ (rest pre : List S142) (j : Nat), row = pre ++ rest → rK es (r : Int) (pre.length : Int) rest = true → rest.length < j →
    f128.l3 k j (r : Int) to (pre.length : Int) es ts n (pre.map (adv to)) = some (row.map (adv to)) := by
  have hm : maxN = 140737488351232 := by decide
  intro rest
  induction rest with
  | nil =>
    intro pre j he hk hj
    obtain ⟨j, rfl⟩ : ∃ j', j = j' + 1 := ⟨j - 1, by omega⟩
    simp only [List.append_nil] at he
    simp only [f128.l3, f128.l3.step]
    rw [if_neg (fb (by rw [← he]; omega)), he]
  | cons x rest ih =>
    intro pre j he hk hj
    obtain ⟨j, rfl⟩ : ∃ j', j = j' + 1 := ⟨j - 1, by omega⟩
    have hp : (0 : Int) ≤ (pre.length : Int) := by omega
    have hr0 : (0 : Int) ≤ (r : Int) := by omega
    have hr1 : (r : Int) < (ts.length : Int) := by omega
    have hlen : pre.length + rest.length + 1 = row.length := by rw [he]; simp; omega
    have hpn : (pre.length : Int) < n := by omega
    have hpr : (pre.length : Int) < ((List.length (List.getD ts r [])) : Int) := by rw [hrow]; omega
    have hw := wnext pre x (by omega)
    simp only [rK, Bool.and_eq_true] at hk
    have hn2 : ((pre ++ [x]).length : Int) = (pre.length : Int) + 1 := by simp
    have := ih (pre ++ [x]) j (by rw [he]; simp) (by rw [hn2]; exact hk.2) (by simp at hj; omega)
    simp only [List.map_append, List.map_cons, List.map_nil] at this
    rw [hn2] at this hw
    have hc : ∀ v : Int, ((pre.map (adv to)).length + ([v] : List Int).length) * 8 ≤ maxN := fun v => by simp; omega
    simp only [f128.l3, f128.l3.step, Int.toNat_natCast (n := r), gm2 hrow he, hw]
    simp only [hpn, hr0, hr1, hp, hpr, hc, if_true, decide_true]
    by_cases c0 : (pre.length : Int) = (r : Int)
    · have e := hk.1
      rw [c0] at e
      simp only [eK, if_true, Bool.and_eq_true, decide_eq_true_eq] at e
      have hx : adv to x = x.f0 := by simp only [adv, e.2.1]; rw [if_neg hto]
      rw [hx] at this
      rw [if_neg (fb (by simpa using c0))]
      exact this
    · rw [if_pos (tb c0)]
      by_cases c1 : x.f1 = to
      · have hx : adv to x = 16 := by simp [adv, c1]
        rw [hx] at this
        rw [if_pos (tb c1)]; exact this
      · have hx : adv to x = x.f0 := by simp [adv, c1]
        rw [hx] at this
        rw [if_neg (fb c1)]; exact this
theorem impl_adv_loop (k : Nat) (row : List S142) (hl : row.length ≤ 1048577) (to : Int) : ∀ (rest pre : List S142) (j : Nat), row = pre ++ rest → rest.length < j →
    f130.l3 k j to row (row.length : Int) (pre.length : Int) (pre.map (adv to) ++ List.replicate rest.length 0) = some (row.map (adv to)) := by
  intro rest
  induction rest with
  | nil =>
    intro pre j he hj
    obtain ⟨j, rfl⟩ : ∃ j', j = j' + 1 := ⟨j - 1, by omega⟩
    simp only [List.append_nil] at he
    simp only [f130.l3, f130.l3.step]
    rw [if_neg (fb (by rw [← he]; omega)), he]; simp
  | cons x rest ih =>
    intro pre j he hj
    obtain ⟨j, rfl⟩ : ∃ j', j = j' + 1 := ⟨j - 1, by omega⟩
    have hp : (0 : Int) ≤ (pre.length : Int) := by omega
    have hlen : pre.length + rest.length + 1 = row.length := by rw [he]; simp; omega
    have hpr : (pre.length : Int) < (row.length : Int) := by omega
    have hg : ∀ d, row.getD (Int.toNat (pre.length : Int)) d = x := fun d => by rw [he]; exact gm _ _ _ _
    have hw := wnext pre x (by omega)
    have := ih (pre ++ [x]) j (by rw [he]; simp) (by simp at hj; omega)
    simp only [List.map_append, List.map_cons, List.map_nil, List.append_assoc, List.singleton_append] at this
    have hs : ∀ a b : Int, List.set (List.map (adv to) pre ++ a :: List.replicate rest.length 0) (Int.toNat (pre.length : Int)) b = List.map (adv to) pre ++ b :: List.replicate rest.length 0 := fun a b => set_mid' _ (by simp) _ _ _
    have hlt : ∀ a : Int, (pre.length : Int) < ((List.map (adv to) pre ++ a :: List.replicate rest.length 0).length : Int) := fun a => lt_mid' _ (by simp) _ _
    simp only [f130.l3, f130.l3.step, List.length_cons, List.replicate_succ, hg, hs, hlt, hpr, hp, if_true, decide_true, hw]
    by_cases c : x.f1 = to
    · have hx : adv to x = 16 := by simp [adv, c]
      rw [hx] at this
      rw [if_pos (tb c)]; exact this
    · have hx : adv to x = x.f0 := by simp [adv, c]
      rw [hx] at this
      rw [if_neg (fb c)]; exact this
theorem impl_adv (k : Nat) (hK : 2097152 ≤ k) (row : List S142) (hl : row.length ≤ 1048577) (to : Int) : f130 k row to = some (row.map (adv to)) := by
  have hm : maxN = 140737488351232 := by decide
  have e : f130.l3 k k to row (row.length : Int) 0 (List.replicate row.length 0) = some (row.map (adv to)) := impl_adv_loop k row hl to row [] k rfl (by omega)
  simp only [f130, f130.step, Int.toNat_natCast, e, Option.bind_some]
  rw [if_pos (by omega), if_pos (by omega)]
theorem rows_get (es : List S146) : ∀ (ts : List (List S142)) (i : Int) (r : Nat), r < ts.length → rowsK es i ts = true → rK es (i + r) 0 (List.getD ts r []) = true
  | [], _, _, h, _ => by simp at h
  | x :: ts, i, 0, _, h => by simp only [rowsK, Bool.and_eq_true] at h; simpa using h.1
  | x :: ts, i, r + 1, hl, h => by
    simp only [rowsK, Bool.and_eq_true] at h
    have := rows_get es ts (i + 1) r (by simpa using hl) h.2
    rw [show i + 1 + (r : Int) = i + ((r + 1 : Nat) : Int) by omega] at this
    simpa using this
theorem advert_ok (k : Nat) (hK : 2097152 ≤ k) (es : List S146) (ts : List (List S142)) (n r to : Int) (htl : ts.length ≤ 1048577) (hts : ∀ x ∈ ts, x.length ≤ 1048577) :
    (∃ c, f64 k es ts n r to = some ([], c) ∧ f65 k es ts n r to = some (.inl c)) ∨ (∃ l : List Int, l.length ≤ 5 ∧ f64 k es ts n r to = some (l, 0) ∧ f65 k es ts n r to = some (.inr (l, 0))) := by
  simp only [f64, f64.step, f65, f65.step, area_spec k hK, area_impl k hK es ts n htl hts, Option.bind_some]
  rcases Bool.eq_false_or_eq_true ((decide ((1 ≤ n ∧ n ≤ 5) ∧ es.length ≤ 8) && gE n [] es) && (decide ((ts.length : Int) = n) && (ts.all (fun x => decide ((x.length : Int) = n)) && rowsK es 0 ts))) with h | h
  case inr => exact .inl ⟨1, by rw [h]; rfl, by rw [h]; rfl⟩
  rw [h]
  have h' := h
  simp only [Bool.and_eq_true, decide_eq_true_eq, List.all_eq_true] at h'
  obtain ⟨⟨⟨h1, h2⟩, h3⟩, h4, h5, h6⟩ := h'
  have wn : IntKind.i64.wrap (n - 1) = n - 1 := w64 (by omega) (by omega)
  simp only [Bool.not_true, Bool.false_eq_true, if_false, in_spec, in_impl, Option.bind_some, find_spec k hK _ _ es (show es.length ≤ 1000 by omega), find_impl k hK _ _ es _ _ (show es.length ≤ 1000 by omega), wn]
  by_cases c1 : 0 ≤ r ∧ r ≤ n - 1
  case neg => exact .inl ⟨4, by simp [c1], by simp [c1]⟩
  by_cases c2 : 0 ≤ to ∧ to ≤ n - 1
  case neg => exact .inl ⟨4, by simp [c1, c2], by simp [c1, c2]⟩
  simp only [tb c1, tb c2, Bool.not_true, if_true]
  by_cases c3 : fe r to 0 es < 0
  · simp only [tb c3, if_true]
    exact .inl ⟨4, rfl, rfl⟩
  obtain ⟨a, rfl⟩ : ∃ a : Nat, r = (a : Int) := ⟨r.toNat, by omega⟩
  have hat : a < ts.length := by omega
  have hne : (a : Int) ≠ to := by
    intro hq
    have h7 := fe_any (a : Int) to es 0 (Int.le_refl 0)
    rw [tb (show fe (a : Int) to 0 es ≥ 0 by omega)] at h7
    obtain ⟨e, he, hc⟩ := List.any_eq_true.mp h7.symm
    have := gE_mem n es [] h3 e he
    simp only [eo] at this
    simp only [conn, Bool.or_eq_true, Bool.and_eq_true, decide_eq_true_eq] at hc
    omega
  have hmem : List.getD ts a [] ∈ ts := by
    rw [List.getD_eq_getElem?_getD, List.getElem?_eq_getElem hat]; exact List.getElem_mem hat
  have hrl := h5 _ hmem
  have hrk := rows_get es ts 0 a hat h6
  rw [Int.zero_add] at hrk
  generalize hrow : List.getD ts a [] = row at hrl hrk
  have e1 : f128.l3 k k (a : Int) to 0 es ts n [] = some (row.map (adv to)) := spec_adv k hK es ts n a hat row hrow hrl (by omega) to hne hrk row [] k rfl hrk (by omega)
  simp only [ff c3, Bool.false_eq_true, if_false, f128, f128.step, e1, Option.bind_some, Int.toNat_natCast, hrow, impl_adv k hK row (by omega) to]
  exact .inr ⟨row.map (adv to), by simp; omega, rfl, by rw [if_pos (by omega), if_pos (by omega)]⟩
/-- The plain law. -/
theorem FnExactAdvert : Says := by
  intro es ts n r to he ht hn hr hto
  have hq : maxLen = 9223372036854775807 := by decide
  obtain ⟨k, hK⟩ : ∃ k : Nat, 2097152 ≤ k := ⟨_, Nat.le_refl _⟩
  refine ⟨k, ?_⟩
  simp only [f11, f11.step]
  obtain ⟨s, e, hs⟩ := szA k hK es ts n he.1 ht.1 (fun x hx => (ht.2 x hx).1)
  rw [e]
  simp only [Option.bind_some]
  rcases hs with hs | ⟨hs, h0⟩
  · rw [if_pos (tb hs)]
  rw [if_neg (fb (by omega))]
  have hm : ∀ x ∈ ts, x.length ≤ 1048576 := fun x hx => by have := datN_mem hx; omega
  have hto : f43 k es ts n = some (es.map cE, ts.map (List.map cN), n) := by
    simp only [f43, f43.step, toE k hK (show es.length ≤ 1048576 by omega), toNS k hK (show ts.length ≤ 1048576 by omega) hm, Option.bind_some]
  have hm2 : ∀ x ∈ ts.map (List.map cN), x.length ≤ 1048576 := fun x hx => by
    obtain ⟨y, hy, rfl⟩ := List.mem_map.mp hx
    simpa using hm y hy
  have q : f45 k (es.map cE) (ts.map (List.map cN)) n (es.map cE) (ts.map (List.map cN)) n = some true := eqA k hK n (by simp; omega) (by simp; omega) hm2
  obtain ⟨a, es', ts', m1, m2⟩ := markA k hK (es := es.map cE) (ts := ts.map (List.map cN)) n (by simp [datM_cN]; omega)
  have m3 : ¬ a < 0 := by omega
  rcases advert_ok k hK (es.map cE) (ts.map (List.map cN)) n r to (by simp; omega) (fun x hx => Nat.le_trans (hm2 x hx) (by omega)) with ⟨c, h1, h2⟩ | ⟨l, hl, h1, h2⟩
  · obtain ⟨b, ys, i1, i2, i3⟩ := markI k hK [] (by simp)
    have i4 : ¬ b < 0 := by omega
    obtain ⟨j, rfl⟩ : ∃ j', k = j' + 1 := ⟨k - 1, by omega⟩
    have z1 : f26 (j + 1) [] 1 = some (1, []) := by simp [f26, f26.step, f26.l2, f26.l2.step]
    have z2 : f67 (j + 1) [] 1 = some 1 := by simp [f67, f67.step, f67.l2, f67.l2.step]
    have z3 : f25 (j + 1) [] [] = some true := eqI (j + 1) hK (by simp)
    simp only [hto, h1, h2, q, m1, z1, z2, z3, Option.bind_some, Sum.elim_inl]
    simp [m3]
  · obtain ⟨b, ys, i1, i2, i3⟩ := markI k hK l (by omega)
    have i4 : ¬ b < 0 := by omega
    simp only [hto, h1, h2, q, m1, i1, i3, eqI k hK (show l.length ≤ 1048576 by omega), Option.bind_some, Sum.elim_inr]
    simp [m3, i4]
end Go.Proofs.Ytildepkogbcdpaa.Pure

/- The plain law of FnExactNewArea. -/
import Derived.Test.YtebmblbfplmcaaaSaysFnExactNewArea
namespace Go.Proofs.Ytebmblbfplmcaaa.Pure
open Go Go.B Go.Proofs.Ytebmblbfplmcaaa.B Go.Proofs.Ytebmblbfplmcaaa.SaysFnExactNewArea
set_option linter.unusedVariables false
set_option linter.unusedSimpArgs false
theorem w64 {n : Int} (h0 : -9223372036854775808 ≤ n) (h1 : n ≤ 9223372036854775807) : IntKind.i64.wrap n = n := by
  rw [IntKind.wrap_i64]; omega
theorem tb {c : Prop} [Decidable c] (h : c) : decide c = true := decide_eq_true h
theorem fb {c : Prop} [Decidable c] (h : ¬ c) : ¬ decide c = true := by simpa using h
theorem ff {c : Prop} [Decidable c] (h : ¬ c) : decide c = false := by simpa using h
theorem gm {α : Type} (pre rest : List α) (x d : α) : List.getD (pre ++ x :: rest) (Int.toNat (pre.length : Int)) d = x := by
  simp [List.getD_eq_getElem?_getD]
theorem lt_mid {α : Type} (pre rest : List α) (x : α) : (pre.length : Int) < ((pre ++ x :: rest).length : Int) := by simp; omega
theorem set_mid {α : Type} (pre rest : List α) (x y : α) : List.set (pre ++ x :: rest) (Int.toNat (pre.length : Int)) y = pre ++ y :: rest := by
  simp
theorem set_at {e : TypeId} (pre rest : List (env.T e)) (x y : env.T e) {off : Nat} {cs : List (Cell env.T)} (h : putCells (E := env) e x off cs = some y) : setE env e (pre ++ x :: rest) (Int.toNat (pre.length : Int)) off cs = pre ++ y :: rest := by
  have hg : List.getD (pre ++ x :: rest) (Int.toNat (pre.length : Int)) (env.dflt e) = x := gm pre rest x _
  simp only [setE, hg, h, Option.getD_some, set_mid]
theorem mid_next {α : Type} (pre rest : List α) (x : α) : pre ++ x :: rest = (pre ++ [x]) ++ rest := by simp
theorem set_mid' {α : Type} (pre' : List α) {n : Nat} (h : n = pre'.length) (rest : List α) (x y : α) : List.set (pre' ++ x :: rest) (Int.toNat (n : Int)) y = pre' ++ y :: rest := by
  subst h; simp
theorem lt_mid' {α : Type} (pre' : List α) {n : Nat} (h : n = pre'.length) (rest : List α) (x : α) : (n : Int) < ((pre' ++ x :: rest).length : Int) := by subst h; exact lt_mid _ _ _
theorem wnext {α : Type} (pre : List α) (x : α) (h : pre.length ≤ 4611686018427387904) : IntKind.i64.wrap ((pre.length : Int) + 1) = ((pre ++ [x]).length : Int) := by rw [w64 (by omega) (by omega)]; simp
def cE (x : S100) : S98 := ⟨x.f0, x.f1, x.f2, x.f3⟩
theorem toE_loop (k : Nat) (hK : 2097152 ≤ k) (xs : List S100) (hl : xs.length ≤ 1048576)  : ∀ (rest pre : List S100) (j : Nat), xs = pre ++ rest → rest.length < j →
    f26.l3 k j xs (pre.length : Int) (pre.map cE ++ List.replicate rest.length (⟨0, 0, 0, false⟩ : S98)) = some (xs.map cE) := by
  intro rest
  induction rest with
  | nil =>
    intro pre j hx hj
    obtain ⟨j, rfl⟩ : ∃ j', j = j' + 1 := ⟨j - 1, by omega⟩
    simp only [f26.l3, f26.l3.step]
    have : xs.length = pre.length := by rw [hx]; simp
    rw [if_neg (fb (by omega)), hx]; simp
  | cons x rest ih =>
    intro pre j hx hj
    obtain ⟨j, rfl⟩ : ∃ j', j = j' + 1 := ⟨j - 1, by omega⟩
    have hlt : (pre.length : Int) < (xs.length : Int) := by rw [hx]; exact lt_mid _ _ _
    have hg : ∀ d, xs.getD (Int.toNat (pre.length : Int)) d = x := fun d => by rw [hx]; exact gm _ _ _ _
    have hxm : x ∈ xs := by rw [hx]; simp
    simp only [f26.l3, f26.l3.step, hg, f67, f67.step, Option.bind_some, List.length_cons, List.replicate_succ]
    rw [set_mid' (pre.map cE) (n := pre.length) (by simp)]
    have hw := wnext pre x (by omega)
    rw [if_pos (tb hlt), if_pos (by omega), if_pos hlt, if_pos (by omega), if_pos (lt_mid' _ (by simp) _ _), hw]
    have := ih (pre ++ [x]) j (by rw [hx]; simp) (by simp at hj; omega)
    simp only [List.map_append, List.map_cons, List.map_nil, List.append_assoc, List.singleton_append] at this
    exact this
theorem toE (k : Nat) (hK : 2097152 ≤ k) {xs : List S100} (hl : xs.length ≤ 1048576)  : f26 k xs = some (xs.map cE) := by
  have := toE_loop k hK xs hl  xs [] k rfl (by omega)
  simp only [f26, f26.step]
  rw [if_pos (by omega), if_pos (by simp [maxN]; omega)]
  have h0 : f26.l3 k k xs 0 (List.replicate (Int.toNat (xs.length : Int)) (⟨0, 0, 0, false⟩ : S98)) = some (xs.map cE) := this
  rw [h0]; rfl
theorem eqE_loop (k : Nat) (hK : 2097152 ≤ k) (xs : List S98) (hl : xs.length ≤ 1048576)  : ∀ (rest pre : List S98) (j : Nat), xs = pre ++ rest → rest.length < j → f29.l4 k j xs xs (pre.length : Int) = some (.inr ()) := by
  intro rest
  induction rest with
  | nil =>
    intro pre j hx hj
    obtain ⟨j, rfl⟩ : ∃ j', j = j' + 1 := ⟨j - 1, by omega⟩
    simp only [f29.l4, f29.l4.step]
    have : xs.length = pre.length := by rw [hx]; simp
    rw [if_neg (fb (by omega))]
  | cons x rest ih =>
    intro pre j hx hj
    obtain ⟨j, rfl⟩ : ∃ j', j = j' + 1 := ⟨j - 1, by omega⟩
    have hlt : (pre.length : Int) < (xs.length : Int) := by rw [hx]; exact lt_mid _ _ _
    have hg : ∀ d, xs.getD (Int.toNat (pre.length : Int)) d = x := fun d => by rw [hx]; exact gm _ _ _ _
    have hxm : x ∈ xs := by rw [hx]; simp
    have hw := wnext pre x (by omega)
    have e : f70 k x.f0 x.f1 x.f2 x.f3 x.f0 x.f1 x.f2 x.f3 = some true := by simp [f70, f70.step]
    have hp : (0 : Int) ≤ (pre.length : Int) := by omega
    simp only [f29.l4, f29.l4.step, hg, e, hw, Option.bind_some]
    simp only [hlt, hp, if_true, decide_true, Bool.not_true, Bool.false_eq_true, if_false]
    exact ih (pre ++ [x]) j (by rw [hx]; simp) (by simp at hj; omega)
theorem eqE (k : Nat) (hK : 2097152 ≤ k) {xs : List S98} (hl : xs.length ≤ 1048576)  : f29 k xs xs = some true := by
  have h0 : f29.l4 k k xs xs 0 = some (.inr ()) := eqE_loop k hK xs hl  xs [] k rfl (by omega)
  simp [f29, f29.step, h0]
theorem eqN_loop (k : Nat) (hK : 2097152 ≤ k) (xs : List S95) (hl : xs.length ≤ 1048576)  : ∀ (rest pre : List S95) (j : Nat), xs = pre ++ rest → rest.length < j → f98.l4 k j xs xs (pre.length : Int) = some (.inr ()) := by
  intro rest
  induction rest with
  | nil =>
    intro pre j hx hj
    obtain ⟨j, rfl⟩ : ∃ j', j = j' + 1 := ⟨j - 1, by omega⟩
    simp only [f98.l4, f98.l4.step]
    have : xs.length = pre.length := by rw [hx]; simp
    rw [if_neg (fb (by omega))]
  | cons x rest ih =>
    intro pre j hx hj
    obtain ⟨j, rfl⟩ : ∃ j', j = j' + 1 := ⟨j - 1, by omega⟩
    have hlt : (pre.length : Int) < (xs.length : Int) := by rw [hx]; exact lt_mid _ _ _
    have hg : ∀ d, xs.getD (Int.toNat (pre.length : Int)) d = x := fun d => by rw [hx]; exact gm _ _ _ _
    have hxm : x ∈ xs := by rw [hx]; simp
    have hw := wnext pre x (by omega)
    have e : f112 k x.f0 x.f1 x.f2 x.f0 x.f1 x.f2 = some true := by simp [f112, f112.step]
    have hp : (0 : Int) ≤ (pre.length : Int) := by omega
    simp only [f98.l4, f98.l4.step, hg, e, hw, Option.bind_some]
    simp only [hlt, hp, if_true, decide_true, Bool.not_true, Bool.false_eq_true, if_false]
    exact ih (pre ++ [x]) j (by rw [hx]; simp) (by simp at hj; omega)
theorem eqN (k : Nat) (hK : 2097152 ≤ k) {xs : List S95} (hl : xs.length ≤ 1048576)  : f98 k xs xs = some true := by
  have h0 : f98.l4 k k xs xs 0 = some (.inr ()) := eqN_loop k hK xs hl  xs [] k rfl (by omega)
  simp [f98, f98.step, h0]
theorem eqNS_loop (k : Nat) (hK : 2097152 ≤ k) (xs : List (List S95)) (hl : xs.length ≤ 1048576) (hs : ∀ x ∈ xs, x.length ≤ 1048576) : ∀ (rest pre : List (List S95)) (j : Nat), xs = pre ++ rest → rest.length < j → f69.l4 k j xs xs (pre.length : Int) = some (.inr ()) := by
  intro rest
  induction rest with
  | nil =>
    intro pre j hx hj
    obtain ⟨j, rfl⟩ : ∃ j', j = j' + 1 := ⟨j - 1, by omega⟩
    simp only [f69.l4, f69.l4.step]
    have : xs.length = pre.length := by rw [hx]; simp
    rw [if_neg (fb (by omega))]
  | cons x rest ih =>
    intro pre j hx hj
    obtain ⟨j, rfl⟩ : ∃ j', j = j' + 1 := ⟨j - 1, by omega⟩
    have hlt : (pre.length : Int) < (xs.length : Int) := by rw [hx]; exact lt_mid _ _ _
    have hg : ∀ d, xs.getD (Int.toNat (pre.length : Int)) d = x := fun d => by rw [hx]; exact gm _ _ _ _
    have hxm : x ∈ xs := by rw [hx]; simp
    have hw := wnext pre x (by omega)
    have e := eqN k hK (hs x hxm)
    have hp : (0 : Int) ≤ (pre.length : Int) := by omega
    simp only [f69.l4, f69.l4.step, hg, e, hw, Option.bind_some]
    simp only [hlt, hp, if_true, decide_true, Bool.not_true, Bool.false_eq_true, if_false]
    exact ih (pre ++ [x]) j (by rw [hx]; simp) (by simp at hj; omega)
theorem eqNS (k : Nat) (hK : 2097152 ≤ k) {xs : List (List S95)} (hl : xs.length ≤ 1048576) (hs : ∀ x ∈ xs, x.length ≤ 1048576) : f69 k xs xs = some true := by
  have h0 : f69.l4 k k xs xs 0 = some (.inr ()) := eqNS_loop k hK xs hl hs xs [] k rfl (by omega)
  simp [f69, f69.step, h0]
theorem eqA (k : Nat) (hK : 2097152 ≤ k) {es : List S98} {ts : List (List S95)} (n : Int) (h1 : es.length ≤ 1048576) (h2 : ts.length ≤ 1048576) (h3 : ∀ x ∈ ts, x.length ≤ 1048576) : f28 k es ts n es ts n = some true := by
  simp [f28, f28.step, eqE k hK h1, eqNS k hK h2 h3]
theorem in_spec (k : Nat) (a b c : Int) : f40 k a b c = some (decide (b ≤ a ∧ a ≤ c)) := by
  simp only [f40, f40.step]
  split <;> simp at * <;> omega
theorem in_impl (k : Nat) (a b c : Int) : f43 k a b c = some (decide (b ≤ a ∧ a ≤ c)) := by
  simp only [f43, f43.step]
  split <;> simp at * <;> omega
/-- Whether an edge goes between two routers. -/
def conn (a b : Int) (e : S98) : Bool := (decide (e.f0 = a) && decide (e.f1 = b)) || (decide (e.f0 = b) && decide (e.f1 = a))
/-- The number of the edge between two routers, or -1. -/
def fe (a b : Int) : Int → List S98 → Int
  | _, [] => -1
  | i, e :: r => if conn a b e = true then i else fe a b (i + 1) r
theorem fe_any (a b : Int) : ∀ (l : List S98) (i : Int), 0 ≤ i → decide (fe a b i l ≥ 0) = l.any (conn a b)
  | [], i, _ => by simp [fe]
  | e :: r, i, h => by
    simp only [fe, List.any_cons]
    rcases Bool.eq_false_or_eq_true (conn a b e) with hc | hc
    · simp [hc, h]
    · simp only [hc, Bool.false_eq_true, if_false, Bool.false_or]; exact fe_any a b r (i + 1) (by omega)
theorem fe_neg (a b : Int) : ∀ (l : List S98) (i : Int), 0 ≤ i → (fe a b i l < 0 ↔ l.any (conn a b) = false)
  | l, i, h => by
    have := fe_any a b l i h
    constructor
    · intro h2; rw [← this]; simp; omega
    · intro h2; rw [h2] at this; simp at this; omega
theorem fe_lt (a b : Int) : ∀ (l : List S98) (i : Int), 0 ≤ i → fe a b i l < i + l.length
  | [], i, h => by simp [fe]; omega
  | e :: r, i, h => by
    simp only [fe, List.length_cons]
    split
    · omega
    · have := fe_lt a b r (i + 1) (by omega); omega
theorem spec_fe (k : Nat) (a b : Int) : ∀ (rest pre : List S98) (j : Nat), rest.length < j → (pre ++ rest).length ≤ 1000 →
    ∃ r, f97.l2 k j (pre ++ rest) a b (pre.length : Int) = some r ∧ Sum.elim (fun t => t) (fun _ => -1) r = fe a b (pre.length : Int) rest := by
  intro rest
  induction rest with
  | nil =>
    intro pre j hj hl
    obtain ⟨j, rfl⟩ : ∃ j', j = j' + 1 := ⟨j - 1, by omega⟩
    simp only [f97.l2, f97.l2.step]
    rw [if_neg (fb (by simp))]
    exact ⟨_, rfl, rfl⟩
  | cons x rest ih =>
    intro pre j hj hl
    obtain ⟨j, rfl⟩ : ∃ j', j = j' + 1 := ⟨j - 1, by omega⟩
    have hp : (0 : Int) ≤ (pre.length : Int) := by omega
    have hw := wnext pre x (by simp at hl; omega)
    have := ih (pre ++ [x]) j (by simp at hj; omega) (by simpa using hl)
    simp only [List.append_assoc, List.singleton_append] at this
    have hn : ((pre ++ [x]).length : Int) = (pre.length : Int) + 1 := by simp
    rw [hn] at this
    simp only [f97.l2, f97.l2.step, gm, hw, hn, fe, conn]
    simp only [lt_mid, hp, if_true, decide_true]
    by_cases c1 : x.f0 = a <;> by_cases c2 : x.f1 = b <;> by_cases c3 : x.f0 = b <;> by_cases c4 : x.f1 = a <;> simp only [c1, c2, c3, c4, decide_true, decide_false, if_true, Bool.false_eq_true, if_false, Bool.true_eq_false, Bool.and_true, Bool.and_false, Bool.or_true, Bool.or_false, Bool.true_and, Bool.false_and] <;> first | exact this | exact ⟨_, rfl, rfl⟩ | (simp_all; done)
theorem find_spec (k : Nat) (hK : 2097152 ≤ k) (a b : Int) (l : List S98) (hl : l.length ≤ 1000) : f97 k l a b = some (fe a b 0 l) := by
  obtain ⟨r, h1, h2⟩ := spec_fe k a b l [] k (by omega) (by simpa using hl)
  have h1 : f97.l2 k k l a b 0 = some r := h1
  have h2 : Sum.elim (fun t => t) (fun _ => -1) r = fe a b 0 l := h2
  simp only [f97, f97.step, h1, Option.bind_some, ← h2]
  rcases r with r | r <;> rfl
def eo (n : Int) (e : S98) : Prop := (0 ≤ e.f0 ∧ e.f0 ≤ n - 1) ∧ (0 ≤ e.f1 ∧ e.f1 ≤ n - 1) ∧ e.f0 ≠ e.f1 ∧ (1 ≤ e.f2 ∧ e.f2 ≤ 16)
instance (n : Int) (e : S98) : Decidable (eo n e) := by unfold eo; infer_instance
def gE (n : Int) : List S98 → List S98 → Bool
  | _, [] => true
  | pre, e :: r => decide (eo n e) && (!(pre.any (conn e.f0 e.f1)) && gE n (pre ++ [e]) r)
theorem take_midE (pre rest : List S98) : List.drop 0 (List.take (Int.toNat (pre.length : Int)) (pre ++ rest)) = pre := by simp
theorem spec_edges (k : Nat) (hK : 2097152 ≤ k) (n : Int) (hn : 1 ≤ n ∧ n ≤ 5) : ∀ (rest pre : List S98) (j : Nat), rest.length < j → (pre ++ rest).length ≤ 100 →
    f65.l4 k j n (pre ++ rest) (pre.length : Int) = some (if gE n pre rest = true then .inr () else .inl false) := by
  have wn : IntKind.i64.wrap (n - 1) = n - 1 := w64 (by omega) (by omega)
  intro rest
  induction rest with
  | nil =>
    intro pre j hj hl
    obtain ⟨j, rfl⟩ : ∃ j', j = j' + 1 := ⟨j - 1, by omega⟩
    simp only [f65.l4, f65.l4.step]
    rw [if_neg (fb (by simp))]
    simp [gE]
  | cons x rest ih =>
    intro pre j hj hl
    obtain ⟨j, rfl⟩ : ∃ j', j = j' + 1 := ⟨j - 1, by omega⟩
    have hp : (0 : Int) ≤ (pre.length : Int) := by omega
    have hw := wnext pre x (by simp at hl; omega)
    have := ih (pre ++ [x]) j (by simp at hj; omega) (by simpa using hl)
    simp only [List.append_assoc, List.singleton_append] at this
    have hle : (pre.length : Int) ≤ ((pre ++ x :: rest).length : Int) := by simp; omega
    have hpl : pre.length ≤ 1000 := by simp at hl; omega
    simp only [f65.l4, f65.l4.step, gm, hw, wn, in_spec, Option.bind_some, take_midE, find_spec k hK _ _ _ hpl, fe_any _ _ _ _ (Int.le_refl 0), gE]
    simp only [lt_mid, hp, hle, if_true, decide_true]
    by_cases c1 : 0 ≤ x.f0 ∧ x.f0 ≤ n - 1
    case neg => simp [c1, eo]
    by_cases c2 : 0 ≤ x.f1 ∧ x.f1 ≤ n - 1
    case neg => simp [c1, c2, eo]
    by_cases c3 : x.f0 = x.f1
    · simp [c3, eo]
    by_cases c4 : 1 ≤ x.f2 ∧ x.f2 ≤ 16
    case neg => simp [c1, c2, c3, c4, eo]
    have ok : eo n x := ⟨c1, c2, c3, c4⟩
    simp only [tb c1, tb c2, ff c3, tb c4, tb ok, Bool.not_true, if_true, Bool.true_and]
    rcases Bool.eq_false_or_eq_true (pre.any (conn x.f0 x.f1)) with hc | hc
    · simp [hc]
    · simp only [hc, Bool.false_eq_true, if_false, Bool.not_false, Bool.true_and]
      exact this
theorem edges_spec (k : Nat) (hK : 2097152 ≤ k) (n : Int) (es : List S98) : f65 k n es = some (decide ((1 ≤ n ∧ n ≤ 5) ∧ es.length ≤ 8) && gE n [] es) := by
  simp only [f65, f65.step, in_spec, Option.bind_some]
  by_cases c1 : 1 ≤ n ∧ n ≤ 5
  case neg => simp [c1]
  by_cases c2 : es.length ≤ 8
  case neg =>
    have : (es.length : Int) > 8 := by omega
    simp [c1, c2, this]
  have c2' : ¬ (es.length : Int) > 8 := by omega
  have e : f65.l4 k k n es 0 = _ := spec_edges k hK n c1 es [] k (by omega) (by simp; omega)
  rw [if_pos (by rw [tb c1]; rfl), if_neg (fb c2'), e]
  cases gE n [] es <;> simp [c1, c2]
/-- The list of 25 truths. -/
theorem eta25 {B : List Bool} (h : B.length = 25) : [B.getD 0 false, B.getD 1 false, B.getD 2 false, B.getD 3 false, B.getD 4 false, B.getD 5 false, B.getD 6 false, B.getD 7 false, B.getD 8 false, B.getD 9 false, B.getD 10 false, B.getD 11 false, B.getD 12 false, B.getD 13 false, B.getD 14 false, B.getD 15 false, B.getD 16 false, B.getD 17 false, B.getD 18 false, B.getD 19 false, B.getD 20 false, B.getD 21 false, B.getD 22 false, B.getD 23 false, B.getD 24 false] = B := by
  apply List.ext_getElem?
  intro i
  by_cases hi : i < 25
  · have : ∀ m (hm : m < 25), (B.getD m false) = B[m]'(by omega) := fun m hm => by simp [List.getD_eq_getElem?_getD, List.getElem?_eq_getElem (show m < B.length by omega)]
    rw [List.getElem?_eq_getElem (show i < B.length by omega)]
    match i, hi with
    | 0, _ | 1, _ | 2, _ | 3, _ | 4, _ | 5, _ | 6, _ | 7, _ | 8, _ | 9, _ | 10, _ | 11, _ | 12, _ | 13, _ | 14, _ | 15, _ | 16, _ | 17, _ | 18, _ | 19, _ | 20, _ | 21, _ | 22, _ | 23, _ | 24, _ => exact congrArg some (this _ (by decide))
    | n + 25, h => omega
  · rw [List.getElem?_eq_none (by simp; omega), List.getElem?_eq_none (by omega)]
/-- The program's loop over a list of 25 truths. -/
def L5 (k j : Nat) (n : Int) (es : List S98) (m i : Int) (B : List Bool) : Option (Bool ⊕ Unit) :=
  f68.l5 k j n es m i (B.getD 0 false) (B.getD 1 false) (B.getD 2 false) (B.getD 3 false) (B.getD 4 false) (B.getD 5 false) (B.getD 6 false) (B.getD 7 false) (B.getD 8 false) (B.getD 9 false) (B.getD 10 false) (B.getD 11 false) (B.getD 12 false) (B.getD 13 false) (B.getD 14 false) (B.getD 15 false) (B.getD 16 false) (B.getD 17 false) (B.getD 18 false) (B.getD 19 false) (B.getD 20 false) (B.getD 21 false) (B.getD 22 false) (B.getD 23 false) (B.getD 24 false)
/-- What the truths tell: between which routers an edge goes. -/
def Seen (B : List Bool) (pre : List S98) : Prop := ∀ a b : Nat, a < 5 → b < 5 → B.getD (a * 5 + b) false = pre.any (conn a b)
theorem any_append_one (p : S98 → Bool) (pre : List S98) (x : S98) : (pre ++ [x]).any p = (pre.any p || p x) := by simp
theorem getD_set (B : List Bool) (i m : Nat) (v : Bool) (hi : i < B.length) : (B.set i v).getD m false = if i = m then v else B.getD m false := by
  simp only [List.getD_eq_getElem?_getD, List.getElem?_set]
  split
  · simp [hi]
  · rfl
theorem seen_next {B : List Bool} (hB : B.length = 25) {pre : List S98} (h : Seen B pre) {x : S98} {a b : Nat} (ha : a < 5) (hb : b < 5) (e0 : x.f0 = (a : Int)) (e1 : x.f1 = (b : Int)) : Seen ((B.set (a * 5 + b) true).set (b * 5 + a) true) (pre ++ [x]) := by
  intro c d hc hd
  rw [any_append_one, ← h c d hc hd, getD_set _ _ _ _ (by simp; omega), getD_set _ _ _ _ (by omega)]
  by_cases p1 : b * 5 + a = c * 5 + d
  · have q1 : b = c := by omega
    have q2 : a = d := by omega
    rw [if_pos p1]; simp [conn, e0, e1, q1, q2]
  · by_cases p2 : a * 5 + b = c * 5 + d
    · have q1 : b = d := by omega
      have q2 : a = c := by omega
      rw [if_neg p1, if_pos p2]; simp [conn, e0, e1, q1, q2]
    · have q : conn (c : Int) (d : Int) x = false := by
        simp only [conn, e0, e1, Bool.or_eq_false_iff, Bool.and_eq_false_iff, decide_eq_false_iff_not]
        omega
      rw [if_neg p1, if_neg p2, q, Bool.or_false]
theorem impl_edges (k : Nat) (n : Int) (hn : 1 ≤ n ∧ n ≤ 5) : ∀ (rest pre : List S98) (j : Nat) (B : List Bool), rest.length < j → (pre ++ rest).length ≤ 100 → B.length = 25 → Seen B pre →
    L5 k j n (pre ++ rest) ((pre ++ rest).length : Int) (pre.length : Int) B = some (if gE n pre rest = true then .inr () else .inl false) := by
  have wn : IntKind.i64.wrap (n - 1) = n - 1 := w64 (by omega) (by omega)
  intro rest
  induction rest with
  | nil =>
    intro pre j B hj hl hB hs
    obtain ⟨j, rfl⟩ : ∃ j', j = j' + 1 := ⟨j - 1, by omega⟩
    simp only [L5, f68.l5, f68.l5.step]
    rw [if_neg (fb (by simp))]
    simp [gE]
  | cons x rest ih =>
    intro pre j B hj hl hB hs
    obtain ⟨j, rfl⟩ : ∃ j', j = j' + 1 := ⟨j - 1, by omega⟩
    have hp : (0 : Int) ≤ (pre.length : Int) := by omega
    have hw := wnext pre x (by simp at hl; omega)
    have hB1 : ∀ p, (List.set B p true).length = 25 := fun p => by simp [hB]
    simp only [L5, f68.l5, f68.l5.step, gm, hw, wn, in_impl, Option.bind_some, gE, eta25 hB, eta25 (hB1 _)]
    simp only [lt_mid, hp, if_true, decide_true]
    by_cases c1 : 0 ≤ x.f0 ∧ x.f0 ≤ n - 1
    case neg => simp [c1, eo]
    by_cases c2 : 0 ≤ x.f1 ∧ x.f1 ≤ n - 1
    case neg => simp [c1, c2, eo]
    by_cases c3 : x.f0 = x.f1
    · simp [c3, eo]
    by_cases c4 : 1 ≤ x.f2 ∧ x.f2 ≤ 16
    case neg => simp [c1, c2, c3, c4, eo]
    have ok : eo n x := ⟨c1, c2, c3, c4⟩
    obtain ⟨a, ha⟩ : ∃ a : Nat, x.f0 = (a : Int) := ⟨x.f0.toNat, by omega⟩
    obtain ⟨b, hb⟩ : ∃ b : Nat, x.f1 = (b : Int) := ⟨x.f1.toNat, by omega⟩
    have ha5 : a < 5 := by omega
    have hb5 : b < 5 := by omega
    have d1 : (a : Int) ≤ n - 1 := by omega
    have d2 : (b : Int) ≤ n - 1 := by omega
    have d3 : decide ((a : Int) = (b : Int)) = false := ff (by omega)
    have g1 : (0 : Int) ≤ (a : Int) := by omega
    have g2 : (a : Int) < 5 := by omega
    have g3 : (0 : Int) ≤ (b : Int) := by omega
    have g4 : (b : Int) < 5 := by omega
    have g5 : a * 5 + b < 25 := by omega
    have g6 : b * 5 + a < 25 := by omega
    have hsn := hs a b ha5 hb5
    simp only [tb ok, ha, hb, d1, d2, d3, tb c4, Bool.not_true, if_true, Bool.true_and, g1, g2, g3, g4, g5, g6, and_true, true_and, decide_true, decide_false, Int.toNat_natCast, Nat.mul_one, hsn]
    have hih := ih (pre ++ [x]) j ((B.set (a * 5 + b) true).set (b * 5 + a) true) (by simp at hj; omega) (by simpa using hl) (by simp [hB]) (seen_next hB hs ha5 hb5 ha hb)
    simp only [List.append_assoc, List.singleton_append] at hih
    rcases Bool.eq_false_or_eq_true (pre.any (conn a b)) with hc | hc
    · simp [hc]
    · simp only [hc, Bool.false_eq_true, if_false, Bool.not_false, Bool.true_and]
      exact hih
theorem edges_impl (k : Nat) (hK : 2097152 ≤ k) (n : Int) (es : List S98) : f68 k n es = some (decide ((1 ≤ n ∧ n ≤ 5) ∧ es.length ≤ 8) && gE n [] es) := by
  simp only [f68, f68.step, in_impl, Option.bind_some]
  by_cases c1 : 1 ≤ n ∧ n ≤ 5
  case neg => simp [c1]
  by_cases c2 : es.length ≤ 8
  case neg =>
    have : (es.length : Int) > 8 := by omega
    simp [c1, c2, this]
  have c2' : ¬ (es.length : Int) > 8 := by omega
  have e := impl_edges k n c1 es [] k (List.replicate 25 false) (by omega) (by simp; omega) rfl (fun a b ha hb => by
    have : a * 5 + b < 25 := by omega
    rw [List.getD_eq_getElem?_getD, List.getElem?_replicate, if_pos this]; rfl)
  rw [if_pos (by rw [tb c1]; rfl), if_neg (fb c2')]
  have e : f68.l5 k k n es (es.length : Int) 0 false false false false false false false false false false false false false false false false false false false false false false false false false = _ := e
  rw [e]
  cases gE n [] es <;> simp [c1, c2]
theorem gE_mem (n : Int) : ∀ (l pre : List S98), gE n pre l = true → ∀ e ∈ l, eo n e
  | [], _, _, _, h => by simp at h
  | x :: l, pre, h, e, he => by
    simp only [gE, Bool.and_eq_true, decide_eq_true_eq] at h
    rcases List.mem_cons.mp he with h1 | h1
    · subst h1; exact h.1
    · exact gE_mem n l _ h.2.2 e h1
theorem s146_0 (pre rest : List S98) (p0 : Int) (p1 : Int) (p2 : Int) (p3 : Bool) (a : Int) : set98 (pre ++ ⟨p0, p1, p2, p3⟩ :: rest) (Int.toNat (pre.length : Int)) 0 [.s (.int .i64 a)] = pre ++ ⟨a, p1, p2, p3⟩ :: rest := set_at (e := 98) pre rest _ _ rfl
theorem s146_1 (pre rest : List S98) (p0 : Int) (p1 : Int) (p2 : Int) (p3 : Bool) (a : Int) : set98 (pre ++ ⟨p0, p1, p2, p3⟩ :: rest) (Int.toNat (pre.length : Int)) 1 [.s (.int .i64 a)] = pre ++ ⟨p0, a, p2, p3⟩ :: rest := set_at (e := 98) pre rest _ _ rfl
theorem s146_2 (pre rest : List S98) (p0 : Int) (p1 : Int) (p2 : Int) (p3 : Bool) (a : Int) : set98 (pre ++ ⟨p0, p1, p2, p3⟩ :: rest) (Int.toNat (pre.length : Int)) 2 [.s (.int .i64 a)] = pre ++ ⟨p0, p1, a, p3⟩ :: rest := set_at (e := 98) pre rest _ _ rfl
theorem s146_3 (pre rest : List S98) (p0 : Int) (p1 : Int) (p2 : Int) (p3 : Bool) (a : Bool) : set98 (pre ++ ⟨p0, p1, p2, p3⟩ :: rest) (Int.toNat (pre.length : Int)) 3 [.s (.bool a)] = pre ++ ⟨p0, p1, p2, a⟩ :: rest := set_at (e := 98) pre rest _ _ rfl
theorem s142_0 (pre rest : List S95) (p0 : Int) (p1 : Int) (p2 : Int) (a : Int) : set95 (pre ++ ⟨p0, p1, p2⟩ :: rest) (Int.toNat (pre.length : Int)) 0 [.s (.int .i64 a)] = pre ++ ⟨a, p1, p2⟩ :: rest := set_at (e := 95) pre rest _ _ rfl
theorem s142_1 (pre rest : List S95) (p0 : Int) (p1 : Int) (p2 : Int) (a : Int) : set95 (pre ++ ⟨p0, p1, p2⟩ :: rest) (Int.toNat (pre.length : Int)) 1 [.s (.int .i64 a)] = pre ++ ⟨p0, a, p2⟩ :: rest := set_at (e := 95) pre rest _ _ rfl
theorem s142_2 (pre rest : List S95) (p0 : Int) (p1 : Int) (p2 : Int) (a : Int) : set95 (pre ++ ⟨p0, p1, p2⟩ :: rest) (Int.toNat (pre.length : Int)) 2 [.s (.int .i64 a)] = pre ++ ⟨p0, p1, a⟩ :: rest := set_at (e := 95) pre rest _ _ rfl
/-! ### a new area -/
def nX : S95 := ⟨16, -1, 0⟩
def nE (r d : Nat) : S95 := if r = d then ⟨0, (r : Int), 0⟩ else nX
def nRow (r m : Nat) : List S95 := (List.range m).map (nE r)
theorem nRow_succ (r d : Nat) : nRow r (d + 1) = nRow r d ++ [nE r d] := by simp [nRow, List.range_succ]
theorem wn1 {n d : Nat} (hn : n ≤ 1000) (hd : d < n) : IntKind.i64.wrap ((d : Int) + 1) = ((d + 1 : Nat) : Int) := by rw [w64 (by omega) (by omega)]; omega
theorem self_run (k r d : Nat) : f66 k (r : Int) (d : Int) = some ((nE r d).f0, (nE r d).f1, (nE r d).f2) := by
  by_cases h : r = d
  · subst h; simp [f66, f66.step, nE]
  · have h' : ¬ (r : Int) = (d : Int) := by omega
    simp [f66, f66.step, nE, nX, h, h']
theorem l11_spec (k n r : Nat) (hn : n ≤ 1000) (a : Int) (es : List S98) (b : Int) (M : List (List S95)) : ∀ (t d j : Nat), d + t = n → t < j →
    f25.l11 k j (n : Int) (r : Int) (d : Int) a es b M (nRow r d) = some ((n : Int), (r : Int), a, es, b, M, nRow r n)
  | t, d, 0, e, hj => by omega
  | 0, d, j + 1, e, hj => by
    have h1 : ¬ (d : Int) < (n : Int) := by omega
    rw [show n = d by omega] at h1 ⊢
    simp only [f25.l11, f25.l11.step, h1, decide_false]; rfl
  | t + 1, d, j + 1, e, hj => by
    have h1 : (d : Int) < (n : Int) := by omega
    have hl : (nRow r d).length = d := by simp [nRow]
    have h2 : (d + 1) * 24 ≤ maxN := by have : maxN = 140737488351232 := rfl; omega
    have ih := l11_spec k n r hn a es b M t (d + 1) j (by omega) (by omega)
    rw [nRow_succ] at ih
    simp only [f25.l11, f25.l11.step, h1, decide_true, if_true, self_run, Option.bind_some, hl, List.length_singleton, h2, wn1 hn (show d < n by omega)]
    exact ih
def nM (n m : Nat) : List (List S95) := (List.range m).map fun r => nRow r n
theorem nM_succ (n r : Nat) : nM n (r + 1) = nM n r ++ [nRow r n] := by simp [nM, List.range_succ]
theorem l7_spec (k n : Nat) (hK : 2097152 ≤ k) (hn : n ≤ 1000) (a : Int) (es : List S98) (b : Int) : ∀ (t r j : Nat), r + t = n → t < j →
    f25.l7 k j (n : Int) (r : Int) a es b (nM n r) = some (a, es, b, nM n n)
  | t, r, 0, e, hj => by omega
  | 0, r, j + 1, e, hj => by
    have h1 : ¬ (r : Int) < (n : Int) := by omega
    rw [show r = n by omega] at h1 ⊢
    simp only [f25.l7, f25.l7.step, h1, decide_false]; rfl
  | t + 1, r, j + 1, e, hj => by
    have h1 : (r : Int) < (n : Int) := by omega
    have hl : (nM n r).length = r := by simp [nM]
    have h2 : (r + 1) * 24 ≤ maxN := by have : maxN = 140737488351232 := rfl; omega
    have e7 : f25.l11 k k (n : Int) (r : Int) 0 a es b (nM n r) [] = some ((n : Int), (r : Int), a, es, b, nM n r, nRow r n) := l11_spec k n r hn a es b (nM n r) n 0 k (by omega) (by omega)
    have ih := l7_spec k n hK hn a es b t (r + 1) j (by omega) (by omega)
    rw [nM_succ] at ih
    simp only [f25.l7, f25.l7.step, h1, decide_true, if_true, e7, Option.bind_some, hl, List.length_singleton, h2, wn1 hn (show r < n by omega)]
    exact ih
theorem getD_mid {α : Type} (pre rest : List α) (x d : α) : List.getD (pre ++ x :: rest) pre.length d = x := by simp [List.getD_eq_getElem?_getD]
theorem set_midn {α : Type} (pre rest : List α) (x y : α) : (pre ++ x :: rest).set pre.length y = pre ++ y :: rest := by simp
theorem l11_impl (k n : Nat) (hn : n ≤ 1000) (A B : List (List S95)) (a b c d : Int) (es : List S98) (z : Int) : ∀ (rest pre : List S95) (j : Nat), pre.length + rest.length = n → rest.length < j →
    f27.l11 k j a (A.length : Int) b c (n : Int) (pre.length : Int) d es (A ++ (pre ++ rest) :: B) z = some (a, (A.length : Int), b, c, d, es, A ++ (pre ++ List.replicate rest.length nX) :: B, z)
  | rest, pre, 0, e, hj => by omega
  | [], pre, j + 1, e, hj => by
    have h1 : ¬ (pre.length : Int) < (n : Int) := by simp at e; omega
    simp only [f27.l11, f27.l11.step, h1, decide_false]; simp
  | x :: rest, pre, j + 1, e, hj => by
    simp only [List.length_cons] at e hj
    have h1 : (pre.length : Int) < (n : Int) := by omega
    have ih := l11_impl k n hn A B a b c d es z rest (pre ++ [nX]) j (by simp; omega) (by omega)
    have h2 : (0 : Int) ≤ (A.length : Int) := by omega
    have h3 : (0 : Int) ≤ (pre.length : Int) := by omega
    have h4 : (A.length : Int) < (((A ++ (pre ++ x :: rest) :: B).length : Nat) : Int) := lt_mid _ _ _
    have h5 : (pre.length : Int) < (((pre ++ x :: rest).length : Nat) : Int) := lt_mid _ _ _
    have h6 : pre.length < (pre ++ x :: rest).length := by simp
    have hw : IntKind.i64.wrap ((pre.length : Int) + 1) = ((pre ++ [nX]).length : Int) := wnext _ _ (by omega)
    simp only [f27.l11, f27.l11.step, h1, h2, h3, h4, decide_true, if_true, Int.toNat_natCast, getD_mid, h5, h6, set_midn, hw]
    simp only [List.append_assoc, List.singleton_append] at ih
    rw [show (⟨16, -1, 0⟩ : S95) = nX from rfl, ih]
    simp [List.replicate_succ]
theorem nRow_set (r n : Nat) (hr : r < n) : (List.replicate n nX).set r ⟨0, (r : Int), 0⟩ = nRow r n := by
  apply List.ext_getElem (by simp [nRow])
  intro i h1 h2
  simp only [List.getElem_set, List.getElem_replicate, nRow, List.getElem_map, List.getElem_range, nE]
theorem l7_impl (k n : Nat) (hK : 2097152 ≤ k) (hn : n ≤ 1000) (z c : Int) (es : List S98) : ∀ (t r j : Nat), r + t = n → t < j →
    f27.l7 k j (n : Int) (n : Int) (r : Int) z es (nM n r ++ List.replicate t []) c = some (z, es, nM n n, c)
  | t, r, 0, e, hj => by omega
  | 0, r, j + 1, e, hj => by
    have h1 : ¬ (r : Int) < (n : Int) := by omega
    rw [show r = n by omega] at h1 ⊢
    simp only [f27.l7, f27.l7.step, h1, decide_false]; simp
  | t + 1, r, j + 1, e, hj => by
    have h1 : (r : Int) < (n : Int) := by omega
    have hl : (nM n r).length = r := by simp [nM]
    have h0 : (0 : Int) ≤ (n : Int) := by omega
    have h2 : (0 : Int) ≤ (r : Int) := by omega
    have h3 : n * 24 ≤ maxN := by have : maxN = 140737488351232 := rfl; omega
    have ih := l7_impl k n hK hn z c es t (r + 1) j (by omega) (by omega)
    rw [nM_succ, List.append_assoc, List.singleton_append] at ih
    have hs : ∀ (x y : List S95), (nM n r ++ x :: List.replicate t []).set r y = nM n r ++ y :: List.replicate t [] := fun x y => by have := set_midn (nM n r) (List.replicate t []) x y; rwa [hl] at this
    have hg : ∀ x : List S95, List.getD (nM n r ++ x :: List.replicate t []) r [] = x := fun x => by have := getD_mid (nM n r) (List.replicate t []) x []; rwa [hl] at this
    have hlt : ∀ x : List S95, (r : Int) < (((nM n r ++ x :: List.replicate t []).length : Nat) : Int) := fun x => by simp [hl]; omega
    have h5 : (r : Int) < (((List.replicate n nX).length : Nat) : Int) := by simp; omega
    have h6 : r < (List.replicate n nX).length := by simp; omega
    have e11 : f27.l11 k k (n : Int) (r : Int) (n : Int) (r : Int) (n : Int) 0 z es (nM n r ++ List.replicate n (⟨0, 0, 0⟩ : S95) :: List.replicate t []) c = some ((n : Int), (r : Int), (n : Int), (r : Int), z, es, nM n r ++ List.replicate n nX :: List.replicate t [], c) := by
      have := l11_impl k n hn (nM n r) (List.replicate t []) (n : Int) (n : Int) (r : Int) z es c (List.replicate n ⟨0, 0, 0⟩) [] k (by simp) (by simp; omega)
      simp only [hl, List.length_nil, List.nil_append, List.length_replicate] at this
      exact this
    rw [List.replicate_succ]
    simp only [f27.l7, f27.l7.step, h0, h1, h2, h3, hlt, hs, hg, decide_true, if_true, Int.toNat_natCast, List.length_replicate, e11, Option.bind_some, h5, h6, nRow_set r n (show r < n by omega), wn1 hn (show r < n by omega)]
    simp only [show r < n by omega, if_true]
    exact ih
def mE (a : Int) : S98 := ⟨a, a + 1, a + 1 + 1, decide ((Int.tmod (a + 1 + 1 + 1) 3) = 0)⟩
def HeldE : Int → List S98 → Prop
  | _, [] => True
  | a, y :: ys => y = mE a ∧ HeldE (a + 4) ys
theorem markE_loop (k : Nat) : ∀ (rest pre : List S98) (j : Nat) (a : Int), rest.length < j → pre.length + rest.length ≤ 1048576 → 0 ≤ a → a + 4 * rest.length ≤ 10000000000 → ∃ ys, f30.l2 k j a (pre.length : Int) (pre ++ rest) = some (a + 4 * (rest.length : Int), pre ++ ys) ∧ HeldE a ys ∧ ys.length = rest.length := by
  intro rest
  induction rest with
  | nil =>
    intro pre j a hj hl h0 h1
    obtain ⟨j, rfl⟩ : ∃ j', j = j' + 1 := ⟨j - 1, by omega⟩
    simp only [f30.l2, f30.l2.step]
    rw [if_neg (fb (by simp))]
    exact ⟨[], by simp, trivial, rfl⟩
  | cons x rest ih =>
    intro pre j a hj hl h0 h1
    obtain ⟨j, rfl⟩ : ∃ j', j = j' + 1 := ⟨j - 1, by omega⟩
    simp only [List.length_cons] at hj hl h1
    have hp : (0 : Int) ≤ (pre.length : Int) := by omega
    have w1 : IntKind.i64.wrap (a + 1) = a + 1 := w64 (by omega) (by omega)
    have w2 : IntKind.i64.wrap (a + 1 + 1) = a + 1 + 1 := w64 (by omega) (by omega)
    have w3 : IntKind.i64.wrap (a + 1 + 1 + 1) = a + 1 + 1 + 1 := w64 (by omega) (by omega)
    have w4 : IntKind.i64.wrap (a + 1 + 1 + 1 + 1) = a + 1 + 1 + 1 + 1 := w64 (by omega) (by omega)
    have wl : IntKind.i64.wrap ((pre.length : Int) + 1) = (pre.length : Int) + 1 := w64 (by omega) (by omega)
    obtain ⟨p0, p1, p2, p3⟩ := x
    simp only [f30.l2, f30.l2.step, w1, w2, w3, w4, s146_0, s146_1, s146_2, s146_3]
    simp only [lt_mid, hp, if_true, decide_true, wl]
    obtain ⟨ys, h, h2, h3⟩ := ih (pre ++ [mE a]) j (a + 4) (by omega) (by simp; omega) (by omega) (by omega)
    simp only [List.length_append, List.length_singleton, List.append_assoc, List.singleton_append] at h
    have w5 : a + 1 + 1 + 1 + 1 = a + 4 := by omega
    rw [w5]
    refine ⟨mE a :: ys, Eq.trans h ?_, ⟨rfl, h2⟩, by simp [h3]⟩
    simp only [List.length_cons]
    rw [show a + 4 + 4 * (rest.length : Int) = a + 4 * ((rest.length + 1 : Nat) : Int) by omega]
theorem heldE_loop (k : Nat) : ∀ (ys pre : List S98) (j : Nat) (a : Int), HeldE a ys → ys.length < j → pre.length + ys.length ≤ 1048576 → 0 ≤ a → a + 4 * ys.length ≤ 10000000000 → f72.l2 k j (pre ++ ys) a (pre.length : Int) = some (.inr (a + 4 * (ys.length : Int))) := by
  intro ys
  induction ys with
  | nil =>
    intro pre j a hH hj hl h0 h1
    obtain ⟨j, rfl⟩ : ∃ j', j = j' + 1 := ⟨j - 1, by omega⟩
    simp only [f72.l2, f72.l2.step]
    rw [if_neg (fb (by simp))]
    simp
  | cons x rest ih =>
    intro pre j a hH hj hl h0 h1
    obtain ⟨j, rfl⟩ : ∃ j', j = j' + 1 := ⟨j - 1, by omega⟩
    simp only [List.length_cons] at hj hl h1
    have hx : x = mE a := hH.1
    subst hx
    have hp : (0 : Int) ≤ (pre.length : Int) := by omega
    have w1 : IntKind.i64.wrap (a + 1) = a + 1 := w64 (by omega) (by omega)
    have w2 : IntKind.i64.wrap (a + 1 + 1) = a + 1 + 1 := w64 (by omega) (by omega)
    have w3 : IntKind.i64.wrap (a + 1 + 1 + 1) = a + 1 + 1 + 1 := w64 (by omega) (by omega)
    have w4 : IntKind.i64.wrap (a + 1 + 1 + 1 + 1) = a + 1 + 1 + 1 + 1 := w64 (by omega) (by omega)
    have wl : IntKind.i64.wrap ((pre.length : Int) + 1) = (pre.length : Int) + 1 := w64 (by omega) (by omega)
    have h := ih (pre ++ [mE a]) j (a + 4) hH.2 (by omega) (by simp; omega) (by omega) (by omega)
    simp only [List.length_append, List.length_singleton, List.append_assoc, List.singleton_append] at h
    have w5 : a + 1 + 1 + 1 + 1 = a + 4 := by omega
    have w6 : IntKind.i64.wrap (a + 4) = a + 4 := w64 (by omega) (by omega)
    simp only [f72.l2, f72.l2.step, gm, w1, w2, w3, w4, lt_mid, hp, wl, decide_true, if_true, w5]
    simp only [mE, ne_eq, not_true_eq_false, decide_false, beq_self_eq_true, Bool.not_true, Bool.false_eq_true, if_false, w6]
    refine Eq.trans h ?_
    simp only [List.length_cons]
    rw [show a + 4 + 4 * (rest.length : Int) = a + 4 * ((rest.length + 1 : Nat) : Int) by omega]
theorem markE_any (k : Nat) (hK : 2097152 ≤ k) (xs : List S98) (hl : xs.length ≤ 1048576) (a : Int) (h0 : 0 ≤ a) (h1 : a ≤ 1000000000) : ∃ ys, f30 k xs a = some (a + 4 * (xs.length : Int), ys) ∧ f72 k ys a = some (a + 4 * (xs.length : Int)) := by
  obtain ⟨ys, e1, e3, e2⟩ := markE_loop k xs [] k a (by omega) (by simpa using hl) h0 (by omega)
  have e1' : f30.l2 k k a 0 xs = some (a + 4 * (xs.length : Int), ys) := e1
  have e4 : f72.l2 k k ys a 0 = some (.inr (a + 4 * (ys.length : Int))) := heldE_loop k ys [] k a e3 (by omega) (by simp; omega) h0 (by omega)
  exact ⟨ys, by simp [f30, f30.step, e1'], by simp [f72, f72.step, e4, e2]⟩
def mN (a : Int) : S95 := ⟨a, a + 1, a + 1 + 1⟩
def HeldN : Int → List S95 → Prop
  | _, [] => True
  | a, y :: ys => y = mN a ∧ HeldN (a + 3) ys
theorem markN_loop (k : Nat) : ∀ (rest pre : List S95) (j : Nat) (a : Int), rest.length < j → pre.length + rest.length ≤ 1048576 → 0 ≤ a → a + 3 * rest.length ≤ 10000000000 → ∃ ys, f99.l2 k j a (pre.length : Int) (pre ++ rest) = some (a + 3 * (rest.length : Int), pre ++ ys) ∧ HeldN a ys ∧ ys.length = rest.length := by
  intro rest
  induction rest with
  | nil =>
    intro pre j a hj hl h0 h1
    obtain ⟨j, rfl⟩ : ∃ j', j = j' + 1 := ⟨j - 1, by omega⟩
    simp only [f99.l2, f99.l2.step]
    rw [if_neg (fb (by simp))]
    exact ⟨[], by simp, trivial, rfl⟩
  | cons x rest ih =>
    intro pre j a hj hl h0 h1
    obtain ⟨j, rfl⟩ : ∃ j', j = j' + 1 := ⟨j - 1, by omega⟩
    simp only [List.length_cons] at hj hl h1
    have hp : (0 : Int) ≤ (pre.length : Int) := by omega
    have w1 : IntKind.i64.wrap (a + 1) = a + 1 := w64 (by omega) (by omega)
    have w2 : IntKind.i64.wrap (a + 1 + 1) = a + 1 + 1 := w64 (by omega) (by omega)
    have w3 : IntKind.i64.wrap (a + 1 + 1 + 1) = a + 1 + 1 + 1 := w64 (by omega) (by omega)
    have wl : IntKind.i64.wrap ((pre.length : Int) + 1) = (pre.length : Int) + 1 := w64 (by omega) (by omega)
    obtain ⟨p0, p1, p2⟩ := x
    simp only [f99.l2, f99.l2.step, w1, w2, w3, s142_0, s142_1, s142_2]
    simp only [lt_mid, hp, if_true, decide_true, wl]
    obtain ⟨ys, h, h2, h3⟩ := ih (pre ++ [mN a]) j (a + 3) (by omega) (by simp; omega) (by omega) (by omega)
    simp only [List.length_append, List.length_singleton, List.append_assoc, List.singleton_append] at h
    have w5 : a + 1 + 1 + 1 = a + 3 := by omega
    rw [w5]
    refine ⟨mN a :: ys, Eq.trans h ?_, ⟨rfl, h2⟩, by simp [h3]⟩
    simp only [List.length_cons]
    rw [show a + 3 + 3 * (rest.length : Int) = a + 3 * ((rest.length + 1 : Nat) : Int) by omega]
theorem heldN_loop (k : Nat) : ∀ (ys pre : List S95) (j : Nat) (a : Int), HeldN a ys → ys.length < j → pre.length + ys.length ≤ 1048576 → 0 ≤ a → a + 3 * ys.length ≤ 10000000000 → f100.l2 k j (pre ++ ys) a (pre.length : Int) = some (.inr (a + 3 * (ys.length : Int))) := by
  intro ys
  induction ys with
  | nil =>
    intro pre j a hH hj hl h0 h1
    obtain ⟨j, rfl⟩ : ∃ j', j = j' + 1 := ⟨j - 1, by omega⟩
    simp only [f100.l2, f100.l2.step]
    rw [if_neg (fb (by simp))]
    simp
  | cons x rest ih =>
    intro pre j a hH hj hl h0 h1
    obtain ⟨j, rfl⟩ : ∃ j', j = j' + 1 := ⟨j - 1, by omega⟩
    simp only [List.length_cons] at hj hl h1
    have hx : x = mN a := hH.1
    subst hx
    have hp : (0 : Int) ≤ (pre.length : Int) := by omega
    have w1 : IntKind.i64.wrap (a + 1) = a + 1 := w64 (by omega) (by omega)
    have w2 : IntKind.i64.wrap (a + 1 + 1) = a + 1 + 1 := w64 (by omega) (by omega)
    have w3 : IntKind.i64.wrap (a + 1 + 1 + 1) = a + 1 + 1 + 1 := w64 (by omega) (by omega)
    have wl : IntKind.i64.wrap ((pre.length : Int) + 1) = (pre.length : Int) + 1 := w64 (by omega) (by omega)
    have h := ih (pre ++ [mN a]) j (a + 3) hH.2 (by omega) (by simp; omega) (by omega) (by omega)
    simp only [List.length_append, List.length_singleton, List.append_assoc, List.singleton_append] at h
    have w5 : a + 1 + 1 + 1 = a + 3 := by omega
    have w6 : IntKind.i64.wrap (a + 3) = a + 3 := w64 (by omega) (by omega)
    simp only [f100.l2, f100.l2.step, gm, w1, w2, w3, lt_mid, hp, wl, decide_true, if_true, w5]
    simp only [mN, ne_eq, not_true_eq_false, decide_false, Bool.false_eq_true, if_false, w6]
    refine Eq.trans h ?_
    simp only [List.length_cons]
    rw [show a + 3 + 3 * (rest.length : Int) = a + 3 * ((rest.length + 1 : Nat) : Int) by omega]
theorem markN_any (k : Nat) (hK : 2097152 ≤ k) (xs : List S95) (hl : xs.length ≤ 1000) (a : Int) (h0 : 0 ≤ a) (h1 : a ≤ 1000000000) : ∃ ys, f99 k xs a = some (a + 3 * (xs.length : Int), ys) ∧ f100 k ys a = some (a + 3 * (xs.length : Int)) := by
  obtain ⟨ys, e1, e3, e2⟩ := markN_loop k xs [] k a (by omega) (by simp; omega) h0 (by omega)
  have e1' : f99.l2 k k a 0 xs = some (a + 3 * (xs.length : Int), ys) := e1
  have e4 : f100.l2 k k ys a 0 = some (.inr (a + 3 * (ys.length : Int))) := heldN_loop k ys [] k a e3 (by omega) (by simp; omega) h0 (by omega)
  exact ⟨ys, by simp [f99, f99.step, e1'], by simp [f100, f100.step, e4, e2]⟩
def HeldS (k : Nat) : Int → List (List S95) → Int → Prop
  | a, [], b => a = b
  | a, y :: ys, b => ∃ a', f100 k y a = some a' ∧ 0 ≤ a' ∧ HeldS k a' ys b
theorem markSS_loop (k : Nat) (hK : 2097152 ≤ k) : ∀ (rest pre : List (List S95)) (j : Nat) (a : Int), rest.length < j → pre.length + rest.length ≤ 1000 → (∀ x ∈ rest, x.length ≤ 1000) → 0 ≤ a → a + 3000 * rest.length ≤ 100000000 → ∃ b ys, f71.l2 k j a (pre.length : Int) (pre ++ rest) = some (b, pre ++ ys) ∧ ys.length = rest.length ∧ 0 ≤ b ∧ HeldS k a ys b := by
  intro rest
  induction rest with
  | nil =>
    intro pre j a hj hl hs h0 h1
    obtain ⟨j, rfl⟩ : ∃ j', j = j' + 1 := ⟨j - 1, by omega⟩
    simp only [f71.l2, f71.l2.step]
    rw [if_neg (fb (by simp))]
    exact ⟨a, [], by simp, rfl, h0, rfl⟩
  | cons x rest ih =>
    intro pre j a hj hl hs h0 h1
    obtain ⟨j, rfl⟩ : ∃ j', j = j' + 1 := ⟨j - 1, by omega⟩
    simp only [List.length_cons] at hj hl h1
    have hx := hs x List.mem_cons_self
    obtain ⟨zs, e1, e3⟩ := markN_any k hK x hx a h0 (by omega)
    obtain ⟨b, ys, i1, i2, i3, i4⟩ := ih (pre ++ [zs]) j (a + 3 * x.length) (by omega) (by simp; omega) (fun y hy => hs y (List.mem_cons_of_mem _ hy)) (by omega) (by omega)
    simp only [List.length_append, List.length_singleton, List.append_assoc, List.singleton_append] at i1
    refine ⟨b, zs :: ys, ?_, by simp [i2], i3, a + 3 * x.length, e3, by omega, i4⟩
    simp only [f71.l2, f71.l2.step, gm, e1, Option.bind_some, set_mid]
    rw [if_pos (tb (lt_mid _ _ _)), if_pos (by omega), if_pos (lt_mid _ _ _), w64 (by omega) (by omega)]
    exact i1
theorem heldSS_loop (k : Nat) : ∀ (ys pre : List (List S95)) (j : Nat) (a b : Int), HeldS k a ys b → ys.length < j → pre.length + ys.length ≤ 1000 → f73.l2 k j (pre ++ ys) a (pre.length : Int) = some (.inr b) := by
  intro ys
  induction ys with
  | nil =>
    intro pre j a b hH hj hl
    obtain ⟨j, rfl⟩ : ∃ j', j = j' + 1 := ⟨j - 1, by omega⟩
    simp only [f73.l2, f73.l2.step]
    rw [if_neg (fb (by simp))]
    have : a = b := hH
    rw [this]
  | cons x rest ih =>
    intro pre j a b hH hj hl
    obtain ⟨j, rfl⟩ : ∃ j', j = j' + 1 := ⟨j - 1, by omega⟩
    simp only [List.length_cons] at hj hl
    obtain ⟨a', e1, e2, e3⟩ := hH
    have h := ih (pre ++ [x]) j a' b e3 (by omega) (by simp; omega)
    simp only [List.length_append, List.length_singleton, List.append_assoc, List.singleton_append] at h
    have : ¬ a' < 0 := by omega
    simp only [f73.l2, f73.l2.step, gm, e1, Option.bind_some]
    rw [if_pos (tb (lt_mid _ _ _)), if_pos (by omega), if_pos (lt_mid _ _ _), if_neg (fb this), w64 (by omega) (by omega)]
    exact h
theorem markA_any (k : Nat) (hK : 2097152 ≤ k) (es : List S98) (ts : List (List S95)) (n : Int) (he : es.length ≤ 1000) (hl : ts.length ≤ 1000) (hs : ∀ x ∈ ts, x.length ≤ 1000) : ∃ a es' ts', f31 k es ts n 1 = some (a, es', ts', false) ∧ 0 ≤ a ∧ f32 k es' ts' n 1 = some a := by
  obtain ⟨es', e1, e2⟩ := markE_any k hK es (by omega) 1 (by omega) (by omega)
  obtain ⟨b, ys, h1, h2, h3, h4⟩ := markSS_loop k hK ts [] k (1 + 4 * (es.length : Int)) (by omega) (by simpa using hl) hs (by omega) (by omega)
  have h1 : f71.l2 k k (1 + 4 * (es.length : Int)) 0 ts = some (b, ys) := h1
  have h5 : f73.l2 k k ys (1 + 4 * (es.length : Int)) 0 = some (.inr b) := heldSS_loop k ys [] k _ b h4 (by omega) (by simp; omega)
  have n1 : ¬ (1 + 4 * (es.length : Int)) < 0 := by omega
  have n2 : ¬ b < 0 := by omega
  exact ⟨b, es', ys, by simp [f31, f31.step, e1, f71, f71.step, h1], h3, by simp [f32, f32.step, e2, f73, f73.step, h5, n1, n2]⟩
theorem area_ok (k : Nat) (hK : 2097152 ≤ k) (n : Int) (es : List S98) : (∃ c d, f25 k n es = some (.inl (c, d)) ∧ f27 k n es = some (.inl (c, d))) ∨
    (∃ M, f25 k n es = some (.inr (es, M, n, 0)) ∧ f27 k n es = some (.inr (es, M, n, 0)) ∧ es.length ≤ 8 ∧ M.length ≤ 5 ∧ ∀ x ∈ M, x.length ≤ 5) := by
  simp only [f25, f25.step, f27, f27.step]
  by_cases hl : (es.length : Int) > 4096
  · simp only [hl, decide_true, if_true]; exact .inl ⟨_, _, rfl, rfl⟩
  simp only [hl, decide_false, edges_spec k hK, edges_impl k hK, Option.bind_some]
  rcases Bool.eq_false_or_eq_true (decide ((1 ≤ n ∧ n ≤ 5) ∧ es.length ≤ 8) && gE n [] es) with h | h
  case inr => rw [h]; exact .inl ⟨_, _, rfl, rfl⟩
  rw [h]
  right
  simp only [Bool.and_eq_true, decide_eq_true_eq] at h
  obtain ⟨⟨⟨hn1, hn5⟩, hel⟩, _⟩ := h
  obtain ⟨m, rfl⟩ : ∃ m : Nat, n = (m : Int) := ⟨n.toNat, by omega⟩
  have hmx : maxN = 140737488351232 := rfl
  have c1 : (([] : List S98).length + es.length) * 32 ≤ maxN := by simp; omega
  have c2 : (0 : Int) ≤ (m : Int) := by omega
  have c3 : m * 24 ≤ maxN := by omega
  have e1 : f25.l7 k k (m : Int) 0 0 es (m : Int) [] = some (0, es, (m : Int), nM m m) := l7_spec k m hK (by omega) 0 es (m : Int) m 0 k (by omega) (by omega)
  have e2 : f27.l7 k k (m : Int) (m : Int) 0 0 es (List.replicate m []) (m : Int) = some (0, es, nM m m, (m : Int)) := l7_impl k m hK (by omega) 0 (m : Int) es m 0 k (by omega) (by omega)
  refine ⟨nM m m, ?_, ?_, hel, by simp [nM]; omega, fun x hx => ?_⟩
  · simp only [c1, if_true, Bool.not_true, List.nil_append, e1, Option.bind_some]; rfl
  · simp only [c1, c2, c3, if_true, Bool.not_true, List.nil_append, Int.toNat_natCast, List.length_replicate, e2, Option.bind_some]; rfl
  · obtain ⟨r, hr, rfl⟩ := List.mem_map.1 hx
    simp [nRow]; omega
/-- The plain law. -/
theorem FnExactNewArea : Says := by
  intro n es hn he
  have hq : maxLen = 9223372036854775807 := by decide
  obtain ⟨k, hK⟩ : ∃ k : Nat, 2097152 ≤ k := ⟨_, Nat.le_refl _⟩
  refine ⟨k, ?_⟩
  have hel := he.1
  have hs : f24 k es 1048576 = some (if (1048576 : Int) - (es.length : Int) < 0 then (-1 : Int) else (1048576 : Int) - (es.length : Int)) := by
    simp only [f24, f24.step, w64 (n := (1048576 : Int) - es.length) (by omega) (by omega)]
    split
    · rename_i h; simp only [decide_eq_true_eq] at h; simp [h]
    · rename_i h; simp only [decide_eq_true_eq] at h; simp [h]
  simp only [f5, f5.step, hs, Option.bind_some]
  by_cases hb : (1048576 : Int) - es.length < 0
  · rw [if_pos hb, if_pos (by decide)]
  rw [if_neg hb, if_neg (fb hb)]
  have hto : f26 k es = some (es.map cE) := toE k hK (by omega)
  have q : f29 k (es.map cE) (es.map cE) = some true := eqE k hK (by simp; omega)
  obtain ⟨ys, m1, _⟩ := markE_any k hK (es.map cE) (by simp; omega) 1 (by omega) (by omega)
  have m2 : ¬ (1 + 4 * (((es.map cE).length : Nat) : Int)) < 0 := by omega
  rcases area_ok k hK n (es.map cE) with ⟨c, d, h1, h2⟩ | ⟨M, h1, h2, h3, h4, h5⟩
  · have z1 := eqA k hK (es := []) (ts := []) c (by simp) (by simp) (by simp)
    obtain ⟨a, es', ts', i1, i2, i3⟩ := markA_any k hK [] [] c (by simp) (by simp) (by simp)
    obtain ⟨j, rfl⟩ : ∃ j', k = j' + 1 := ⟨k - 1, by omega⟩
    have i4 : f31 (j + 1) [] [] c 1 = some (1, [], [], false) := by simp [f31, f31.step, f30, f30.step, f30.l2, f30.l2.step, f71, f71.step, f71.l2, f71.l2.step]
    have i5 : f32 (j + 1) [] [] c 1 = some 1 := by simp [f32, f32.step, f72, f72.step, f72.l2, f72.l2.step, f73, f73.step, f73.l2, f73.l2.step]
    simp only [hto, h1, h2, q, m1, z1, i4, i5, Option.bind_some, Sum.elim_inl, m2]
    simp [m2]
  · have z1 := eqA k hK (es := es.map cE) (ts := M) n (by omega) (by omega) (fun x hx => by have := h5 x hx; omega)
    obtain ⟨a, es', ts', i1, i2, i3⟩ := markA_any k hK (es.map cE) M n (by omega) (by omega) (fun x hx => by have := h5 x hx; omega)
    have i4 : ¬ a < 0 := by omega
    simp only [hto, h1, h2, q, m1, z1, i1, i3, Option.bind_some, Sum.elim_inr, m2]
    simp [m2, i4]
end Go.Proofs.Ytebmblbfplmcaaa.Pure

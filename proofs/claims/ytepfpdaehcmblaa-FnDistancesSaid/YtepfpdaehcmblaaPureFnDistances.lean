/- The plain law of FnDistances. -/
import Derived.Test.YtepfpdaehcmblaaSaysFnDistances
namespace Go.Proofs.Ytepfpdaehcmblaa.Pure
open Go Go.B Go.Proofs.Ytepfpdaehcmblaa.B Go.Proofs.Ytepfpdaehcmblaa.SaysFnDistances
set_option linter.unusedVariables false
set_option linter.unusedSimpArgs false
theorem w64 {n : Int} (h0 : -9223372036854775808 ≤ n) (h1 : n ≤ 9223372036854775807) : IntKind.i64.wrap n = n := by
  rw [IntKind.wrap_i64]; omega
theorem tb {c : Prop} [Decidable c] (h : c) : decide c = true := decide_eq_true h
theorem fb {c : Prop} [Decidable c] (h : ¬ c) : ¬ decide c = true := by simpa using h
theorem ff {c : Prop} [Decidable c] (h : ¬ c) : decide c = false := by simpa using h
theorem gm {α : Type} (pre rest : List α) (x d : α) : List.getD (pre ++ x :: rest) (Int.toNat (pre.length : Int)) d = x := by
  simp [List.getD_eq_getElem?_getD]
theorem lt_mid {α : Type} (pre rest : List α) (x : α) : (pre.length : Int) < ((pre ++ x :: rest).length : Int) := by simp; omega
theorem set_mid {α : Type} (pre rest : List α) (x y : α) : List.set (pre ++ x :: rest) (Int.toNat (pre.length : Int)) y = pre ++ y :: rest := by
  simp
theorem set_at {e : TypeId} (pre rest : List (env.T e)) (x y : env.T e) {off : Nat} {cs : List (Cell env.T)} (h : putCells (E := env) e x off cs = some y) : setE env e (pre ++ x :: rest) (Int.toNat (pre.length : Int)) off cs = pre ++ y :: rest := by
  have hg : List.getD (pre ++ x :: rest) (Int.toNat (pre.length : Int)) (env.dflt e) = x := gm pre rest x _
  simp only [setE, hg, h, Option.getD_some, set_mid]
theorem mid_next {α : Type} (pre rest : List α) (x : α) : pre ++ x :: rest = (pre ++ [x]) ++ rest := by simp
/-! ### areas: told, compared -/
theorem set_mid' {α : Type} (pre' : List α) {n : Nat} (h : n = pre'.length) (rest : List α) (x y : α) : List.set (pre' ++ x :: rest) (Int.toNat (n : Int)) y = pre' ++ y :: rest := by
  subst h; simp
theorem lt_mid' {α : Type} (pre' : List α) {n : Nat} (h : n = pre'.length) (rest : List α) (x : α) : (n : Int) < ((pre' ++ x :: rest).length : Int) := by subst h; exact lt_mid _ _ _
theorem wnext {α : Type} (pre : List α) (x : α) (h : pre.length ≤ 4611686018427387904) : IntKind.i64.wrap ((pre.length : Int) + 1) = ((pre ++ [x]).length : Int) := by rw [w64 (by omega) (by omega)]; simp
/-! ### right areas -/
theorem in_spec (k : Nat) (a b c : Int) : f61 k a b c = some (decide (b ≤ a ∧ a ≤ c)) := by
  simp only [f61, f61.step]
  split <;> simp at * <;> omega
theorem in_impl (k : Nat) (a b c : Int) : f63 k a b c = some (decide (b ≤ a ∧ a ≤ c)) := by
  simp only [f63, f63.step]
  split <;> simp at * <;> omega
/-- Whether an edge goes between two routers. -/
def conn (a b : Int) (e : S104) : Bool := (decide (e.f0 = a) && decide (e.f1 = b)) || (decide (e.f0 = b) && decide (e.f1 = a))
/-- The number of the edge between two routers, or -1. -/
def fe (a b : Int) : Int → List S104 → Int
  | _, [] => -1
  | i, e :: r => if conn a b e = true then i else fe a b (i + 1) r
theorem fe_any (a b : Int) : ∀ (l : List S104) (i : Int), 0 ≤ i → decide (fe a b i l ≥ 0) = l.any (conn a b)
  | [], i, _ => by simp [fe]
  | e :: r, i, h => by
    simp only [fe, List.any_cons]
    rcases Bool.eq_false_or_eq_true (conn a b e) with hc | hc
    · simp [hc, h]
    · simp only [hc, Bool.false_eq_true, if_false, Bool.false_or]; exact fe_any a b r (i + 1) (by omega)
theorem fe_neg (a b : Int) : ∀ (l : List S104) (i : Int), 0 ≤ i → (fe a b i l < 0 ↔ l.any (conn a b) = false)
  | l, i, h => by
    have := fe_any a b l i h
    constructor
    · intro h2; rw [← this]; simp; omega
    · intro h2; rw [h2] at this; simp at this; omega
theorem fe_lt (a b : Int) : ∀ (l : List S104) (i : Int), 0 ≤ i → fe a b i l < i + l.length
  | [], i, h => by simp [fe]; omega
  | e :: r, i, h => by
    simp only [fe, List.length_cons]
    split
    · omega
    · have := fe_lt a b r (i + 1) (by omega); omega
theorem spec_fe (k : Nat) (a b : Int) : ∀ (rest pre : List S104) (j : Nat), rest.length < j → (pre ++ rest).length ≤ 1000 →
    ∃ r, f137.l2 k j (pre ++ rest) a b (pre.length : Int) = some r ∧ Sum.elim (fun t => t) (fun _ => -1) r = fe a b (pre.length : Int) rest := by
  intro rest
  induction rest with
  | nil =>
    intro pre j hj hl
    obtain ⟨j, rfl⟩ : ∃ j', j = j' + 1 := ⟨j - 1, by omega⟩
    simp only [f137.l2, f137.l2.step]
    rw [if_neg (fb (by simp))]
    exact ⟨_, rfl, rfl⟩
  | cons x rest ih =>
    intro pre j hj hl
    obtain ⟨j, rfl⟩ : ∃ j', j = j' + 1 := ⟨j - 1, by omega⟩
    have hp : (0 : Int) ≤ (pre.length : Int) := by omega
    have hw := wnext pre x (by simp at hl; omega)
    have := ih (pre ++ [x]) j (by simp at hj; omega) (by simpa using hl)
    simp only [List.append_assoc, List.singleton_append] at this
    have hn : ((pre ++ [x]).length : Int) = (pre.length : Int) + 1 := by simp
    rw [hn] at this
    simp only [f137.l2, f137.l2.step, gm, hw, hn, fe, conn]
    simp only [lt_mid, hp, if_true, decide_true]
    by_cases c1 : x.f0 = a <;> by_cases c2 : x.f1 = b <;> by_cases c3 : x.f0 = b <;> by_cases c4 : x.f1 = a <;> simp only [c1, c2, c3, c4, decide_true, decide_false, if_true, Bool.false_eq_true, if_false, Bool.true_eq_false, Bool.and_true, Bool.and_false, Bool.or_true, Bool.or_false, Bool.true_and, Bool.false_and] <;> first | exact this | exact ⟨_, rfl, rfl⟩ | (simp_all; done)
theorem find_spec (k : Nat) (hK : 2097152 ≤ k) (a b : Int) (l : List S104) (hl : l.length ≤ 1000) : f137 k l a b = some (fe a b 0 l) := by
  obtain ⟨r, h1, h2⟩ := spec_fe k a b l [] k (by omega) (by simpa using hl)
  have h1 : f137.l2 k k l a b 0 = some r := h1
  have h2 : Sum.elim (fun t => t) (fun _ => -1) r = fe a b 0 l := h2
  simp only [f137, f137.step, h1, Option.bind_some, ← h2]
  rcases r with r | r <;> rfl
theorem conn_impl (k : Nat) (a b : Int) (x : S104) : f198 k x.f0 x.f1 x.f2 x.f3 a b = some (conn a b x) := by
  simp only [f198, f198.step, conn]
  by_cases c1 : x.f0 = a <;> by_cases c2 : x.f1 = b <;> by_cases c3 : x.f0 = b <;> by_cases c4 : x.f1 = a <;> simp [c1, c2, c3, c4] <;> (try (by_cases q : a = b <;> simp_all))
theorem impl_fe (k : Nat) (a b : Int) : ∀ (rest pre : List S104) (j : Nat), rest.length < j → (pre ++ rest).length ≤ 1000 →
    ∃ r, f197.l2 k j (pre ++ rest) a b ((pre ++ rest).length : Int) (pre.length : Int) = some r ∧ Sum.elim (fun t => t) (fun _ => -1) r = fe a b (pre.length : Int) rest := by
  intro rest
  induction rest with
  | nil =>
    intro pre j hj hl
    obtain ⟨j, rfl⟩ : ∃ j', j = j' + 1 := ⟨j - 1, by omega⟩
    simp only [f197.l2, f197.l2.step]
    rw [if_neg (fb (by simp))]
    exact ⟨_, rfl, rfl⟩
  | cons x rest ih =>
    intro pre j hj hl
    obtain ⟨j, rfl⟩ : ∃ j', j = j' + 1 := ⟨j - 1, by omega⟩
    have hp : (0 : Int) ≤ (pre.length : Int) := by omega
    have hw := wnext pre x (by simp at hl; omega)
    have := ih (pre ++ [x]) j (by simp at hj; omega) (by simpa using hl)
    simp only [List.append_assoc, List.singleton_append] at this
    have hn : ((pre ++ [x]).length : Int) = (pre.length : Int) + 1 := by simp
    rw [hn] at this
    simp only [f197.l2, f197.l2.step, gm, hw, hn, fe, conn_impl, Option.bind_some]
    simp only [lt_mid, hp, if_true, decide_true]
    rcases Bool.eq_false_or_eq_true (conn a b x) with hc | hc
    · simp only [hc, if_true]; exact ⟨_, rfl, rfl⟩
    · simp only [hc, Bool.false_eq_true, if_false]; exact this
theorem find_impl (k : Nat) (hK : 2097152 ≤ k) (a b : Int) (l : List S104) (ts : List (List S174)) (n : Int) (hl : l.length ≤ 1000) : f184 k l ts n a b = some (fe a b 0 l, l, ts, n) := by
  obtain ⟨r, h1, h2⟩ := impl_fe k a b l [] k (by omega) (by simpa using hl)
  have h1 : f197.l2 k k l a b (l.length : Int) 0 = some r := h1
  have h2 : Sum.elim (fun t => t) (fun _ => -1) r = fe a b 0 l := h2
  simp only [f184, f184.step, f197, f197.step, h1, Option.bind_some, ← h2]
  rcases r with r | r <;> rfl
/-! edges -/
def eo (n : Int) (e : S104) : Prop := (0 ≤ e.f0 ∧ e.f0 ≤ n - 1) ∧ (0 ≤ e.f1 ∧ e.f1 ≤ n - 1) ∧ e.f0 ≠ e.f1 ∧ (1 ≤ e.f2 ∧ e.f2 ≤ 16)
instance (n : Int) (e : S104) : Decidable (eo n e) := by unfold eo; infer_instance
def gE (n : Int) : List S104 → List S104 → Bool
  | _, [] => true
  | pre, e :: r => decide (eo n e) && (!(pre.any (conn e.f0 e.f1)) && gE n (pre ++ [e]) r)
theorem take_midE (pre rest : List S104) : List.drop 0 (List.take (Int.toNat (pre.length : Int)) (pre ++ rest)) = pre := by simp
theorem spec_edges (k : Nat) (hK : 2097152 ≤ k) (n : Int) (hn : 1 ≤ n ∧ n ≤ 5) : ∀ (rest pre : List S104) (j : Nat), rest.length < j → (pre ++ rest).length ≤ 100 →
    f135.l4 k j n (pre ++ rest) (pre.length : Int) = some (if gE n pre rest = true then .inr () else .inl false) := by
  have wn : IntKind.i64.wrap (n - 1) = n - 1 := w64 (by omega) (by omega)
  intro rest
  induction rest with
  | nil =>
    intro pre j hj hl
    obtain ⟨j, rfl⟩ : ∃ j', j = j' + 1 := ⟨j - 1, by omega⟩
    simp only [f135.l4, f135.l4.step]
    rw [if_neg (fb (by simp))]
    simp [gE]
  | cons x rest ih =>
    intro pre j hj hl
    obtain ⟨j, rfl⟩ : ∃ j', j = j' + 1 := ⟨j - 1, by omega⟩
    have hp : (0 : Int) ≤ (pre.length : Int) := by omega
    have hw := wnext pre x (by simp at hl; omega)
    have := ih (pre ++ [x]) j (by simp at hj; omega) (by simpa using hl)
    simp only [List.append_assoc, List.singleton_append] at this
    have hle : (pre.length : Int) ≤ ((pre ++ x :: rest).length : Int) := by simp; omega
    have hpl : pre.length ≤ 1000 := by simp at hl; omega
    simp only [f135.l4, f135.l4.step, gm, hw, wn, in_spec, Option.bind_some, take_midE, find_spec k hK _ _ _ hpl, fe_any _ _ _ _ (Int.le_refl 0), gE]
    simp only [lt_mid, hp, hle, if_true, decide_true]
    by_cases c1 : 0 ≤ x.f0 ∧ x.f0 ≤ n - 1
    case neg => simp [c1, eo]
    by_cases c2 : 0 ≤ x.f1 ∧ x.f1 ≤ n - 1
    case neg => simp [c1, c2, eo]
    by_cases c3 : x.f0 = x.f1
    · simp [c3, eo]
    by_cases c4 : 1 ≤ x.f2 ∧ x.f2 ≤ 16
    case neg => simp [c1, c2, c3, c4, eo]
    have ok : eo n x := ⟨c1, c2, c3, c4⟩
    simp only [tb c1, tb c2, ff c3, tb c4, tb ok, Bool.not_true, if_true, Bool.true_and]
    rcases Bool.eq_false_or_eq_true (pre.any (conn x.f0 x.f1)) with hc | hc
    · simp [hc]
    · simp only [hc, Bool.false_eq_true, if_false, Bool.not_false, Bool.true_and]
      exact this
theorem edges_spec (k : Nat) (hK : 2097152 ≤ k) (n : Int) (es : List S104) : f135 k n es = some (decide ((1 ≤ n ∧ n ≤ 5) ∧ es.length ≤ 8) && gE n [] es) := by
  simp only [f135, f135.step, in_spec, Option.bind_some]
  by_cases c1 : 1 ≤ n ∧ n ≤ 5
  case neg => simp [c1]
  by_cases c2 : es.length ≤ 8
  case neg =>
    have : (es.length : Int) > 8 := by omega
    simp [c1, c2, this]
  have c2' : ¬ (es.length : Int) > 8 := by omega
  have e : f135.l4 k k n es 0 = _ := spec_edges k hK n c1 es [] k (by omega) (by simp; omega)
  rw [if_pos (by rw [tb c1]; rfl), if_neg (fb c2'), e]
  cases gE n [] es <;> simp [c1, c2]
/-- The list of 25 truths. -/
theorem eta25 {B : List Bool} (h : B.length = 25) : [B.getD 0 false, B.getD 1 false, B.getD 2 false, B.getD 3 false, B.getD 4 false, B.getD 5 false, B.getD 6 false, B.getD 7 false, B.getD 8 false, B.getD 9 false, B.getD 10 false, B.getD 11 false, B.getD 12 false, B.getD 13 false, B.getD 14 false, B.getD 15 false, B.getD 16 false, B.getD 17 false, B.getD 18 false, B.getD 19 false, B.getD 20 false, B.getD 21 false, B.getD 22 false, B.getD 23 false, B.getD 24 false] = B := by
  apply List.ext_getElem?
  intro i
  by_cases hi : i < 25
  · have : ∀ m (hm : m < 25), (B.getD m false) = B[m]'(by omega) := fun m hm => by simp [List.getD_eq_getElem?_getD, List.getElem?_eq_getElem (show m < B.length by omega)]
    rw [List.getElem?_eq_getElem (show i < B.length by omega)]
    match i, hi with
    | 0, _ | 1, _ | 2, _ | 3, _ | 4, _ | 5, _ | 6, _ | 7, _ | 8, _ | 9, _ | 10, _ | 11, _ | 12, _ | 13, _ | 14, _ | 15, _ | 16, _ | 17, _ | 18, _ | 19, _ | 20, _ | 21, _ | 22, _ | 23, _ | 24, _ => exact congrArg some (this _ (by decide))
    | n + 25, h => omega
  · rw [List.getElem?_eq_none (by simp; omega), List.getElem?_eq_none (by omega)]
/-- The program's loop over a list of 25 truths. -/
def L5 (k j : Nat) (n : Int) (es : List S104) (m i : Int) (B : List Bool) : Option (Bool ⊕ Unit) :=
  f133.l5 k j n es m i (B.getD 0 false) (B.getD 1 false) (B.getD 2 false) (B.getD 3 false) (B.getD 4 false) (B.getD 5 false) (B.getD 6 false) (B.getD 7 false) (B.getD 8 false) (B.getD 9 false) (B.getD 10 false) (B.getD 11 false) (B.getD 12 false) (B.getD 13 false) (B.getD 14 false) (B.getD 15 false) (B.getD 16 false) (B.getD 17 false) (B.getD 18 false) (B.getD 19 false) (B.getD 20 false) (B.getD 21 false) (B.getD 22 false) (B.getD 23 false) (B.getD 24 false)
/-- What the truths tell: between which routers an edge goes. -/
def Seen (B : List Bool) (pre : List S104) : Prop := ∀ a b : Nat, a < 5 → b < 5 → B.getD (a * 5 + b) false = pre.any (conn a b)
theorem any_append_one (p : S104 → Bool) (pre : List S104) (x : S104) : (pre ++ [x]).any p = (pre.any p || p x) := by simp
theorem getD_set (B : List Bool) (i m : Nat) (v : Bool) (hi : i < B.length) : (B.set i v).getD m false = if i = m then v else B.getD m false := by
  simp only [List.getD_eq_getElem?_getD, List.getElem?_set]
  split
  · simp [hi]
  · rfl
theorem seen_next {B : List Bool} (hB : B.length = 25) {pre : List S104} (h : Seen B pre) {x : S104} {a b : Nat} (ha : a < 5) (hb : b < 5) (e0 : x.f0 = (a : Int)) (e1 : x.f1 = (b : Int)) : Seen ((B.set (a * 5 + b) true).set (b * 5 + a) true) (pre ++ [x]) := by
  intro c d hc hd
  rw [any_append_one, ← h c d hc hd, getD_set _ _ _ _ (by simp; omega), getD_set _ _ _ _ (by omega)]
  by_cases p1 : b * 5 + a = c * 5 + d
  · have q1 : b = c := by omega
    have q2 : a = d := by omega
    rw [if_pos p1]; simp [conn, e0, e1, q1, q2]
  · by_cases p2 : a * 5 + b = c * 5 + d
    · have q1 : b = d := by omega
      have q2 : a = c := by omega
      rw [if_neg p1, if_pos p2]; simp [conn, e0, e1, q1, q2]
    · have q : conn (c : Int) (d : Int) x = false := by
        simp only [conn, e0, e1, Bool.or_eq_false_iff, Bool.and_eq_false_iff, decide_eq_false_iff_not]
        omega
      rw [if_neg p1, if_neg p2, q, Bool.or_false]
theorem impl_edges (k : Nat) (n : Int) (hn : 1 ≤ n ∧ n ≤ 5) : ∀ (rest pre : List S104) (j : Nat) (B : List Bool), rest.length < j → (pre ++ rest).length ≤ 100 → B.length = 25 → Seen B pre →
    L5 k j n (pre ++ rest) ((pre ++ rest).length : Int) (pre.length : Int) B = some (if gE n pre rest = true then .inr () else .inl false) := by
  have wn : IntKind.i64.wrap (n - 1) = n - 1 := w64 (by omega) (by omega)
  intro rest
  induction rest with
  | nil =>
    intro pre j B hj hl hB hs
    obtain ⟨j, rfl⟩ : ∃ j', j = j' + 1 := ⟨j - 1, by omega⟩
    simp only [L5, f133.l5, f133.l5.step]
    rw [if_neg (fb (by simp))]
    simp [gE]
  | cons x rest ih =>
    intro pre j B hj hl hB hs
    obtain ⟨j, rfl⟩ : ∃ j', j = j' + 1 := ⟨j - 1, by omega⟩
    have hp : (0 : Int) ≤ (pre.length : Int) := by omega
    have hw := wnext pre x (by simp at hl; omega)
    have hB1 : ∀ p, (List.set B p true).length = 25 := fun p => by simp [hB]
    simp only [L5, f133.l5, f133.l5.step, gm, hw, wn, in_impl, Option.bind_some, gE, eta25 hB, eta25 (hB1 _)]
    simp only [lt_mid, hp, if_true, decide_true]
    by_cases c1 : 0 ≤ x.f0 ∧ x.f0 ≤ n - 1
    case neg => simp [c1, eo]
    by_cases c2 : 0 ≤ x.f1 ∧ x.f1 ≤ n - 1
    case neg => simp [c1, c2, eo]
    by_cases c3 : x.f0 = x.f1
    · simp [c3, eo]
    by_cases c4 : 1 ≤ x.f2 ∧ x.f2 ≤ 16
    case neg => simp [c1, c2, c3, c4, eo]
    have ok : eo n x := ⟨c1, c2, c3, c4⟩
    obtain ⟨a, ha⟩ : ∃ a : Nat, x.f0 = (a : Int) := ⟨x.f0.toNat, by omega⟩
    obtain ⟨b, hb⟩ : ∃ b : Nat, x.f1 = (b : Int) := ⟨x.f1.toNat, by omega⟩
    have ha5 : a < 5 := by omega
    have hb5 : b < 5 := by omega
    have d1 : (a : Int) ≤ n - 1 := by omega
    have d2 : (b : Int) ≤ n - 1 := by omega
    have d3 : decide ((a : Int) = (b : Int)) = false := ff (by omega)
    have g1 : (0 : Int) ≤ (a : Int) := by omega
    have g2 : (a : Int) < 5 := by omega
    have g3 : (0 : Int) ≤ (b : Int) := by omega
    have g4 : (b : Int) < 5 := by omega
    have g5 : a * 5 + b < 25 := by omega
    have g6 : b * 5 + a < 25 := by omega
    have hsn := hs a b ha5 hb5
    simp only [tb ok, ha, hb, d1, d2, d3, tb c4, Bool.not_true, if_true, Bool.true_and, g1, g2, g3, g4, g5, g6, and_true, true_and, decide_true, decide_false, Int.toNat_natCast, Nat.mul_one, hsn]
    have hih := ih (pre ++ [x]) j ((B.set (a * 5 + b) true).set (b * 5 + a) true) (by simp at hj; omega) (by simpa using hl) (by simp [hB]) (seen_next hB hs ha5 hb5 ha hb)
    simp only [List.append_assoc, List.singleton_append] at hih
    rcases Bool.eq_false_or_eq_true (pre.any (conn a b)) with hc | hc
    · simp [hc]
    · simp only [hc, Bool.false_eq_true, if_false, Bool.not_false, Bool.true_and]
      exact hih
theorem edges_impl (k : Nat) (hK : 2097152 ≤ k) (n : Int) (es : List S104) : f133 k n es = some (decide ((1 ≤ n ∧ n ≤ 5) ∧ es.length ≤ 8) && gE n [] es) := by
  simp only [f133, f133.step, in_impl, Option.bind_some]
  by_cases c1 : 1 ≤ n ∧ n ≤ 5
  case neg => simp [c1]
  by_cases c2 : es.length ≤ 8
  case neg =>
    have : (es.length : Int) > 8 := by omega
    simp [c1, c2, this]
  have c2' : ¬ (es.length : Int) > 8 := by omega
  have e := impl_edges k n c1 es [] k (List.replicate 25 false) (by omega) (by simp; omega) rfl (fun a b ha hb => by
    have : a * 5 + b < 25 := by omega
    rw [List.getD_eq_getElem?_getD, List.getElem?_replicate, if_pos this]; rfl)
  rw [if_pos (by rw [tb c1]; rfl), if_neg (fb c2')]
  have e : f133.l5 k k n es (es.length : Int) 0 false false false false false false false false false false false false false false false false false false false false false false false false false = _ := e
  rw [e]
  cases gE n [] es <;> simp [c1, c2]
theorem gE_mem (n : Int) : ∀ (l pre : List S104), gE n pre l = true → ∀ e ∈ l, eo n e
  | [], _, _, _, h => by simp at h
  | x :: l, pre, h, e, he => by
    simp only [gE, Bool.and_eq_true, decide_eq_true_eq] at h
    rcases List.mem_cons.mp he with h1 | h1
    · subst h1; exact h.1
    · exact gE_mem n l _ h.2.2 e h1
/-- An edge that is there ends in range. -/
theorem fe_range {n : Int} {es : List S104} (hE : ∀ e ∈ es, eo n e) {r v : Int} (h : 0 ≤ fe r v 0 es) : 0 ≤ v ∧ v ≤ n - 1 := by
  have h1 := fe_any r v es 0 (Int.le_refl 0)
  rw [tb h] at h1
  obtain ⟨e, he, hc⟩ := List.any_eq_true.mp h1.symm
  have := hE e he
  simp only [eo] at this
  simp only [conn, Bool.or_eq_true, Bool.and_eq_true, decide_eq_true_eq] at hc
  omega
/-! the table's entries -/
/-- An entry that can be the table's. -/
def eK (es : List S104) (r d : Int) (x : S174) : Bool :=
  if r = d then decide (x.f0 = 0) && (decide (x.f1 = r) && decide (x.f2 = 0))
  else decide (1 ≤ x.f0 ∧ x.f0 ≤ 16) && (decide (0 ≤ x.f2 ∧ x.f2 ≤ 6) &&
    (if x.f1 = -1 then decide (x.f0 = 16) && decide (x.f2 = 0) else decide (0 ≤ fe r x.f1 0 es) && (decide (x.f0 = 16) || (List.getD es (Int.toNat (fe r x.f1 0 es)) ⟨0, 0, 0, false⟩).f3)))
def rK (es : List S104) (r : Int) : Int → List S174 → Bool
  | _, [] => true
  | d, x :: l => eK es r d x && rK es r (d + 1) l
theorem gm2 {α : Type} {xs : List (List α)} {r : Nat} {row pre rest : List α} {x : α} (hr : List.getD xs r [] = row) (he : row = pre ++ x :: rest) (d : α) : List.getD (List.getD xs r []) (Int.toNat (pre.length : Int)) d = x := by
  rw [hr, he, gm]
theorem spec_row (k : Nat) (hK : 2097152 ≤ k) (n : Int) (hn : 1 ≤ n ∧ n ≤ 5) (es : List S104) (hl : es.length ≤ 1000) (hE : ∀ e ∈ es, eo n e) (ts : List (List S174)) (r : Nat) (hr : r < ts.length) (row : List S174) (hrow : List.getD ts r [] = row) (hrn : (row.length : Int) = n) :
    ∀ (rest pre : List S174) (j : Nat), row = pre ++ rest → rest.length < j →
    f57.l9 k j (r : Int) (pre.length : Int) es ts n = some (if rK es (r : Int) (pre.length : Int) rest = true then .inr ((r : Int), es, ts, n) else .inl (false, (r : Int), es, ts, n)) := by
  have wn : IntKind.i64.wrap (n - 1) = n - 1 := w64 (by omega) (by omega)
  intro rest
  induction rest with
  | nil =>
    intro pre j he hj
    obtain ⟨j, rfl⟩ : ∃ j', j = j' + 1 := ⟨j - 1, by omega⟩
    simp only [List.append_nil] at he
    simp only [f57.l9, f57.l9.step]
    rw [if_neg (fb (by rw [← he]; omega))]
    simp [rK]
  | cons x rest ih =>
    intro pre j he hj
    obtain ⟨j, rfl⟩ : ∃ j', j = j' + 1 := ⟨j - 1, by omega⟩
    have hp : (0 : Int) ≤ (pre.length : Int) := by omega
    have hr0 : (0 : Int) ≤ (r : Int) := by omega
    have hr1 : (r : Int) < (ts.length : Int) := by omega
    have hlen : pre.length + rest.length + 1 = row.length := by rw [he]; simp; omega
    have hpn : (pre.length : Int) < n := by omega
    have hpr : (pre.length : Int) < ((List.length (List.getD ts r [])) : Int) := by rw [hrow]; omega
    have hw := wnext pre x (by omega)
    have := ih (pre ++ [x]) j (by rw [he]; simp) (by simp at hj; omega)
    have hn2 : ((pre ++ [x]).length : Int) = (pre.length : Int) + 1 := by simp
    rw [hn2] at this hw
    simp only [f57.l9, f57.l9.step, f136, f136.step, Int.toNat_natCast (n := r), gm2 hrow he, hw, wn, in_spec, Option.bind_some, find_spec k hK _ _ _ hl, rK]
    simp only [hpn, hr0, hr1, hp, hpr, if_true, decide_true, eK]
    have hfl := fe_lt (r : Int) x.f1 es 0 (Int.le_refl 0)
    have hfl : fe (r : Int) x.f1 0 es < (es.length : Int) := by omega
    by_cases c0 : (r : Int) = (pre.length : Int)
    · simp only [c0, decide_true, if_true]
      rw [c0] at this
      by_cases d1 : x.f0 = 0
      case neg => simp [d1]
      by_cases d2 : x.f1 = (pre.length : Int)
      case neg => simp [d1, d2]
      by_cases d3 : x.f2 = 0
      case neg => simp [d1, d2, d3]
      simpa [d1, d2, d3] using this
    · simp only [ff c0, c0, Bool.false_eq_true, if_false, Option.bind_some]
      by_cases d1 : 1 ≤ x.f0 ∧ x.f0 ≤ 16
      case neg => simp [d1]
      by_cases d2 : 0 ≤ x.f2 ∧ x.f2 ≤ 6
      case neg => simp [d1, d2]
      simp only [tb d1, tb d2, Bool.not_true, if_true, Bool.true_and]
      by_cases d3 : x.f1 = -1
      · have e1 : (-1 : Int) ≤ x.f1 ∧ x.f1 ≤ n - 1 := by omega
        have e2 : x.f1 < 0 := by omega
        have e3 : ¬ x.f1 ≥ 0 := by omega
        simp only [tb e1, tb e2, ff e3, Bool.not_true, if_true]
        simp only [d3, decide_true, if_true, Bool.true_and, Bool.and_true]
        by_cases d4 : x.f0 = 16
        case neg => simp [d4]
        by_cases d5 : x.f2 = 0
        case neg => simp [d4, d5]
        simpa [d4, d5] using this
      · by_cases d4 : 0 ≤ fe (r : Int) x.f1 0 es
        case neg =>
          simp only [d3, d4, decide_false, Bool.false_and, if_false, Bool.false_eq_true]
          by_cases e1 : (-1 : Int) ≤ x.f1 ∧ x.f1 ≤ n - 1
          case neg => simp [e1]
          have e2 : ¬ x.f1 < 0 := by omega
          have e3 : x.f1 ≥ 0 := by omega
          have e4 : fe (r : Int) x.f1 0 es < 0 := by omega
          simp only [tb e1, ff e2, tb e3, tb e4, Bool.not_true, if_true]
          simp
        · have hv := fe_range hE d4
          have e1 : (-1 : Int) ≤ x.f1 ∧ x.f1 ≤ n - 1 := by omega
          have e2 : ¬ x.f1 < 0 := by omega
          have e3 : x.f1 ≥ 0 := by omega
          have e4 : ¬ fe (r : Int) x.f1 0 es < 0 := by omega
          simp only [tb e1, ff e2, tb e3, ff e4, tb d4, d4, hfl, Bool.not_true, if_true]
          simp only [d3, decide_false, Bool.false_and, Bool.and_false, if_false, Bool.true_and, Bool.not_false, beq_self_eq_true, Bool.not_true, Bool.false_eq_true, if_true]
          by_cases d5 : x.f0 = 16
          · have : ¬ x.f0 < 16 := by omega
            simpa [d3, d5] using ‹f57.l9 k j _ _ _ _ _ = _›
          · have : x.f0 < 16 := by omega
            simp only [tb this, ff d5, if_true, Bool.false_or]
            rcases Bool.eq_false_or_eq_true (List.getD es (Int.toNat (fe (r : Int) x.f1 0 es)) ⟨0, 0, 0, false⟩).f3 with hu | hu
            · simp only [hu]; simpa [d3, d5] using ‹f57.l9 k j _ _ _ _ _ = _›
            · simp only [hu]; simp [d3, d5]
def specK (n : Int) (es : List S104) : Int → List (List S174) → Bool
  | _, [] => true
  | i, x :: l => decide ((x.length : Int) = n) && (rK es i 0 x && specK n es (i + 1) l)
def rowsK (es : List S104) : Int → List (List S174) → Bool
  | _, [] => true
  | i, x :: l => rK es i 0 x && rowsK es (i + 1) l
theorem specK_eq (n : Int) (es : List S104) : ∀ (l : List (List S174)) (i : Int), specK n es i l = (l.all (fun x => decide ((x.length : Int) = n)) && rowsK es i l)
  | [], i => rfl
  | x :: l, i => by
    simp only [specK, rowsK, List.all_cons, specK_eq n es l (i + 1)]
    cases decide ((x.length : Int) = n) <;> cases rK es i 0 x <;> cases (l.all (fun x => decide ((x.length : Int) = n))) <;> rfl
theorem spec_rows (k : Nat) (hK : 2097152 ≤ k) (n : Int) (hn : 1 ≤ n ∧ n ≤ 5) (es : List S104) (hl : es.length ≤ 1000) (hE : ∀ e ∈ es, eo n e) (ts : List (List S174)) (htn : (ts.length : Int) = n) :
    ∀ (rest pre : List (List S174)) (j : Nat), ts = pre ++ rest → rest.length < j →
    f57.l4 k j (pre.length : Int) es ts n = some (if specK n es (pre.length : Int) rest = true then .inr () else .inl false) := by
  intro rest
  induction rest with
  | nil =>
    intro pre j he hj
    obtain ⟨j, rfl⟩ : ∃ j', j = j' + 1 := ⟨j - 1, by omega⟩
    simp only [List.append_nil] at he
    simp only [f57.l4, f57.l4.step]
    rw [if_neg (fb (by rw [← he]; omega))]
    simp [specK]
  | cons x rest ih =>
    intro pre j he hj
    obtain ⟨j, rfl⟩ : ∃ j', j = j' + 1 := ⟨j - 1, by omega⟩
    have hp : (0 : Int) ≤ (pre.length : Int) := by omega
    have hlen : pre.length + rest.length + 1 = ts.length := by rw [he]; simp; omega
    have hpn : (pre.length : Int) < n := by omega
    have hpt : (pre.length : Int) < (ts.length : Int) := by omega
    have hrow : List.getD ts (Int.toNat (pre.length : Int)) [] = x := by rw [he, gm]
    have hw := wnext pre x (by omega)
    have := ih (pre ++ [x]) j (by rw [he]; simp) (by simp at hj; omega)
    have hn2 : ((pre ++ [x]).length : Int) = (pre.length : Int) + 1 := by simp
    rw [hn2] at this hw
    simp only [f57.l4, f57.l4.step, hrow, hpn, hp, hpt, if_true, decide_true, specK]
    by_cases c : (x.length : Int) = n
    case neg => simp [c]
    have e := spec_row k hK n hn es hl hE ts pre.length (by omega) x hrow c x [] k rfl (by omega)
    have e : f57.l9 k k (pre.length : Int) 0 es ts n = some (if rK es (pre.length : Int) 0 x = true then .inr ((pre.length : Int), es, ts, n) else .inl (false, (pre.length : Int), es, ts, n)) := e
    rw [if_neg (fb (by simpa using c)), e]
    simp only [Option.bind_some]
    rcases Bool.eq_false_or_eq_true (rK es (pre.length : Int) 0 x) with h | h
    · simp only [h, if_true, Sum.elim_inr, hw, this, Bool.true_and, tb c]
    · simp [h]
theorem area_spec (k : Nat) (hK : 2097152 ≤ k) (es : List S104) (ts : List (List S174)) (n : Int) :
    f57 k es ts n = some ((decide ((1 ≤ n ∧ n ≤ 5) ∧ es.length ≤ 8) && gE n [] es) && (decide ((ts.length : Int) = n) && (ts.all (fun x => decide ((x.length : Int) = n)) && rowsK es 0 ts))) := by
  simp only [f57, f57.step, edges_spec k hK, Option.bind_some]
  rcases Bool.eq_false_or_eq_true (decide ((1 ≤ n ∧ n ≤ 5) ∧ es.length ≤ 8) && gE n [] es) with h | h
  case inr => rw [h]; rfl
  rw [h]
  have h' := h
  simp only [Bool.and_eq_true, decide_eq_true_eq] at h'
  by_cases c : (ts.length : Int) = n
  case neg => simp [c]
  have e : f57.l4 k k 0 es ts n = some (if specK n es 0 ts = true then .inr () else .inl false) := spec_rows k hK n h'.1.1 es (by omega) (gE_mem n es [] h'.2) ts c ts [] k rfl (by omega)
  rw [if_pos (by rfl), if_neg (fb (by simpa using c)), e]
  simp only [tb c, Bool.true_and, specK_eq]
  cases (ts.all (fun x => decide ((x.length : Int) = n)) && rowsK es 0 ts) <;> rfl
theorem impl_entry (k : Nat) (hK : 2097152 ≤ k) (es : List S104) (hl : es.length ≤ 1000) (ts : List (List S174)) (n : Int) {r : Nat} (hr : r < ts.length) {row pre rest : List S174} {x : S174} (hrow : List.getD ts r [] = row) (he : row = pre ++ x :: rest) :
    f134 k es ts n (r : Int) (pre.length : Int) = some (eK es (r : Int) (pre.length : Int) x, es, ts, n) := by
  have hp : (0 : Int) ≤ (pre.length : Int) := by omega
  have hr0 : (0 : Int) ≤ (r : Int) := by omega
  have hr1 : (r : Int) < (ts.length : Int) := by omega
  have hpr : (pre.length : Int) < ((List.length (List.getD ts r [])) : Int) := by rw [hrow, he]; simp; omega
  simp only [f134, f134.step, Int.toNat_natCast (n := r), gm2 hrow he, in_impl, Option.bind_some, find_impl k hK _ _ _ _ _ hl]
  simp only [hr0, hr1, hp, hpr, if_true, decide_true, eK]
  have hfl := fe_lt (r : Int) x.f1 es 0 (Int.le_refl 0)
  have hfl : fe (r : Int) x.f1 0 es < (es.length : Int) := by omega
  by_cases c0 : (r : Int) = (pre.length : Int)
  · simp only [c0, decide_true, if_true, Bool.and_true]
  · have c0' : ¬ (pre.length : Int) = (r : Int) := fun h => c0 h.symm
    simp only [ff c0', c0, Bool.false_eq_true, if_false]
    by_cases d1 : 1 ≤ x.f0 ∧ x.f0 ≤ 16
    case neg => simp [d1]
    by_cases d2 : 0 ≤ x.f2 ∧ x.f2 ≤ 6
    case neg => simp [d1, d2]
    simp only [tb d1, tb d2, Bool.not_true, if_true, Bool.true_and, Bool.false_eq_true, if_false]
    by_cases d3 : x.f1 = -1
    · by_cases d4 : x.f0 = 16 <;> simp [d3, d4]
    · by_cases d4 : 0 ≤ fe (r : Int) x.f1 0 es
      case neg =>
        have : ¬ fe (r : Int) x.f1 0 es ≥ 0 := by omega
        simp [d3, d4]
      have e4 : fe (r : Int) x.f1 0 es ≥ 0 := d4
      by_cases d5 : x.f0 = 16 <;> simp [d3, d4, e4, d5, hfl]
theorem impl_row (k : Nat) (hK : 2097152 ≤ k) (es : List S104) (hl : es.length ≤ 1000) (ts : List (List S174)) (n : Int) (r : Nat) (hr : r < ts.length) (row : List S174) (hrow : List.getD ts r [] = row) (hrl : row.length ≤ 1048577) (m : Int) :
    ∀ (rest pre : List S174) (j : Nat), row = pre ++ rest → rest.length < j →
    f56.l13 k j (r : Int) m (r : Int) (row.length : Int) (pre.length : Int) es ts n = some (if rK es (r : Int) (pre.length : Int) rest = true then .inr (m, (r : Int), es, ts, n) else .inl (false, m, (r : Int), es, ts, n)) := by
  intro rest
  induction rest with
  | nil =>
    intro pre j he hj
    obtain ⟨j, rfl⟩ : ∃ j', j = j' + 1 := ⟨j - 1, by omega⟩
    simp only [List.append_nil] at he
    simp only [f56.l13, f56.l13.step]
    rw [if_neg (fb (by rw [← he]; omega))]
    simp [rK]
  | cons x rest ih =>
    intro pre j he hj
    obtain ⟨j, rfl⟩ : ∃ j', j = j' + 1 := ⟨j - 1, by omega⟩
    have hlen : pre.length + rest.length + 1 = row.length := by rw [he]; simp; omega
    have hpn : (pre.length : Int) < (row.length : Int) := by omega
    have hw := wnext pre x (by omega)
    have := ih (pre ++ [x]) j (by rw [he]; simp) (by simp at hj; omega)
    have hn2 : ((pre ++ [x]).length : Int) = (pre.length : Int) + 1 := by simp
    rw [hn2] at this hw
    simp only [f56.l13, f56.l13.step, impl_entry k hK es hl ts n hr hrow he, hpn, if_true, decide_true, Option.bind_some, hw, this, rK]
    rcases Bool.eq_false_or_eq_true (eK es (r : Int) (pre.length : Int) x) with h | h <;> simp [h]
theorem impl_rows (k : Nat) (hK : 2097152 ≤ k) (es : List S104) (hl : es.length ≤ 1000) (ts : List (List S174)) (n : Int) (htl : ts.length ≤ 1048577) (hts : ∀ x ∈ ts, x.length ≤ 1048577) :
    ∀ (rest pre : List (List S174)) (j : Nat), ts = pre ++ rest → rest.length < j →
    f56.l10 k j (ts.length : Int) (pre.length : Int) es ts n = some (if rowsK es (pre.length : Int) rest = true then .inr () else .inl false) := by
  intro rest
  induction rest with
  | nil =>
    intro pre j he hj
    obtain ⟨j, rfl⟩ : ∃ j', j = j' + 1 := ⟨j - 1, by omega⟩
    simp only [List.append_nil] at he
    simp only [f56.l10, f56.l10.step]
    rw [if_neg (fb (by rw [← he]; omega))]
    simp [rowsK]
  | cons x rest ih =>
    intro pre j he hj
    obtain ⟨j, rfl⟩ : ∃ j', j = j' + 1 := ⟨j - 1, by omega⟩
    have hp : (0 : Int) ≤ (pre.length : Int) := by omega
    have hlen : pre.length + rest.length + 1 = ts.length := by rw [he]; simp; omega
    have hpt : (pre.length : Int) < (ts.length : Int) := by omega
    have hrow : List.getD ts (Int.toNat (pre.length : Int)) [] = x := by rw [he, gm]
    have hw := wnext pre x (by omega)
    have := ih (pre ++ [x]) j (by rw [he]; simp) (by simp at hj; omega)
    have hn2 : ((pre ++ [x]).length : Int) = (pre.length : Int) + 1 := by simp
    rw [hn2] at this hw
    have hx : x.length ≤ 1048577 := hts x (by rw [he]; simp)
    have e := impl_row k hK es hl ts n pre.length (by omega) x hrow hx (ts.length : Int) x [] k rfl (by omega)
    have e : f56.l13 k k (pre.length : Int) (ts.length : Int) (pre.length : Int) (x.length : Int) 0 es ts n = some (if rK es (pre.length : Int) 0 x = true then .inr ((ts.length : Int), (pre.length : Int), es, ts, n) else .inl (false, (ts.length : Int), (pre.length : Int), es, ts, n)) := e
    simp only [f56.l10, f56.l10.step, hrow, hp, hpt, if_true, decide_true, e, Option.bind_some, rowsK]
    rcases Bool.eq_false_or_eq_true (rK es (pre.length : Int) 0 x) with h | h
    · simp only [h, if_true, Sum.elim_inr, hw, this, Bool.true_and]
    · simp [h]
theorem impl_lens (k : Nat) (es : List S104) (ts : List (List S174)) (n : Int) (htl : ts.length ≤ 1048577) :
    ∀ (rest pre : List (List S174)) (j : Nat), ts = pre ++ rest → rest.length < j →
    f56.l4 k j ts (ts.length : Int) (pre.length : Int) es ts n = some (if rest.all (fun x => decide ((x.length : Int) = n)) = true then .inr (es, ts, n) else .inl (false, es, ts, n)) := by
  intro rest
  induction rest with
  | nil =>
    intro pre j he hj
    obtain ⟨j, rfl⟩ : ∃ j', j = j' + 1 := ⟨j - 1, by omega⟩
    simp only [List.append_nil] at he
    simp only [f56.l4, f56.l4.step]
    rw [if_neg (fb (by rw [← he]; omega))]
    simp
  | cons x rest ih =>
    intro pre j he hj
    obtain ⟨j, rfl⟩ : ∃ j', j = j' + 1 := ⟨j - 1, by omega⟩
    have hp : (0 : Int) ≤ (pre.length : Int) := by omega
    have hlen : pre.length + rest.length + 1 = ts.length := by rw [he]; simp; omega
    have hpt : (pre.length : Int) < (ts.length : Int) := by omega
    have hrow : List.getD ts (Int.toNat (pre.length : Int)) [] = x := by rw [he, gm]
    have hw := wnext pre x (by omega)
    have := ih (pre ++ [x]) j (by rw [he]; simp) (by simp at hj; omega)
    simp only [f56.l4, f56.l4.step, hrow, hp, hpt, if_true, decide_true, hw, this, List.all_cons]
    by_cases c : (x.length : Int) = n <;> simp [c]
theorem area_impl (k : Nat) (hK : 2097152 ≤ k) (es : List S104) (ts : List (List S174)) (n : Int) (htl : ts.length ≤ 1048577) (hts : ∀ x ∈ ts, x.length ≤ 1048577) :
    f56 k es ts n = some ((decide ((1 ≤ n ∧ n ≤ 5) ∧ es.length ≤ 8) && gE n [] es) && (decide ((ts.length : Int) = n) && (ts.all (fun x => decide ((x.length : Int) = n)) && rowsK es 0 ts))) := by
  simp only [f56, f56.step, edges_impl k hK, Option.bind_some]
  rcases Bool.eq_false_or_eq_true (decide ((1 ≤ n ∧ n ≤ 5) ∧ es.length ≤ 8) && gE n [] es) with h | h
  case inr => rw [h]; rfl
  rw [h]
  have h' := h
  simp only [Bool.and_eq_true, decide_eq_true_eq] at h'
  by_cases c : (ts.length : Int) = n
  case neg => simp [c]
  have e1 : f56.l4 k k ts (ts.length : Int) 0 es ts n = _ := impl_lens k es ts n htl ts [] k rfl (by omega)
  have e2 : f56.l10 k k (ts.length : Int) 0 es ts n = some (if rowsK es 0 ts = true then .inr () else .inl false) := impl_rows k hK es (by omega) ts n htl hts ts [] k rfl (by omega)
  rw [if_pos (by rfl), if_neg (fb (by simpa using c)), e1]
  simp only [List.length_nil, tb c, Bool.true_and, Option.bind_some]
  cases (ts.all (fun x => decide ((x.length : Int) = n)))
  · rfl
  · simp only [if_true, Sum.elim_inr, e2, Option.bind_some]
    cases rowsK es 0 ts <;> rfl
/-! ### matrices -/
def at_ (M : List (List Int)) (i j : Nat) : Int := List.getD (List.getD M i []) j 0
def Dim (n : Nat) (M : List (List Int)) : Prop := M.length = n ∧ ∀ i, i < n → (List.getD M i []).length = n
def put_ (M : List (List Int)) (i j : Nat) (v : Int) : List (List Int) := M.set i ((List.getD M i []).set j v)
theorem getD_set_eq {α : Type} (xs : List α) (i j : Nat) (v d : α) (h : i < xs.length) : List.getD (xs.set i v) j d = if j = i then v else List.getD xs j d := by
  simp only [List.getD_eq_getElem?_getD, List.getElem?_set]
  by_cases e : i = j
  · subst e; simp [h]
  · rw [if_neg e, if_neg (fun h => e h.symm)]
theorem put_dim {n : Nat} {M : List (List Int)} (h : Dim n M) (i j : Nat) (v : Int) : Dim n (put_ M i j v) := by
  refine ⟨by simp [put_, h.1], fun a ha => ?_⟩
  by_cases hi : i < M.length
  · rw [put_, getD_set_eq _ _ _ _ _ hi]
    split
    · rename_i e; subst e; rw [List.length_set]; exact h.2 a ha
    · exact h.2 a ha
  · rw [put_, List.set_eq_of_length_le (by omega)]; exact h.2 a ha
theorem put_at {n : Nat} {M : List (List Int)} (h : Dim n M) {i j : Nat} (hi : i < n) (hj : j < n) (v : Int) (a b : Nat) : at_ (put_ M i j v) a b = if a = i ∧ b = j then v else at_ M a b := by
  have h1 : i < M.length := by rw [h.1]; exact hi
  have h2 : j < (List.getD M i []).length := by rw [h.2 i hi]; exact hj
  unfold at_ put_
  rw [getD_set_eq _ _ _ _ _ h1]
  by_cases e : a = i
  · subst e
    rw [if_pos rfl, getD_set_eq _ _ _ _ _ h2]
    simp
  · rw [if_neg e, if_neg (fun h => e h.1)]
theorem dim_ext {n : Nat} {M N : List (List Int)} (h : Dim n M) (h' : Dim n N) (e : ∀ i j, i < n → j < n → at_ M i j = at_ N i j) : M = N := by
  apply List.ext_getElem (by rw [h.1, h'.1])
  intro i h1 h2
  have hi : i < n := by rw [← h.1]; exact h1
  have r1 := h.2 i hi
  have r2 := h'.2 i hi
  have g1 : List.getD M i [] = M[i] := by simp [List.getD_eq_getElem?_getD, h1]
  have g2 : List.getD N i [] = N[i] := by simp [List.getD_eq_getElem?_getD, h2]
  rw [g1] at r1
  rw [g2] at r2
  apply List.ext_getElem (by rw [r1, r2])
  intro j h3 h4
  have := e i j hi (by omega)
  unfold at_ at this
  rw [g1, g2] at this
  simpa [List.getD_eq_getElem?_getD, h3, h4] using this
/-! ### ways -/
/-- An edge that is up, in either direction. -/
def Arc (es : List S104) (a b : Nat) (c : Int) : Prop := ∃ e ∈ es, e.f3 = true ∧ e.f2 = c ∧ ((e.f0 = (a : Int) ∧ e.f1 = (b : Int)) ∨ (e.f0 = (b : Int) ∧ e.f1 = (a : Int)))
/-- What holds of the distances all along: noughts, at most 16, each led to by an edge. -/
structure FW (es : List S104) (n : Nat) (M : List (List Int)) : Prop where
  dim : Dim n M
  dg : ∀ i, i < n → at_ M i i = 0
  nn : ∀ i j, i < n → j < n → 0 ≤ at_ M i j
  le : ∀ i j, i < n → j < n → at_ M i j ≤ 16
  ed : ∀ a b c, a < n → b < n → Arc es a b c → at_ M a b ≤ c
  tt : ∀ i j, i < n → j < n → i ≠ j → at_ M i j < 16 → ∃ b c, b < n ∧ Arc es i b c ∧ c + at_ M b j ≤ at_ M i j
def Tri (n k : Nat) (M : List (List Int)) : Prop := ∀ i j, i < n → j < n → at_ M i j ≤ at_ M i k + at_ M k j
theorem fw_step {es : List S104} {n k : Nat} (hk : k < n) {M N : List (List Int)} (h : FW es n M) (hN : Dim n N) (e : ∀ i j, i < n → j < n → at_ N i j = min (at_ M i j) (at_ M i k + at_ M k j)) (hc : ∀ a b c, Arc es a b c → 0 ≤ c) :
    FW es n N ∧ Tri n k N ∧ ∀ k', k' < n → Tri n k' M → Tri n k' N := by
  have ik : ∀ i, i < n → at_ N i k = at_ M i k := fun i hi => by rw [e i k hi hk, h.dg k hk]; omega
  have kj : ∀ j, j < n → at_ N k j = at_ M k j := fun j hj => by rw [e k j hk hj, h.dg k hk]; omega
  refine ⟨⟨hN, fun i hi => ?_, fun i j hi hj => ?_, fun i j hi hj => ?_, fun a b c ha hb hab => ?_, fun i j hi hj hij hlt => ?_⟩, fun i j hi hj => ?_, fun k' hk' ht i j hi hj => ?_⟩
  · rw [e i i hi hi, h.dg i hi]
    have := h.nn i k hi hk; have := h.nn k i hk hi; omega
  · rw [e i j hi hj]
    have := h.nn i k hi hk; have := h.nn k j hk hj; have := h.nn i j hi hj; omega
  · rw [e i j hi hj]; have := h.le i j hi hj; omega
  · rw [e a b ha hb]; have := h.ed a b c ha hb hab; omega
  · by_cases hm : at_ M i j ≤ at_ M i k + at_ M k j
    · have hs : at_ N i j = at_ M i j := by rw [e i j hi hj]; omega
      obtain ⟨b, c, hb, hab, hle⟩ := h.tt i j hi hj hij (by omega)
      exact ⟨b, c, hb, hab, by rw [hs, e b j hb hj]; omega⟩
    · have hs : at_ N i j = at_ M i k + at_ M k j := by rw [e i j hi hj]; omega
      have hik : i ≠ k := fun he => by subst he; rw [h.dg i hi] at hm; omega
      have := h.nn k j hk hj
      obtain ⟨b, c, hb, hab, hle⟩ := h.tt i k hi hk hik (by omega)
      exact ⟨b, c, hb, hab, by rw [hs, e b j hb hj]; omega⟩
  · rw [ik i hi, kj j hj, e i j hi hj]; omega
  · rw [e i j hi hj, e i k' hi hk', e k' j hk' hj]
    have := ht i j hi hj; have := ht k j hk hj; have := ht i k hi hk
    have := h.nn k k' hk hk'; have := h.nn k' k hk' hk
    omega
/-- How many routers are nearer to d. -/
def rank (n : Nat) (D : List (List Int)) (i d : Nat) : Nat := ((List.range n).filter fun v => decide (at_ D v d < at_ D i d)).length
theorem filter_mono {α : Type} {p q : α → Bool} : ∀ (l : List α), (∀ x ∈ l, p x = true → q x = true) → (l.filter p).length ≤ (l.filter q).length
  | [], _ => Nat.le_refl _
  | x :: l, h => by
    have ih := filter_mono l fun y hy => h y (List.mem_cons_of_mem _ hy)
    have hx := h x List.mem_cons_self
    cases hp : p x with
    | false => cases hq : q x <;> simp [List.filter, hp, hq] <;> omega
    | true => rw [hp] at hx; simp [List.filter, hp, hx rfl]; exact ih
theorem filter_lt {α : Type} {p q : α → Bool} : ∀ (l : List α), (∀ x ∈ l, p x = true → q x = true) → (∃ x ∈ l, p x = false ∧ q x = true) → (l.filter p).length < (l.filter q).length
  | [], _, ⟨_, hx, _⟩ => by cases hx
  | x :: l, h, ⟨y, hy, h1, h2⟩ => by
    have hm := filter_mono l fun z hz => h z (List.mem_cons_of_mem _ hz)
    have hx := h x List.mem_cons_self
    rcases List.mem_cons.1 hy with rfl | hy
    · simp [List.filter, h1, h2]; omega
    · have ih := filter_lt l (fun z hz => h z (List.mem_cons_of_mem _ hz)) ⟨y, hy, h1, h2⟩
      cases hp : p x with
      | false => cases hq : q x <;> simp [List.filter, hp, hq] <;> omega
      | true => rw [hp] at hx; simp [List.filter, hp, hx rfl]; exact ih
theorem rank_lt {n : Nat} {D : List (List Int)} {i b d : Nat} (hb : b < n) (h : at_ D b d < at_ D i d) : rank n D b d < rank n D i d := by
  unfold rank
  refine filter_lt _ (fun v _ hv => ?_) ⟨b, List.mem_range.2 hb, ?_, ?_⟩
  · simp at hv ⊢; omega
  · simp
  · simpa using h
theorem rank_n {n : Nat} {D : List (List Int)} {i d : Nat} (hi : i < n) : rank n D i d < n := by
  unfold rank
  have := filter_lt (p := fun v => decide (at_ D v d < at_ D i d)) (q := fun _ => true) (List.range n) (fun _ _ _ => rfl) ⟨i, List.mem_range.2 hi, by simp, rfl⟩
  have e : ((List.range n).filter fun _ => true) = List.range n := by simp
  rw [e, List.length_range] at this
  exact this
/-- What rounds over the edges have told so far. -/
structure BF (es : List S104) (n : Nat) (D M : List (List Int)) (r : Nat) : Prop where
  dim : Dim n M
  ge : ∀ i j, i < n → j < n → at_ D i j ≤ at_ M i j
  le : ∀ i j, i < n → j < n → at_ M i j ≤ 16
  up : ∀ i j, i < n → j < n → rank n D i j ≤ r → at_ M i j ≤ at_ D i j
/-- The edges that this round has been over. -/
def Done (n : Nat) (D M : List (List Int)) (r : Nat) (a b : Nat) (c : Int) (d : Nat) : Prop := (rank n D b d ≤ r → at_ M a d ≤ at_ D b d + c) ∧ (rank n D a d ≤ r → at_ M b d ≤ at_ D a d + c)
theorem bf_next {es : List S104} {n : Nat} {D M : List (List Int)} {r : Nat} (hD : FW es n D) (hc : ∀ a b c, Arc es a b c → 1 ≤ c) (h : BF es n D M r) (hd : ∀ a b c d, a < n → b < n → d < n → Arc es a b c → rank n D b d ≤ r → at_ M a d ≤ at_ D b d + c)
    (h0 : ∀ i, i < n → at_ M i i ≤ 0) : BF es n D M (r + 1) := by
  refine ⟨h.dim, h.ge, h.le, fun i j hi hj hr => ?_⟩
  by_cases hij : i = j
  · subst hij; rw [hD.dg i hi]; exact h0 i hi
  · by_cases hlt : at_ D i j < 16
    · obtain ⟨b, c, hb, hab, hle⟩ := hD.tt i j hi hj hij hlt
      have := hc i b c hab
      have hrk := rank_lt (i := i) (d := j) hb (show at_ D b j < at_ D i j by omega)
      have := hd i b c j hi hb hj hab (by omega)
      omega
    · have := h.le i j hi hj; omega
/-! ### the program's loops -/
def loopN {α : Type} (g : Nat → α → α) : Nat → Nat → α → α
  | 0, _, M => M
  | t + 1, d, M => loopN g t (d + 1) (g d M)
theorem loopN_inv {α : Type} {g : Nat → α → α} {n : Nat} (P : Nat → α → Prop) (h : ∀ d M, d < n → P d M → P (d + 1) (g d M)) : ∀ (t d : Nat) (M : α), d + t = n → P d M → P n (loopN g t d M)
  | 0, d, M, e, hp => by rw [show n = d by omega]; exact hp
  | t + 1, d, M, e, hp => loopN_inv P h t (d + 1) _ (by omega) (h d M (by omega) hp)
theorem put_len (M : List (List Int)) (i j : Nat) (v : Int) : (put_ M i j v).length = M.length := by simp [put_]
theorem put_row (M : List (List Int)) (i j : Nat) (v : Int) (a : Nat) : (List.getD (put_ M i j v) a []).length = (List.getD M a []).length := by
  by_cases hi : i < M.length
  · rw [put_, getD_set_eq _ _ _ _ _ hi]
    split
    · rename_i e; subst e; rw [List.length_set]
    · rfl
  · rw [put_, List.set_eq_of_length_le (by omega)]
theorem put_at' {M : List (List Int)} {i j : Nat} (h1 : i < M.length) (h2 : j < (List.getD M i []).length) (v : Int) (a b : Nat) : at_ (put_ M i j v) a b = if a = i ∧ b = j then v else at_ M a b := by
  unfold at_ put_
  rw [getD_set_eq _ _ _ _ _ h1]
  by_cases e : a = i
  · subst e
    rw [if_pos rfl, getD_set_eq _ _ _ _ _ h2]
    simp
  · rw [if_neg e, if_neg (fun h => e h.1)]
theorem wn1 {n d : Nat} (hn : n ≤ 1000) (hd : d < n) : IntKind.i64.wrap ((d : Int) + 1) = ((d + 1 : Nat) : Int) := by rw [w64 (by omega) (by omega)]; omega
def g9 (r d : Nat) (M : List (List Int)) : List (List Int) := if d = r then M else put_ M r d 16
theorem l9_run (k n r : Nat) (hn : n ≤ 1000) (hr : r < n) (a b : Int) (es : List S104) (ts : List (List S174)) (c : Int) : ∀ (t d j : Nat) (M : List (List Int)), d + t = n → t < j → M.length = n → (List.getD M r []).length = n →
    f10.l9 k j (r : Int) a b (n : Int) (d : Int) es ts c M = some (a, b, es, ts, c, loopN (g9 r) t d M)
  | t, d, 0, M, e, hj, hl, hw => by omega
  | 0, d, j + 1, M, e, hj, hl, hw => by
    have h1 : ¬ (d : Int) < (n : Int) := by omega
    simp only [f10.l9, f10.l9.step, h1, decide_false, loopN]; rfl
  | t + 1, d, j + 1, M, e, hj, hl, hw => by
    have h1 : (d : Int) < (n : Int) := by omega
    have ih := l9_run k n r hn hr a b es ts c t (d + 1) j (g9 r d M) (by omega) (by omega) (by unfold g9; split <;> simp [put_len, hl]) (by unfold g9; split <;> simp only [put_row, hw])
    have h2 : (0 : Int) ≤ (r : Int) := by omega
    have h3 : (0 : Int) ≤ (d : Int) := by omega
    have h4 : (r : Int) < ((List.length M : Nat) : Int) := by omega
    have h5 : (d : Int) < ((List.length (List.getD M r []) : Nat) : Int) := by rw [hw]; exact h1
    have h6 : d < List.length (List.getD M r []) := by rw [hw]; omega
    simp only [f10.l9, f10.l9.step, h1, h2, h3, h4, h5, h6, decide_true, if_true, wn1 hn (show d < n by omega), Int.toNat_natCast]
    by_cases hd : d = r
    · subst hd
      have : g9 d d M = M := by simp [g9]
      rw [this] at ih
      simp only [ne_eq, not_true_eq_false, decide_false]
      simpa [loopN, this] using ih
    · have h7 : (d : Int) ≠ (r : Int) := by omega
      have : g9 r d M = put_ M r d 16 := by simp [g9, hd]
      rw [this] at ih
      simp only [h7, decide_true, ne_eq, not_false_eq_true, if_true]
      simpa [loopN, this, put_] using ih
def g5 (n r : Nat) (M : List (List Int)) : List (List Int) := loopN (g9 r) n 0 (M.set r (List.replicate n 0))
theorem g9_len (r : Nat) : ∀ (t d : Nat) (M : List (List Int)), (loopN (g9 r) t d M).length = M.length
  | 0, _, M => rfl
  | t + 1, d, M => by rw [loopN, g9_len r t]; unfold g9; split <;> simp [put_len]
theorem set_row (M : List (List Int)) (r : Nat) (row : List Int) (h : r < M.length) (a : Nat) : List.getD (M.set r row) a [] = if a = r then row else List.getD M a [] := getD_set_eq _ _ _ _ _ h
theorem l5_run (k n : Nat) (hK : 2097152 ≤ k) (hn : n ≤ 1000) (es : List S104) (ts : List (List S174)) : ∀ (t r j : Nat) (M : List (List Int)), r + t = n → t < j → M.length = n →
    f10.l5 k j (n : Int) (r : Int) es ts (n : Int) M = some (es, ts, (n : Int), loopN (g5 n) t r M)
  | t, r, 0, M, e, hj, hl => by omega
  | 0, r, j + 1, M, e, hj, hl => by
    have h1 : ¬ (r : Int) < (n : Int) := by omega
    simp only [f10.l5, f10.l5.step, h1, decide_false, loopN]; rfl
  | t + 1, r, j + 1, M, e, hj, hl => by
    have h1 : (r : Int) < (n : Int) := by omega
    have h2 : (0 : Int) ≤ (r : Int) := by omega
    have h3 : (0 : Int) ≤ (n : Int) := by omega
    have h4 : (r : Int) < ((List.length M : Nat) : Int) := by omega
    have h5 : n * 8 ≤ maxN := by have : maxN = 140737488351232 := rfl; omega
    have hr : List.getD (M.set r (List.replicate n (0 : Int))) r [] = List.replicate n 0 := by rw [set_row _ _ _ (by omega), if_pos rfl]
    have h6 : (r : Int) < ((List.length (M.set r (List.replicate n (0 : Int))) : Nat) : Int) := by simp; omega
    have e9 : f10.l9 k k (r : Int) (n : Int) (r : Int) (n : Int) (0 : Int) es ts (n : Int) (M.set r (List.replicate n 0)) = some ((n : Int), (r : Int), es, ts, (n : Int), loopN (g9 r) n 0 (M.set r (List.replicate n 0))) := l9_run k n r hn (by omega) (n : Int) (r : Int) es ts (n : Int) n 0 k (M.set r (List.replicate n 0)) (by omega) (by omega) (by simp [hl]) (by rw [hr]; simp)
    have ih := l5_run k n hK hn es ts t (r + 1) j (g5 n r M) (by omega) (by omega) (by unfold g5; rw [g9_len]; simp [hl])
    simp only [f10.l5, f10.l5.step, h1, h2, h3, h4, decide_true, if_true, Int.toNat_natCast, h5, h6, hr, List.length_replicate]
    rw [e9]
    simp only [Option.bind_some, wn1 hn (show r < n by omega)]
    exact ih
/-- Noughts where a router is itself, 16 elsewhere. -/
def Ini (n : Nat) (M : List (List Int)) : Prop := Dim n M ∧ ∀ i j, i < n → j < n → at_ M i j = if i = j then 0 else 16
theorem g9_at {n r : Nat} (hr : r < n) {M : List (List Int)} (hl : M.length = n) (hw : List.getD M r [] = List.replicate n 0) : (∀ a, a ≠ r → List.getD (loopN (g9 r) n 0 M) a [] = List.getD M a []) ∧ (List.getD (loopN (g9 r) n 0 M) r []).length = n ∧ ∀ j, j < n → at_ (loopN (g9 r) n 0 M) r j = if r = j then 0 else 16 := by
  have := loopN_inv (g := g9 r) (n := n) (fun d N => N.length = n ∧ (∀ a, a ≠ r → List.getD N a [] = List.getD M a []) ∧ (List.getD N r []).length = n ∧ ∀ j, j < n → at_ N r j = if j < d ∧ r ≠ j then 16 else 0)
    (fun d N hd ⟨h1, h2, h3, h4⟩ => by
      unfold g9
      split
      · rename_i e
        subst e
        refine ⟨h1, h2, h3, fun j hj => ?_⟩
        rw [h4 j hj]
        by_cases hj2 : j < d ∧ d ≠ j
        · rw [if_pos hj2, if_pos ⟨by omega, hj2.2⟩]
        · rw [if_neg hj2, if_neg (by omega)]
      · rename_i hne
        refine ⟨by rw [put_len]; exact h1, fun a ha => ?_, by rw [put_row]; exact h3, fun j hj => ?_⟩
        · rw [put_, set_row _ _ _ (by omega), if_neg ha]; exact h2 a ha
        · rw [put_at' (by omega) (by rw [h3]; exact hd), h4 j hj]
          by_cases e : j = d
          · subst e; rw [if_pos ⟨rfl, rfl⟩, if_pos ⟨by omega, fun h => hne h.symm⟩]
          · rw [if_neg (fun h => e h.2)]
            by_cases hj2 : j < d ∧ r ≠ j
            · rw [if_pos hj2, if_pos ⟨by omega, hj2.2⟩]
            · rw [if_neg hj2, if_neg (by omega)])
    n 0 M (by omega) ⟨hl, fun _ _ => rfl, by rw [hw]; simp, fun j hj => by
      rw [if_neg (by omega)]; unfold at_; rw [hw]; simp [List.getD_eq_getElem?_getD, hj]⟩
  obtain ⟨_, h2, h3, h4⟩ := this
  refine ⟨h2, h3, fun j hj => ?_⟩
  rw [h4 j hj]
  by_cases e : r = j
  · rw [if_neg (fun h => h.2 e), if_pos e]
  · rw [if_pos ⟨hj, e⟩, if_neg e]
theorem ini_impl (n : Nat) : Ini n (loopN (g5 n) n 0 (List.replicate n [])) := by
  have := loopN_inv (g := g5 n) (n := n) (fun r N => N.length = n ∧ ∀ i, i < r → i < n → (List.getD N i []).length = n ∧ ∀ j, j < n → at_ N i j = if i = j then 0 else 16)
    (fun r N hr ⟨h1, h2⟩ => by
      have hs : List.getD (N.set r (List.replicate n (0 : Int))) r [] = List.replicate n 0 := by rw [set_row _ _ _ (by omega), if_pos rfl]
      obtain ⟨q1, q2, q3⟩ := g9_at hr (by simp [h1]) hs
      refine ⟨by unfold g5; rw [g9_len]; simp [h1], fun i hi hin => ?_⟩
      by_cases e : i = r
      · subst e; exact ⟨q2, q3⟩
      · have hq : List.getD (g5 n r N) i [] = List.getD N i [] := by unfold g5; rw [q1 i e, set_row _ _ _ (by omega), if_neg e]
        obtain ⟨p1, p2⟩ := h2 i (by omega) hin
        refine ⟨by rw [hq]; exact p1, fun j hj => ?_⟩
        unfold at_
        rw [hq]; exact p2 j hj)
    n 0 (List.replicate n []) (by omega) ⟨by simp, fun i hi => absurd hi (Nat.not_lt_zero _)⟩
  exact ⟨⟨this.1, fun i hi => (this.2 i hi hi).1⟩, fun i j hi hj => (this.2 i hi hi).2 j hj⟩
/-- An edge, told. -/
def g16 (e : S104) (M : List (List Int)) : List (List Int) := if e.f3 = true then put_ (put_ M (Int.toNat e.f0) (Int.toNat e.f1) e.f2) (Int.toNat e.f1) (Int.toNat e.f0) e.f2 else M
theorem l16_run (k n : Nat) (hn : n ≤ 5) (es : List S104) : ∀ (rest pre : List S104) (j : Nat) (M : List (List Int)), es = pre ++ rest → rest.length < j → es.length ≤ 1000 → (∀ e ∈ rest, eo n e) → Dim n M →
    f10.l16 k j es (es.length : Int) (pre.length : Int) M = some (rest.foldl (fun M e => g16 e M) M)
  | rest, pre, 0, M, e, hj, hl, he, hM => by omega
  | [], pre, j + 1, M, e, hj, hl, he, hM => by
    subst e
    have h1 : ¬ (pre.length : Int) < (((pre ++ []).length : Nat) : Int) := by simp
    simp only [f10.l16, f10.l16.step, h1, decide_false, List.foldl_nil]; rfl
  | x :: rest, pre, j + 1, M, e, hj, hl, he, hM => by
    have h1 : (pre.length : Int) < ((es.length : Nat) : Int) := by subst e; exact lt_mid _ _ _
    have h2 : (0 : Int) ≤ (pre.length : Int) := by omega
    have hg : List.getD es (Int.toNat (pre.length : Int)) (⟨(0 : Int), (0 : Int), (0 : Int), false⟩ : S104) = x := by subst e; exact gm _ _ _ _
    have hx := he x List.mem_cons_self
    obtain ⟨⟨a0, a1⟩, ⟨b0, b1⟩, hab, _⟩ := hx
    have hM1 := put_dim hM (Int.toNat x.f0) (Int.toNat x.f1) x.f2
    have hM' : Dim n (g16 x M) := by unfold g16; split; exact put_dim hM1 _ _ _; exact hM
    have ih := l16_run k n hn es rest (pre ++ [x]) j (g16 x M) (by rw [e]; simp) (by simp at hj; omega) hl (fun y hy => he y (List.mem_cons_of_mem _ hy)) hM'
    have hel : es.length = pre.length + (x :: rest).length := by rw [e]; simp
    have hw : IntKind.i64.wrap ((pre.length : Int) + 1) = ((pre ++ [x]).length : Int) := wnext _ _ (by omega)
    simp only [f10.l16, f10.l16.step, h1, h2, hg, decide_true, if_true, hw, List.foldl_cons]
    by_cases hu : x.f3 = true
    · have hg16 : g16 x M = put_ (put_ M (Int.toNat x.f0) (Int.toNat x.f1) x.f2) (Int.toNat x.f1) (Int.toNat x.f0) x.f2 := by simp [g16, hu]
      have l1 : x.f0 < ((M.length : Nat) : Int) := by rw [hM.1]; omega
      have l2 : x.f1 < ((M.length : Nat) : Int) := by rw [hM.1]; omega
      have r0 := hM.2 (Int.toNat x.f0) (by omega)
      have r1 := hM1.2 (Int.toNat x.f1) (by omega)
      have l3 : x.f1 < (((List.getD M (Int.toNat x.f0) []).length : Nat) : Int) := by rw [r0]; omega
      have l4 : Int.toNat x.f1 < (List.getD M (Int.toNat x.f0) []).length := by rw [r0]; omega
      have l5 : x.f0 < (((List.getD (put_ M (Int.toNat x.f0) (Int.toNat x.f1) x.f2) (Int.toNat x.f1) []).length : Nat) : Int) := by rw [r1]; omega
      have l6 : Int.toNat x.f0 < (List.getD (put_ M (Int.toNat x.f0) (Int.toNat x.f1) x.f2) (Int.toNat x.f1) []).length := by rw [r1]; omega
      rw [hg16] at ih ⊢
      simp only [hu, if_true, a0, b0, l1, l2, l3, l4]
      unfold put_ at l5 l6 ih ⊢
      simp only [l5, l6, if_true]
      exact ih
    · have hg16 : g16 x M = M := by simp [g16, hu]
      rw [hg16] at ih ⊢
      simp only [hu, if_false]
      exact ih
def Bd (n : Nat) (M : List (List Int)) : Prop := ∀ i j, i < n → j < n → 0 ≤ at_ M i j ∧ at_ M i j ≤ 16
def g28 (q i j : Nat) (M : List (List Int)) : List (List Int) := put_ M i j (if at_ M i q + at_ M q j < at_ M i j then at_ M i q + at_ M q j else at_ M i j)
theorem g28_ok {n q i j : Nat} (hq : q < n) (hi : i < n) (hj : j < n) {M : List (List Int)} (hM : Dim n M) (hB : Bd n M) : Dim n (g28 q i j M) ∧ Bd n (g28 q i j M) := by
  refine ⟨put_dim hM _ _ _, fun a b ha hb => ?_⟩
  unfold g28
  rw [put_at hM hi hj]
  have := hB i q hi hq; have := hB q j hq hj; have := hB i j hi hj; have := hB a b ha hb
  split
  · split <;> omega
  · omega
theorem l28_run (k n q i : Nat) (hn : n ≤ 1000) (hq : q < n) (hi : i < n) (a b c d : Int) : ∀ (t jj j : Nat) (M : List (List Int)), jj + t = n → t < j → Dim n M → Bd n M →
    f10.l28 k j (q : Int) (i : Int) a b c d (n : Int) (jj : Int) M = some ((q : Int), a, b, c, d, loopN (g28 q i) t jj M)
  | t, jj, 0, M, e, hj, hM, hB => by omega
  | 0, jj, j + 1, M, e, hj, hM, hB => by
    have h1 : ¬ (jj : Int) < (n : Int) := by omega
    simp only [f10.l28, f10.l28.step, h1, decide_false, loopN]; rfl
  | t + 1, jj, j + 1, M, e, hj, hM, hB => by
    have hjj : jj < n := by omega
    obtain ⟨hM', hB'⟩ := g28_ok hq hi hjj hM hB
    have ih := l28_run k n q i hn hq hi a b c d t (jj + 1) j _ (by omega) (by omega) hM' hB'
    have h1 : (jj : Int) < (n : Int) := by omega
    have p1 : (0 : Int) ≤ (q : Int) := by omega
    have p2 : (0 : Int) ≤ (i : Int) := by omega
    have p3 : (0 : Int) ≤ (jj : Int) := by omega
    have q1 : (q : Int) < ((List.length M : Nat) : Int) := by rw [hM.1]; omega
    have q2 : (i : Int) < ((List.length M : Nat) : Int) := by rw [hM.1]; omega
    have r1 := hM.2 i hi
    have r2 := hM.2 q hq
    have s1 : (jj : Int) < ((List.length (List.getD M i []) : Nat) : Int) := by rw [r1]; omega
    have s2 : jj < List.length (List.getD M i []) := by rw [r1]; omega
    have s3 : (q : Int) < ((List.length (List.getD M i []) : Nat) : Int) := by rw [r1]; omega
    have s4 : q < List.length (List.getD M i []) := by rw [r1]; omega
    have s5 : (jj : Int) < ((List.length (List.getD M q []) : Nat) : Int) := by rw [r2]; omega
    have s6 : jj < List.length (List.getD M q []) := by rw [r2]; omega
    have hw : IntKind.i64.wrap (List.getD (List.getD M i []) q 0 + List.getD (List.getD M q []) jj 0) = List.getD (List.getD M i []) q 0 + List.getD (List.getD M q []) jj 0 := by
      have := hB i q hi hq; have := hB q jj hq hjj
      unfold at_ at *
      exact w64 (by omega) (by omega)
    simp only [f10.l28, f10.l28.step, h1, p1, p2, p3, q1, q2, decide_true, if_true, Int.toNat_natCast, s1, s2, s3, s4, s5, s6, hw, wn1 hn hjj]
    exact ih
def g25 (n q i : Nat) (M : List (List Int)) : List (List Int) := loopN (g28 q i) n 0 M
theorem g25_ok {n q i : Nat} (hq : q < n) (hi : i < n) {M : List (List Int)} (hM : Dim n M) (hB : Bd n M) : Dim n (g25 n q i M) ∧ Bd n (g25 n q i M) :=
  loopN_inv (g := g28 q i) (n := n) (fun _ N => Dim n N ∧ Bd n N) (fun j N hj h => g28_ok hq hi hj h.1 h.2) n 0 M (by omega) ⟨hM, hB⟩
theorem l25_run (k n q : Nat) (hK : 2097152 ≤ k) (hn : n ≤ 1000) (hq : q < n) (a b : Int) : ∀ (t i j : Nat) (M : List (List Int)), i + t = n → t < j → Dim n M → Bd n M →
    f10.l25 k j (q : Int) a b (n : Int) (i : Int) M = some (a, b, loopN (g25 n q) t i M)
  | t, i, 0, M, e, hj, hM, hB => by omega
  | 0, i, j + 1, M, e, hj, hM, hB => by
    have h1 : ¬ (i : Int) < (n : Int) := by omega
    simp only [f10.l25, f10.l25.step, h1, decide_false, loopN]; rfl
  | t + 1, i, j + 1, M, e, hj, hM, hB => by
    have hi : i < n := by omega
    obtain ⟨hM', hB'⟩ := g25_ok hq hi hM hB
    have ih := l25_run k n q hK hn hq a b t (i + 1) j _ (by omega) (by omega) hM' hB'
    have h1 : (i : Int) < (n : Int) := by omega
    have e28 : f10.l28 k k (q : Int) (i : Int) a b (n : Int) (i : Int) (n : Int) 0 M = some ((q : Int), a, b, (n : Int), (i : Int), loopN (g28 q i) n 0 M) := l28_run k n q i hn hq hi a b n i n 0 k M (by omega) (by omega) hM hB
    simp only [f10.l25, f10.l25.step, h1, decide_true, if_true, hM.1, e28, Option.bind_some, wn1 hn hi]
    exact ih
def g22 (n q : Nat) (M : List (List Int)) : List (List Int) := loopN (g25 n q) n 0 M
theorem g22_ok {n q : Nat} (hq : q < n) {M : List (List Int)} (hM : Dim n M) (hB : Bd n M) : Dim n (g22 n q M) ∧ Bd n (g22 n q M) :=
  loopN_inv (g := g25 n q) (n := n) (fun _ N => Dim n N ∧ Bd n N) (fun i N hi h => g25_ok hq hi h.1 h.2) n 0 M (by omega) ⟨hM, hB⟩
theorem l22_run (k n : Nat) (hK : 2097152 ≤ k) (hn : n ≤ 1000) : ∀ (t q j : Nat) (M : List (List Int)), q + t = n → t < j → Dim n M → Bd n M →
    f10.l22 k j (n : Int) (q : Int) M = some (loopN (g22 n) t q M)
  | t, q, 0, M, e, hj, hM, hB => by omega
  | 0, q, j + 1, M, e, hj, hM, hB => by
    have h1 : ¬ (q : Int) < (n : Int) := by omega
    simp only [f10.l22, f10.l22.step, h1, decide_false, loopN]; rfl
  | t + 1, q, j + 1, M, e, hj, hM, hB => by
    have hq : q < n := by omega
    obtain ⟨hM', hB'⟩ := g22_ok hq hM hB
    have ih := l22_run k n hK hn t (q + 1) j _ (by omega) (by omega) hM' hB'
    have h1 : (q : Int) < (n : Int) := by omega
    have e25 : f10.l25 k k (q : Int) (n : Int) (q : Int) (n : Int) 0 M = some ((n : Int), (q : Int), loopN (g25 n q) n 0 M) := l25_run k n q hK hn hq n q n 0 k M (by omega) (by omega) hM hB
    simp only [f10.l22, f10.l22.step, h1, decide_true, if_true, hM.1, e25, Option.bind_some, wn1 hn hq]
    exact ih
/-- A round over a third router, at once. -/
theorem g25_at {n q i : Nat} (hq : q < n) (hi : i < n) {M : List (List Int)} (hM : Dim n M) (h0 : ∀ i, i < n → at_ M i i = 0) (hB : Bd n M) : ∀ a b, a < n → b < n → at_ (g25 n q i M) a b = if a = i then min (at_ M a b) (at_ M a q + at_ M q b) else at_ M a b := by
  have := loopN_inv (g := g28 q i) (n := n) (fun j N => Dim n N ∧ Bd n N ∧ ∀ a b, a < n → b < n → at_ N a b = if a = i ∧ b < j then min (at_ M a b) (at_ M a q + at_ M q b) else at_ M a b)
    (fun j N hj ⟨h1, h2, h3⟩ => by
      obtain ⟨h4, h5⟩ := g28_ok hq hi hj h1 h2
      refine ⟨h4, h5, fun a b ha hb => ?_⟩
      unfold g28
      rw [put_at h1 hi hj]
      have e1 : at_ N i q = at_ M i q := by
        rw [h3 i q hi hq]
        split
        · rw [h0 q hq]; omega
        · rfl
      have e2 : at_ N q j = at_ M q j := by
        rw [h3 q j hq hj]
        split
        · rename_i h; omega
        · rfl
      have e3 : at_ N i j = at_ M i j := by rw [h3 i j hi hj, if_neg (by omega)]
      by_cases hab : a = i ∧ b = j
      · obtain ⟨rfl, rfl⟩ := hab
        rw [if_pos ⟨rfl, rfl⟩, e1, e2, e3, if_pos (show a = a ∧ b < b + 1 from ⟨rfl, by omega⟩)]
        split <;> omega
      · rw [if_neg hab, h3 a b ha hb]
        by_cases hc : a = i ∧ b < j
        · rw [if_pos hc, if_pos ⟨hc.1, by omega⟩]
        · rw [if_neg hc, if_neg (by omega)])
    n 0 M (by omega) ⟨hM, hB, fun a b _ _ => by rw [if_neg (by omega)]⟩
  intro a b ha hb
  have h := this.2.2 a b ha hb
  unfold g25
  rw [h]
  by_cases e : a = i
  · rw [if_pos ⟨e, hb⟩, if_pos e]
  · rw [if_neg (fun h => e h.1), if_neg e]
theorem g22_at {n q : Nat} (hq : q < n) {M : List (List Int)} (hM : Dim n M) (h0 : ∀ i, i < n → at_ M i i = 0) (hB : Bd n M) : ∀ a b, a < n → b < n → at_ (g22 n q M) a b = min (at_ M a b) (at_ M a q + at_ M q b) := by
  have := loopN_inv (g := g25 n q) (n := n) (fun i N => Dim n N ∧ Bd n N ∧ ∀ a b, a < n → b < n → at_ N a b = if a < i then min (at_ M a b) (at_ M a q + at_ M q b) else at_ M a b)
    (fun i N hi ⟨h1, h2, h3⟩ => by
      obtain ⟨h4, h5⟩ := g25_ok hq hi h1 h2
      have d0 : ∀ x, x < n → at_ N x x = 0 := fun x hx => by
        rw [h3 x x hx hx, h0 x hx]
        have := hB x q hx hq; have := hB q x hq hx
        split <;> omega
      refine ⟨h4, h5, fun a b ha hb => ?_⟩
      rw [g25_at hq hi h1 d0 h2 a b ha hb]
      have e2 : at_ N q b = at_ M q b := by
        rw [h3 q b hq hb]
        split
        · rw [h0 q hq]; have := hB q b hq hb; omega
        · rfl
      by_cases e : a = i
      · subst e
        rw [if_pos rfl, if_pos (by omega), e2, h3 a b ha hb, if_neg (by omega), h3 a q ha hq, if_neg (by omega)]
      · rw [if_neg e, h3 a b ha hb]
        by_cases hc : a < i
        · rw [if_pos hc, if_pos (by omega)]
        · rw [if_neg hc, if_neg (by omega)])
    n 0 M (by omega) ⟨hM, hB, fun a b _ _ => by rw [if_neg (by omega)]⟩
  intro a b ha hb
  have h := this.2.2 a b ha hb
  unfold g22
  rw [h, if_pos ha]
/-- All rounds: the distances. -/
theorem fw_all {es : List S104} {n : Nat} {M : List (List Int)} (h : FW es n M) (hc : ∀ a b c, Arc es a b c → 1 ≤ c) : FW es n (loopN (g22 n) n 0 M) ∧ ∀ q, q < n → Tri n q (loopN (g22 n) n 0 M) := by
  have := loopN_inv (g := g22 n) (n := n) (fun q N => FW es n N ∧ ∀ q', q' < q → q' < n → Tri n q' N)
    (fun q N hq ⟨h1, h2⟩ => by
      have hB : Bd n N := fun i j hi hj => ⟨h1.nn i j hi hj, h1.le i j hi hj⟩
      obtain ⟨g1, g2, g3⟩ := fw_step hq h1 (g22_ok hq h1.dim hB).1 (g22_at hq h1.dim h1.dg hB) (fun a b c h => by have := hc a b c h; omega)
      refine ⟨g1, fun q' hq' hqn => ?_⟩
      by_cases e : q' = q
      · subst e; exact g2
      · exact g3 q' hqn (h2 q' (by omega) hqn))
    n 0 M (by omega) ⟨h, fun q' hq' => absurd hq' (Nat.not_lt_zero _)⟩
  exact ⟨this.1, fun q hq => this.2 q hq hq⟩
theorem g16_dim {n : Nat} {e : S104} {M : List (List Int)} (h : Dim n M) : Dim n (g16 e M) := by
  unfold g16; split
  · exact put_dim (put_dim h _ _ _) _ _ _
  · exact h
structure Told (es pre : List S104) (n : Nat) (M : List (List Int)) : Prop where
  dim : Dim n M
  dg : ∀ i, i < n → at_ M i i = 0
  off : ∀ i j, i < n → j < n → i ≠ j → at_ M i j = 16 ∨ Arc es i j (at_ M i j)
  ed : ∀ a b c, a < n → b < n → Arc pre a b c → at_ M a b = c
theorem told_next {es pre : List S104} {n : Nat} {M : List (List Int)} {x : S104} (h : Told es pre n M) (hx : eo n x) (hm : x ∈ es) (hd : pre.any (conn x.f0 x.f1) = false) : Told es (pre ++ [x]) n (g16 x M) := by
  obtain ⟨⟨a0, a1⟩, ⟨b0, b1⟩, hab, _⟩ := hx
  have old : ∀ {a b c}, Arc (pre ++ [x]) a b c → Arc pre a b c ∨ (x.f3 = true ∧ x.f2 = c ∧ ((x.f0 = (a : Int) ∧ x.f1 = (b : Int)) ∨ (x.f0 = (b : Int) ∧ x.f1 = (a : Int)))) := fun ⟨e, he, h1⟩ => by
    rcases List.mem_append.1 he with he | he
    · exact .inl ⟨e, he, h1⟩
    · simp at he; subst he; exact .inr h1
  have cf : ∀ {a b c}, Arc pre a b c → ¬ ((x.f0 = (a : Int) ∧ x.f1 = (b : Int)) ∨ (x.f0 = (b : Int) ∧ x.f1 = (a : Int))) := fun ⟨e, he, _, _, h2⟩ h3 => by
    have := List.any_eq_false.1 hd e he
    apply this
    simp only [conn, Bool.or_eq_true, Bool.and_eq_true, decide_eq_true_eq]
    rcases h2 with ⟨p1, p2⟩ | ⟨p1, p2⟩ <;> rcases h3 with ⟨q1, q2⟩ | ⟨q1, q2⟩
    · left; constructor <;> omega
    · right; constructor <;> omega
    · right; constructor <;> omega
    · left; constructor <;> omega
  by_cases hu : x.f3 = true
  · have hA : Int.toNat x.f0 < n := by omega
    have hB : Int.toNat x.f1 < n := by omega
    have hne : Int.toNat x.f0 ≠ Int.toNat x.f1 := by omega
    have hg : g16 x M = put_ (put_ M (Int.toNat x.f0) (Int.toNat x.f1) x.f2) (Int.toNat x.f1) (Int.toNat x.f0) x.f2 := by simp [g16, hu]
    have key : ∀ i j, at_ (g16 x M) i j = if (i = Int.toNat x.f1 ∧ j = Int.toNat x.f0) ∨ (i = Int.toNat x.f0 ∧ j = Int.toNat x.f1) then x.f2 else at_ M i j := fun i j => by
      rw [hg, put_at (put_dim h.dim _ _ _) hB hA, put_at h.dim hA hB]
      by_cases h1 : i = Int.toNat x.f1 ∧ j = Int.toNat x.f0
      · rw [if_pos h1, if_pos (.inl h1)]
      · rw [if_neg h1]
        by_cases h2 : i = Int.toNat x.f0 ∧ j = Int.toNat x.f1
        · rw [if_pos h2, if_pos (.inr h2)]
        · rw [if_neg h2, if_neg (fun h => h.elim h1 h2)]
    refine ⟨g16_dim h.dim, fun i hi => ?_, fun i j hi hj hij => ?_, fun a b c ha hb hab' => ?_⟩
    · rw [key, if_neg (by omega)]; exact h.dg i hi
    · rw [key]
      split
      · rename_i hc
        refine .inr ⟨x, hm, hu, rfl, ?_⟩
        rcases hc with ⟨q1, q2⟩ | ⟨q1, q2⟩
        · right; constructor <;> omega
        · left; constructor <;> omega
      · exact h.off i j hi hj hij
    · rw [key]
      rcases old hab' with h1 | ⟨_, rfl, h1⟩
      · have := cf h1
        rw [if_neg (fun hc => this (by rcases hc with ⟨q1, q2⟩ | ⟨q1, q2⟩; (right; constructor <;> omega); (left; constructor <;> omega)))]
        exact h.ed a b c ha hb h1
      · rw [if_pos (by rcases h1 with ⟨q1, q2⟩ | ⟨q1, q2⟩; (right; constructor <;> omega); (left; constructor <;> omega))]
  · have hg : g16 x M = M := by simp [g16, hu]
    rw [hg]
    refine ⟨h.dim, h.dg, h.off, fun a b c ha hb hab' => ?_⟩
    rcases old hab' with h1 | ⟨h1, _⟩
    · exact h.ed a b c ha hb h1
    · exact absurd h1 hu
theorem told_all {es : List S104} {n : Nat} : ∀ (rest pre : List S104) (M : List (List Int)), (∀ x ∈ rest, x ∈ es) → gE n pre rest = true → Told es pre n M → Told es (pre ++ rest) n (rest.foldl (fun M e => g16 e M) M)
  | [], pre, M, hm, hg, h => by simpa using h
  | x :: rest, pre, M, hm, hg, h => by
    simp only [gE, Bool.and_eq_true, decide_eq_true_eq, Bool.not_eq_true'] at hg
    obtain ⟨h1, h2, h3⟩ := hg
    have := told_all rest (pre ++ [x]) (g16 x M) (fun y hy => hm y (List.mem_cons_of_mem _ hy)) h3 (told_next h h1 (hm x List.mem_cons_self) h2)
    simpa using this
theorem arc_cost {es : List S104} {n : Int} (hE : ∀ e ∈ es, eo n e) : ∀ a b c, Arc es a b c → 1 ≤ c ∧ c ≤ 16 := fun a b c ⟨e, he, _, hc, _⟩ => by
  obtain ⟨_, _, _, h1, h2⟩ := hE e he
  omega
theorem fw_ini {es : List S104} {n : Nat} {M : List (List Int)} (hE : ∀ e ∈ es, eo n e) (hg : gE n [] es = true) (h : Ini n M) : FW es n (es.foldl (fun M e => g16 e M) M) := by
  have h0 : Told es [] n M := ⟨h.1, fun i hi => by rw [h.2 i i hi hi, if_pos rfl], fun i j hi hj hij => .inl (by rw [h.2 i j hi hj, if_neg hij]), fun a b c _ _ ⟨e, he, _⟩ => by cases he⟩
  have ht := told_all es [] M (fun x hx => hx) hg h0
  rw [List.nil_append] at ht
  have off : ∀ i j, i < n → j < n → i ≠ j → 1 ≤ at_ (es.foldl (fun M e => g16 e M) M) i j ∧ at_ (es.foldl (fun M e => g16 e M) M) i j ≤ 16 := fun i j hi hj hij => by
    rcases ht.off i j hi hj hij with h1 | h1
    · omega
    · exact arc_cost hE _ _ _ h1
  refine ⟨ht.dim, ht.dg, fun i j hi hj => ?_, fun i j hi hj => ?_, fun a b c ha hb hab => by rw [ht.ed a b c ha hb hab]; exact Int.le_refl _, fun i j hi hj hij hlt => ?_⟩
  · by_cases e : i = j
    · subst e; rw [ht.dg i hi]; exact Int.le_refl _
    · have := off i j hi hj e; omega
  · by_cases e : i = j
    · subst e; rw [ht.dg i hi]; omega
    · exact (off i j hi hj e).2
  · rcases ht.off i j hi hj hij with h1 | h1
    · omega
    · exact ⟨j, _, hj, h1, by rw [ht.dg j hj]; omega⟩
/-! the reference's rounds -/
def g19 (e : S104) (d : Nat) (M : List (List Int)) : List (List Int) :=
  let a := Int.toNat e.f0; let b := Int.toNat e.f1
  let N := put_ M a d (if at_ M b d + e.f2 < at_ M a d then at_ M b d + e.f2 else at_ M a d)
  put_ N b d (if at_ N a d + e.f2 < at_ N b d then at_ N a d + e.f2 else at_ N b d)
theorem g19_ok {n : Nat} {e : S104} (he : eo n e) {d : Nat} (hd : d < n) {M : List (List Int)} (hM : Dim n M) (hB : Bd n M) :
    Dim n (g19 e d M) ∧ Bd n (g19 e d M) ∧ (∀ i j, i < n → j < n → at_ (g19 e d M) i j ≤ at_ M i j) ∧
      (∀ x y : Nat, e.f0 = x → e.f1 = y → at_ (g19 e d M) x d ≤ at_ M y d + e.f2 ∧ at_ (g19 e d M) y d ≤ at_ M x d + e.f2) ∧
      ∀ D : List (List Int), (∀ i j, i < n → j < n → at_ D i j ≤ at_ M i j) → (∀ x y : Nat, e.f0 = x → e.f1 = y → ∀ j, j < n → at_ D x j ≤ at_ D y j + e.f2 ∧ at_ D y j ≤ at_ D x j + e.f2) → ∀ i j, i < n → j < n → at_ D i j ≤ at_ (g19 e d M) i j := by
  obtain ⟨⟨a0, a1⟩, ⟨b0, b1⟩, hab, c0, c1⟩ := he
  have hA : Int.toNat e.f0 < n := by omega
  have hBn : Int.toNat e.f1 < n := by omega
  have hne : Int.toNat e.f0 ≠ Int.toNat e.f1 := by omega
  have hN := put_dim hM (Int.toNat e.f0) d (if at_ M (Int.toNat e.f1) d + e.f2 < at_ M (Int.toNat e.f0) d then at_ M (Int.toNat e.f1) d + e.f2 else at_ M (Int.toNat e.f0) d)
  have k1 := hB _ _ hA hd
  have k2 := hB _ _ hBn hd
  have key : ∀ i j, at_ (g19 e d M) i j = if i = Int.toNat e.f1 ∧ j = d then (min (at_ M (Int.toNat e.f1) d) (min (at_ M (Int.toNat e.f0) d) (at_ M (Int.toNat e.f1) d + e.f2) + e.f2)) else if i = Int.toNat e.f0 ∧ j = d then min (at_ M (Int.toNat e.f0) d) (at_ M (Int.toNat e.f1) d + e.f2) else at_ M i j := fun i j => by
    simp only [g19]
    rw [put_at hN hBn hd, put_at hM hA hd, put_at hM hA hd, put_at hM hA hd, if_pos (⟨rfl, rfl⟩ : Int.toNat e.f0 = Int.toNat e.f0 ∧ d = d), if_neg (fun h : Int.toNat e.f1 = Int.toNat e.f0 ∧ d = d => hne h.1.symm)]
    by_cases h1 : i = Int.toNat e.f1 ∧ j = d
    · rw [if_pos h1, if_pos h1]; repeat' split
      all_goals omega
    · rw [if_neg h1, if_neg h1]
      by_cases h2 : i = Int.toNat e.f0 ∧ j = d
      · rw [if_pos h2, if_pos h2]; split <;> omega
      · rw [if_neg h2, if_neg h2]
  refine ⟨put_dim (put_dim hM _ _ _) _ _ _, fun i j hi hj => ?_, fun i j hi hj => ?_, fun x y hx hy => ?_, fun D h1 h2 i j hi hj => ?_⟩
  · rw [key]; have := hB i j hi hj
    repeat' split
    all_goals omega
  · rw [key]
    split
    · rename_i h; rw [h.1, h.2]; omega
    · split
      · rename_i h; rw [h.1, h.2]; omega
      · exact Int.le_refl _
  · have ex : Int.toNat e.f0 = x := by omega
    have ey : Int.toNat e.f1 = y := by omega
    rw [key, key, ex, ey]
    rw [ex, ey] at hne
    rw [ex] at k1
    rw [ey] at k2
    rw [if_neg (fun h => hne h.1), if_pos (⟨rfl, rfl⟩ : x = x ∧ d = d), if_pos (⟨rfl, rfl⟩ : y = y ∧ d = d)]
    omega
  · have q := h2 (Int.toNat e.f0) (Int.toNat e.f1) (by omega) (by omega) d hd
    have r1 := h1 _ _ hA hd
    have r2 := h1 _ _ hBn hd
    rw [key]
    split
    · rename_i h; rw [h.1, h.2]; omega
    · split
      · rename_i h; rw [h.1, h.2]; omega
      · exact h1 i j hi hj
def iniRow (r m : Nat) : List Int := (List.range m).map fun d => if r = d then 0 else 16
theorem iniRow_succ (r d : Nat) : iniRow r (d + 1) = iniRow r d ++ [if r = d then 0 else 16] := by simp [iniRow, List.range_succ]
theorem self_run (k r d : Nat) : f136 k (r : Int) (d : Int) = some (if r = d then (0, (r : Int), 0) else (16, -1, 0)) := by
  by_cases h : r = d
  · subst h; simp [f136, f136.step]
  · have h' : ¬ (r : Int) = (d : Int) := by omega
    simp [f136, f136.step, h, h']
theorem l7_run (k n r : Nat) (hn : n ≤ 1000) (es : List S104) (ts : List (List S174)) (M : List (List Int)) : ∀ (t d j : Nat), d + t = n → t < j →
    f58.l7 k j (r : Int) (d : Int) es ts (n : Int) M (iniRow r d) = some ((r : Int), es, ts, (n : Int), M, iniRow r n)
  | t, d, 0, e, hj => by omega
  | 0, d, j + 1, e, hj => by
    have h1 : ¬ (d : Int) < (n : Int) := by omega
    rw [show n = d by omega] at h1 ⊢
    simp only [f58.l7, f58.l7.step, h1, decide_false]; rfl
  | t + 1, d, j + 1, e, hj => by
    have h1 : (d : Int) < (n : Int) := by omega
    have hl : (iniRow r d).length = d := by simp [iniRow]
    have h2 : (d + 1) * 8 ≤ maxN := by have : maxN = 140737488351232 := rfl; omega
    have ih := l7_run k n r hn es ts M t (d + 1) j (by omega) (by omega)
    rw [iniRow_succ] at ih
    simp only [f58.l7, f58.l7.step, h1, decide_true, if_true, self_run, Option.bind_some, hl, List.length_singleton, h2, wn1 hn (show d < n by omega)]
    by_cases h : r = d
    · subst h; simpa using ih
    · simp only [h, if_false] at ih ⊢; exact ih
def iniM (n m : Nat) : List (List Int) := (List.range m).map fun r => iniRow r n
theorem iniM_succ (n r : Nat) : iniM n (r + 1) = iniM n r ++ [iniRow r n] := by simp [iniM, List.range_succ]
theorem l3_run (k n : Nat) (hK : 2097152 ≤ k) (hn : n ≤ 1000) (es : List S104) (ts : List (List S174)) : ∀ (t r j : Nat), r + t = n → t < j →
    f58.l3 k j (r : Int) es ts (n : Int) (iniM n r) = some (es, ts, (n : Int), iniM n n)
  | t, r, 0, e, hj => by omega
  | 0, r, j + 1, e, hj => by
    have h1 : ¬ (r : Int) < (n : Int) := by omega
    rw [show r = n by omega] at h1 ⊢
    simp only [f58.l3, f58.l3.step, h1, decide_false]; rfl
  | t + 1, r, j + 1, e, hj => by
    have h1 : (r : Int) < (n : Int) := by omega
    have hl : (iniM n r).length = r := by simp [iniM]
    have h2 : (r + 1) * 24 ≤ maxN := by have : maxN = 140737488351232 := rfl; omega
    have e7 : f58.l7 k k (r : Int) 0 es ts (n : Int) (iniM n r) [] = some ((r : Int), es, ts, (n : Int), iniM n r, iniRow r n) := l7_run k n r hn es ts (iniM n r) n 0 k (by omega) (by omega)
    have ih := l3_run k n hK hn es ts t (r + 1) j (by omega) (by omega)
    rw [iniM_succ] at ih
    simp only [f58.l3, f58.l3.step, h1, decide_true, if_true, e7, Option.bind_some, hl, List.length_singleton, h2, wn1 hn (show r < n by omega)]
    exact ih
theorem ini_spec (n : Nat) : Ini n (iniM n n) := by
  have hr : ∀ i, i < n → List.getD (iniM n n) i [] = iniRow i n := fun i hi => by simp [iniM, List.getD_eq_getElem?_getD, hi]
  refine ⟨⟨by simp [iniM], fun i hi => by rw [hr i hi]; simp [iniRow]⟩, fun i j hi hj => ?_⟩
  unfold at_
  rw [hr i hi]
  simp [iniRow, List.getD_eq_getElem?_getD, hj]
theorem l19_run (k n : Nat) (hn : n ≤ 1000) (x : S104) (hx : eo n x) (hu : x.f3 = true) (a b : Int) (es : List S104) (ts : List (List S174)) : ∀ (t d j : Nat) (M : List (List Int)), d + t = n → t < j → Dim n M → Bd n M →
    f58.l19 k j a b (d : Int) es ts (n : Int) M x.f0 x.f1 x.f2 x.f3 = some (a, b, es, ts, (n : Int), loopN (g19 x) t d M)
  | t, d, 0, M, e, hj, hM, hB => by omega
  | 0, d, j + 1, M, e, hj, hM, hB => by
    have h1 : ¬ (d : Int) < (n : Int) := by omega
    simp only [f58.l19, f58.l19.step, hu, h1, decide_false, if_true, loopN]; rfl
  | t + 1, d, j + 1, M, e, hj, hM, hB => by
    have hd : d < n := by omega
    obtain ⟨hM', hB', _⟩ := g19_ok hx hd hM hB
    have ih := l19_run k n hn x hx hu a b es ts t (d + 1) j _ (by omega) (by omega) hM' hB'
    have h1 : (d : Int) < (n : Int) := by omega
    obtain ⟨⟨a0, a1⟩, ⟨b0, b1⟩, hab, c0, c1⟩ := hx
    have p3 : (0 : Int) ≤ (d : Int) := by omega
    have hA : Int.toNat x.f0 < n := by omega
    have hBn : Int.toNat x.f1 < n := by omega
    have l1 : x.f0 < ((M.length : Nat) : Int) := by rw [hM.1]; omega
    have l2 : x.f1 < ((M.length : Nat) : Int) := by rw [hM.1]; omega
    have r0 := hM.2 _ hA
    have r1 := hM.2 _ hBn
    have s1 : (d : Int) < (((List.getD M (Int.toNat x.f0) []).length : Nat) : Int) := by rw [r0]; omega
    have s2 : d < (List.getD M (Int.toNat x.f0) []).length := by rw [r0]; omega
    have s3 : (d : Int) < (((List.getD M (Int.toNat x.f1) []).length : Nat) : Int) := by rw [r1]; omega
    have s4 : d < (List.getD M (Int.toNat x.f1) []).length := by rw [r1]; omega
    have k1 := hB _ _ hA hd
    have k2 := hB _ _ hBn hd
    have hw1 : IntKind.i64.wrap (List.getD (List.getD M (Int.toNat x.f1) []) d 0 + x.f2) = at_ M (Int.toNat x.f1) d + x.f2 := w64 (by unfold at_ at k2; omega) (by unfold at_ at k2; omega)
    let N := put_ M (Int.toNat x.f0) d (if at_ M (Int.toNat x.f1) d + x.f2 < at_ M (Int.toNat x.f0) d then at_ M (Int.toNat x.f1) d + x.f2 else at_ M (Int.toNat x.f0) d)
    have hN : M.set (Int.toNat x.f0) ((List.getD M (Int.toNat x.f0) []).set d (if at_ M (Int.toNat x.f1) d + x.f2 < at_ M (Int.toNat x.f0) d then at_ M (Int.toNat x.f1) d + x.f2 else at_ M (Int.toNat x.f0) d)) = N := rfl
    have hND : Dim n N := put_dim hM _ _ _
    have hNA : at_ N (Int.toNat x.f0) d = if at_ M (Int.toNat x.f1) d + x.f2 < at_ M (Int.toNat x.f0) d then at_ M (Int.toNat x.f1) d + x.f2 else at_ M (Int.toNat x.f0) d := by
      show at_ (put_ M _ _ _) _ _ = _
      rw [put_at hM hA hd, if_pos ⟨rfl, rfl⟩]
    have r2 := hND.2 _ hA
    have r3 := hND.2 _ hBn
    have t1 : x.f0 < ((N.length : Nat) : Int) := by rw [hND.1]; omega
    have t2 : x.f1 < ((N.length : Nat) : Int) := by rw [hND.1]; omega
    have t3 : (d : Int) < (((List.getD N (Int.toNat x.f0) []).length : Nat) : Int) := by rw [r2]; omega
    have t4 : d < (List.getD N (Int.toNat x.f0) []).length := by rw [r2]; omega
    have t5 : (d : Int) < (((List.getD N (Int.toNat x.f1) []).length : Nat) : Int) := by rw [r3]; omega
    have t6 : d < (List.getD N (Int.toNat x.f1) []).length := by rw [r3]; omega
    have hw2 : IntKind.i64.wrap (List.getD (List.getD N (Int.toNat x.f0) []) d 0 + x.f2) = at_ N (Int.toNat x.f0) d + x.f2 := by
      have : 0 ≤ at_ N (Int.toNat x.f0) d ∧ at_ N (Int.toNat x.f0) d ≤ 16 := by rw [hNA]; split <;> omega
      exact w64 (by unfold at_ at this; omega) (by unfold at_ at this; omega)
    have e0 : List.getD (List.getD M (Int.toNat x.f0) []) d 0 = at_ M (Int.toNat x.f0) d := rfl
    have e1 : List.getD (List.getD N (Int.toNat x.f1) []) d 0 = at_ N (Int.toNat x.f1) d := rfl
    simp only [f58.l19, f58.l19.step, hu, h1, decide_true, if_true, a0, b0, p3, l1, l2, Int.toNat_natCast, s1, s2, s3, s4, hw1, e0, hN, t1, t2, t3, t4, t5, t6, hw2, e1, wn1 hn hd]
    rw [hu] at ih
    exact ih
def gEd (n : Nat) (x : S104) (M : List (List Int)) : List (List Int) := if x.f3 = true then loopN (g19 x) n 0 M else M
theorem gEd_ok {n : Nat} {x : S104} (hx : eo n x) {M : List (List Int)} (hM : Dim n M) (hB : Bd n M) :
    Dim n (gEd n x M) ∧ Bd n (gEd n x M) ∧ (∀ i j, i < n → j < n → at_ (gEd n x M) i j ≤ at_ M i j) ∧
      (x.f3 = true → ∀ p q : Nat, x.f0 = p → x.f1 = q → ∀ d, d < n → at_ (gEd n x M) p d ≤ at_ M q d + x.f2 ∧ at_ (gEd n x M) q d ≤ at_ M p d + x.f2) ∧
      ∀ D : List (List Int), (∀ i j, i < n → j < n → at_ D i j ≤ at_ M i j) → (x.f3 = true → ∀ p q : Nat, x.f0 = p → x.f1 = q → ∀ j, j < n → at_ D p j ≤ at_ D q j + x.f2 ∧ at_ D q j ≤ at_ D p j + x.f2) → ∀ i j, i < n → j < n → at_ D i j ≤ at_ (gEd n x M) i j := by
  unfold gEd
  by_cases hu : x.f3 = true
  case neg => rw [if_neg hu]; exact ⟨hM, hB, fun _ _ _ _ => Int.le_refl _, fun h => absurd h hu, fun D h _ => h⟩
  rw [if_pos hu]
  have hx0 := hx
  obtain ⟨⟨a0, a1⟩, ⟨b0, b1⟩, hab, c0, c1⟩ := hx0
  have := loopN_inv (g := g19 x) (n := n) (fun d N => Dim n N ∧ Bd n N ∧ (∀ i j, i < n → j < n → at_ N i j ≤ at_ M i j) ∧
      (∀ p q : Nat, x.f0 = p → x.f1 = q → ∀ d', d' < d → at_ N p d' ≤ at_ M q d' + x.f2 ∧ at_ N q d' ≤ at_ M p d' + x.f2) ∧
      ∀ D : List (List Int), (∀ i j, i < n → j < n → at_ D i j ≤ at_ M i j) → (∀ p q : Nat, x.f0 = p → x.f1 = q → ∀ j, j < n → at_ D p j ≤ at_ D q j + x.f2 ∧ at_ D q j ≤ at_ D p j + x.f2) → ∀ i j, i < n → j < n → at_ D i j ≤ at_ N i j)
    (fun d N hd ⟨h1, h2, h3, h4, h5⟩ => by
      obtain ⟨g1, g2, g3, g4, g5⟩ := g19_ok hx hd h1 h2
      refine ⟨g1, g2, fun i j hi hj => Int.le_trans (g3 i j hi hj) (h3 i j hi hj), fun p q hp hq d' hd' => ?_, fun D q1 q2 => g5 D (h5 D q1 q2) q2⟩
      have hpn : p < n := by omega
      have hqn : q < n := by omega
      by_cases e : d' = d
      · subst e
        obtain ⟨r1, r2⟩ := g4 p q hp hq
        have := h3 q d' hqn hd; have := h3 p d' hpn hd
        omega
      · obtain ⟨r1, r2⟩ := h4 p q hp hq d' (by omega)
        have := g3 p d' hpn (by omega); have := g3 q d' hqn (by omega)
        omega)
    n 0 M (by omega) ⟨hM, hB, fun _ _ _ _ => Int.le_refl _, fun _ _ _ _ d' hd' => absurd hd' (Nat.not_lt_zero _), fun D h _ => h⟩
  exact ⟨this.1, this.2.1, this.2.2.1, fun _ => this.2.2.2.1, fun D h1 h2 => this.2.2.2.2 D h1 (h2 hu)⟩
theorem l15_run (k n : Nat) (hK : 2097152 ≤ k) (hn : n ≤ 5) (a : Int) (es : List S104) (ts : List (List S174)) (hel : es.length ≤ 1000) : ∀ (rest pre : List S104) (j : Nat) (M : List (List Int)), es = pre ++ rest → rest.length < j → (∀ e ∈ rest, eo n e) → Dim n M → Bd n M →
    f58.l15 k j a (pre.length : Int) es ts (n : Int) M = some (a, es, ts, (n : Int), rest.foldl (fun M x => gEd n x M) M)
  | rest, pre, 0, M, e, hj, he, hM, hB => by omega
  | [], pre, j + 1, M, e, hj, he, hM, hB => by
    subst e
    have h1 : ¬ (pre.length : Int) < (((pre ++ []).length : Nat) : Int) := by simp
    simp only [f58.l15, f58.l15.step, h1, decide_false, List.foldl_nil]; rfl
  | x :: rest, pre, j + 1, M, e, hj, he, hM, hB => by
    have h1 : (pre.length : Int) < ((es.length : Nat) : Int) := by subst e; exact lt_mid _ _ _
    have h2 : (0 : Int) ≤ (pre.length : Int) := by omega
    have hg : List.getD es (Int.toNat (pre.length : Int)) (⟨(0 : Int), (0 : Int), (0 : Int), false⟩ : S104) = x := by subst e; exact gm _ _ _ _
    have hx := he x List.mem_cons_self
    obtain ⟨hM', hB', _⟩ := gEd_ok hx hM hB
    have ih := l15_run k n hK hn a es ts hel rest (pre ++ [x]) j (gEd n x M) (by rw [e]; simp) (by simp at hj; omega) (fun y hy => he y (List.mem_cons_of_mem _ hy)) hM' hB'
    have hel' : es.length = pre.length + (x :: rest).length := by rw [e]; simp
    have hw : IntKind.i64.wrap ((pre.length : Int) + 1) = ((pre ++ [x]).length : Int) := wnext _ _ (by omega)
    have e19 : f58.l19 k k a (pre.length : Int) 0 es ts (n : Int) M x.f0 x.f1 x.f2 x.f3 = some (a, (pre.length : Int), es, ts, (n : Int), gEd n x M) := by
      by_cases hu : x.f3 = true
      · have := l19_run k n (by omega) x hx hu a (pre.length : Int) es ts n 0 k M (by omega) (by omega) hM hB
        unfold gEd; rw [if_pos hu]; exact this
      · obtain ⟨k', rfl⟩ : ∃ k', k = k' + 1 := ⟨k - 1, by omega⟩
        unfold gEd; rw [if_neg hu]
        simp only [f58.l19, f58.l19.step, hu]; rfl
    simp only [f58.l15, f58.l15.step, h1, h2, hg, decide_true, if_true, e19, Option.bind_some, hw, List.foldl_cons]
    exact ih
def gRd (n : Nat) (es : List S104) (_ : Nat) (M : List (List Int)) : List (List Int) := es.foldl (fun M x => gEd n x M) M
/-- A round over all edges. -/
theorem rd_ok {es : List S104} {n : Nat} {D : List (List Int)} {r : Nat} (hD : FW es n D) (hT : ∀ q, q < n → Tri n q D) (hE : ∀ e ∈ es, eo n e) : ∀ (rest pre : List S104) (M : List (List Int)), es = pre ++ rest → Dim n M → Bd n M → BF es n D M r → (∀ i, i < n → at_ M i i ≤ 0) →
    (∀ a b c d, a < n → b < n → d < n → Arc pre a b c → rank n D b d ≤ r → at_ M a d ≤ at_ D b d + c) →
    Dim n (rest.foldl (fun M x => gEd n x M) M) ∧ Bd n (rest.foldl (fun M x => gEd n x M) M) ∧ BF es n D (rest.foldl (fun M x => gEd n x M) M) r ∧ (∀ i, i < n → at_ (rest.foldl (fun M x => gEd n x M) M) i i ≤ 0) ∧
    (∀ a b c d, a < n → b < n → d < n → Arc es a b c → rank n D b d ≤ r → at_ (rest.foldl (fun M x => gEd n x M) M) a d ≤ at_ D b d + c)
  | [], pre, M, e, hM, hB, h, h0, hd => ⟨hM, hB, h, h0, fun a b c d ha hb hdn hab hr => hd a b c d ha hb hdn (by rw [e] at hab; simpa using hab) hr⟩
  | x :: rest, pre, M, e, hM, hB, h, h0, hd => by
    have hm : x ∈ es := by rw [e]; simp
    have hx := hE x hm
    obtain ⟨g1, g2, g3, g4, g5⟩ := gEd_ok hx hM hB
    have hx0 := hx
    obtain ⟨⟨a0, a1⟩, ⟨b0, b1⟩, hab, c0, c1⟩ := hx0
    have hDx : x.f3 = true → ∀ p q : Nat, x.f0 = p → x.f1 = q → ∀ j, j < n → at_ D p j ≤ at_ D q j + x.f2 ∧ at_ D q j ≤ at_ D p j + x.f2 := fun hu p q hp hq j hj => by
      have hpn : p < n := by omega
      have hqn : q < n := by omega
      have q1 := hT q hqn p j hpn hj
      have q2 := hT p hpn q j hqn hj
      have q3 := hD.ed p q x.f2 hpn hqn ⟨x, hm, hu, rfl, .inl ⟨hp, hq⟩⟩
      have q4 := hD.ed q p x.f2 hqn hpn ⟨x, hm, hu, rfl, .inr ⟨hp, hq⟩⟩
      omega
    refine rd_ok hD hT hE rest (pre ++ [x]) (gEd n x M) (by rw [e]; simp) g1 g2 ⟨g1, g5 D h.ge hDx, fun i j hi hj => Int.le_trans (g3 i j hi hj) (h.le i j hi hj), fun i j hi hj hr => Int.le_trans (g3 i j hi hj) (h.up i j hi hj hr)⟩ (fun i hi => Int.le_trans (g3 i i hi hi) (h0 i hi)) (fun a b c d ha hb hdn hab hr => ?_)
    obtain ⟨y, hy, hu, hc, hyab⟩ := hab
    rcases List.mem_append.1 hy with hy | hy
    · exact Int.le_trans (g3 a d ha hdn) (hd a b c d ha hb hdn ⟨y, hy, hu, hc, hyab⟩ hr)
    · simp at hy
      subst hy
      have := h.up b d hb hdn hr
      rcases hyab with ⟨p1, p2⟩ | ⟨p1, p2⟩
      · have := (g4 hu a b p1 p2 d hdn).1; omega
      · have := (g4 hu b a p1 p2 d hdn).2; omega
theorem l12_run (k n : Nat) (hK : 2097152 ≤ k) (hn : n ≤ 5) (es : List S104) (ts : List (List S174)) (hel : es.length ≤ 1000) (hE : ∀ e ∈ es, eo n e) : ∀ (t r j : Nat) (M : List (List Int)), r + t = n → t < j → Dim n M → Bd n M →
    f58.l12 k j (r : Int) es ts (n : Int) M = some (loopN (gRd n es) t r M)
  | t, r, 0, M, e, hj, hM, hB => by omega
  | 0, r, j + 1, M, e, hj, hM, hB => by
    have h1 : ¬ (r : Int) < (n : Int) := by omega
    simp only [f58.l12, f58.l12.step, h1, decide_false, loopN]; rfl
  | t + 1, r, j + 1, M, e, hj, hM, hB => by
    have hr : r < n := by omega
    have fold : ∀ (l : List S104) (N : List (List Int)), (∀ x ∈ l, eo n x) → Dim n N → Bd n N → Dim n (l.foldl (fun M x => gEd n x M) N) ∧ Bd n (l.foldl (fun M x => gEd n x M) N) := by
      intro l
      induction l with
      | nil => intro N _ h1 h2; exact ⟨h1, h2⟩
      | cons x l ih =>
        intro N hx h1 h2
        obtain ⟨g1, g2, _⟩ := gEd_ok (hx x List.mem_cons_self) h1 h2
        exact ih _ (fun y hy => hx y (List.mem_cons_of_mem _ hy)) g1 g2
    obtain ⟨hM', hB'⟩ := fold es M hE hM hB
    have ih := l12_run k n hK hn es ts hel hE t (r + 1) j _ (by omega) (by omega) hM' hB'
    have h1 : (r : Int) < (n : Int) := by omega
    have e15 : f58.l15 k k (r : Int) 0 es ts (n : Int) M = some ((r : Int), es, ts, (n : Int), es.foldl (fun M x => gEd n x M) M) := l15_run k n hK hn (r : Int) es ts hel es [] k M rfl (by omega) hE hM hB
    simp only [f58.l12, f58.l12.step, h1, decide_true, if_true, e15, Option.bind_some, wn1 (show n ≤ 1000 by omega) hr]
    exact ih
/-- The reference's distances are the program's. -/
theorem same_dist {es : List S104} {n : Nat} {M0 M1 : List (List Int)} (hE : ∀ e ∈ es, eo n e) (hg : gE n [] es = true) (h0 : Ini n M0) (h1 : Ini n M1) : loopN (gRd n es) n 0 M0 = loopN (g22 n) n 0 (es.foldl (fun M e => g16 e M) M1) ∧ Dim n (loopN (gRd n es) n 0 M0) := by
  have hc := arc_cost hE
  obtain ⟨hD, hT⟩ := fw_all (fw_ini hE hg h1) (fun a b c h => (hc a b c h).1)
  generalize loopN (g22 n) n 0 (es.foldl (fun M e => g16 e M) M1) = D at hD hT ⊢
  have hB0 : Bd n M0 := fun i j hi hj => by rw [h0.2 i j hi hj]; split <;> omega
  have hge : ∀ i j, i < n → j < n → at_ D i j ≤ at_ M0 i j := fun i j hi hj => by
    rw [h0.2 i j hi hj]
    split
    · rename_i e; subst e; rw [hD.dg i hi]; exact Int.le_refl _
    · exact hD.le i j hi hj
  have z0 : ∀ i, i < n → at_ M0 i i ≤ 0 := fun i hi => by rw [h0.2 i i hi hi, if_pos rfl]; exact Int.le_refl _
  have b0 : BF es n D M0 0 := by
    refine ⟨h0.1, hge, fun i j hi hj => (hB0 i j hi hj).2, fun i j hi hj hr => ?_⟩
    by_cases hij : i = j
    · subst hij; rw [hD.dg i hi]; exact z0 i hi
    · by_cases hlt : at_ D i j < 16
      · obtain ⟨b, c, hb, hab, hle⟩ := hD.tt i j hi hj hij hlt
        have := (hc i b c hab).1
        have := rank_lt (i := i) (d := j) hb (show at_ D b j < at_ D i j by omega)
        omega
      · have := (hB0 i j hi hj).2; omega
  have := loopN_inv (g := gRd n es) (n := n) (fun r N => Dim n N ∧ Bd n N ∧ BF es n D N r ∧ ∀ i, i < n → at_ N i i ≤ 0)
    (fun r N hr ⟨q1, q2, q3, q4⟩ => by
      obtain ⟨p1, p2, p3, p4, p5⟩ := rd_ok hD hT hE es [] N rfl q1 q2 q3 q4 (fun a b c d _ _ _ ⟨e, he, _⟩ => by cases he)
      exact ⟨p1, p2, bf_next hD (fun a b c h => (hc a b c h).1) p3 p5 p4, p4⟩)
    n 0 M0 (by omega) ⟨h0.1, hB0, b0, z0⟩
  obtain ⟨q1, q2, q3, q4⟩ := this
  refine ⟨dim_ext q1 hD.dim fun i j hi hj => ?_, q1⟩
  have := q3.ge i j hi hj
  have := q3.up i j hi hj (by have := rank_n (D := D) (d := j) hi; omega)
  omega
theorem dist_ok (k : Nat) (hK : 2097152 ≤ k) (es : List S104) (ts : List (List S174)) (n : Int) (htl : ts.length ≤ 1048577) (hts : ∀ x ∈ ts, x.length ≤ 1048577) :
    (∃ c, f11 k es ts n = some ([], c) ∧ f10 k es ts n = some (.inl c)) ∨ (∃ l c, l.length ≤ 5 ∧ (∀ x ∈ l, x.length ≤ 5) ∧ f11 k es ts n = some (l, c) ∧ f10 k es ts n = some (.inr (l, c)) ∧ c = 0 ∧ (l.length : Int) = n) := by
  simp only [f11, f11.step, f10, f10.step, area_spec k hK, area_impl k hK es ts n htl hts, Option.bind_some]
  rcases Bool.eq_false_or_eq_true ((decide ((1 ≤ n ∧ n ≤ 5) ∧ es.length ≤ 8) && gE n [] es) && (decide ((ts.length : Int) = n) && (ts.all (fun x => decide ((x.length : Int) = n)) && rowsK es 0 ts))) with h | h
  case inr => rw [h]; exact .inl ⟨1, rfl, rfl⟩
  rw [h]
  right
  simp only [Bool.and_eq_true, decide_eq_true_eq] at h
  obtain ⟨⟨⟨⟨hn1, hn5⟩, hel⟩, hg⟩, _⟩ := h
  obtain ⟨m, rfl⟩ : ∃ m : Nat, n = (m : Int) := ⟨n.toNat, by omega⟩
  have hm : m ≤ 5 := by omega
  have hE := gE_mem (m : Int) es [] hg
  obtain ⟨hs, hd⟩ := same_dist hE hg (ini_spec m) (ini_impl m)
  refine ⟨loopN (gRd m es) m 0 (iniM m m), 0, by rw [hd.1]; exact hm, fun x hx => ?_, ?_, ?_, rfl, by rw [hd.1]⟩
  · obtain ⟨i, hi, rfl⟩ := List.mem_iff_getElem.1 hx
    have := hd.2 i (by rw [← hd.1]; exact hi)
    simp only [List.getD_eq_getElem?_getD, List.getElem?_eq_getElem hi, Option.getD_some] at this
    omega
  · have e3 : f58.l3 k k 0 es ts (m : Int) [] = some (es, ts, (m : Int), iniM m m) := l3_run k m hK (by omega) es ts m 0 k (by omega) (by omega)
    have e12 : f58.l12 k k 0 es ts (m : Int) (iniM m m) = some (loopN (gRd m es) m 0 (iniM m m)) := l12_run k m hK hm es ts (by omega) hE m 0 k _ (by omega) (by omega) (ini_spec m).1 (fun i j hi hj => by rw [(ini_spec m).2 i j hi hj]; split <;> omega)
    simp only [f58, f58.step, e3, e12, Option.bind_some, Bool.not_true]
    rfl
  · have hm0 : (0 : Int) ≤ (m : Int) := by omega
    have hmx : m * 24 ≤ maxN := by have : maxN = 140737488351232 := rfl; omega
    have hI := ini_impl m
    have hF := fw_ini hE hg hI
    have e5 : f10.l5 k k (m : Int) 0 es ts (m : Int) (List.replicate m []) = some (es, ts, (m : Int), loopN (g5 m) m 0 (List.replicate m [])) := l5_run k m hK (by omega) es ts m 0 k _ (by omega) (by omega) (by simp)
    have e16 : f10.l16 k k es (es.length : Int) 0 (loopN (g5 m) m 0 (List.replicate m [])) = some (es.foldl (fun M e => g16 e M) (loopN (g5 m) m 0 (List.replicate m []))) := l16_run k m hm es es [] k _ rfl (by omega) (by omega) hE hI.1
    have e22 : f10.l22 k k (m : Int) 0 (es.foldl (fun M e => g16 e M) (loopN (g5 m) m 0 (List.replicate m []))) = some (loopN (g22 m) m 0 (es.foldl (fun M e => g16 e M) (loopN (g5 m) m 0 (List.replicate m [])))) := l22_run k m hK (by omega) m 0 k _ (by omega) (by omega) hF.dim (fun i j hi hj => ⟨hF.nn i j hi hj, hF.le i j hi hj⟩)
    have hl : (es.foldl (fun M e => g16 e M) (loopN (g5 m) m 0 (List.replicate m []))).length = m := hF.dim.1
    simp only [hm0, hmx, Int.toNat_natCast, if_true, List.length_replicate, e5, e16, hl, e22, Option.bind_some, Bool.not_true, hs]
    rfl
def adv (to : Int) (x : S174) : Int := if x.f1 = to then 16 else x.f0
theorem spec_adv (k : Nat) (hK : 2097152 ≤ k) (es : List S104) (ts : List (List S174)) (n : Int) (r : Nat) (hr : r < ts.length) (row : List S174) (hrow : List.getD ts r [] = row) (hrn : (row.length : Int) = n) (hn : n ≤ 5) (to : Int) (hto : (r : Int) ≠ to) (hK : rK es (r : Int) 0 row = true) :
    ∀ (rest pre : List S174) (j : Nat), row = pre ++ rest → rK es (r : Int) (pre.length : Int) rest = true → rest.length < j →
    f201.l3 k j (r : Int) to (pre.length : Int) es ts n (pre.map (adv to)) = some (row.map (adv to)) := by
  have hm : maxN = 140737488351232 := by decide
  intro rest
  induction rest with
  | nil =>
    intro pre j he hk hj
    obtain ⟨j, rfl⟩ : ∃ j', j = j' + 1 := ⟨j - 1, by omega⟩
    simp only [List.append_nil] at he
    simp only [f201.l3, f201.l3.step]
    rw [if_neg (fb (by rw [← he]; omega)), he]
  | cons x rest ih =>
    intro pre j he hk hj
    obtain ⟨j, rfl⟩ : ∃ j', j = j' + 1 := ⟨j - 1, by omega⟩
    have hp : (0 : Int) ≤ (pre.length : Int) := by omega
    have hr0 : (0 : Int) ≤ (r : Int) := by omega
    have hr1 : (r : Int) < (ts.length : Int) := by omega
    have hlen : pre.length + rest.length + 1 = row.length := by rw [he]; simp; omega
    have hpn : (pre.length : Int) < n := by omega
    have hpr : (pre.length : Int) < ((List.length (List.getD ts r [])) : Int) := by rw [hrow]; omega
    have hw := wnext pre x (by omega)
    simp only [rK, Bool.and_eq_true] at hk
    have hn2 : ((pre ++ [x]).length : Int) = (pre.length : Int) + 1 := by simp
    have := ih (pre ++ [x]) j (by rw [he]; simp) (by rw [hn2]; exact hk.2) (by simp at hj; omega)
    simp only [List.map_append, List.map_cons, List.map_nil] at this
    rw [hn2] at this hw
    have hc : ∀ v : Int, ((pre.map (adv to)).length + ([v] : List Int).length) * 8 ≤ maxN := fun v => by simp; omega
    simp only [f201.l3, f201.l3.step, Int.toNat_natCast (n := r), gm2 hrow he, hw]
    simp only [hpn, hr0, hr1, hp, hpr, hc, if_true, decide_true]
    by_cases c0 : (pre.length : Int) = (r : Int)
    · have e := hk.1
      rw [c0] at e
      simp only [eK, if_true, Bool.and_eq_true, decide_eq_true_eq] at e
      have hx : adv to x = x.f0 := by simp only [adv, e.2.1]; rw [if_neg hto]
      rw [hx] at this
      rw [if_neg (fb (by simpa using c0))]
      exact this
    · rw [if_pos (tb c0)]
      by_cases c1 : x.f1 = to
      · have hx : adv to x = 16 := by simp [adv, c1]
        rw [hx] at this
        rw [if_pos (tb c1)]; exact this
      · have hx : adv to x = x.f0 := by simp [adv, c1]
        rw [hx] at this
        rw [if_neg (fb c1)]; exact this
theorem rows_get (es : List S104) : ∀ (ts : List (List S174)) (i : Int) (r : Nat), r < ts.length → rowsK es i ts = true → rK es (i + r) 0 (List.getD ts r []) = true
  | [], _, _, h, _ => by simp at h
  | x :: ts, i, 0, _, h => by simp only [rowsK, Bool.and_eq_true] at h; simpa using h.1
  | x :: ts, i, r + 1, hl, h => by
    simp only [rowsK, Bool.and_eq_true] at h
    have := rows_get es ts (i + 1) r (by simpa using hl) h.2
    rw [show i + 1 + (r : Int) = i + ((r + 1 : Nat) : Int) by omega] at this
    simpa using this
/-! ### the drawn area is right -/
def Z3 : S174 := ⟨0, 0, 0⟩
/-- An entry that can be the table's, its age at most m. -/
def EK (m : Int) (es : List S104) (r d : Int) (x : S174) : Prop :=
  (r = d → x.f0 = 0 ∧ x.f1 = r ∧ x.f2 = 0) ∧ (r ≠ d → (1 ≤ x.f0 ∧ x.f0 ≤ 16) ∧ (0 ≤ x.f2 ∧ x.f2 ≤ m) ∧ ((x.f1 = -1 ∧ x.f0 = 16 ∧ x.f2 = 0) ∨ (x.f1 ≠ -1 ∧ 0 ≤ fe r x.f1 0 es ∧ (x.f0 = 16 ∨ (List.getD es (Int.toNat (fe r x.f1 0 es)) ⟨0, 0, 0, false⟩).f3 = true))))
theorem eK_iff (es : List S104) (r d : Int) (x : S174) : eK es r d x = true ↔ EK 6 es r d x := by
  unfold eK EK
  by_cases h : r = d
  · simp [h]
  · by_cases h2 : x.f1 = -1
    · simp [h, h2]
    · simp [h, h2]
theorem EK.mono {m m' : Int} (hm : m ≤ m') {es : List S104} {r d : Int} {x : S174} (h : EK m es r d x) : EK m' es r d x :=
  ⟨h.1, fun hd => by obtain ⟨a, b, c⟩ := h.2 hd; exact ⟨a, ⟨b.1, by omega⟩, c⟩⟩
def RK (m : Int) (es : List S104) (r : Nat) (row : List S174) : Prop := ∀ d : Nat, d < row.length → EK m es r d (List.getD row d Z3)
/-- The first p entries' ages are at most m, the others' at most m'. -/
def RM (m m' : Int) (p : Nat) (es : List S104) (r : Nat) (row : List S174) : Prop := ∀ d : Nat, d < row.length → EK (if d < p then m else m') es r d (List.getD row d Z3)
theorem rK_iff (es : List S104) (r : Int) : ∀ (l : List S174) (i : Int), rK es r i l = true ↔ ∀ d : Nat, d < l.length → EK 6 es r (i + d) (List.getD l d Z3)
  | [], i => by simp [rK]
  | x :: l, i => by
    simp only [rK, Bool.and_eq_true, eK_iff, rK_iff es r l (i + 1), List.length_cons]
    constructor
    · rintro ⟨h1, h2⟩ d hd
      cases d with
      | zero => simpa using h1
      | succ d => have := h2 d (by omega); rw [show i + ((d + 1 : Nat) : Int) = i + 1 + (d : Int) by omega]; simpa using this
    · intro h
      refine ⟨by simpa using h 0 (by omega), fun d hd => ?_⟩
      have := h (d + 1) (by omega)
      rw [show i + 1 + (d : Int) = i + ((d + 1 : Nat) : Int) by omega]; simpa using this
theorem getD_setZ (row : List S174) (p d : Nat) (x : S174) (h : p < row.length) : List.getD (row.set p x) d Z3 = if d = p then x else List.getD row d Z3 := getD_set_eq _ _ _ _ _ h
theorem rk_set {m : Int} {es : List S104} {r : Nat} {row : List S174} (h : RK m es r row) {p : Nat} {x : S174} (hx : EK m es r p x) : RK m es r (row.set p x) := by
  intro d hd
  rw [List.length_set] at hd
  by_cases hp : p < row.length
  · rw [getD_setZ _ _ _ _ hp]
    split
    · rename_i e; subst e; exact hx
    · exact h d hd
  · rw [List.set_eq_of_length_le (by omega)]; exact h d hd
theorem rm_set {m m' : Int} {p : Nat} {es : List S104} {r : Nat} {row : List S174} (h : RM m m' p es r row) (hp : p < row.length) {x : S174} (hx : EK m es r p x) : RM m m' (p + 1) es r (row.set p x) := by
  intro d hd
  rw [List.length_set] at hd
  rw [getD_setZ _ _ _ _ hp]
  by_cases e : d = p
  · subst e; rw [if_pos rfl, if_pos (by omega)]; exact hx
  · have := h d hd
    rw [if_neg e]
    by_cases hlt : d < p
    · rw [if_pos hlt] at this; rw [if_pos (by omega)]; exact this
    · rw [if_neg hlt] at this; rw [if_neg (by omega)]; exact this
theorem rm_keep {m m' : Int} {p : Nat} {es : List S104} {r : Nat} {row : List S174} (h : RM m m' p es r row) (hx : EK m es r p (List.getD row p Z3)) : RM m m' (p + 1) es r row := by
  intro d hd
  by_cases e : d = p
  · subst e; rw [if_pos (by omega)]; exact hx
  · have := h d hd
    by_cases hlt : d < p
    · rw [if_pos hlt] at this; rw [if_pos (by omega)]; exact this
    · rw [if_neg hlt] at this; rw [if_neg (by omega)]; exact this
theorem rm_zero {m m' : Int} {es : List S104} {r : Nat} {row : List S174} (h : RK m' es r row) : RM m m' 0 es r row := fun d hd => by rw [if_neg (by omega)]; exact h d hd
theorem rm_all {m m' : Int} {p : Nat} {es : List S104} {r : Nat} {row : List S174} (h : RM m m' p es r row) (hp : p = row.length) : RK m es r row := fun d hd => by have := h d hd; rwa [if_pos (by omega)] at this
theorem rm_at {m m' : Int} {p : Nat} {es : List S104} {r : Nat} {row : List S174} (h : RM m m' p es r row) (hp : p < row.length) : EK m' es r p (List.getD row p Z3) := by have := h p hp; rwa [if_neg (by omega)] at this
/-! l06Age -/
theorem set_get (row : List S174) (d : Nat) (y : S174) (h : d < row.length) : List.getD (row.set d y) d ⟨0, 0, 0⟩ = y := by rw [getD_set_eq _ _ _ _ _ h, if_pos rfl]
theorem age_run (k : Nat) {n : Int} {es : List S104} (hE : ∀ e ∈ es, eo n e) (r : Nat) : ∀ (t d j : Nat) (row : List S174), d + t = row.length → t < j → row.length ≤ 1000 → RM 6 7 d es r row →
    ∃ row', f202.l1 k j (r : Int) (d : Int) row = some row' ∧ row'.length = row.length ∧ RK 6 es r row' := by
  intro t
  induction t with
  | zero =>
    intro d j row hd hj _ h
    obtain ⟨j, rfl⟩ : ∃ j', j = j' + 1 := ⟨j - 1, by omega⟩
    simp only [f202.l1, f202.l1.step]
    rw [if_neg (fb (by omega))]
    exact ⟨row, rfl, rfl, rm_all h (by omega)⟩
  | succ t ih =>
    intro d j row hd hj hl h
    obtain ⟨j, rfl⟩ : ∃ j', j = j' + 1 := ⟨j - 1, by omega⟩
    have hlt : (d : Int) < (row.length : Int) := by omega
    have hdl : d < row.length := by omega
    have hp : (0 : Int) ≤ (d : Int) := by omega
    have hw : IntKind.i64.wrap ((d : Int) + 1) = ((d + 1 : Nat) : Int) := by rw [w64 (by omega) (by omega)]; omega
    have hx := rm_at h hdl
    have hz : List.getD row d ⟨0, 0, 0⟩ = List.getD row d Z3 := rfl
    have hg := fun y => set_get row d y hdl
    have keep := fun (e : EK 6 es r d (List.getD row d Z3)) => ih (d + 1) j row (by omega) (by omega) hl (rm_keep h e)
    have put := fun (x : S174) (e : EK 6 es r d x) => ih (d + 1) j (row.set d x) (by simp; omega) (by omega) (by simpa using hl) (rm_set h hdl e)
    simp only [List.length_set] at put
    simp only [f202.l1, f202.l1.step, hlt, hp, hw, Int.toNat_natCast, hz, hg, List.length_set, if_true, decide_true]
    generalize List.getD row d Z3 = x at *
    by_cases c0 : (d : Int) = (r : Int)
    · rw [if_neg (by simpa using c0)]
      exact keep ⟨hx.1, fun hn => absurd c0.symm hn⟩
    rw [if_pos (ff c0)]
    have nr : ¬ (r : Int) = (d : Int) := fun e => c0 e.symm
    obtain ⟨h0, h2, h1⟩ := hx.2 nr
    have hv : x.f1 = -1 ∨ 0 ≤ x.f1 := by
      rcases h1 with h1 | ⟨_, h1, _⟩
      · exact .inl h1.1
      · exact .inr (fe_range hE h1).1
    by_cases c1 : x.f1 < 0
    · rw [if_pos (tb c1)]
      rcases h1 with h1 | h1
      · exact keep ⟨fun e => absurd e nr, fun _ => ⟨h0, by omega, .inl h1⟩⟩
      · omega
    rw [if_neg (fb c1)]
    rcases h1 with h1 | ⟨h1, hf, hu⟩
    · omega
    by_cases c2 : x.f2 ≥ 4
    · rw [if_pos (tb c2)]
      by_cases c3 : x.f0 < 16
      · rw [if_pos (tb c3), if_neg (fb (by omega))]
        exact put _ ⟨fun e => absurd e nr, fun _ => ⟨by simp, by simp, .inr ⟨h1, hf, .inl rfl⟩⟩⟩
      · rw [if_neg (fb c3)]
        by_cases c4 : x.f2 > 6
        · rw [if_pos (tb c4)]
          exact put _ ⟨fun e => absurd e nr, fun _ => ⟨by simp, by simp, .inl ⟨rfl, rfl, rfl⟩⟩⟩
        · rw [if_neg (fb c4)]
          exact keep ⟨fun e => absurd e nr, fun _ => ⟨h0, by omega, .inr ⟨h1, hf, hu⟩⟩⟩
    · rw [if_neg (fb c2), if_neg (fb (by omega))]
      exact keep ⟨fun e => absurd e nr, fun _ => ⟨h0, by omega, .inr ⟨h1, hf, hu⟩⟩⟩
/-! l06Hear -/
theorem hear_run (k : Nat) {es : List S104} (r : Nat) (v c : Int) (told : List Int) (hv : v ≠ -1) (hf : 0 ≤ fe r v 0 es) (hu : (List.getD es (Int.toNat (fe r v 0 es)) ⟨0, 0, 0, false⟩).f3 = true) (hc : 1 ≤ c ∧ c ≤ 16) (ht : ∀ i : Nat, i < told.length → 0 ≤ List.getD told i 0 ∧ List.getD told i 0 ≤ 16) :
    ∀ (t d j : Nat) (row : List S174), d + t = row.length → t < j → row.length ≤ 1000 → told.length = row.length → RK 7 es r row →
    ∃ row', f200.l1 k j (r : Int) v c told (d : Int) row = some row' ∧ row'.length = row.length ∧ RK 7 es r row' := by
  intro t
  induction t with
  | zero =>
    intro d j row hd hj _ _ h
    obtain ⟨j, rfl⟩ : ∃ j', j = j' + 1 := ⟨j - 1, by omega⟩
    simp only [f200.l1, f200.l1.step]
    rw [if_neg (fb (by omega))]
    exact ⟨row, rfl, rfl, h⟩
  | succ t ih =>
    intro d j row hd hj hl hq h
    obtain ⟨j, rfl⟩ : ∃ j', j = j' + 1 := ⟨j - 1, by omega⟩
    have hlt : (d : Int) < (row.length : Int) := by omega
    have hlq : (d : Int) < (told.length : Int) := by omega
    have hdl : d < row.length := by omega
    have hp : (0 : Int) ≤ (d : Int) := by omega
    have hw : IntKind.i64.wrap ((d : Int) + 1) = ((d + 1 : Nat) : Int) := by rw [w64 (by omega) (by omega)]; omega
    have hx := h d hdl
    have hz : List.getD row d ⟨0, 0, 0⟩ = List.getD row d Z3 := rfl
    have keep := ih (d + 1) j row (by omega) (by omega) hl hq h
    have put := fun (x : S174) (e : EK 7 es r d x) => ih (d + 1) j (row.set d x) (by simp; omega) (by omega) (by simpa using hl) (by simpa using hq) (rk_set h e)
    simp only [List.length_set] at put
    have htd := ht d (by omega)
    have hm : IntKind.i64.wrap (List.getD told d 0 + c) = List.getD told d 0 + c := w64 (by omega) (by omega)
    simp only [f200.l1, f200.l1.step, hlt, hlq, hp, hw, Int.toNat_natCast, hz, hm, if_true, decide_true]
    have hmb : 1 ≤ (if List.getD told d 0 + c < 16 then List.getD told d 0 + c else 16) ∧ (if List.getD told d 0 + c < 16 then List.getD told d 0 + c else 16) ≤ 16 := by split <;> omega
    generalize (if List.getD told d 0 + c < 16 then List.getD told d 0 + c else 16) = m at *
    generalize List.getD row d Z3 = x at *
    by_cases c0 : (d : Int) = (r : Int)
    · rw [if_pos (tb c0)]; exact keep
    rw [if_neg (fb c0)]
    have nr : ¬ (r : Int) = (d : Int) := fun e => c0 e.symm
    obtain ⟨h0, h2, h1⟩ := hx.2 nr
    by_cases c1 : x.f1 = v
    · rw [if_pos (tb c1)]
      by_cases c2 : m = 16
      · rw [if_pos (tb c2)]
        exact put _ ⟨fun e => absurd e nr, fun _ => ⟨hmb, h2, .inr ⟨hv, hf, .inr hu⟩⟩⟩
      · rw [if_neg (fb c2)]
        exact put _ ⟨fun e => absurd e nr, fun _ => ⟨hmb, by simp, .inr ⟨hv, hf, .inr hu⟩⟩⟩
    rw [if_neg (fb c1)]
    by_cases c2 : m < x.f0
    · rw [if_pos (tb c2)]
      exact put _ ⟨fun e => absurd e nr, fun _ => ⟨hmb, by simp, .inr ⟨hv, hf, .inr hu⟩⟩⟩
    · rw [if_neg (fb c2)]; exact keep
/-! l06Round -/
/-- A table that is right: n rows of n entries. -/
def TB (es : List S104) (n : Nat) (ts : List (List S174)) : Prop := ts.length = n ∧ ∀ r, r < n → (List.getD ts r []).length = n ∧ RK 6 es r (List.getD ts r [])
theorem tb_set {es : List S104} {n : Nat} {M : List (List S174)} (h : TB es n M) {r : Nat} (hr : r < n) {row : List S174} (hl : row.length = n) (hk : RK 6 es r row) : TB es n (M.set r row) := by
  refine ⟨by simp [h.1], fun i hi => ?_⟩
  rw [getD_set_eq _ _ _ _ _ (by rw [h.1]; exact hr)]
  split
  · rename_i e; subst e; exact ⟨hl, hk⟩
  · exact h.2 i hi
theorem set_f2 (row : List S174) (d : Nat) (a : Int) : set174 row d 2 [.s (.int .i64 a)] = row.set d ⟨(List.getD row d Z3).f0, (List.getD row d Z3).f1, a⟩ := rfl
theorem l6_run (k : Nat) {es : List S104} (n : Nat) (hn : n ≤ 1000) (lost : List Bool) (r : Nat) (hr : r < n) (es0 : List S104) (ts0 : List (List S174)) (n0 a : Int) (M : List (List S174)) (hM : M.length = n) :
    ∀ (t d j : Nat) (row : List S174), d + t = n → row.length = n → t < j → RM 7 6 d es r row →
    ∃ row', f195.l6 k j lost (r : Int) (d : Int) es0 ts0 n0 a es (M.set r row) (n : Int) = some (lost, (r : Int), es0, ts0, n0, a, es, M.set r row', (n : Int)) ∧ row'.length = n ∧ RK 7 es r row' := by
  intro t
  induction t with
  | zero =>
    intro d j row hd hl hj h
    obtain ⟨j, rfl⟩ : ∃ j', j = j' + 1 := ⟨j - 1, by omega⟩
    simp only [f195.l6, f195.l6.step]
    rw [if_neg (fb (by omega))]
    exact ⟨row, rfl, hl, rm_all h (by omega)⟩
  | succ t ih =>
    intro d j row hd hl hj h
    obtain ⟨j, rfl⟩ : ∃ j', j = j' + 1 := ⟨j - 1, by omega⟩
    have hlt : (d : Int) < (n : Int) := by omega
    have hdl : d < row.length := by omega
    have hdi : (d : Int) < (row.length : Int) := by omega
    have hp : (0 : Int) ≤ (d : Int) := by omega
    have hr0 : (0 : Int) ≤ (r : Int) := by omega
    have hr1 : (r : Int) < ((M.set r row).length : Int) := by simp [hM]; exact hr
    have hw : IntKind.i64.wrap ((d : Int) + 1) = ((d + 1 : Nat) : Int) := by rw [w64 (by omega) (by omega)]; omega
    have hx := rm_at h hdl
    have hz : List.getD row d ⟨0, 0, 0⟩ = List.getD row d Z3 := rfl
    have hg : List.getD (M.set r row) r [] = row := by rw [getD_set_eq _ _ _ _ _ (by omega), if_pos rfl]
    have keep := fun (e : EK 7 es r d (List.getD row d Z3)) => ih (d + 1) j row (by omega) hl (by omega) (rm_keep h e)
    have put := fun (x : S174) (e : EK 7 es r d x) => ih (d + 1) j (row.set d x) (by omega) (by simpa using hl) (by omega) (rm_set h hdl e)
    simp only [f195.l6, f195.l6.step, hlt, hp, hr0, hr1, hw, Int.toNat_natCast, hg, hdl, hdi, hz, set_f2, List.set_set, if_true, decide_true]
    generalize List.getD row d Z3 = x at *
    by_cases c0 : (d : Int) = (r : Int)
    · rw [if_neg (fb (by simpa using c0))]
      exact keep ⟨hx.1, fun hn => absurd c0.symm hn⟩
    rw [if_pos (tb c0)]
    have nr : ¬ (r : Int) = (d : Int) := fun e => c0 e.symm
    obtain ⟨h0, h2, h1⟩ := hx.2 nr
    have hw2 : IntKind.i64.wrap (x.f2 + 1) = x.f2 + 1 := w64 (by omega) (by omega)
    by_cases c1 : x.f1 ≥ 0
    · rw [if_pos (tb c1), hw2]
      refine put _ ⟨fun e => absurd e nr, fun _ => ⟨h0, by simp only; omega, ?_⟩⟩
      rcases h1 with h1 | h1
      · omega
      · exact .inr h1
    · rw [if_neg (fb c1)]
      exact keep (hx.mono (by omega))
theorem fe_ne {n : Int} {es : List S104} (hE : ∀ e ∈ es, eo n e) {r v : Int} (h : 0 ≤ fe r v 0 es) : r ≠ v := by
  have h1 := fe_any r v es 0 (by omega)
  rw [tb h] at h1
  obtain ⟨e, he, hc⟩ := List.any_eq_true.mp h1.symm
  have := hE e he
  simp only [eo] at this
  simp only [conn, Bool.or_eq_true, Bool.and_eq_true, decide_eq_true_eq] at hc
  omega
theorem getD_mem {α : Type} {l : List α} {i : Nat} (h : i < l.length) (d : α) : List.getD l i d ∈ l := by
  rw [List.getD_eq_getElem?_getD, List.getElem?_eq_getElem h]; simp
theorem set_self {α : Type} (M : List (List α)) (r : Nat) : M.set r (List.getD M r []) = M := by
  apply List.ext_getElem (by simp)
  intro i h1 h2
  rw [List.getElem_set]
  split
  · rename_i e; subst e; simp [List.getD_eq_getElem?_getD, h2]
  · rfl
theorem advert_run (k : Nat) (hK : 2097152 ≤ k) {es : List S104} {n : Nat} (hn : n ≤ 5) {ts : List (List S174)} (h : TB es n ts) {v : Nat} (hv : v < n) {r : Nat} (hvr : (v : Int) ≠ (r : Int)) :
    ∃ told, f201 k es ts (n : Int) (v : Int) (r : Int) = some told ∧ told.length = n ∧ ∀ i : Nat, i < told.length → 0 ≤ List.getD told i 0 ∧ List.getD told i 0 ≤ 16 := by
  obtain ⟨hl, hk⟩ := h.2 v hv
  have hrk : rK es (v : Int) 0 (List.getD ts v []) = true := by
    rw [rK_iff]; intro d hd; have := hk d hd; simpa using this
  have e := spec_adv k hK es ts (n : Int) v (by rw [h.1]; exact hv) _ rfl (by omega) (by omega) (r : Int) hvr hrk (List.getD ts v []) [] k rfl hrk (by omega)
  refine ⟨(List.getD ts v []).map (adv r), ?_, by simpa using hl, fun i hi => ?_⟩
  · have e0 : f201.l3 k k (v : Int) (r : Int) 0 es ts (n : Int) [] = some ((List.getD ts v []).map (adv r)) := e
    simp only [f201, f201.step, e0, Option.bind_some]
  · have hi' : i < (List.getD ts v []).length := by simpa using hi
    have hx := hk i hi'
    have : List.getD ((List.getD ts v []).map (adv r)) i 0 = adv r (List.getD (List.getD ts v []) i Z3) := by
      simp only [List.getD_eq_getElem?_getD, List.getElem?_map]
      rw [List.getElem?_eq_getElem (by simpa [List.getD_eq_getElem?_getD] using hi')]; simp
    rw [this]
    generalize List.getD (List.getD ts v []) i Z3 = x at *
    unfold adv
    split
    · omega
    · by_cases c : (v : Int) = (i : Int)
      · have := hx.1 c; omega
      · have := (hx.2 c).1; omega
theorem bit_run (k : Nat) (b : Bool) : ∃ w : Int, f162 k b 1 = some w ∧ 0 ≤ w ∧ w ≤ 1 := by
  cases b
  · exact ⟨0, rfl, by omega, by omega⟩
  · exact ⟨1, rfl, by omega, by omega⟩
theorem l12_run' (k : Nat) (hK : 2097152 ≤ k) {es : List S104} (n : Nat) (hn : n ≤ 5) (hel : es.length ≤ 1000) (hE : ∀ e ∈ es, eo n e) (lost : List Bool) (r : Nat) (hr : r < n) (ts0 : List (List S174)) (h0 : TB es n ts0) (a : Int) (M : List (List S174)) (hM : M.length = n) :
    ∀ (t v j : Nat) (row : List S174), v + t = n → row.length = n → t < j → RK 7 es r row →
    ∃ row', f195.l12 k j lost (r : Int) (v : Int) es ts0 (n : Int) a es (M.set r row) (n : Int) = some (lost, (r : Int), es, ts0, (n : Int), a, es, M.set r row', (n : Int)) ∧ row'.length = n ∧ RK 7 es r row' := by
  intro t
  induction t with
  | zero =>
    intro d j row hd hl hj h
    obtain ⟨j, rfl⟩ : ∃ j', j = j' + 1 := ⟨j - 1, by omega⟩
    simp only [f195.l12, f195.l12.step]
    rw [if_neg (fb (by omega))]
    exact ⟨row, rfl, hl, h⟩
  | succ t ih =>
    intro v j row hd hl hj h
    obtain ⟨j, rfl⟩ : ∃ j', j = j' + 1 := ⟨j - 1, by omega⟩
    have hlt : (v : Int) < (n : Int) := by omega
    have hr0 : (0 : Int) ≤ (r : Int) := by omega
    have hr1 : (r : Int) < ((M.set r row).length : Int) := by simp [hM]; exact hr
    have hw : IntKind.i64.wrap ((v : Int) + 1) = ((v + 1 : Nat) : Int) := by rw [w64 (by omega) (by omega)]; omega
    have hg : List.getD (M.set r row) r [] = row := by rw [getD_set_eq _ _ _ _ _ (by omega), if_pos rfl]
    have keep := ih (v + 1) j row (by omega) hl (by omega) h
    have put := fun (row' : List S174) (h1 : row'.length = n) (h2 : RK 7 es r row') => ih (v + 1) j row' (by omega) h1 (by omega) h2
    simp only [f195.l12, f195.l12.step, find_spec k hK _ _ es hel, hlt, hr0, hr1, hw, Int.toNat_natCast, hg, List.set_set, Option.bind_some, if_true, decide_true]
    by_cases c0 : fe (r : Int) (v : Int) 0 es < 0
    · rw [if_neg (by simp [c0])]; exact keep
    rw [if_pos (ff c0)]
    have hf : 0 ≤ fe (r : Int) (v : Int) 0 es := by omega
    have hf1 : fe (r : Int) (v : Int) 0 es < (es.length : Int) := by have := fe_lt (r : Int) (v : Int) es 0 (by omega); omega
    have hne := fe_ne hE hf
    have hmem : List.getD es (Int.toNat (fe (r : Int) (v : Int) 0 es)) ⟨0, 0, 0, false⟩ ∈ es := getD_mem (by omega) _
    have hx := hE _ hmem
    have hear := fun (told : List Int) (hu : (List.getD es (Int.toNat (fe (r : Int) (v : Int) 0 es)) ⟨0, 0, 0, false⟩).f3 = true) (h1 : told.length = n) (h2 : ∀ i : Nat, i < told.length → 0 ≤ List.getD told i 0 ∧ List.getD told i 0 ≤ 16) => hear_run k r (v : Int) _ told (by omega) hf hu hx.2.2.2 h2 n 0 k row (by omega) (by omega) (by omega) (by omega) h
    simp only [hf, hf1, if_true]
    generalize hi : fe (r : Int) (v : Int) 0 es = i at *
    generalize hxe : List.getD es (Int.toNat i) ⟨0, 0, 0, false⟩ = x at *
    by_cases c1 : x.f3 = true
    case neg =>
      rw [if_pos (by simpa using c1)]; exact keep
    rw [if_neg (by simp [c1])]
    obtain ⟨w, hb, hb0, hb1⟩ := bit_run k (decide (x.f0 = (r : Int)))
    have hw1 : IntKind.i64.wrap (2 * i) = 2 * i := w64 (by omega) (by omega)
    have hw2 : IntKind.i64.wrap (2 * i + w) = 2 * i + w := w64 (by omega) (by omega)
    have hw0 : 0 ≤ 2 * i + w := by omega
    obtain ⟨told, ha, ha1, ha2⟩ := advert_run k hK hn h0 (v := v) (by omega) (r := r) (fun e => hne e.symm)
    obtain ⟨row', hh, hh1, hh2⟩ := hear told c1 ha1 ha2
    have hh' : f200 k row (r : Int) (v : Int) x.f2 told = some row' := by
      have : f200.l1 k k (r : Int) (v : Int) x.f2 told 0 row = some row' := hh
      simp only [f200, f200.step, this, Option.bind_some]
    simp only [hb, hw1, hw2, hw0, ha, hh', Option.bind_some, if_true]
    by_cases c2 : 2 * i + w < (lost.length : Int)
    · rw [if_pos (tb c2), if_pos c2]
      split
      · exact keep
      · exact put row' (by omega) hh2
    · rw [if_neg (fb c2)]
      exact put row' (by omega) hh2
theorem rounds_run (k : Nat) (hK : 2097152 ≤ k) {es : List S104} (n : Nat) (hn : n ≤ 5) (hel : es.length ≤ 1000) (hE : ∀ e ∈ es, eo n e) (lost : List Bool) (ts0 : List (List S174)) (h0 : TB es n ts0) (a : Int) :
    ∀ (t r j : Nat) (M : List (List S174)), r + t = n → t < j → TB es n M →
    ∃ M', f195.l3 k j lost (r : Int) es ts0 (n : Int) a es M (n : Int) = some (a, es, M', (n : Int)) ∧ TB es n M' := by
  intro t
  induction t with
  | zero =>
    intro r j M hd hj h
    obtain ⟨j, rfl⟩ : ∃ j', j = j' + 1 := ⟨j - 1, by omega⟩
    simp only [f195.l3, f195.l3.step]
    rw [if_neg (fb (by omega))]
    exact ⟨M, rfl, h⟩
  | succ t ih =>
    intro r j M hd hj h
    obtain ⟨j, rfl⟩ : ∃ j', j = j' + 1 := ⟨j - 1, by omega⟩
    have hr : r < n := by omega
    have hlt : (r : Int) < (n : Int) := by omega
    have hr0 : (0 : Int) ≤ (r : Int) := by omega
    have hw : IntKind.i64.wrap ((r : Int) + 1) = ((r + 1 : Nat) : Int) := by rw [w64 (by omega) (by omega)]; omega
    obtain ⟨hl, hk⟩ := h.2 r hr
    obtain ⟨r1, e1, l1, k1⟩ := l6_run k n (by omega) lost r hr es ts0 (n : Int) a M h.1 n 0 k (List.getD M r []) (by omega) hl (by omega) (rm_zero hk)
    obtain ⟨r2, e2, l2, k2⟩ := l12_run' k hK n hn hel hE lost r hr ts0 h0 a M h.1 n 0 k r1 (by omega) l1 (by omega) k1
    obtain ⟨r3, e3, l3, k3⟩ := age_run k hE r n 0 k r2 (by omega) (by omega) (by omega) (rm_zero k2)
    have e3' : f202 k r2 (r : Int) = some r3 := by
      have : f202.l1 k k (r : Int) 0 r2 = some r3 := e3
      simp only [f202, f202.step, this, Option.bind_some]
    rw [set_self] at e1
    have e1' : f195.l6 k k lost (r : Int) 0 es ts0 (n : Int) a es M (n : Int) = some (lost, (r : Int), es, ts0, (n : Int), a, es, M.set r r1, (n : Int)) := e1
    have e2' : f195.l12 k k lost (r : Int) 0 es ts0 (n : Int) a es (M.set r r1) (n : Int) = some (lost, (r : Int), es, ts0, (n : Int), a, es, M.set r r2, (n : Int)) := e2
    have hr1 : (r : Int) < ((M.set r r2).length : Int) := by simp [h.1]; exact hr
    have hg : List.getD (M.set r r2) r [] = r2 := by rw [getD_set_eq _ _ _ _ _ (by rw [h.1]; exact hr), if_pos rfl]
    simp only [f195.l3, f195.l3.step, hlt, hr0, hw, e1', e2', hr1, Int.toNat_natCast, hg, e3', List.set_set, Option.bind_some, if_true, decide_true]
    exact ih (r + 1) j (M.set r r3) (by omega) (by omega) (tb_set h hr (by omega) k3)
/-! l06Own -/
theorem own_loop (k : Nat) (es : List S104) (ts : List (List S174)) (n : Int) (htl : ts.length ≤ 1000) (hts : ∀ x ∈ ts, x.length ≤ 1000) : ∀ (rest pre : List (List S174)) (j : Nat), ts = pre ++ rest → rest.length < j →
    f181.l3 k j (pre.length : Int) es ts n 0 es n pre = some (0, es, n, ts) := by
  have hm : maxN = 140737488351232 := by decide
  intro rest
  induction rest with
  | nil =>
    intro pre j he hj
    obtain ⟨j, rfl⟩ : ∃ j', j = j' + 1 := ⟨j - 1, by omega⟩
    simp only [List.append_nil] at he
    simp only [f181.l3, f181.l3.step]
    rw [if_neg (fb (by rw [← he]; omega)), he]
  | cons x rest ih =>
    intro pre j he hj
    obtain ⟨j, rfl⟩ : ∃ j', j = j' + 1 := ⟨j - 1, by omega⟩
    have hlt : (pre.length : Int) < (ts.length : Int) := by rw [he]; exact lt_mid _ _ _
    have hp : (0 : Int) ≤ (pre.length : Int) := by omega
    have hg : ∀ d, ts.getD (Int.toNat (pre.length : Int)) d = x := fun d => by rw [he]; exact gm _ _ _ _
    have hxl := hts x (by rw [he]; simp)
    have hlen : pre.length + rest.length + 1 = ts.length := by rw [he]; simp; omega
    have hw := wnext pre x (by omega)
    have g1 : (([] : List S174).length + x.length) * 24 ≤ maxN := by simp; omega
    have g2 : (pre.length + ([[] ++ x] : List (List S174)).length) * 24 ≤ maxN := by simp; omega
    simp only [f181.l3, f181.l3.step, hlt, hp, hg, hw, g1, g2, if_true, decide_true]
    exact ih (pre ++ [x]) j (by rw [he]; simp) (by simp at hj; omega)
theorem own_run (k : Nat) (hK : 2097152 ≤ k) (es : List S104) (ts : List (List S174)) (n : Int) (hel : es.length ≤ 1000) (htl : ts.length ≤ 1000) (hts : ∀ x ∈ ts, x.length ≤ 1000) : f181 k es ts n = some (es, ts, n) := by
  have hm : maxN = 140737488351232 := by decide
  have e : f181.l3 k k 0 es ts n 0 ([] ++ es) n [] = some (0, es, n, ts) := own_loop k es ts n htl hts ts [] k rfl (by omega)
  have g : (([] : List S104).length + es.length) * 32 ≤ maxN := by simp; omega
  simp only [f181, f181.step, e, g, Option.bind_some, if_true]
theorem tb_mem {es : List S104} {n : Nat} (hn : n ≤ 5) {ts : List (List S174)} (h : TB es n ts) : ∀ x ∈ ts, x.length ≤ 1000 := by
  intro x hx
  obtain ⟨i, hi, rfl⟩ := List.mem_iff_getElem.1 hx
  have := (h.2 i (by rw [← h.1]; exact hi)).1
  simp only [List.getD_eq_getElem?_getD, List.getElem?_eq_getElem hi, Option.getD_some] at this
  omega
theorem own_tb (k : Nat) (hK : 2097152 ≤ k) {es : List S104} {n : Nat} (hn : n ≤ 5) (hel : es.length ≤ 1000) {ts : List (List S174)} (h : TB es n ts) : f181 k es ts (n : Int) = some (es, ts, (n : Int)) :=
  own_run k hK es ts n hel (by rw [h.1]; omega) (tb_mem hn h)
theorem round_run (k : Nat) (hK : 2097152 ≤ k) {es : List S104} (n : Nat) (hn : n ≤ 5) (hel : es.length ≤ 1000) (hE : ∀ e ∈ es, eo n e) (lost : List Bool) (ts : List (List S174)) (h : TB es n ts) :
    ∃ M', f195 k es ts (n : Int) lost = some (es, M', (n : Int)) ∧ TB es n M' := by
  obtain ⟨M', e, hM⟩ := rounds_run k hK n hn hel hE lost ts h 0 n 0 k ts (by omega) (by omega) h
  have e' : f195.l3 k k lost 0 es ts (n : Int) 0 es ts (n : Int) = some (0, es, M', (n : Int)) := e
  exact ⟨M', by simp only [f195, f195.step, own_tb k hK hn hel h, e', Option.bind_some], hM⟩
/-! l06Cut -/
def ent (M : List (List S174)) (r d : Nat) : S174 := List.getD (List.getD M r []) d Z3
def cu (M : List (List S174)) (r d : Nat) (v : Int) : List (List S174) :=
  if (d ≠ r ∧ (ent M r d).f1 = v) ∧ (ent M r d).f0 < 16 then M.set r ((List.getD M r []).set d ⟨16, (ent M r d).f1, 0⟩) else M
theorem ent_set {M : List (List S174)} {r d : Nat} (hr : r < M.length) (hd : d < (List.getD M r []).length) (x : S174) (a b : Nat) :
    ent (M.set r ((List.getD M r []).set d x)) a b = if a = r ∧ b = d then x else ent M a b := by
  unfold ent
  rw [getD_set_eq _ _ _ _ _ hr]
  by_cases e : a = r
  · subst e
    rw [if_pos rfl, getD_set_eq _ _ _ _ _ hd]
    by_cases e2 : b = d
    · subst e2; simp
    · rw [if_neg e2, if_neg (fun h => e2 h.2)]
  · rw [if_neg e, if_neg (fun h => e h.1)]
theorem cu_ok {es : List S104} {n : Nat} {M : List (List S174)} (h : TB es n M) {r d : Nat} (hr : r < n) (hd : d < n) (v : Int) :
    TB es n (cu M r d v) ∧ (d ≠ r → (ent (cu M r d v) r d).f1 = v → (ent (cu M r d v) r d).f0 = 16) ∧ ∀ a b, ¬ (a = r ∧ b = d) → ent (cu M r d v) a b = ent M a b := by
  obtain ⟨hl, hk⟩ := h.2 r hr
  have hx : EK 6 es r d (ent M r d) := hk d (by omega)
  unfold cu
  split
  · rename_i c
    obtain ⟨h0, h2, h1⟩ := hx.2 (by omega)
    refine ⟨tb_set h hr (by simpa using hl) (rk_set hk ⟨fun e => absurd e (by omega), fun _ => ⟨by simp, by simp, ?_⟩⟩), fun _ _ => ?_, fun a b hab => ?_⟩
    · rcases h1 with h1 | ⟨h1, h3, _⟩
      · omega
      · exact .inr ⟨h1, h3, .inl rfl⟩
    · rw [ent_set (by rw [h.1]; exact hr) (by omega), if_pos ⟨rfl, rfl⟩]
    · rw [ent_set (by rw [h.1]; exact hr) (by omega), if_neg hab]
  · rename_i c
    refine ⟨h, fun h1 h2 => ?_, fun _ _ _ => rfl⟩
    have := (hx.2 (by omega)).1
    by_cases c2 : (ent M r d).f0 < 16
    · exact absurd ⟨⟨h1, h2⟩, c2⟩ c
    · omega
theorem set_f0 (row : List S174) (d : Nat) (a : Int) : set174 row d 0 [.s (.int .i64 a)] = row.set d ⟨a, (List.getD row d Z3).f1, (List.getD row d Z3).f2⟩ := rfl
theorem get_same (M : List (List S174)) {r : Nat} (hr : r < M.length) (row : List S174) : List.getD (M.set r row) r [] = row := by rw [getD_set_eq _ _ _ _ _ hr, if_pos rfl]
theorem get_other (M : List (List S174)) {r s : Nat} (h : s ≠ r) (row : List S174) : List.getD (M.set r row) s [] = List.getD M s [] := by
  by_cases hr : r < M.length
  · rw [getD_set_eq _ _ _ _ _ hr, if_neg h]
  · rw [List.set_eq_of_length_le (by omega)]
theorem set_getZ (row : List S174) (d : Nat) (y : S174) (h : d < row.length) : List.getD (row.set d y) d Z3 = y := set_get row d y h
/-- What the loop is sure of: routes over the edge are 16 so far. -/
def Cut (A B d : Nat) (M : List (List S174)) : Prop := ∀ e : Nat, e < d → (e ≠ A → (ent M A e).f1 = (B : Int) → (ent M A e).f0 = 16) ∧ (e ≠ B → (ent M B e).f1 = (A : Int) → (ent M B e).f0 = 16)
theorem l5_run' (k n : Nat) (hn : n ≤ 5) (es : List S104) (es1 : List S104) {A B : Nat} (hA : A < n) (hB : B < n) (hab : A ≠ B) (a c : Int) (b : Bool) : ∀ (t d j : Nat) (M : List (List S174)), d + t = n → t < j → TB es n M → Cut A B d M →
    ∃ M', f196.l5 k j (d : Int) a es1 M (n : Int) (A : Int) (B : Int) c b = some (a, es1, M', (n : Int)) ∧ TB es n M' ∧ Cut A B n M' := by
  intro t
  induction t with
  | zero =>
    intro d j M hd hj h hc
    obtain ⟨j, rfl⟩ : ∃ j', j = j' + 1 := ⟨j - 1, by omega⟩
    simp only [f196.l5, f196.l5.step]
    rw [if_neg (fb (by omega))]
    obtain rfl : d = n := by omega
    exact ⟨M, rfl, h, hc⟩
  | succ t ih =>
    intro d j M hd hj h hc
    obtain ⟨j, rfl⟩ : ∃ j', j = j' + 1 := ⟨j - 1, by omega⟩
    have hdn : d < n := by omega
    obtain ⟨t1, p1, q1⟩ := cu_ok h hA hdn (B : Int)
    obtain ⟨t2, p2, q2⟩ := cu_ok t1 hB hdn (A : Int)
    have next := ih (d + 1) j _ (by omega) (by omega) t2 (fun e he => by
      by_cases hed : e = d
      · subst hed
        refine ⟨fun h1 => ?_, p2⟩
        rw [q2 A e (fun h => hab h.1)]; exact p1 h1
      · rw [q2 A e (fun h => hed h.2), q1 A e (fun h => hed h.2), q2 B e (fun h => hed h.2), q1 B e (fun h => hed h.2)]
        exact hc e (by omega))
    have hlt : (d : Int) < (n : Int) := by omega
    have hp : (0 : Int) ≤ (d : Int) := by omega
    have hA0 : (0 : Int) ≤ (A : Int) := by omega
    have hB0 : (0 : Int) ≤ (B : Int) := by omega
    have hl := h.1
    have hA1 : (A : Int) < (M.length : Int) := by omega
    have hB1 : (B : Int) < (M.length : Int) := by omega
    have hAl := (h.2 A hA).1
    have hBl := (h.2 B hB).1
    have hda : d < (List.getD M A []).length := by omega
    have hdb : d < (List.getD M B []).length := by omega
    have hda' : (d : Int) < ((List.getD M A []).length : Int) := by omega
    have hdb' : (d : Int) < ((List.getD M B []).length : Int) := by omega
    have hw : IntKind.i64.wrap ((d : Int) + 1) = ((d + 1 : Nat) : Int) := by rw [w64 (by omega) (by omega)]; omega
    have gA := fun row => get_same M (r := A) (by omega) row
    have gB := fun row => get_same M (r := B) (by omega) row
    have gBA := fun row => get_other M (r := A) (s := B) (fun h => hab h.symm) row
    have gAl : ∀ row, A < (M.set A row).length := fun row => by simp; omega
    have gBl : ∀ row, B < (M.set A row).length := fun row => by simp; omega
    have gB' := fun row row' => get_same (M.set A row) (r := B) (gBl row) row'
    have zA := fun y => set_getZ (List.getD M A []) d y hda
    have zB := fun y => set_getZ (List.getD M B []) d y hdb
    have hz : ∀ row : List S174, List.getD row d ⟨0, 0, 0⟩ = List.getD row d Z3 := fun _ => rfl
    simp only [f196.l5, f196.l5.step, hlt, hp, hA0, hB0, hA1, hB1, hw, Int.toNat_natCast, hz, set_f0, set_f2, List.length_set, List.set_set, gA, gB, gBA, gB', zA, zB, hda, hdb, hda', hdb', if_true, decide_true]
    simp only [cu, ent] at next
    by_cases c1 : d = A
    · subst c1
      have c2 : ¬ (d : Int) = (B : Int) := by omega
      have c2' : d ≠ B := by omega
      simp only [ne_eq, not_true_eq_false, false_and, if_false] at next
      simp only [ne_eq, not_true_eq_false, decide_false, Bool.false_eq_true, if_false, c2, not_false_eq_true, decide_true, if_true]
      simp only [ne_eq, c2', not_false_eq_true, true_and] at next
      by_cases c3 : (List.getD (List.getD M B []) d Z3).f1 = (d : Int)
      · by_cases c4 : (List.getD (List.getD M B []) d Z3).f0 < 16
        · rw [if_pos ⟨c3, c4⟩] at next
          rw [if_pos (tb c3), if_pos (tb c4)]; exact next
        · rw [if_neg (fun h => c4 h.2)] at next
          rw [if_pos (tb c3), if_neg (fb c4)]; exact next
      · rw [if_neg (fun h => c3 h.1)] at next
        rw [if_neg (fb c3)]; exact next
    have c1' : ¬ (d : Int) = (A : Int) := by omega
    by_cases c3 : (List.getD (List.getD M A []) d Z3).f1 = (B : Int)
    · by_cases c4 : (List.getD (List.getD M A []) d Z3).f0 < 16
      · simp only [c1, c3, c4, ne_eq, not_false_eq_true, not_true_eq_false, and_false, false_and, and_true, true_and, and_self, if_true, if_false] at next
        simp only [gBA] at next
        simp only [ne_eq, c1', not_false_eq_true, decide_true, if_true, c3, c4]
        by_cases c2 : d = B
        · have c2' : (d : Int) = (B : Int) := by omega
          simp only [show (d = B) = True from eq_true c2, ne_eq, not_false_eq_true, not_true_eq_false, and_false, false_and, and_true, true_and, and_self, if_true, if_false] at next
          simp only [c2', not_true_eq_false, decide_false, Bool.false_eq_true, if_false]; exact next
        have c2' : ¬ (d : Int) = (B : Int) := by omega
        simp only [c2', not_false_eq_true, decide_true, if_true]
        by_cases c5 : (List.getD (List.getD M B []) d Z3).f1 = (A : Int)
        · by_cases c6 : (List.getD (List.getD M B []) d Z3).f0 < 16
          · simp only [c2, c5, c6, ne_eq, not_false_eq_true, not_true_eq_false, and_false, false_and, and_true, true_and, and_self, if_true, if_false] at next
            simp only [c5, c6, decide_true, if_true]
            exact next
          · simp only [c6, ne_eq, not_false_eq_true, not_true_eq_false, and_false, false_and, and_true, true_and, and_self, if_true, if_false] at next
            simp only [c5, c6, decide_true, decide_false, Bool.false_eq_true, if_false, if_true]; exact next
        · simp only [c5, ne_eq, not_false_eq_true, not_true_eq_false, and_false, false_and, and_true, true_and, and_self, if_true, if_false] at next
          simp only [c5, decide_false, Bool.false_eq_true, if_false]; exact next
      · simp only [c4, ne_eq, not_false_eq_true, not_true_eq_false, and_false, false_and, and_true, true_and, and_self, if_true, if_false] at next
        simp only [ne_eq, c1', not_false_eq_true, decide_true, if_true, c3, c4, decide_false, Bool.false_eq_true, if_false]
        by_cases c2 : d = B
        · have c2' : (d : Int) = (B : Int) := by omega
          simp only [show (d = B) = True from eq_true c2, ne_eq, not_false_eq_true, not_true_eq_false, and_false, false_and, and_true, true_and, and_self, if_true, if_false] at next
          simp only [c2', not_true_eq_false, decide_false, Bool.false_eq_true, if_false]; exact next
        have c2' : ¬ (d : Int) = (B : Int) := by omega
        simp only [c2', not_false_eq_true, decide_true, if_true]
        by_cases c5 : (List.getD (List.getD M B []) d Z3).f1 = (A : Int)
        · by_cases c6 : (List.getD (List.getD M B []) d Z3).f0 < 16
          · simp only [c2, c5, c6, ne_eq, not_false_eq_true, not_true_eq_false, and_false, false_and, and_true, true_and, and_self, if_true, if_false] at next
            simp only [c5, c6, decide_true, if_true]
            exact next
          · simp only [c6, ne_eq, not_false_eq_true, not_true_eq_false, and_false, false_and, and_true, true_and, and_self, if_true, if_false] at next
            simp only [c5, c6, decide_true, decide_false, Bool.false_eq_true, if_false, if_true]; exact next
        · simp only [c5, ne_eq, not_false_eq_true, not_true_eq_false, and_false, false_and, and_true, true_and, and_self, if_true, if_false] at next
          simp only [c5, decide_false, Bool.false_eq_true, if_false]; exact next
    · simp only [c3, ne_eq, not_false_eq_true, not_true_eq_false, and_false, false_and, and_true, true_and, and_self, if_true, if_false] at next
      simp only [ne_eq, c1', not_false_eq_true, decide_true, if_true, c3, decide_false, Bool.false_eq_true, if_false]
      by_cases c2 : d = B
      · have c2' : (d : Int) = (B : Int) := by omega
        simp only [show (d = B) = True from eq_true c2, ne_eq, not_false_eq_true, not_true_eq_false, and_false, false_and, and_true, true_and, and_self, if_true, if_false] at next
        simp only [c2', not_true_eq_false, decide_false, Bool.false_eq_true, if_false]; exact next
      have c2' : ¬ (d : Int) = (B : Int) := by omega
      simp only [c2', not_false_eq_true, decide_true, if_true]
      by_cases c5 : (List.getD (List.getD M B []) d Z3).f1 = (A : Int)
      · by_cases c6 : (List.getD (List.getD M B []) d Z3).f0 < 16
        · simp only [c2, c5, c6, ne_eq, not_false_eq_true, not_true_eq_false, and_false, false_and, and_true, true_and, and_self, if_true, if_false] at next
          simp only [c5, c6, decide_true, if_true]
          exact next
        · simp only [c6, ne_eq, not_false_eq_true, not_true_eq_false, and_false, false_and, and_true, true_and, and_self, if_true, if_false] at next
          simp only [c5, c6, decide_true, decide_false, Bool.false_eq_true, if_false, if_true]; exact next
      · simp only [c5, ne_eq, not_false_eq_true, not_true_eq_false, and_false, false_and, and_true, true_and, and_self, if_true, if_false] at next
        simp only [c5, decide_false, Bool.false_eq_true, if_false]; exact next
/-! one edge changed -/
def key3 (e : S104) : Int × Int × Int := (e.f0, e.f1, e.f2)
theorem conn_key {x y : S104} (h : key3 x = key3 y) (a b : Int) : conn a b x = conn a b y := by
  simp only [key3, Prod.mk.injEq] at h
  simp only [conn, h.1, h.2.1]
theorem eo_key {x y : S104} (h : key3 x = key3 y) (n : Int) : eo n x ↔ eo n y := by
  simp only [key3, Prod.mk.injEq] at h
  simp only [eo, h.1, h.2.1, h.2.2]
theorem fe_key (a b : Int) : ∀ (l l' : List S104) (i : Int), l.map key3 = l'.map key3 → fe a b i l = fe a b i l'
  | [], [], _, _ => rfl
  | [], _ :: _, _, h => by simp at h
  | _ :: _, [], _, h => by simp at h
  | x :: l, y :: l', i, h => by
    simp only [List.map_cons, List.cons.injEq] at h
    simp only [fe, conn_key h.1, fe_key a b l l' (i + 1) h.2]
theorem any_key (a b : Int) : ∀ (l l' : List S104), l.map key3 = l'.map key3 → l.any (conn a b) = l'.any (conn a b)
  | [], [], _ => rfl
  | [], _ :: _, h => by simp at h
  | _ :: _, [], h => by simp at h
  | x :: l, y :: l', h => by
    simp only [List.map_cons, List.cons.injEq] at h
    simp only [List.any_cons, conn_key h.1, any_key a b l l' h.2]
theorem gE_key (n : Int) : ∀ (l l' pre pre' : List S104), l.map key3 = l'.map key3 → pre.map key3 = pre'.map key3 → gE n pre l = gE n pre' l'
  | [], [], _, _, _, _ => rfl
  | [], _ :: _, _, _, h, _ => by simp at h
  | _ :: _, [], _, _, h, _ => by simp at h
  | x :: l, y :: l', pre, pre', h, hp => by
    simp only [List.map_cons, List.cons.injEq] at h
    have e := h.1
    simp only [key3, Prod.mk.injEq] at e
    simp only [gE, eo_key h.1, any_key _ _ pre pre' hp, e.1, e.2.1, gE_key n l l' (pre ++ [x]) (pre' ++ [y]) h.2 (by simp [hp, h.1])]
theorem set_key (es : List S104) (q : Nat) (b : Bool) : (es.set q ⟨(List.getD es q ⟨0, 0, 0, false⟩).f0, (List.getD es q ⟨0, 0, 0, false⟩).f1, (List.getD es q ⟨0, 0, 0, false⟩).f2, b⟩).map key3 = es.map key3 := by
  apply List.ext_getElem (by simp)
  intro i h1 h2
  simp only [List.length_map, List.length_set] at h1
  simp only [List.getElem_map, List.getElem_set]
  split
  · rename_i e; subst e; simp [key3, List.getD_eq_getElem?_getD, h1]
  · rfl
theorem fe_conn (a b : Int) : ∀ (l : List S104) (i : Int), i ≤ fe a b i l → 0 ≤ i → conn a b (List.getD l (Int.toNat (fe a b i l - i)) ⟨0, 0, 0, false⟩) = true
  | [], i, h, h0 => by simp only [fe] at h; omega
  | e :: r, i, h, h0 => by
    simp only [fe] at h ⊢
    by_cases c : conn a b e = true
    · simp [c]
    · rw [if_neg c] at h ⊢
      have hge : i + 1 ≤ fe a b (i + 1) r := by
        have : ∀ (l : List S104) (i : Int), fe a b i l = -1 ∨ i ≤ fe a b i l := by
          intro l
          induction l with
          | nil => intro i; exact .inl rfl
          | cons x l ih =>
            intro i
            simp only [fe]
            split
            · exact .inr (by omega)
            · rcases ih (i + 1) with h | h
              · exact .inl h
              · exact .inr (by omega)
        rcases this r (i + 1) with h2 | h2
        · omega
        · exact h2
      have := fe_conn a b r (i + 1) hge (by omega)
      rw [show Int.toNat (fe a b (i + 1) r - i) = Int.toNat (fe a b (i + 1) r - (i + 1)) + 1 by omega]
      simpa using this
theorem set_f3 (es : List S104) (q : Nat) (b : Bool) : set104 es q 3 [.s (.bool b)] = es.set q ⟨(List.getD es q ⟨0, 0, 0, false⟩).f0, (List.getD es q ⟨0, 0, 0, false⟩).f1, (List.getD es q ⟨0, 0, 0, false⟩).f2, b⟩ := rfl
/-- An area that is right. -/
structure AI (es : List S104) (n : Nat) (ts : List (List S174)) : Prop where
  n1 : 1 ≤ n
  n5 : n ≤ 5
  el : es.length ≤ 8
  ge : gE (n : Int) [] es = true
  tb : TB es n ts
theorem AI.eo {es : List S104} {n : Nat} {ts : List (List S174)} (h : AI es n ts) : ∀ e ∈ es, eo (n : Int) e := gE_mem _ _ _ h.ge
theorem getD_set104 (es : List S104) (q i : Nat) (x : S104) (h : q < es.length) : List.getD (es.set q x) i ⟨0, 0, 0, false⟩ = if i = q then x else List.getD es i ⟨0, 0, 0, false⟩ := getD_set_eq _ _ _ _ _ h
/-- A table stays right with an edge changed, if routes over it are 16 or it is up. -/
theorem ai_edge {es : List S104} {n : Nat} {ts ts' : List (List S174)} (h : AI es n ts) {q : Nat} (hq : q < es.length) (b : Bool) (ht : TB es n ts') (hc : ∀ r d : Nat, r < n → d < n → r ≠ d → b = false → conn r (ent ts' r d).f1 (List.getD es q ⟨0, 0, 0, false⟩) = true → (ent ts' r d).f0 = 16) :
    AI (es.set q ⟨(List.getD es q ⟨0, 0, 0, false⟩).f0, (List.getD es q ⟨0, 0, 0, false⟩).f1, (List.getD es q ⟨0, 0, 0, false⟩).f2, b⟩) n ts' := by
  have hk := set_key es q b
  refine ⟨h.n1, h.n5, by simpa using h.el, by rw [gE_key (n : Int) _ es [] [] hk rfl]; exact h.ge, ht.1, fun r hr => ⟨(ht.2 r hr).1, fun d hd => ?_⟩⟩
  have hx := (ht.2 r hr).2 d hd
  have hdn : d < n := by rw [← (ht.2 r hr).1]; exact hd
  refine ⟨hx.1, fun hne => ?_⟩
  obtain ⟨h0, h2, h1⟩ := hx.2 hne
  refine ⟨h0, h2, ?_⟩
  rcases h1 with h1 | ⟨h1, hf, hu⟩
  · exact .inl h1
  right
  rw [fe_key _ _ _ es 0 hk]
  refine ⟨h1, hf, ?_⟩
  rcases hu with hu | hu
  · exact .inl hu
  rw [getD_set104 _ _ _ _ hq]
  by_cases e : Int.toNat (fe (r : Int) (List.getD (List.getD ts' r []) d Z3).f1 0 es) = q
  · rw [if_pos e]
    cases b with
    | true => exact .inr rfl
    | false =>
      refine .inl (hc r d hr hdn (by omega) rfl ?_)
      have := fe_conn (r : Int) (List.getD (List.getD ts' r []) d Z3).f1 es 0 hf (by omega)
      rw [Int.sub_zero, e] at this
      exact this
  · rw [if_neg e]; exact .inr hu
theorem up_ai {es : List S104} {n : Nat} {ts : List (List S174)} (h : AI es n ts) {q : Nat} (hq : q < es.length) : AI (set104 es q 3 [.s (.bool true)]) n ts := by
  rw [set_f3]; exact ai_edge h hq true h.tb (fun _ _ _ _ _ h => absurd h (by simp))
theorem cut_run (k : Nat) (hK : 2097152 ≤ k) {es : List S104} {n : Nat} {ts : List (List S174)} (h : AI es n ts) {q : Nat} (hq : q < es.length) :
    ∃ es' M', f196 k es ts (n : Int) (q : Int) = some (es', M', (n : Int)) ∧ AI es' n M' ∧ es'.length = es.length := by
  have hq0 : (0 : Int) ≤ (q : Int) := by omega
  have hq1 : (q : Int) < (es.length : Int) := by omega
  have hmem : List.getD es q ⟨0, 0, 0, false⟩ ∈ es := getD_mem hq _
  have he := h.eo _ hmem
  have hself : ∀ y, List.getD (es.set q y) q ⟨0, 0, 0, false⟩ = y := fun y => by rw [getD_set104 _ _ _ _ hq, if_pos rfl]
  have fin := fun M' ht hc => ai_edge (ts' := M') h hq false ht hc
  simp only [f196, f196.step, own_tb k hK h.n5 (by have := h.el; omega) h.tb, Option.bind_some, set_f3, Int.toNat_natCast, hq0, hq1, List.length_set, hself, if_true]
  generalize List.getD es q ⟨0, 0, 0, false⟩ = x at *
  obtain ⟨⟨a0, a1⟩, ⟨b0, b1⟩, ab, _⟩ := he
  obtain ⟨A, hA⟩ : ∃ A : Nat, x.f0 = (A : Int) := ⟨x.f0.toNat, by omega⟩
  obtain ⟨B, hB⟩ : ∃ B : Nat, x.f1 = (B : Int) := ⟨x.f1.toNat, by omega⟩
  obtain ⟨M', e, ht, hc⟩ := l5_run' k n h.n5 es (es.set q ⟨x.f0, x.f1, x.f2, false⟩) (A := A) (B := B) (by omega) (by omega) (by omega) 0 x.f2 false n 0 k ts (by omega) (by have := h.n5; omega) h.tb (fun e he => absurd he (by omega))
  have e' : f196.l5 k k 0 0 (es.set q ⟨x.f0, x.f1, x.f2, false⟩) ts (n : Int) x.f0 x.f1 x.f2 false = some (0, es.set q ⟨x.f0, x.f1, x.f2, false⟩, M', (n : Int)) := by rw [hA, hB] at e ⊢; exact e
  simp only [e', Option.bind_some]
  refine ⟨_, _, rfl, fin M' ht (fun r d hr hd hne _ hcn => ?_), by simp⟩
  simp only [conn, Bool.or_eq_true, Bool.and_eq_true, decide_eq_true_eq] at hcn
  have hcd := hc d hd
  rcases hcn with ⟨c1, c2⟩ | ⟨c1, c2⟩
  · obtain rfl : r = A := by omega
    exact hcd.1 (fun e => hne e.symm) (by omega)
  · obtain rfl : r = B := by omega
    exact hcd.2 (fun e => hne e.symm) (by omega)
theorem step_run (k : Nat) (hK : 2097152 ≤ k) {es : List S104} {n : Nat} {ts : List (List S174)} (h : AI es n ts) (kind q : Int) (lost : List Bool) :
    ∃ es' M' c, (f180 k es ts (n : Int) kind q lost = some (.inl (es', M', (n : Int), c)) ∨ f180 k es ts (n : Int) kind q lost = some (.inr (es', M', (n : Int), c))) ∧ AI es' n M' := by
  have hel := h.el
  have rnd : ∀ l : List Bool, ∃ M', f195 k es ts (n : Int) l = some (es, M', (n : Int)) ∧ AI es n M' := fun l => by
    obtain ⟨M', e, ht⟩ := round_run k hK n h.n5 (by omega) h.eo l ts h.tb
    exact ⟨M', e, h.n1, h.n5, h.el, h.ge, ht⟩
  have hwl : IntKind.i64.wrap ((es.length : Int) - 1) = (es.length : Int) - 1 := w64 (by omega) (by omega)
  simp only [f180, f180.step, in_spec, hwl, Option.bind_some]
  by_cases c1 : kind = 1
  · obtain ⟨M', e, hM⟩ := rnd []
    rw [if_pos (tb c1), e]
    exact ⟨es, M', 0, .inl rfl, hM⟩
  rw [if_neg (fb c1)]
  by_cases c4 : kind = 4
  · obtain ⟨M', e, hM⟩ := rnd lost
    rw [if_pos (tb c4), e]
    exact ⟨es, M', 0, .inl rfl, hM⟩
  rw [if_neg (fb c4)]
  have hown := own_tb k hK h.n5 (es := es) (by omega) h.tb
  by_cases c2 : kind = 2
  · subst c2
    simp only [decide_true, if_true]
    by_cases cr : 0 ≤ q ∧ q ≤ (es.length : Int) - 1
    · have g1 : q < (es.length : Int) := by omega
      rw [if_neg (by simp [cr]), if_pos cr.1, if_pos g1]
      split
      · exact ⟨es, ts, 9, .inr rfl, h⟩
      · rw [if_neg (by decide), hown]
        simp only [Option.bind_some, cr.1, g1, if_true]
        exact ⟨_, ts, 0, .inl rfl, up_ai h (by omega)⟩
    · rw [if_pos (by simp only [ff cr, Bool.not_false])]
      exact ⟨es, ts, 4, .inr rfl, h⟩
  rw [if_neg (fb c2)]
  by_cases c3 : kind = 3
  · subst c3
    simp only [decide_true, if_true]
    by_cases cr : 0 ≤ q ∧ q ≤ (es.length : Int) - 1
    · have g1 : q < (es.length : Int) := by omega
      rw [if_neg (by simp [cr]), if_pos cr.1, if_pos g1]
      split
      · exact ⟨es, ts, 9, .inr rfl, h⟩
      · obtain ⟨qn, rfl⟩ : ∃ qn : Nat, q = (qn : Int) := ⟨q.toNat, by omega⟩
        obtain ⟨es', M', e, hM, _⟩ := cut_run k hK h (q := qn) (by omega)
        rw [e]
        exact ⟨es', M', 0, .inl rfl, hM⟩
    · rw [if_pos (by simp only [ff cr, Bool.not_false])]
      exact ⟨es, ts, 4, .inr rfl, h⟩
  · rw [if_neg (fb c3)]
    exact ⟨es, ts, 3, .inr rfl, h⟩
/-! l06: AreaRun -/
theorem rowsK_of (es : List S104) : ∀ (l : List (List S174)) (i : Int), (∀ r : Nat, r < l.length → rK es (i + r) 0 (List.getD l r []) = true) → rowsK es i l = true
  | [], _, _ => rfl
  | x :: l, i, h => by
    simp only [rowsK, Bool.and_eq_true]
    refine ⟨by simpa using h 0 (by simp), rowsK_of es l (i + 1) fun r hr => ?_⟩
    have := h (r + 1) (by simpa using hr)
    rw [show i + 1 + (r : Int) = i + ((r + 1 : Nat) : Int) by omega]; simpa using this
theorem AI.ok {es : List S104} {n : Nat} {ts : List (List S174)} (h : AI es n ts) : ((decide ((1 ≤ (n : Int) ∧ (n : Int) ≤ 5) ∧ es.length ≤ 8) && gE (n : Int) [] es) && (decide ((ts.length : Int) = (n : Int)) && (ts.all (fun x => decide ((x.length : Int) = (n : Int))) && rowsK es 0 ts))) = true := by
  have h1 := h.n1
  have h5 := h.n5
  have hr : rowsK es 0 ts = true := rowsK_of es ts 0 fun r hr => by
    rw [rK_iff]; intro d hd
    have := (h.tb.2 r (by rw [← h.tb.1]; exact hr)).2 d hd
    simpa using this
  have ha : ts.all (fun x => decide ((x.length : Int) = (n : Int))) = true := by
    rw [List.all_eq_true]; intro x hx
    obtain ⟨i, hi, rfl⟩ := List.mem_iff_getElem.1 hx
    have := (h.tb.2 i (by rw [← h.tb.1]; exact hi)).1
    simp only [List.getD_eq_getElem?_getD, List.getElem?_eq_getElem hi, Option.getD_some] at this
    simp [this]
  rw [h.ge, ha, hr, decide_eq_true (show (1 ≤ (n : Int) ∧ (n : Int) ≤ 5) ∧ es.length ≤ 8 from ⟨⟨by omega, by omega⟩, h.el⟩), decide_eq_true (show (ts.length : Int) = (n : Int) by rw [h.tb.1])]
  rfl
theorem AI.spec {k : Nat} (hK : 2097152 ≤ k) {es : List S104} {n : Nat} {ts : List (List S174)} (h : AI es n ts) : f57 k es ts (n : Int) = some true := by rw [area_spec k hK, h.ok]
theorem run_loop (k : Nat) (hK : 2097152 ≤ k) (n : Nat) (acts : List S207) (hl : acts.length ≤ 60) (hf : ∀ x ∈ acts, x.f2.length ≤ 4096) : ∀ (rest pre : List S207) (j : Nat) (es : List S104) (ts : List (List S174)) (codes : List Int), acts = pre ++ rest → rest.length < j → codes.length = pre.length → AI es n ts →
    ∃ es' ts' codes', f131.l9 k j acts (pre.length : Int) es ts (n : Int) 0 codes = some (.inr (es', ts', (n : Int), 0, codes')) ∧ AI es' n ts' := by
  have hm : maxN = 140737488351232 := by decide
  intro rest
  induction rest with
  | nil =>
    intro pre j es ts codes he hj _ h
    obtain ⟨j, rfl⟩ : ∃ j', j = j' + 1 := ⟨j - 1, by omega⟩
    simp only [List.append_nil] at he
    simp only [f131.l9, f131.l9.step]
    rw [if_neg (fb (by rw [← he]; omega))]
    exact ⟨es, ts, codes, rfl, h⟩
  | cons x rest ih =>
    intro pre j es ts codes he hj hcl h
    obtain ⟨j, rfl⟩ : ∃ j', j = j' + 1 := ⟨j - 1, by omega⟩
    have hlt : (pre.length : Int) < (acts.length : Int) := by rw [he]; exact lt_mid _ _ _
    have hp : (0 : Int) ≤ (pre.length : Int) := by omega
    have hg : ∀ d, acts.getD (Int.toNat (pre.length : Int)) d = x := fun d => by rw [he]; exact gm _ _ _ _
    have hxl := hf x (by rw [he]; simp)
    have hlen : pre.length + rest.length + 1 = acts.length := by rw [he]; simp; omega
    have hw := wnext pre x (by omega)
    have hx2 : ¬ ((x.f2.length : Int) > 4096) := by omega
    have g : ∀ v : Int, (codes.length + ([v] : List Int).length) * 8 ≤ maxN := fun v => by simp; omega
    obtain ⟨es', ts', c, e, h'⟩ := step_run k hK h x.f0 x.f1 x.f2
    have nx := ih (pre ++ [x]) j es' ts' (codes ++ [c]) (by rw [he]; simp) (by simp at hj; omega) (by simp; omega) h'
    simp only [f131.l9, f131.l9.step, hlt, hp, hg, hw, if_true, decide_true]
    rw [if_neg (fb hx2)]
    rcases e with e | e
    · simp only [e, Option.bind_some, Sum.elim_inl, g, if_true]; exact nx
    · simp only [e, Option.bind_some, Sum.elim_inr, g, if_true]; exact nx
theorem run_run (k : Nat) (hK : 2097152 ≤ k) {es : List S104} {n : Nat} {ts : List (List S174)} (h : AI es n ts) (acts : List S207) (hl : acts.length ≤ 60) (hf : ∀ x ∈ acts, x.f2.length ≤ 4096) :
    ∃ es' ts' codes', f131 k es ts (n : Int) acts = some (.inr (es', ts', (n : Int), codes', 0)) ∧ AI es' n ts' := by
  obtain ⟨es', ts', codes', e, h'⟩ := run_loop k hK n acts hl hf acts [] k es ts [] rfl (by omega) rfl h
  have e' : f131.l9 k k acts 0 es ts (n : Int) 0 [] = some (.inr (es', ts', (n : Int), 0, codes')) := e
  refine ⟨es', ts', codes', ?_, h'⟩
  simp only [f131, f131.step, h.spec hK, e', own_tb k hK h'.n5 (by have := h'.el; omega) h'.tb, Option.bind_some, Sum.elim_inr]
  rw [if_neg (fb (by omega)), if_neg (by simp), if_neg (fb (by omega))]
/-! NewArea -/
def nRow (r m : Nat) : List S174 := (List.range m).map fun d => if r = d then ⟨0, (r : Int), 0⟩ else ⟨16, -1, 0⟩
theorem nRow_succ (r d : Nat) : nRow r (d + 1) = nRow r d ++ [if r = d then ⟨0, (r : Int), 0⟩ else ⟨16, -1, 0⟩] := by simp [nRow, List.range_succ]
def nM (n m : Nat) : List (List S174) := (List.range m).map fun r => nRow r n
theorem nM_succ (n r : Nat) : nM n (r + 1) = nM n r ++ [nRow r n] := by simp [nM, List.range_succ]
theorem nrow_run (k n r : Nat) (hn : n ≤ 1000) (z n' : Int) (es : List S104) (M : List (List S174)) : ∀ (t d j : Nat), d + t = n → t < j →
    f130.l11 k j (n : Int) (r : Int) (d : Int) z es n' M (nRow r d) = some ((n : Int), (r : Int), z, es, n', M, nRow r n) := by
  have hm : maxN = 140737488351232 := by decide
  intro t
  induction t with
  | zero =>
    intro d j hd hj
    obtain ⟨j, rfl⟩ : ∃ j', j = j' + 1 := ⟨j - 1, by omega⟩
    obtain rfl : d = n := by omega
    simp only [f130.l11, f130.l11.step]
    rw [if_neg (fb (by omega))]
  | succ t ih =>
    intro d j hd hj
    obtain ⟨j, rfl⟩ : ∃ j', j = j' + 1 := ⟨j - 1, by omega⟩
    have hw : IntKind.i64.wrap ((d : Int) + 1) = ((d + 1 : Nat) : Int) := by rw [w64 (by omega) (by omega)]; omega
    have hlt : (d : Int) < (n : Int) := by omega
    have hl : (nRow r d).length = d := by simp [nRow]
    have g : ∀ v : S174, ((nRow r d).length + ([v] : List S174).length) * 24 ≤ maxN := fun v => by rw [hl]; simp; omega
    have nx := ih (d + 1) j (by omega) (by omega)
    rw [nRow_succ] at nx
    simp only [f130.l11, f130.l11.step, hlt, self_run, hw, g, Option.bind_some, if_true, decide_true]
    by_cases e : r = d
    · simp only [if_pos e] at nx ⊢; exact nx
    · simp only [if_neg e] at nx ⊢; exact nx
theorem nM_run (k n : Nat) (hK : 2097152 ≤ k) (hn : n ≤ 1000) (es : List S104) : ∀ (t r j : Nat), r + t = n → t < j →
    f130.l7 k j (n : Int) (r : Int) 0 es (n : Int) (nM n r) = some (0, es, (n : Int), nM n n) := by
  have hm : maxN = 140737488351232 := by decide
  intro t
  induction t with
  | zero =>
    intro d j hd hj
    obtain ⟨j, rfl⟩ : ∃ j', j = j' + 1 := ⟨j - 1, by omega⟩
    obtain rfl : d = n := by omega
    simp only [f130.l7, f130.l7.step]
    rw [if_neg (fb (by omega))]
  | succ t ih =>
    intro r j hd hj
    obtain ⟨j, rfl⟩ : ∃ j', j = j' + 1 := ⟨j - 1, by omega⟩
    have hw : IntKind.i64.wrap ((r : Int) + 1) = ((r + 1 : Nat) : Int) := by rw [w64 (by omega) (by omega)]; omega
    have hlt : (r : Int) < (n : Int) := by omega
    have hl : (nM n r).length = r := by simp [nM]
    have g : ∀ v : List S174, ((nM n r).length + ([v] : List (List S174)).length) * 24 ≤ maxN := fun v => by rw [hl]; simp; omega
    have e : f130.l11 k k (n : Int) (r : Int) 0 0 es (n : Int) (nM n r) [] = some ((n : Int), (r : Int), 0, es, (n : Int), nM n r, nRow r n) := nrow_run k n r hn 0 n es (nM n r) n 0 k (by omega) (by omega)
    have nx := ih (r + 1) j (by omega) (by omega)
    rw [nM_succ] at nx
    simp only [f130.l7, f130.l7.step, hlt, e, hw, g, Option.bind_some, if_true, decide_true]
    exact nx
theorem getD_map_range {α : Type} (f : Nat → α) (n i : Nat) (h : i < n) (d : α) : List.getD ((List.range n).map f) i d = f i := by
  simp [List.getD_eq_getElem?_getD, h]
theorem new_run (k : Nat) (hK : 2097152 ≤ k) {n : Nat} (h1 : 1 ≤ n) (h5 : n ≤ 5) {es : List S104} (hl : es.length ≤ 8) (hg : gE (n : Int) [] es = true) :
    ∃ ts, f130 k (n : Int) es = some (.inr (es, ts, (n : Int), 0)) ∧ AI es n ts := by
  have hm : maxN = 140737488351232 := by decide
  have e : f130.l7 k k (n : Int) 0 0 ([] ++ es) (n : Int) [] = some (0, es, (n : Int), nM n n) := nM_run k n hK (by omega) es n 0 k (by omega) (by omega)
  have ed : (decide ((1 ≤ (n : Int) ∧ (n : Int) ≤ 5) ∧ es.length ≤ 8) && gE (n : Int) [] es) = true := by
    rw [hg, tb (show (1 ≤ (n : Int) ∧ (n : Int) ≤ 5) ∧ es.length ≤ 8 from ⟨⟨by omega, by omega⟩, hl⟩)]; rfl
  refine ⟨nM n n, ?_, h1, h5, hl, hg, by simp [nM], fun r hr => ?_⟩
  · have g : (([] : List S104).length + es.length) * 32 ≤ maxN := by simp; omega
    simp only [f130, f130.step, edges_spec k hK, ed, e, Option.bind_some]
    rw [if_neg (fb (by omega)), if_neg (by simp), if_pos g]
  · have hrow : List.getD (nM n n) r [] = nRow r n := getD_map_range _ _ _ hr _
    rw [hrow]
    refine ⟨by simp [nRow], fun d hd => ?_⟩
    have hd' : d < n := by simpa [nRow] using hd
    have hx : List.getD (nRow r n) d Z3 = if r = d then ⟨0, (r : Int), 0⟩ else ⟨16, -1, 0⟩ := getD_map_range _ _ _ hd' _
    rw [hx]
    by_cases c : r = d
    · rw [if_pos c]; exact ⟨fun _ => ⟨rfl, rfl, rfl⟩, fun hn => absurd (by omega) hn⟩
    · rw [if_neg c]; exact ⟨fun e => absurd e (by omega), fun _ => ⟨by simp, by simp, .inl ⟨rfl, rfl, rfl⟩⟩⟩
theorem wf_u8 {x : Int} (h : (Lit.int .u8 x).wf = true) : 0 ≤ x ∧ x ≤ 255 := by
  simp [Lit.wf, IntKind.min, IntKind.max, IntKind.bits, IntKind.signed] at h
  omega
def Bytes (l : List Int) : Prop := ∀ x ∈ l, 0 ≤ x ∧ x ≤ 255
theorem getD_byte {l : List Int} (h : Bytes l) (i : Nat) : 0 ≤ l.getD i 0 ∧ l.getD i 0 ≤ 255 := by
  rw [List.getD_eq_getElem?_getD]
  cases e : l[i]? with
  | none => simp
  | some x => exact h x (List.mem_of_getElem? e)
/-! ### what is drawn -/
/-- A source's state: it has been asked at most n times. -/
structure GS (xs : List Int) (a s : Int) (n : Nat) : Prop where
  len : xs.length ≤ 1048576
  b : Bytes xs
  a0 : 0 ≤ a
  a1 : a ≤ n
  s0 : 0 ≤ s
  s1 : s < 2147483648
theorem GS.to {xs : List Int} {a s : Int} {n n' : Nat} (h : GS xs a s n) (hn : n ≤ n') : GS xs a s n' := ⟨h.len, h.b, h.a0, by have := h.a1; omega, h.s0, h.s1⟩
theorem byte_ok (k : Nat) {xs : List Int} {a s : Int} {n : Nat} (h : GS xs a s n) (hn : n ≤ 100000) : ∃ v a' s', f185 k xs a s = some (v, xs, a', s') ∧ (0 ≤ v ∧ v ≤ 255) ∧ GS xs a' s' (n + 1) := by
  obtain ⟨h0, h1, h2, h3, h4, h5⟩ := h
  have e1 : IntKind.i64.wrap (a + 1) = a + 1 := w64 (by omega) (by omega)
  simp only [f185, f185.step, e1]
  by_cases c : a + 1 ≤ (xs.length : Int)
  · have e2 : IntKind.i64.wrap (a + 1 - 1) = a := by rw [w64 (by omega) (by omega)]; omega
    have hb := getD_byte h1 a.toNat
    rw [if_pos (tb c), e2, if_pos (by omega), if_pos (by omega), if_pos (by omega), if_pos (by omega)]
    refine ⟨_, _, _, rfl, ?_, h0, h1, by omega, by omega, ?_, ?_⟩
    · rw [w64 (by omega) (by omega)]; exact hb
    · rw [w64 (n := xs.getD a.toNat 0) (by omega) (by omega), w64 (n := s * 31) (by omega) (by omega), w64 (n := s * 31 + _) (by omega) (by omega), w64 (by omega) (by omega), Int.tmod_eq_emod_of_nonneg (by omega)]
      omega
    · rw [w64 (n := xs.getD a.toNat 0) (by omega) (by omega), w64 (n := s * 31) (by omega) (by omega), w64 (n := s * 31 + _) (by omega) (by omega), w64 (by omega) (by omega), Int.tmod_eq_emod_of_nonneg (by omega)]
      omega
  · rw [if_neg (fb c)]
    by_cases c2 : a + 1 > 3000
    · rw [if_pos (tb c2)]
      exact ⟨_, _, _, rfl, by omega, h0, h1, by omega, by omega, h4, h5⟩
    · rw [if_neg (fb c2)]
      have e3 : IntKind.i64.wrap (s * 1103515245) = s * 1103515245 := w64 (by omega) (by omega)
      have e4 : IntKind.i64.wrap (s * 1103515245 + 12345) = s * 1103515245 + 12345 := w64 (by omega) (by omega)
      have e5 : Int.tmod (s * 1103515245 + 12345) 2147483648 = (s * 1103515245 + 12345) % 2147483648 := Int.tmod_eq_emod_of_nonneg (by omega)
      rw [e3, e4, e5]
      have h6 : 0 ≤ (s * 1103515245 + 12345) % 2147483648 ∧ (s * 1103515245 + 12345) % 2147483648 < 2147483648 := by omega
      generalize (s * 1103515245 + 12345) % 2147483648 = z at h6
      have e6 : Int.tdiv z 65536 = z / 65536 := Int.tdiv_eq_ediv_of_nonneg h6.1
      rw [e6, w64 (by omega) (by omega), Int.tmod_eq_emod_of_nonneg (by omega)]
      exact ⟨_, _, _, rfl, by omega, h0, h1, by omega, by omega, h6.1, h6.2⟩
theorem next_ok (k : Nat) {xs : List Int} {a s : Int} {n : Nat} (h : GS xs a s n) (hn : n ≤ 90000) {N : Int} (h1 : 1 ≤ N) (h2 : N ≤ 65536) : ∃ v a' s', f139 k xs a s N = some (v, xs, a', s') ∧ (0 ≤ v ∧ v < N) ∧ GS xs a' s' (n + 3) := by
  simp only [f139, f139.step]
  by_cases c : N ≤ 1
  · rw [if_pos (tb c)]
    exact ⟨_, _, _, rfl, by omega, h.to (by omega)⟩
  · rw [if_neg (fb c)]
    by_cases c2 : N ≤ 256
    · obtain ⟨v, a', s', e, hv, g⟩ := byte_ok k h (by omega)
      rw [if_pos (tb c2), e]
      simp only [Option.bind_some]
      rw [if_pos (by omega), Int.tmod_eq_emod_of_nonneg hv.1]
      exact ⟨_, _, _, rfl, ⟨Int.emod_nonneg _ (by omega), Int.emod_lt_of_pos _ (by omega)⟩, g.to (by omega)⟩
    · obtain ⟨v1, a1, s1, e1, hv1, g1⟩ := byte_ok k h (by omega)
      obtain ⟨v2, a2, s2, e2, hv2, g2⟩ := byte_ok k g1 (by omega)
      obtain ⟨v3, a3, s3, e3, hv3, g3⟩ := byte_ok k g2 (by omega)
      rw [if_neg (fb c2), e1]
      simp only [Option.bind_some, e2, e3]
      rw [if_pos (by omega), w64 (n := v1 * 65536) (by omega) (by omega), w64 (n := v2 * 256) (by omega) (by omega), w64 (n := v1 * 65536 + v2 * 256) (by omega) (by omega), w64 (by omega) (by omega), Int.tmod_eq_emod_of_nonneg (by omega)]
      exact ⟨_, _, _, rfl, ⟨Int.emod_nonneg _ (by omega), Int.emod_lt_of_pos _ (by omega)⟩, g3⟩
theorem chance_ok (k : Nat) {xs : List Int} {a s : Int} {n : Nat} (g : GS xs a s n) (hn : n ≤ 70000) {N : Int} (h1 : 1 ≤ N) (h2 : N ≤ 65536) : ∃ t a' s', f170 k xs a s N = some (t, xs, a', s') ∧ GS xs a' s' (n + 3) := by
  obtain ⟨v1, a1, s1, e1, hv1, g1⟩ := next_ok k g (by omega) h1 h2
  simp only [f170, f170.step, e1, Option.bind_some]
  exact ⟨_, _, _, rfl, g1⟩
/-! the area that is drawn -/
theorem gE_snoc (n : Int) (x : S104) : ∀ (l pre : List S104), gE n pre l = true → eo n x → (pre ++ l).any (conn x.f0 x.f1) = false → gE n pre (l ++ [x]) = true
  | [], pre, _, hx, hc => by
    simp only [List.append_nil] at hc
    simp [gE, hc, hx]
  | e :: r, pre, h, hx, hc => by
    simp only [gE, Bool.and_eq_true, List.cons_append] at h ⊢
    exact ⟨h.1, h.2.1, gE_snoc n x r (pre ++ [e]) h.2.2 hx (by simpa using hc)⟩
theorem cost_ok {v : Int} (h : 0 ≤ v ∧ v < 5) : 1 ≤ List.getD ([1, 1, 2, 5, 16] : List Int) (Int.toNat v) 0 ∧ List.getD ([1, 1, 2, 5, 16] : List Int) (Int.toNat v) 0 ≤ 16 := by
  have : v = 0 ∨ v = 1 ∨ v = 2 ∨ v = 3 ∨ v = 4 := by omega
  rcases this with rfl | rfl | rfl | rfl | rfl <;> decide
theorem edges_loop {k : Nat} (hK : 2097152 ≤ k) {N : Int} (h1 : 1 ≤ N) (h5 : N ≤ 5) : ∀ (d j c : Nat) (w : Int) (xs : List Int) (a s : Int) (es : List S104), w ≤ d → d < j → GS xs a s c → c + 12 * d ≤ 60000 → gE N [] es = true → es.length ≤ 8 →
    ∃ a' s' es', f129.l4 k j N w xs a s es = some (N, xs, a', s', es') ∧ GS xs a' s' (c + 12 * d) ∧ gE N [] es' = true ∧ es'.length ≤ 8 := by
  have hm : maxN = 140737488351232 := by decide
  intro d
  induction d with
  | zero =>
    intro j c w xs a s es hw hj g hc hg hl
    obtain ⟨j, rfl⟩ : ∃ j', j = j' + 1 := ⟨j - 1, by omega⟩
    simp only [f129.l4, f129.l4.step]
    rw [if_neg (fb (by omega))]
    exact ⟨a, s, es, rfl, g.to (by omega), hg, hl⟩
  | succ d ih =>
    intro j c w xs a s es hw hj g hc hg hl
    obtain ⟨j, rfl⟩ : ∃ j', j = j' + 1 := ⟨j - 1, by omega⟩
    simp only [f129.l4, f129.l4.step]
    by_cases c0 : w > 0
    case neg => rw [if_neg (fb c0)]; exact ⟨a, s, es, rfl, g.to (by omega), hg, hl⟩
    rw [if_pos (tb c0)]
    by_cases c1 : N > 1
    case neg => rw [if_neg (fb c1)]; exact ⟨a, s, es, rfl, g.to (by omega), hg, hl⟩
    rw [if_pos (tb c1)]
    have hw' : IntKind.i64.wrap (w - 1) = w - 1 := w64 (by omega) (by omega)
    obtain ⟨v1, a1, s1, e1, b1, g1⟩ := next_ok k g (by omega) h1 (by omega)
    obtain ⟨v2, a2, s2, e2, b2, g2⟩ := next_ok k g1 (by omega) h1 (by omega)
    obtain ⟨v3, a3, s3, e3, b3, g3⟩ := next_ok k g2 (by omega) (N := 5) (by omega) (by omega)
    obtain ⟨v4, a4, s4, e4, g4⟩ := chance_ok k g3 (by omega) (N := 4) (by omega) (by omega)
    have skip : ∃ a' s' es', f129.l4 k j N (w - 1) xs a2 s2 es = some (N, xs, a', s', es') ∧ GS xs a' s' (c + 12 * (d + 1)) ∧ gE N [] es' = true ∧ es'.length ≤ 8 := by
      obtain ⟨a', s', es', q1, q2, q3⟩ := ih j (c + 3 + 3) (w - 1) xs a2 s2 es (by omega) (by omega) g2 (by omega) hg hl
      exact ⟨a', s', es', q1, q2.to (by omega), q3⟩
    simp only [e1, e2, find_spec k hK _ _ es (by omega), hw', Option.bind_some]
    by_cases c2 : v1 ≠ v2
    case neg => rw [if_neg (fb c2)]; exact skip
    rw [if_pos (tb c2)]
    by_cases c3 : fe v1 v2 0 es < 0
    case neg => rw [if_neg (fb c3)]; exact skip
    rw [if_pos (tb c3)]
    by_cases c4 : (es.length : Int) < 8
    case neg => rw [if_neg (fb c4)]; exact skip
    rw [if_pos (tb c4)]
    have hv : v3 < ((List.length ([1, 1, 2, 5, 16] : List Int) : Nat) : Int) := by simp; omega
    have hcost := cost_ok b3
    simp only [e3, e4, Option.bind_some, b3.1, hv, if_true]
    have gg : ∀ x : S104, (es.length + ([x] : List S104).length) * 32 ≤ maxN := fun x => by simp; omega
    simp only [gg, if_true]
    have hnone := (fe_neg v1 v2 es 0 (by omega)).1 c3
    obtain ⟨a', s', es', q1, q2, q3⟩ := ih j (c + 3 + 3 + 3 + 3) (w - 1) xs a4 s4 (es ++ [⟨v1, v2, List.getD ([1, 1, 2, 5, 16] : List Int) (Int.toNat v3) 0, !v4⟩]) (by omega) (by omega) g4 (by omega) (gE_snoc N _ es [] hg ⟨⟨b1.1, by simp only; omega⟩, ⟨b2.1, by simp only; omega⟩, c2, hcost⟩ (by simpa using hnone)) (by simp; omega)
    exact ⟨a', s', es', q1, q2.to (by omega), q3⟩
theorem edges_ok {k : Nat} (hK : 2097152 ≤ k) {xs : List Int} {a s : Int} {c : Nat} (g : GS xs a s c) (hc : c ≤ 10000) :
    ∃ (n : Nat) (es : List S104) (a' s' : Int), f129 k xs a s = some ((n : Int), es, xs, a', s') ∧ 1 ≤ n ∧ n ≤ 5 ∧ gE (n : Int) [] es = true ∧ es.length ≤ 8 ∧ GS xs a' s' (c + 200) := by
  obtain ⟨v1, a1, s1, e1, b1, g1⟩ := next_ok k g (by omega) (N := 5) (by omega) (by omega)
  obtain ⟨v2, a2, s2, e2, b2, g2⟩ := next_ok k g1 (by omega) (N := 10) (by omega) (by omega)
  have hw := w64 (n := 1 + v1) (by omega) (by omega)
  obtain ⟨n, hn⟩ : ∃ n : Nat, 1 + v1 = (n : Int) := ⟨(1 + v1).toNat, by omega⟩
  obtain ⟨a', s', es', q1, q2, q3, q4⟩ := edges_loop hK (N := 1 + v1) (by omega) (by omega) 10 k (c + 3 + 3) v2 xs a2 s2 [] (by omega) (by omega) g2 (by omega) rfl (by simp)
  refine ⟨n, es', a', s', ?_, by omega, by omega, by rw [← hn]; exact q3, q4, q2.to (by omega)⟩
  rw [hn] at q1
  have hw' : IntKind.i64.wrap (1 + v1) = (n : Int) := by rw [hw, hn]
  simp only [f129, f129.step, e1, e2, Option.bind_some, hw', q1]
theorem flags_loop {k : Nat} : ∀ (d j c : Nat) (w : Int) (xs : List Int) (a s : Int) (out : List Bool), w ≤ d → d < j → GS xs a s c → c + 3 * d ≤ 60000 → out.length + d ≤ 1000 →
    ∃ a' s' out', f183.l3 k j w xs a s out = some (xs, a', s', out') ∧ GS xs a' s' (c + 3 * d) ∧ out'.length ≤ out.length + d := by
  have hm : maxN = 140737488351232 := by decide
  intro d
  induction d with
  | zero =>
    intro j c w xs a s out hw hj g hc hl
    obtain ⟨j, rfl⟩ : ∃ j', j = j' + 1 := ⟨j - 1, by omega⟩
    simp only [f183.l3, f183.l3.step]
    rw [if_neg (fb (by omega))]
    exact ⟨a, s, out, rfl, g.to (by omega), by omega⟩
  | succ d ih =>
    intro j c w xs a s out hw hj g hc hl
    obtain ⟨j, rfl⟩ : ∃ j', j = j' + 1 := ⟨j - 1, by omega⟩
    simp only [f183.l3, f183.l3.step]
    by_cases c0 : w > 0
    case neg => rw [if_neg (fb c0)]; exact ⟨a, s, out, rfl, g.to (by omega), by omega⟩
    rw [if_pos (tb c0)]
    by_cases hbig : w ≤ 9223372036854775807
    case neg => omega
    have hw' : IntKind.i64.wrap (w - 1) = w - 1 := w64 (by omega) (by omega)
    obtain ⟨v4, a4, s4, e4, g4⟩ := chance_ok k g (by omega) (N := 2) (by omega) (by omega)
    have gg : ∀ x : Bool, (out.length + ([x] : List Bool).length) * 1 ≤ maxN := fun x => by simp; omega
    obtain ⟨a', s', out', q1, q2, q3⟩ := ih j (c + 3) (w - 1) xs a4 s4 (out ++ [v4]) (by omega) (by omega) g4 (by omega) (by simp; omega)
    simp only [e4, hw', gg, Option.bind_some, if_true]
    exact ⟨a', s', out', q1, q2.to (by omega), by simp at q3; omega⟩
theorem flags_ok {k : Nat} (hK : 2097152 ≤ k) {xs : List Int} {a s : Int} {c : Nat} (g : GS xs a s c) (hc : c ≤ 50000) :
    ∃ out a' s', f183 k xs a s 16 = some (out, xs, a', s') ∧ GS xs a' s' (c + 60) ∧ out.length ≤ 17 := by
  have hw : IntKind.i64.wrap (16 + 1) = 17 := w64 (by omega) (by omega)
  obtain ⟨v1, a1, s1, e1, b1, g1⟩ := next_ok k g (by omega) (N := 17) (by omega) (by omega)
  obtain ⟨a', s', out', q1, q2, q3⟩ := flags_loop (k := k) 17 k (c + 3) v1 xs a1 s1 [] (by omega) (by omega) g1 (by omega) (by simp)
  refine ⟨out', a', s', ?_, q2.to (by omega), by simpa using q3⟩
  simp only [f183, f183.step, hw, e1, q1, Option.bind_some]
theorem acts_loop {k : Nat} (hK : 2097152 ≤ k) {m : Int} (hm0 : 0 ≤ m) (hm8 : m ≤ 8) : ∀ (d j c : Nat) (w : Int) (xs : List Int) (a s : Int) (out : List S207), w ≤ d → d < j → GS xs a s c → c + 70 * d ≤ 50000 → out.length ≤ 60 → (∀ x ∈ out, x.f2.length ≤ 4096) →
    ∃ a' s' out', f132.l3 k j m w xs a s out = some (xs, a', s', out') ∧ GS xs a' s' (c + 70 * d) ∧ out'.length ≤ 60 ∧ ∀ x ∈ out', x.f2.length ≤ 4096 := by
  have hm : maxN = 140737488351232 := by decide
  intro d
  induction d with
  | zero =>
    intro j c w xs a s out hw hj g hc hl hf
    obtain ⟨j, rfl⟩ : ∃ j', j = j' + 1 := ⟨j - 1, by omega⟩
    simp only [f132.l3, f132.l3.step]
    rw [if_neg (fb (by omega))]
    exact ⟨a, s, out, rfl, g.to (by omega), hl, hf⟩
  | succ d ih =>
    intro j c w xs a s out hw hj g hc hl hf
    obtain ⟨j, rfl⟩ : ∃ j', j = j' + 1 := ⟨j - 1, by omega⟩
    simp only [f132.l3, f132.l3.step]
    by_cases c0 : w > 0
    case neg => rw [if_neg (fb c0)]; exact ⟨a, s, out, rfl, g.to (by omega), hl, hf⟩
    rw [if_pos (tb c0)]
    by_cases c1 : (out.length : Int) < 60
    case neg => rw [if_neg (fb c1)]; exact ⟨a, s, out, rfl, g.to (by omega), hl, hf⟩
    rw [if_pos (tb c1)]
    have hw' : IntKind.i64.wrap (w - 1) = w - 1 := w64 (by omega) (by omega)
    have gg : ∀ x : S207, (out.length + ([x] : List S207).length) * 40 ≤ maxN := fun x => by simp; omega
    obtain ⟨v1, a1, s1, e1, b1, g1⟩ := next_ok k g (by omega) (N := 5) (by omega) (by omega)
    have hN1 : 1 ≤ (if m > 1 then m else 1) ∧ (if m > 1 then m else 1) ≤ 8 := by split <;> omega
    obtain ⟨v2, a2, s2, e2, b2, g2⟩ := next_ok k g1 (by omega) hN1.1 (by omega)
    obtain ⟨fl, a3, s3, e3, g3, hfl⟩ := flags_ok hK g1 (by omega)
    have go : ∀ (x : S207) (a' s' : Int), x.f2.length ≤ 4096 → GS xs a' s' (c + 70) → ∃ a'' s'' out', f132.l3 k j m (w - 1) xs a' s' (out ++ [x]) = some (xs, a'', s'', out') ∧ GS xs a'' s'' (c + 70 * (d + 1)) ∧ out'.length ≤ 60 ∧ ∀ x ∈ out', x.f2.length ≤ 4096 := fun x a' s' hx g' => by
      obtain ⟨a'', s'', out', q1, q2, q3⟩ := ih j (c + 70) (w - 1) xs a' s' (out ++ [x]) (by omega) (by omega) g' (by omega) (by simp; omega) (fun y hy => by
        rcases List.mem_append.1 hy with h | h
        · exact hf y h
        · simp at h; subst h; exact hx)
      exact ⟨a'', s'', out', q1, q2.to (by omega), q3⟩
    simp only [e1, e2, e3, hw', gg, Option.bind_some, if_true]
    split
    · exact go _ _ _ (by simp) (g2.to (by omega))
    split
    · exact go _ _ _ (by simp) (g2.to (by omega))
    split
    · exact go _ _ _ (by simp only; omega) (g3.to (by omega))
    · exact go _ _ _ (by simp) (g1.to (by omega))
theorem acts_ok {k : Nat} (hK : 2097152 ≤ k) {xs : List Int} {a s : Int} {c : Nat} (g : GS xs a s c) (hc : c ≤ 10000) {m : Int} (hm0 : 0 ≤ m) (hm8 : m ≤ 8) :
    ∃ out a' s', f132 k xs a s m = some (out, xs, a', s') ∧ out.length ≤ 60 ∧ ∀ x ∈ out, x.f2.length ≤ 4096 := by
  have hl := g.len
  have hd : Int.tdiv (xs.length : Int) 12 = (xs.length : Int) / 12 := Int.tdiv_eq_ediv_of_nonneg (by omega)
  have hw1 : IntKind.i64.wrap ((xs.length : Int) / 12) = (xs.length : Int) / 12 := w64 (by omega) (by omega)
  have hw2 : IntKind.i64.wrap (1 + (xs.length : Int) / 12) = 1 + (xs.length : Int) / 12 := w64 (by omega) (by omega)
  obtain ⟨t, ht, ht1, ht2⟩ : ∃ t, f182 k xs a s 14 = some (t, xs, a, s) ∧ 1 ≤ t ∧ t ≤ 14 := by
    simp only [f182, f182.step, hd, hw1, hw2]
    refine ⟨_, rfl, ?_, ?_⟩ <;> split <;> omega
  have hw3 : IntKind.i64.wrap (t + 3) = t + 3 := w64 (by omega) (by omega)
  obtain ⟨v1, a1, s1, e1, b1, g1⟩ := next_ok k g (by omega) (N := t + 3) (by omega) (by omega)
  obtain ⟨a', s', out', q1, q2, q3, q4⟩ := acts_loop hK hm0 hm8 17 k (c + 3) v1 xs a1 s1 [] (by omega) (by omega) g1 (by omega) (by simp) (fun x h => by simp at h)
  refine ⟨out', a', s', ?_, q3, q4⟩
  simp only [f132, f132.step, ht, hw3, e1, q1, Option.bind_some]
theorem area_ok {k : Nat} (hK : 2097152 ≤ k) {xs : List Int} (hb : Bytes xs) (hl : xs.length ≤ 1048576) :
    ∃ (es : List S104) (n : Nat) (ts : List (List S174)), f9 k xs = some (.inr (es, ts, (n : Int))) ∧ AI es n ts := by
  have hsd : 0 ≤ Int.tmod (xs.length : Int) 1000 ∧ Int.tmod (xs.length : Int) 1000 < 2147483648 := by rw [Int.tmod_eq_emod_of_nonneg (by omega)]; omega
  have g0 : GS xs 0 (Int.tmod (xs.length : Int) 1000) 0 := ⟨hl, hb, by omega, by omega, hsd.1, hsd.2⟩
  obtain ⟨n, es, a1, s1, e1, n1, n5, hg, hel, g1⟩ := edges_ok hK g0 (by omega)
  obtain ⟨acts, a2, s2, e2, hal, haf⟩ := acts_ok hK g1 (by omega) (m := (es.length : Int)) (by omega) (by omega)
  obtain ⟨ts, e3, h3⟩ := new_run k hK n1 n5 hel hg
  obtain ⟨es', ts', codes, e4, h4⟩ := run_run k hK h3 acts hal haf
  refine ⟨es', n, ts', ?_, h4⟩
  simp only [f9, f9.step, f54, f54.step, f55, f55.step, e1, e2, e3, e4, Option.bind_some, Sum.elim_inr]
/-! ### the law -/
theorem dist_full (k : Nat) (hK : 2097152 ≤ k) {es : List S104} {n : Nat} {ts : List (List S174)} (h : AI es n ts) :
    ∃ D, f11 k es ts (n : Int) = some (D, 0) ∧ f10 k es ts (n : Int) = some (.inr (D, 0)) ∧ FW es n D ∧ ∀ q, q < n → Tri n q D := by
  have hm : n ≤ 5 := h.n5
  have hel := h.el
  have hg := h.ge
  have hts := tb_mem hm h.tb
  have htl := h.tb.1
  have hE := h.eo
  simp only [f11, f11.step, f10, f10.step, h.spec hK, area_impl k hK es ts n (by omega) (fun x hx => Nat.le_trans (hts x hx) (by omega)), h.ok, Option.bind_some]
  obtain ⟨hs, hd⟩ := same_dist hE hg (ini_spec n) (ini_impl n)
  have hF := fw_ini hE hg (ini_impl n)
  have hA := fw_all hF (fun a b c hab => (arc_cost (n := (n : Int)) hE a b c hab).1)
  refine ⟨loopN (gRd n es) n 0 (iniM n n), ?_, ?_, by rw [hs]; exact hA.1, by rw [hs]; exact hA.2⟩
  · have e3 : f58.l3 k k 0 es ts (n : Int) [] = some (es, ts, (n : Int), iniM n n) := l3_run k n hK (by omega) es ts n 0 k (by omega) (by omega)
    have e12 : f58.l12 k k 0 es ts (n : Int) (iniM n n) = some (loopN (gRd n es) n 0 (iniM n n)) := l12_run k n hK hm es ts (by omega) hE n 0 k _ (by omega) (by omega) (ini_spec n).1 (fun i j hi hj => by rw [(ini_spec n).2 i j hi hj]; split <;> omega)
    simp only [f58, f58.step, e3, e12, Option.bind_some, Bool.not_true]
    rfl
  · have hm0 : (0 : Int) ≤ (n : Int) := by omega
    have hmx : n * 24 ≤ maxN := by have : maxN = 140737488351232 := rfl; omega
    have hI := ini_impl n
    have e5 : f10.l5 k k (n : Int) 0 es ts (n : Int) (List.replicate n []) = some (es, ts, (n : Int), loopN (g5 n) n 0 (List.replicate n [])) := l5_run k n hK (by omega) es ts n 0 k _ (by omega) (by omega) (by simp)
    have e16 : f10.l16 k k es (es.length : Int) 0 (loopN (g5 n) n 0 (List.replicate n [])) = some (es.foldl (fun M e => g16 e M) (loopN (g5 n) n 0 (List.replicate n []))) := l16_run k n hm es es [] k _ rfl (by omega) (by omega) hE hI.1
    have e22 : f10.l22 k k (n : Int) 0 (es.foldl (fun M e => g16 e M) (loopN (g5 n) n 0 (List.replicate n []))) = some (loopN (g22 n) n 0 (es.foldl (fun M e => g16 e M) (loopN (g5 n) n 0 (List.replicate n [])))) := l22_run k n hK (by omega) n 0 k _ (by omega) (by omega) hF.dim (fun i j hi hj => ⟨hF.nn i j hi hj, hF.le i j hi hj⟩)
    have hl : (es.foldl (fun M e => g16 e M) (loopN (g5 n) n 0 (List.replicate n []))).length = n := hF.dim.1
    simp only [hm0, hmx, Int.toNat_natCast, if_true, List.length_replicate, e5, e16, hl, e22, Option.bind_some, Bool.not_true, hs]
    rfl
theorem Arc.symm {es : List S104} {a b : Nat} {c : Int} (h : Arc es a b c) : Arc es b a c := by
  obtain ⟨e, he, h1, h2, h3⟩ := h
  exact ⟨e, he, h1, h2, h3.symm⟩
/-- The way there is the way back. -/
theorem sym_le {es : List S104} {n : Nat} {D : List (List Int)} (hF : FW es n D) (hT : ∀ q, q < n → Tri n q D) (hc : ∀ a b c, Arc es a b c → 1 ≤ c) : ∀ (m i j : Nat), i < n → j < n → (at_ D i j).toNat ≤ m → at_ D j i ≤ at_ D i j := by
  intro m
  induction m with
  | zero =>
    intro i j hi hj hle
    by_cases e : i = j
    · subst e; exact Int.le_refl _
    have h0 := hF.nn i j hi hj
    by_cases c : at_ D i j < 16
    · obtain ⟨b, w, hb, ha, hw⟩ := hF.tt i j hi hj e c
      have := hc _ _ _ ha
      have := hF.nn b j hb hj
      omega
    · omega
  | succ m ih =>
    intro i j hi hj hle
    by_cases e : i = j
    · subst e; exact Int.le_refl _
    by_cases c : at_ D i j < 16
    · obtain ⟨b, w, hb, ha, hw⟩ := hF.tt i j hi hj e c
      have h1 := hc _ _ _ ha
      have h2 := hF.nn b j hb hj
      have h3 := ih b j hb hj (by omega)
      have h4 := hF.ed b i w hb hi ha.symm
      have h5 := hT b hb j i hj hi
      omega
    · have := hF.le j i hj hi; omega
theorem sym_eq {es : List S104} {n : Nat} {D : List (List Int)} (hF : FW es n D) (hT : ∀ q, q < n → Tri n q D) (hc : ∀ a b c, Arc es a b c → 1 ≤ c) {i j : Nat} (hi : i < n) (hj : j < n) : at_ D i j = at_ D j i := by
  have h1 := sym_le hF hT hc _ i j hi hj (Nat.le_refl _)
  have h2 := sym_le hF hT hc _ j i hj hi (Nat.le_refl _)
  omega
theorem same_loop (k : Nat) (xs : List Int) (hl : xs.length ≤ 1000) : ∀ (t i j : Nat), i + t = xs.length → t < j → f12.l4 k j xs xs (i : Int) = some (.inr ()) := by
  intro t
  induction t with
  | zero =>
    intro i j hi hj
    obtain ⟨j, rfl⟩ : ∃ j', j = j' + 1 := ⟨j - 1, by omega⟩
    simp only [f12.l4, f12.l4.step]
    rw [if_neg (fb (by omega))]
  | succ t ih =>
    intro i j hi hj
    obtain ⟨j, rfl⟩ : ∃ j', j = j' + 1 := ⟨j - 1, by omega⟩
    have hlt : (i : Int) < (xs.length : Int) := by omega
    have hp : (0 : Int) ≤ (i : Int) := by omega
    have hw : IntKind.i64.wrap ((i : Int) + 1) = ((i + 1 : Nat) : Int) := by rw [w64 (by omega) (by omega)]; omega
    simp only [f12.l4, f12.l4.step, hlt, hp, hw, if_true, decide_true]
    rw [if_neg (by simp)]
    exact ih (i + 1) j (by omega) (by omega)
theorem same_run (k : Nat) (hK : 2097152 ≤ k) {xs : List Int} (hl : xs.length ≤ 1000) : f12 k xs xs = some true := by
  have e : f12.l4 k k xs xs 0 = some (.inr ()) := same_loop k xs hl xs.length 0 k (by omega) (by omega)
  simp only [f12, f12.step, e, Option.bind_some, Sum.elim_inr]
  rw [if_neg (by simp)]
section
variable {es : List S104} {n : Nat} {D : List (List Int)} (hn : n ≤ 5) (hF : FW es n D) (hT : ∀ q, q < n → Tri n q D) (hc : ∀ a b c, Arc es a b c → 1 ≤ c)
include hn hF hT hc
theorem law17 (k i kk : Nat) (hi : i < n) (hkk : kk < n) (es0 : List S104) (ts : List (List S174)) (W : List (List Int)) : ∀ (t m j : Nat), m + t = n → t < j →
    f3.l17_1 k j (i : Int) (kk : Int) (m : Int) es0 ts (n : Int) D W = some (.inr ((i : Int), (kk : Int), es0, ts, (n : Int), D, W)) := by
  intro t
  induction t with
  | zero =>
    intro m j hm hj
    obtain ⟨j, rfl⟩ : ∃ j', j = j' + 1 := ⟨j - 1, by omega⟩
    simp only [f3.l17_1, f3.l17_1.step]
    rw [if_neg (fb (by omega))]
  | succ t ih =>
    intro m j hm hj
    obtain ⟨j, rfl⟩ : ∃ j', j = j' + 1 := ⟨j - 1, by omega⟩
    have hmn : m < n := by omega
    have hlt : (m : Int) < (n : Int) := by omega
    have dl := hF.dim.1
    have di := hF.dim.2 i hi
    have dk := hF.dim.2 kk hkk
    have dm := hF.dim.2 m hmn
    have p1 : (0 : Int) ≤ (i : Int) := by omega
    have p2 : (0 : Int) ≤ (kk : Int) := by omega
    have p3 : (0 : Int) ≤ (m : Int) := by omega
    have l1 : (i : Int) < (D.length : Int) := by omega
    have l2 : (kk : Int) < (D.length : Int) := by omega
    have l3 : (m : Int) < (D.length : Int) := by omega
    have r1 : (kk : Int) < ((List.getD D i []).length : Int) := by omega
    have r2 : (i : Int) < ((List.getD D kk []).length : Int) := by omega
    have r3 : (m : Int) < ((List.getD D i []).length : Int) := by omega
    have r4 : (kk : Int) < ((List.getD D m []).length : Int) := by omega
    have hw : IntKind.i64.wrap ((m : Int) + 1) = ((m + 1 : Nat) : Int) := by rw [w64 (by omega) (by omega)]; omega
    have hs := sym_eq hF hT hc hi hkk
    have ht := hT m hmn i kk hi hkk
    have b1 := hF.nn i m hi hmn
    have b2 := hF.nn m kk hmn hkk
    have b3 := hF.le i m hi hmn
    have b4 := hF.le m kk hmn hkk
    unfold at_ at hs ht b1 b2 b3 b4
    have hw2 : IntKind.i64.wrap (List.getD (List.getD D i []) m 0 + List.getD (List.getD D m []) kk 0) = List.getD (List.getD D i []) m 0 + List.getD (List.getD D m []) kk 0 := w64 (by omega) (by omega)
    simp only [f3.l17_1, f3.l17_1.step, hlt, p1, p2, p3, l1, l2, l3, r1, r2, r3, r4, hw, hw2, Int.toNat_natCast, if_true, decide_true]
    rw [if_pos (ff (by simpa using hs)), if_neg (fb (by omega))]
    exact ih (m + 1) j (by omega) (by omega)
theorem law14 (k i : Nat) (hK : 2097152 ≤ k) (hi : i < n) (es0 : List S104) (ts : List (List S174)) (W : List (List Int)) : ∀ (t kk j : Nat), kk + t = n → t < j →
    f3.l14_1 k j (i : Int) (kk : Int) es0 ts (n : Int) D W = some (.inr ((i : Int), es0, ts, (n : Int), D, W)) := by
  intro t
  induction t with
  | zero =>
    intro m j hm hj
    obtain ⟨j, rfl⟩ : ∃ j', j = j' + 1 := ⟨j - 1, by omega⟩
    simp only [f3.l14_1, f3.l14_1.step]
    rw [if_neg (fb (by omega))]
  | succ t ih =>
    intro m j hm hj
    obtain ⟨j, rfl⟩ : ∃ j', j = j' + 1 := ⟨j - 1, by omega⟩
    have hlt : (m : Int) < (n : Int) := by omega
    have hw : IntKind.i64.wrap ((m : Int) + 1) = ((m + 1 : Nat) : Int) := by rw [w64 (by omega) (by omega)]; omega
    have e : f3.l17_1 k k (i : Int) (m : Int) 0 es0 ts (n : Int) D W = some (.inr ((i : Int), (m : Int), es0, ts, (n : Int), D, W)) := law17 hn hF hT hc k i m hi (by omega) es0 ts W n 0 k (by omega) (by omega)
    simp only [f3.l14_1, f3.l14_1.step, hlt, e, hw, Option.bind_some, Sum.elim_inr, if_true, decide_true]
    exact ih (m + 1) j (by omega) (by omega)
theorem law9 (k : Nat) (hK : 2097152 ≤ k) (es0 : List S104) (ts : List (List S174)) : ∀ (t i j : Nat), i + t = n → t < j →
    f3.l9_3 k j (i : Int) es0 ts (n : Int) D D = some (.inr ()) := by
  intro t
  induction t with
  | zero =>
    intro m j hm hj
    obtain ⟨j, rfl⟩ : ∃ j', j = j' + 1 := ⟨j - 1, by omega⟩
    simp only [f3.l9_3, f3.l9_3.step]
    rw [if_neg (fb (by omega))]
  | succ t ih =>
    intro i j hi hj
    obtain ⟨j, rfl⟩ : ∃ j', j = j' + 1 := ⟨j - 1, by omega⟩
    have hin : i < n := by omega
    have hlt : (i : Int) < (n : Int) := by omega
    have hp : (0 : Int) ≤ (i : Int) := by omega
    have dl := hF.dim.1
    have di := hF.dim.2 i hin
    have l1 : (i : Int) < (D.length : Int) := by omega
    have r1 : (i : Int) < ((List.getD D i []).length : Int) := by omega
    have hw : IntKind.i64.wrap ((i : Int) + 1) = ((i + 1 : Nat) : Int) := by rw [w64 (by omega) (by omega)]; omega
    have h0 := hF.dg i hin
    unfold at_ at h0
    have e : f3.l14_1 k k (i : Int) 0 es0 ts (n : Int) D D = some (.inr ((i : Int), es0, ts, (n : Int), D, D)) := law14 hn hF hT hc k i hK hin es0 ts D n 0 k (by omega) (by omega)
    simp only [f3.l9_3, f3.l9_3.step, hlt, hp, l1, r1, hw, Int.toNat_natCast, same_run k hK (show (List.getD D i []).length ≤ 1000 by omega), e, h0, Option.bind_some, Sum.elim_inr, Bool.not_true, if_true, decide_true]
    rw [if_neg (by simp)]
    exact ih (i + 1) j (by omega) (by omega)
end
/-- The plain law. -/
theorem FnDistances : Says := by
  intro a0 ⟨hml, hwf⟩
  have hq : maxLen = 9223372036854775807 := by decide
  obtain ⟨k, hK⟩ : ∃ k : Nat, 2097152 ≤ k := ⟨_, Nat.le_refl _⟩
  refine ⟨k, ?_⟩
  simp only [f3, f3.step]
  by_cases c : (a0.length : Int) > 1048576
  · rw [if_pos (tb c)]
  rw [if_neg (fb c)]
  obtain ⟨es, n, ts, e, h⟩ := area_ok hK (fun x h => wf_u8 (hwf x h)) (show a0.length ≤ 1048576 by omega)
  obtain ⟨D, e1, e2, hF, hT⟩ := dist_full k hK h
  have hc : ∀ a b c, Arc es a b c → 1 ≤ c := fun a b c hab => (arc_cost (n := (n : Int)) h.eo a b c hab).1
  have e9 : f3.l9_3 k k 0 es ts (n : Int) D D = some (.inr ()) := law9 h.n5 hF hT hc k hK es ts n 0 k (by omega) (by have := h.n5; omega)
  have dl := hF.dim.1
  simp only [e, e1, e2, e9, Option.bind_some, Sum.elim_inr, dl]
  simp
end Go.Proofs.Ytepfpdaehcmblaa.Pure

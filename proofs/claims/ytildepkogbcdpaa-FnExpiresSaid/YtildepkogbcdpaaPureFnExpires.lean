/- The plain law of FnExpires. -/
import Derived.Test.YtildepkogbcdpaaSaysFnExpires
namespace Go.Proofs.Ytildepkogbcdpaa.Pure
open Go Go.B Go.Proofs.Ytildepkogbcdpaa.B Go.Proofs.Ytildepkogbcdpaa.SaysFnExpires
set_option linter.unusedVariables false
set_option linter.unusedSimpArgs false
theorem w64 {n : Int} (h0 : -9223372036854775808 ≤ n) (h1 : n ≤ 9223372036854775807) : IntKind.i64.wrap n = n := by
  rw [IntKind.wrap_i64]; omega
theorem tb {c : Prop} [Decidable c] (h : c) : decide c = true := decide_eq_true h
theorem fb {c : Prop} [Decidable c] (h : ¬ c) : ¬ decide c = true := by simpa using h
theorem ff {c : Prop} [Decidable c] (h : ¬ c) : decide c = false := by simpa using h
theorem gm {α : Type} (pre rest : List α) (x d : α) : List.getD (pre ++ x :: rest) (Int.toNat (pre.length : Int)) d = x := by
  simp [List.getD_eq_getElem?_getD]
theorem lt_mid {α : Type} (pre rest : List α) (x : α) : (pre.length : Int) < ((pre ++ x :: rest).length : Int) := by simp; omega
theorem set_mid {α : Type} (pre rest : List α) (x y : α) : List.set (pre ++ x :: rest) (Int.toNat (pre.length : Int)) y = pre ++ y :: rest := by
  simp
theorem set_at {e : TypeId} (pre rest : List (env.T e)) (x y : env.T e) {off : Nat} {cs : List (Cell env.T)} (h : putCells (E := env) e x off cs = some y) : setE env e (pre ++ x :: rest) (Int.toNat (pre.length : Int)) off cs = pre ++ y :: rest := by
  have hg : List.getD (pre ++ x :: rest) (Int.toNat (pre.length : Int)) (env.dflt e) = x := gm pre rest x _
  simp only [setE, hg, h, Option.getD_some, set_mid]
theorem mid_next {α : Type} (pre rest : List α) (x : α) : pre ++ x :: rest = (pre ++ [x]) ++ rest := by simp
/-! ### rows of pieces -/
theorem set_mid' {α : Type} (pre' : List α) {n : Nat} (h : n = pre'.length) (rest : List α) (x y : α) : List.set (pre' ++ x :: rest) (Int.toNat (n : Int)) y = pre' ++ y :: rest := by
  subst h; simp
theorem lt_mid' {α : Type} (pre' : List α) {n : Nat} (h : n = pre'.length) (rest : List α) (x : α) : (n : Int) < ((pre' ++ x :: rest).length : Int) := by subst h; exact lt_mid _ _ _
theorem wnext {α : Type} (pre : List α) (x : α) (h : pre.length ≤ 4611686018427387904) : IntKind.i64.wrap ((pre.length : Int) + 1) = ((pre ++ [x]).length : Int) := by rw [w64 (by omega) (by omega)]; simp
def ShortPc (n : Nat) (l : List S211) : Prop := ∀ x ∈ l, x.f2.length ≤ n
def ShortX (n : Nat) (l : List S104) : Prop := ∀ b ∈ l, b.f5.length ≤ n ∧ ShortPc n b.f5
/-! ### right boxes -/
theorem in_spec (k : Nat) (a b c : Int) : f86 k a b c = some (decide (b ≤ a ∧ a ≤ c)) := by
  simp only [f86, f86.step]
  split <;> simp at * <;> omega
theorem in_impl (k : Nat) (a b c : Int) : f83 k a b c = some (decide (b ≤ a ∧ a ≤ c)) := by
  simp only [f83, f83.step]
  split <;> simp at * <;> omega
theorem tm8 (n : Nat) : Int.tmod (n : Int) 8 = ((n % 8 : Nat) : Int) := by rw [Int.tmod_eq_emod_of_nonneg (by omega)]; rfl
/-- A piece behind byte e; z: whether none follows. -/
def pcOK (e : Int) (x : S211) (z : Bool) : Prop := e ≤ x.f0 ∧ Int.tmod x.f0 8 = 0 ∧ x.f2.length ≤ 1500 ∧ x.f0 + x.f2.length ≤ 65515 ∧ (x.f1 = true → z = true) ∧ (x.f1 = false → x.f2.length % 8 = 0 ∧ 0 < x.f2.length)
instance (e : Int) (x : S211) (z : Bool) : Decidable (pcOK e x z) := by unfold pcOK; infer_instance
def chk : Int → List S211 → Bool
  | _, [] => true
  | e, x :: r => decide (pcOK e x r.isEmpty) && chk (x.f0 + x.f2.length) r
theorem isE {α : Type} (pre : List α) (x : α) (r : List α) (h : (pre ++ x :: r).length ≤ 100) : (¬ ((pre.length : Int) < IntKind.i64.wrap (((pre ++ x :: r).length : Int) - 1))) ↔ r.isEmpty = true := by
  rw [w64 (by omega) (by omega)]
  simp only [List.length_append, List.length_cons, List.isEmpty_iff, ← List.length_eq_zero_iff]
  omega
theorem spec_chk (k : Nat) (bs : List S104) (n : Int) (s1 s2 : ByteArray) (a1 a2 a3 : Int) : ∀ (rest pre : List S211) (j : Nat) (e : Int), rest.length < j → (pre ++ rest).length ≤ 100 → 0 ≤ e →
    f137.l11 k j bs n e (pre.length : Int) s1 s2 a1 a2 a3 (pre ++ rest) = some (if chk e rest = true then .inr (bs, n, s1, s2, a1, a2, a3, pre ++ rest) else .inl (bs, false, n, s1, s2, a1, a2, a3, pre ++ rest)) := by
  intro rest
  induction rest with
  | nil =>
    intro pre j e hj hl h0
    obtain ⟨j, rfl⟩ : ∃ j', j = j' + 1 := ⟨j - 1, by omega⟩
    simp only [f137.l11, f137.l11.step]
    rw [if_neg (fb (by simp))]
    simp [chk]
  | cons x rest ih =>
    intro pre j e hj hl h0
    obtain ⟨j, rfl⟩ : ∃ j', j = j' + 1 := ⟨j - 1, by omega⟩
    have hl2 : pre.length ≤ 100 := by simp at hl; omega
    have hp : (0 : Int) ≤ (pre.length : Int) := by omega
    have hw := wnext pre x (by omega)
    have hE := isE pre x rest hl
    simp only [f137.l11, f137.l11.step, gm, hw]
    rw [if_pos (tb (lt_mid _ _ _)), if_pos hp, if_pos (lt_mid _ _ _)]
    by_cases c1 : x.f0 < e
    · rw [if_neg (show ¬ decide (x.f0 < e) = false by rw [tb c1]; simp)]
      have : chk e (x :: rest) = false := by simp [chk, pcOK]; omega
      simp [this]
    rw [if_pos (ff c1)]
    by_cases c2 : Int.tmod x.f0 8 ≠ 0
    · rw [if_neg (show ¬ decide (Int.tmod x.f0 8 ≠ 0) = false by rw [tb c2]; simp)]
      have : chk e (x :: rest) = false := by simp [chk, pcOK, c2]
      simp [this]
    rw [if_pos (ff c2)]
    by_cases c3 : (x.f2.length : Int) > 1500
    · rw [if_neg (show ¬ decide ((x.f2.length : Int) > 1500) = false by rw [tb c3]; simp)]
      have : chk e (x :: rest) = false := by simp [chk, pcOK]; omega
      simp [this]
    rw [if_pos (ff c3), w64 (n := 65515 - (x.f2.length : Int)) (by omega) (by omega)]
    by_cases c4 : x.f0 > 65515 - (x.f2.length : Int)
    · rw [if_neg (show ¬ decide (x.f0 > 65515 - (x.f2.length : Int)) = false by rw [tb c4]; simp)]
      have : chk e (x :: rest) = false := by simp [chk, pcOK]; omega
      simp [this]
    rw [if_pos (ff c4)]
    have hih := ih (pre ++ [x]) j (x.f0 + x.f2.length) (by simp at hj; omega) (by simpa using hl) (by omega)
    simp only [List.append_assoc, List.singleton_append] at hih
    have e1 : IntKind.i64.wrap (x.f0 + (x.f2.length : Int)) = x.f0 + (x.f2.length : Int) := w64 (by omega) (by omega)
    simp only [e1, tm8]
    cases hf : x.f1
    · rw [if_neg (by simp), if_pos (by simp)]
      by_cases c5 : x.f2.length % 8 = 0
      case neg =>
        rw [if_neg (show ¬ decide (((x.f2.length % 8 : Nat) : Int) ≠ 0) = false by rw [tb (show ((x.f2.length % 8 : Nat) : Int) ≠ 0 by omega)]; simp)]
        have : chk e (x :: rest) = false := by simp [chk, pcOK, hf, c5]
        simp [this]
      rw [if_pos (ff (show ¬ ((x.f2.length % 8 : Nat) : Int) ≠ 0 by omega))]
      by_cases c6 : (x.f2.length : Int) = 0
      · rw [if_pos (tb c6)]
        have : chk e (x :: rest) = false := by
          have : ¬ 0 < x.f2.length := by omega
          simp [chk, pcOK, hf, this]
        simp [this]
      · rw [if_neg (fb c6), hih]
        have : decide (pcOK e x rest.isEmpty) = true := tb ⟨by omega, by simpa using c2, by omega, by omega, by simp [hf], fun _ => ⟨c5, by omega⟩⟩
        simp only [chk, this, Bool.true_and]
    · rw [if_pos rfl]
      by_cases c5 : (pre.length : Int) < IntKind.i64.wrap (((pre ++ x :: rest).length : Int) - 1)
      · rw [if_neg (show ¬ decide ((pre.length : Int) < IntKind.i64.wrap (((pre ++ x :: rest).length : Int) - 1)) = false by rw [tb c5]; simp)]
        have : chk e (x :: rest) = false := by
          have : ¬ rest.isEmpty = true := fun h => hE.mpr h c5
          simp only [chk, pcOK, hf]
          simp [this]
        simp [this]
      · rw [if_pos (ff c5), if_neg (by simp), hih]
        have : decide (pcOK e x rest.isEmpty) = true := tb ⟨by omega, by simpa using c2, by omega, by omega, fun _ => hE.mp c5, by simp [hf]⟩
        simp only [chk, this, Bool.true_and]
theorem piece_impl (k : Nat) (x : S211) : f196 k x.f0 x.f1 x.f2 = some (decide ((0 ≤ x.f0 ∧ x.f0 ≤ 65515) ∧ Int.tmod x.f0 8 = 0 ∧ x.f2.length ≤ 1500 ∧ x.f0 + x.f2.length ≤ 65515 ∧ (x.f1 = false → x.f2.length % 8 = 0 ∧ 0 < x.f2.length))) := by
  simp only [f196, f196.step, in_impl, Option.bind_some, tm8]
  by_cases c1 : 0 ≤ x.f0 ∧ x.f0 ≤ 65515
  case neg => simp [c1]
  by_cases c2 : Int.tmod x.f0 8 = 0
  case neg => simp [c1, c2]
  by_cases c3 : x.f2.length ≤ 1500
  case neg =>
    have : ((x.f2.length : Int) > 1500) := by omega
    simp [c1, c2, c3, this]
  have c3' : ¬ ((x.f2.length : Int) > 1500) := by omega
  have e1 : IntKind.i64.wrap (x.f0 + (x.f2.length : Int)) = x.f0 + (x.f2.length : Int) := w64 (by omega) (by omega)
  rw [e1]
  by_cases c4 : x.f0 + (x.f2.length : Int) ≤ 65515
  case neg =>
    have : x.f0 + (x.f2.length : Int) > 65515 := by omega
    simp [c1, c2, c3, c3', c4, this]
  have c4' : ¬ x.f0 + (x.f2.length : Int) > 65515 := by omega
  cases hf : x.f1
  · by_cases c5 : 0 < x.f2.length
    · have : (x.f2.length : Int) > 0 := by omega
      have q : (((x.f2.length % 8 : Nat) : Int) = 0) ↔ x.f2.length % 8 = 0 := by omega
      rw [if_pos (by simpa using c1), if_pos (by simp [c2]), if_pos (ff c3'), if_neg (fb c4'), if_pos rfl, if_pos (tb this)]
      simp only [q]
      simp [c1, c2, c3, c4, c5]
    · have : ¬ (x.f2.length : Int) > 0 := by omega
      rw [if_pos (by simpa using c1), if_pos (by simp [c2]), if_pos (ff c3'), if_neg (fb c4'), if_pos rfl, if_neg (fb this)]
      simp [c1, c2, c3, c4, c5]
  · rw [if_pos (by simpa using c1), if_pos (by simp [c2]), if_pos (ff c3'), if_neg (fb c4'), if_neg (by simp)]
    simp [c1, c2, c3, c4]
/-- Where the pieces before end. -/
def Prev (pre : List S211) (e : Int) (z : Bool) : Prop := (pre = [] ∧ e = 0) ∨ ∃ pre' p, pre = pre' ++ [p] ∧ e = p.f0 + p.f2.length ∧ 0 ≤ p.f0 ∧ p.f0 ≤ 65515 ∧ p.f2.length ≤ 1500 ∧ (z = false → 0 < p.f2.length)
theorem impl_chk (k : Nat) (s1 s2 : ByteArray) (a1 a2 a3 : Int) : ∀ (rest pre : List S211) (j : Nat) (e : Int), rest.length < j → (pre ++ rest).length ≤ 100 → Prev pre e rest.isEmpty →
    f175.l6 k j (pre ++ rest) ((pre ++ rest).length : Int) (pre.length : Int) s1 s2 a1 a2 a3 (pre ++ rest) = some (if chk e rest = true then .inr (s1, s2, a1, a2, a3, pre ++ rest) else .inl (false, s1, s2, a1, a2, a3, pre ++ rest)) := by
  intro rest
  induction rest with
  | nil =>
    intro pre j e hj hl h0
    obtain ⟨j, rfl⟩ : ∃ j', j = j' + 1 := ⟨j - 1, by omega⟩
    simp only [f175.l6, f175.l6.step]
    rw [if_neg (fb (by simp))]
    simp [chk]
  | cons x rest ih =>
    intro pre j e hj hl h0
    obtain ⟨j, rfl⟩ : ∃ j', j = j' + 1 := ⟨j - 1, by omega⟩
    have hl2 : pre.length ≤ 100 := by simp at hl; omega
    have hp : (0 : Int) ≤ (pre.length : Int) := by omega
    have hw := wnext pre x (by omega)
    have hE := isE pre x rest hl
    simp only [f175.l6, f175.l6.step, gm, hw, piece_impl, Option.bind_some]
    rw [if_pos (tb (lt_mid _ _ _)), if_pos hp, if_pos (lt_mid _ _ _)]
    by_cases c0 : (0 ≤ x.f0 ∧ x.f0 ≤ 65515) ∧ Int.tmod x.f0 8 = 0 ∧ x.f2.length ≤ 1500 ∧ x.f0 + x.f2.length ≤ 65515 ∧ (x.f1 = false → x.f2.length % 8 = 0 ∧ 0 < x.f2.length)
    case neg =>
      rw [if_neg (by rw [ff c0]; simp)]
      have h3 : 0 ≤ e := by rcases h0 with ⟨_, h⟩ | ⟨_, p, _, h, h2, _⟩ <;> omega
      have : ¬ pcOK e x rest.isEmpty := fun ⟨g1, g2, g3, g4, g5, g6⟩ => c0 ⟨⟨by omega, by omega⟩, g2, g3, g4, g6⟩
      have : chk e (x :: rest) = false := by simp [chk, this]
      simp [this]
    rw [if_pos (by rw [tb c0]; rfl)]
    obtain ⟨⟨q1, q2⟩, q3, q4, q5, q6⟩ := c0
    -- what is asked of a piece that is right and perhaps the last
    have main : (if decide ((pre.length : Int) > 0) = true then
        (if 0 ≤ IntKind.i64.wrap ((pre.length : Int) - 1) then
          (if IntKind.i64.wrap ((pre.length : Int) - 1) < ((pre ++ x :: rest).length : Int) then
            (if decide (x.f0 ≤ (List.getD (pre ++ x :: rest) (Int.toNat (IntKind.i64.wrap ((pre.length : Int) - 1))) (⟨0, false, []⟩ : S211)).f0) = false then
              (if 0 ≤ IntKind.i64.wrap ((pre.length : Int) - 1) then
                (if IntKind.i64.wrap ((pre.length : Int) - 1) < ((pre ++ x :: rest).length : Int) then
                  (f197 k (List.getD (pre ++ x :: rest) (Int.toNat (IntKind.i64.wrap ((pre.length : Int) - 1))) (⟨0, false, []⟩ : S211)).f0 (List.getD (pre ++ x :: rest) (Int.toNat (IntKind.i64.wrap ((pre.length : Int) - 1))) (⟨0, false, []⟩ : S211)).f1 (List.getD (pre ++ x :: rest) (Int.toNat (IntKind.i64.wrap ((pre.length : Int) - 1))) (⟨0, false, []⟩ : S211)).f2 x.f0 x.f1 x.f2).bind fun t21 => if t21 = true then
                    some (Sum.inl (false, s1, s2, a1, a2, a3, pre ++ x :: rest))
                  else
                    f175.l6 k j (pre ++ x :: rest) ((pre ++ x :: rest).length : Int) ((pre ++ [x]).length : Int) s1 s2 a1 a2 a3 (pre ++ x :: rest)
                else none)
              else none)
            else
              some (Sum.inl (false, s1, s2, a1, a2, a3, pre ++ x :: rest)))
          else none)
        else none)
      else
        f175.l6 k j (pre ++ x :: rest) ((pre ++ x :: rest).length : Int) ((pre ++ [x]).length : Int) s1 s2 a1 a2 a3 (pre ++ x :: rest)) =
        (if e ≤ x.f0 then f175.l6 k j (pre ++ x :: rest) ((pre ++ x :: rest).length : Int) ((pre ++ [x]).length : Int) s1 s2 a1 a2 a3 (pre ++ x :: rest) else some (Sum.inl (false, s1, s2, a1, a2, a3, pre ++ x :: rest))) := by
      rcases h0 with ⟨rfl, rfl⟩ | ⟨pre', p, rfl, rfl, p1, p2, p3, p4⟩
      · rw [if_neg (fb (by simp)), if_pos q1]
      · have hpl := p4 rfl
        have e1 : IntKind.i64.wrap (((pre' ++ [p]).length : Int) - 1) = (pre'.length : Int) := by rw [w64 (by omega) (by omega)]; simp
        have e2 : List.getD (pre' ++ [p] ++ x :: rest) (Int.toNat (pre'.length : Int)) (⟨0, false, []⟩ : S211) = p := by rw [List.append_assoc]; exact gm _ _ _ _
        have e3 : (pre'.length : Int) < ((pre' ++ [p] ++ x :: rest).length : Int) := by simp; omega
        have e4 : (0 : Int) ≤ (pre'.length : Int) := by omega
        simp only [e1, e2, if_pos e3, if_pos e4]
        rw [if_pos (tb (by simp only [List.length_append, List.length_singleton]; omega))]
        have o : f197 k p.f0 p.f1 p.f2 x.f0 x.f1 x.f2 = some (decide (p.f0 < x.f0 + x.f2.length ∧ x.f0 < p.f0 + p.f2.length)) := by
          simp only [f197, f197.step]
          rw [w64 (n := x.f0 + (x.f2.length : Int)) (by omega) (by omega), w64 (n := p.f0 + (p.f2.length : Int)) (by omega) (by omega)]
          by_cases c : p.f0 < x.f0 + (x.f2.length : Int)
          · rw [if_pos (tb c)]; simp [c]
          · rw [if_neg (fb c)]; simp [c]
        rw [o]
        simp only [Option.bind_some]
        by_cases c1 : x.f0 ≤ p.f0
        · rw [if_neg (show ¬ decide (x.f0 ≤ p.f0) = false by rw [tb c1]; simp), if_neg (by omega)]
        · rw [if_pos (ff c1)]
          by_cases c2 : p.f0 + p.f2.length ≤ x.f0
          · rw [if_neg (fb (by omega)), if_pos c2]
          · rw [if_pos (tb (by omega)), if_neg c2]
    have hih : pcOK e x rest.isEmpty → f175.l6 k j (pre ++ x :: rest) ((pre ++ x :: rest).length : Int) ((pre ++ [x]).length : Int) s1 s2 a1 a2 a3 (pre ++ x :: rest) = some (if chk (x.f0 + x.f2.length) rest = true then .inr (s1, s2, a1, a2, a3, pre ++ x :: rest) else .inl (false, s1, s2, a1, a2, a3, pre ++ x :: rest)) := by
      intro ⟨g1, g2, g3, g4, g5, g6⟩
      have hpv : Prev (pre ++ [x]) (x.f0 + x.f2.length) rest.isEmpty := .inr ⟨pre, x, rfl, rfl, q1, q2, q4, fun hz => by
        cases hf : x.f1
        · exact (g6 hf).2
        · have := g5 hf; rw [hz] at this; cases this⟩
      have := ih (pre ++ [x]) j (x.f0 + x.f2.length) (by simp at hj; omega) (by simpa using hl) hpv
      simp only [List.append_assoc, List.singleton_append] at this
      exact this
    have fin : (x.f1 = true → rest.isEmpty = true) → (if e ≤ x.f0 then f175.l6 k j (pre ++ x :: rest) ((pre ++ x :: rest).length : Int) ((pre ++ [x]).length : Int) s1 s2 a1 a2 a3 (pre ++ x :: rest) else some (Sum.inl (false, s1, s2, a1, a2, a3, pre ++ x :: rest))) = some (if chk e (x :: rest) = true then .inr (s1, s2, a1, a2, a3, pre ++ x :: rest) else .inl (false, s1, s2, a1, a2, a3, pre ++ x :: rest)) := by
      intro hz
      by_cases c : e ≤ x.f0
      · have ok : pcOK e x rest.isEmpty := ⟨c, q3, q4, q5, hz, q6⟩
        rw [if_pos c, hih ok]
        simp only [chk, tb ok, Bool.true_and]
      · rw [if_neg c]
        have : chk e (x :: rest) = false := by
          have : ¬ pcOK e x rest.isEmpty := fun h => c h.1
          simp [chk, this]
        simp [this]
    rw [main]
    cases hf : x.f1
    · rw [if_neg (by simp)]
      exact fin (by simp [hf])
    · rw [if_pos rfl]
      by_cases c5 : (pre.length : Int) < IntKind.i64.wrap (((pre ++ x :: rest).length : Int) - 1)
      · rw [if_pos (tb c5)]
        have : chk e (x :: rest) = false := by
          have : ¬ rest.isEmpty = true := fun h => hE.mpr h c5
          simp only [chk, pcOK, hf]
          simp [this]
        simp [this]
      · rw [if_neg (fb c5)]
        exact fin fun _ => hE.mp c5
/-- Whether pieces stand one behind the other from byte e on. -/
def whole : Int → List S211 → Bool
  | _, [] => true
  | e, x :: r => decide (x.f0 = e) && whole (e + x.f2.length) r
def lastF (l : List S211) : Bool := (l.getD (l.length - 1) (⟨0, false, []⟩ : S211)).f1
theorem spec_whole_loop (k : Nat) (s1 s2 : ByteArray) (a1 a2 a3 : Int) : ∀ (rest pre : List S211) (j : Nat) (e : Int), rest.length < j → (pre ++ rest).length ≤ 1000 → ShortPc 1500 rest → 0 ≤ e → e + 1500 * rest.length ≤ 1000000000 →
    f178.l3 k j e (pre.length : Int) s1 s2 a1 a2 a3 (pre ++ rest) = some (if whole e rest = true then .inr (s1, s2, a1, a2, a3, pre ++ rest) else .inl (false, s1, s2, a1, a2, a3, pre ++ rest)) := by
  intro rest
  induction rest with
  | nil =>
    intro pre j e hj hl hs h0 h1
    obtain ⟨j, rfl⟩ : ∃ j', j = j' + 1 := ⟨j - 1, by omega⟩
    simp only [f178.l3, f178.l3.step]
    rw [if_neg (fb (by simp))]
    simp [whole]
  | cons x rest ih =>
    intro pre j e hj hl hs h0 h1
    obtain ⟨j, rfl⟩ : ∃ j', j = j' + 1 := ⟨j - 1, by omega⟩
    have hp : (0 : Int) ≤ (pre.length : Int) := by omega
    have hw := wnext pre x (by simp at hl; omega)
    have hx := hs x List.mem_cons_self
    simp only [List.length_cons] at h1
    have e1 : IntKind.i64.wrap (e + (x.f2.length : Int)) = e + (x.f2.length : Int) := w64 (by omega) (by omega)
    simp only [f178.l3, f178.l3.step, gm, hw, e1]
    rw [if_pos (tb (lt_mid _ _ _)), if_pos hp, if_pos (lt_mid _ _ _)]
    by_cases c : x.f0 = e
    · rw [if_neg (fb (by simpa using c)), if_pos hp, if_pos (lt_mid _ _ _)]
      have := ih (pre ++ [x]) j (e + x.f2.length) (by simp at hj; omega) (by simpa using hl) (fun y hy => hs y (List.mem_cons_of_mem _ hy)) (by omega) (by omega)
      simp only [List.append_assoc, List.singleton_append] at this
      rw [this]
      simp only [whole, tb c, Bool.true_and]
    · rw [if_pos (tb c)]
      simp [whole, c]
theorem impl_whole_loop (k : Nat) (xs : List S211) : ∀ (rest pre : List S211) (j : Nat) (e : Int), rest.length < j → (pre ++ rest).length ≤ 1000 → ShortPc 1500 rest → 0 ≤ e → e + 1500 * rest.length ≤ 1000000000 →
    f198.l3 k j xs e (pre ++ rest) ((pre ++ rest).length : Int) (pre.length : Int) = some (if whole e rest = true then .inr xs else .inl (xs, false)) := by
  intro rest
  induction rest with
  | nil =>
    intro pre j e hj hl hs h0 h1
    obtain ⟨j, rfl⟩ : ∃ j', j = j' + 1 := ⟨j - 1, by omega⟩
    simp only [f198.l3, f198.l3.step]
    rw [if_neg (fb (by simp))]
    simp [whole]
  | cons x rest ih =>
    intro pre j e hj hl hs h0 h1
    obtain ⟨j, rfl⟩ : ∃ j', j = j' + 1 := ⟨j - 1, by omega⟩
    have hp : (0 : Int) ≤ (pre.length : Int) := by omega
    have hw := wnext pre x (by simp at hl; omega)
    have hx := hs x List.mem_cons_self
    simp only [List.length_cons] at h1
    have e1 : IntKind.i64.wrap (e + (x.f2.length : Int)) = e + (x.f2.length : Int) := w64 (by omega) (by omega)
    simp only [f198.l3, f198.l3.step, gm, hw, e1]
    rw [if_pos (tb (lt_mid _ _ _)), if_pos hp, if_pos (lt_mid _ _ _)]
    by_cases c : x.f0 = e
    · rw [if_neg (fb (by simpa using c))]
      have := ih (pre ++ [x]) j (e + x.f2.length) (by simp at hj; omega) (by simpa using hl) (fun y hy => hs y (List.mem_cons_of_mem _ hy)) (by omega) (by omega)
      simp only [List.append_assoc, List.singleton_append] at this
      rw [this]
      simp only [whole, tb c, Bool.true_and]
    · rw [if_pos (tb c)]
      simp [whole, c]
def wholeB (l : List S211) : Bool := whole 0 l && lastF l
theorem wlast {α : Type} (l : List α) (h0 : 0 < l.length) (h : l.length ≤ 1000) : IntKind.i64.wrap ((l.length : Int) - 1) = ((l.length - 1 : Nat) : Int) := by rw [w64 (by omega) (by omega)]; omega
theorem spec_whole (k : Nat) (hK : 2097152 ≤ k) (s1 s2 : ByteArray) (a1 a2 a3 : Int) {l : List S211} (h0 : 0 < l.length) (h : l.length ≤ 1000) (hs : ShortPc 1500 l) : f178 k s1 s2 a1 a2 a3 l = some (wholeB l) := by
  have e : f178.l3 k k 0 0 s1 s2 a1 a2 a3 l = _ := spec_whole_loop k s1 s2 a1 a2 a3 l [] k 0 (by omega) (by simpa using h) hs (by omega) (by omega)
  simp only [f178, f178.step, e, wholeB]
  cases whole 0 l
  · simp
  · simp only [if_true, Option.bind_some, Sum.elim_inr, List.nil_append, wlast l h0 h, Int.toNat_natCast]
    rw [if_pos (by omega), if_pos (by omega)]
    simp [lastF]
theorem impl_whole (k : Nat) (hK : 2097152 ≤ k) {l : List S211} (h0 : 0 < l.length) (h : l.length ≤ 1000) (hs : ShortPc 1500 l) : f198 k l = some (wholeB l) := by
  have e : f198.l3 k k l 0 l (l.length : Int) 0 = _ := impl_whole_loop k l l [] k 0 (by omega) (by simpa using h) hs (by omega) (by omega)
  simp only [f198, f198.step, e, wholeB]
  cases whole 0 l
  · simp
  · simp only [if_true, Option.bind_some, Sum.elim_inr, wlast l h0 h, Int.toNat_natCast]
    rw [if_pos (tb (by omega)), if_pos (by omega), if_pos (by omega)]
    simp [lastF]
theorem chk_short : ∀ {l : List S211} {e : Int}, chk e l = true → ShortPc 1500 l
  | [], _, _ => by intro x hx; cases hx
  | x :: l, e, h => by
    simp only [chk, Bool.and_eq_true, decide_eq_true_eq] at h
    intro y hy
    rcases List.mem_cons.mp hy with rfl | hy
    · exact h.1.2.2.1
    · exact chk_short h.2 y hy
def flow (a b : S104) : Bool := decide (a.f0.toList = b.f0.toList) && (decide (a.f1.toList = b.f1.toList) && (decide (a.f2 = b.f2) && decide (a.f3 = b.f3)))
theorem flow_impl (k : Nat) (a b : S104) : f176 k a.f0 a.f1 a.f2 a.f3 a.f4 a.f5 b.f0 b.f1 b.f2 b.f3 b.f4 b.f5 = some (flow a b) := by
  simp only [f176, f176.step, flow]
  by_cases c1 : a.f0.toList = b.f0.toList <;> by_cases c2 : a.f1.toList = b.f1.toList <;> by_cases c3 : a.f2 = b.f2 <;> simp [c1, c2, c3]
theorem any_split (p : S104 → Bool) (pre : List S104) (x : S104) (rest : List S104) : (x :: rest).any p = (p x || rest.any p) := rfl
theorem spec_find (k : Nat) (b : S104) : ∀ (rest pre : List S104) (j : Nat), rest.length < j → (pre ++ rest).length ≤ 100000 →
    (∃ v : Nat, f177.l2 k j (pre ++ rest) (pre.length : Int) b.f0 b.f1 b.f2 b.f3 b.f4 b.f5 = some (.inl (v : Int)) ∧ rest.any (flow b) = true) ∨ (f177.l2 k j (pre ++ rest) (pre.length : Int) b.f0 b.f1 b.f2 b.f3 b.f4 b.f5 = some (.inr ()) ∧ rest.any (flow b) = false) := by
  intro rest
  induction rest with
  | nil =>
    intro pre j hj hl
    obtain ⟨j, rfl⟩ : ∃ j', j = j' + 1 := ⟨j - 1, by omega⟩
    simp only [f177.l2, f177.l2.step]
    rw [if_neg (fb (by simp))]
    exact .inr ⟨rfl, rfl⟩
  | cons x rest ih =>
    intro pre j hj hl
    obtain ⟨j, rfl⟩ : ∃ j', j = j' + 1 := ⟨j - 1, by omega⟩
    have hp : (0 : Int) ≤ (pre.length : Int) := by omega
    have hw := wnext pre x (by simp at hl; omega)
    have := ih (pre ++ [x]) j (by simp at hj; omega) (by simpa using hl)
    simp only [List.append_assoc, List.singleton_append] at this
    simp only [f177.l2, f177.l2.step, gm, hw, any_split (flow b) pre]
    simp only [lt_mid, hp, if_true, decide_true]
    by_cases c1 : x.f0.toList = b.f0.toList
    case neg =>
      have c1' : ¬ b.f0.toList = x.f0.toList := fun h => c1 h.symm
      simp only [flow, c1, c1', decide_false, Bool.false_and, Bool.false_or, Bool.false_eq_true, if_false]
      exact this
    by_cases c2 : x.f1.toList = b.f1.toList
    case neg =>
      have c2' : ¬ b.f1.toList = x.f1.toList := fun h => c2 h.symm
      simp only [flow, c1, c2, c2', decide_true, if_true, decide_false, Bool.true_and, Bool.false_and, Bool.false_or, Bool.false_eq_true, if_false]
      exact this
    by_cases c3 : x.f2 = b.f2
    case neg =>
      have c3' : ¬ b.f2 = x.f2 := fun h => c3 h.symm
      simp only [flow, c1, c2, c3, c3', decide_true, if_true, decide_false, Bool.true_and, Bool.false_and, Bool.false_or, Bool.false_eq_true, if_false]
      exact this
    by_cases c4 : x.f3 = b.f3
    case neg =>
      have c4' : ¬ b.f3 = x.f3 := fun h => c4 h.symm
      simp only [flow, c1, c2, c3, c4, c4', decide_true, if_true, decide_false, Bool.true_and, Bool.false_and, Bool.false_or, Bool.false_eq_true, if_false]
      exact this
    · simp only [flow, c1, c2, c3, c4, decide_true, if_true, Bool.true_and, Bool.true_or]
      exact .inl ⟨pre.length, rfl, trivial⟩
theorem impl_find (k : Nat) (b : S104) (xs7 xs8 : List S104) (n i : Int) : ∀ (rest pre : List S104) (j : Nat), rest.length < j → (pre ++ rest).length ≤ 100000 →
    f135.l9 k j xs7 xs8 n i (pre ++ rest) ((pre ++ rest).length : Int) (pre.length : Int) b.f0 b.f1 b.f2 b.f3 b.f4 b.f5 = some (if rest.any (flow b) = true then .inl (xs7, false, xs8, n, i) else .inr (xs7, xs8, n, i)) := by
  intro rest
  induction rest with
  | nil =>
    intro pre j hj hl
    obtain ⟨j, rfl⟩ : ∃ j', j = j' + 1 := ⟨j - 1, by omega⟩
    simp only [f135.l9, f135.l9.step]
    rw [if_neg (fb (by simp))]
    simp
  | cons x rest ih =>
    intro pre j hj hl
    obtain ⟨j, rfl⟩ : ∃ j', j = j' + 1 := ⟨j - 1, by omega⟩
    have hp : (0 : Int) ≤ (pre.length : Int) := by omega
    have hw := wnext pre x (by simp at hl; omega)
    have := ih (pre ++ [x]) j (by simp at hj; omega) (by simpa using hl)
    simp only [List.append_assoc, List.singleton_append] at this
    simp only [f135.l9, f135.l9.step, gm, hw, any_split (flow b) pre, flow_impl, Option.bind_some]
    simp only [lt_mid, hp, if_true, decide_true]
    rcases Bool.eq_false_or_eq_true (flow b x) with h | h
    · simp [h]
    · simp only [h, Bool.false_eq_true, if_false, Bool.false_or]
      exact this
def hdr (b : S104) : Prop := b.f0.size = 4 ∧ b.f1.size = 4 ∧ (0 ≤ b.f2 ∧ b.f2 ≤ 65535) ∧ (0 ≤ b.f3 ∧ b.f3 ≤ 255) ∧ (0 ≤ b.f4 ∧ b.f4 ≤ 1000030) ∧ (1 ≤ b.f5.length ∧ b.f5.length ≤ 12)
instance (b : S104) : Decidable (hdr b) := by unfold hdr; infer_instance
def goodB (b : S104) : Bool := decide (hdr b) && (chk 0 b.f5 && !wholeB b.f5)
def goods : List S104 → List S104 → Bool
  | _, [] => true
  | pre, b :: r => goodB b && (!(pre.any (flow b)) && goods (pre ++ [b]) r)
theorem box_impl (k : Nat) (hK : 2097152 ≤ k) (b : S104) : f175 k b.f0 b.f1 b.f2 b.f3 b.f4 b.f5 = some (goodB b) := by
  simp only [f175, f175.step, in_impl, Option.bind_some, goodB]
  by_cases c1 : b.f0.size = 4
  case neg =>
    have : ¬ (b.f0.size : Int) = 4 := by omega
    simp [hdr, c1, this]
  by_cases c2 : b.f1.size = 4
  case neg =>
    have : ¬ (b.f1.size : Int) = 4 := by omega
    simp [hdr, c1, c2, this]
  by_cases c3 : 0 ≤ b.f2 ∧ b.f2 ≤ 65535
  case neg => simp [hdr, c1, c2, c3]
  by_cases c4 : 0 ≤ b.f3 ∧ b.f3 ≤ 255
  case neg => simp [hdr, c1, c2, c3, c4]
  by_cases c5 : 0 ≤ b.f4 ∧ b.f4 ≤ 1000030
  case neg => simp [hdr, c1, c2, c3, c4, c5]
  by_cases c6 : 1 ≤ b.f5.length ∧ b.f5.length ≤ 12
  case neg =>
    have : ¬ (1 ≤ (b.f5.length : Int) ∧ (b.f5.length : Int) ≤ 12) := by omega
    simp only [hdr, c1, c2, c3, c4, c5, c6, this, decide_true, decide_false]
    simp
  have c6' : 1 ≤ (b.f5.length : Int) ∧ (b.f5.length : Int) ≤ 12 := by omega
  have c1' : (b.f0.size : Int) = 4 := by omega
  have c2' : (b.f1.size : Int) = 4 := by omega
  have h : hdr b := ⟨c1, c2, c3, c4, c5, c6⟩
  have e : f175.l6 k k b.f5 (b.f5.length : Int) 0 b.f0 b.f1 b.f2 b.f3 b.f4 b.f5 = _ := impl_chk k b.f0 b.f1 b.f2 b.f3 b.f4 b.f5 [] k 0 (by omega) (by simp; omega) (.inl ⟨rfl, rfl⟩)
  simp only [c1', c2', tb c3, tb c4, tb c5, tb c6', tb h, e]
  cases hc : chk 0 b.f5
  · simp
  · simp [impl_whole k hK c6.1 (by omega) (chk_short hc)]
theorem take_mid (pre rest : List S104) : List.drop 0 (List.take (Int.toNat (pre.length : Int)) (pre ++ rest)) = pre := by simp
theorem impl_goods (k : Nat) (hK : 2097152 ≤ k) : ∀ (rest pre : List S104) (j : Nat), rest.length < j → (pre ++ rest).length ≤ 10 →
    f135.l4 k j (pre ++ rest) (pre ++ rest) ((pre ++ rest).length : Int) (pre.length : Int) = some (if goods pre rest = true then .inr () else .inl false) := by
  intro rest
  induction rest with
  | nil =>
    intro pre j hj hl
    obtain ⟨j, rfl⟩ : ∃ j', j = j' + 1 := ⟨j - 1, by omega⟩
    simp only [f135.l4, f135.l4.step]
    rw [if_neg (fb (by simp))]
    simp [goods]
  | cons x rest ih =>
    intro pre j hj hl
    obtain ⟨j, rfl⟩ : ∃ j', j = j' + 1 := ⟨j - 1, by omega⟩
    have hp : (0 : Int) ≤ (pre.length : Int) := by omega
    have hw := wnext pre x (by simp at hl; omega)
    have := ih (pre ++ [x]) j (by simp at hj; omega) (by simpa using hl)
    simp only [List.append_assoc, List.singleton_append] at this
    have e : ∀ n i, f135.l9 k k (pre ++ x :: rest) (pre ++ x :: rest) n i pre (pre.length : Int) 0 x.f0 x.f1 x.f2 x.f3 x.f4 x.f5 = _ := fun n i => impl_find k x (pre ++ x :: rest) (pre ++ x :: rest) n i pre [] k (by simp at hl; omega) (by simp at hl ⊢; omega)
    have hle : (pre.length : Int) ≤ ((pre ++ x :: rest).length : Int) := by simp; omega
    simp only [f135.l4, f135.l4.step, gm, box_impl k hK, Option.bind_some, take_mid]
    simp only [lt_mid, hp, hle, if_true, decide_true, e, goods]
    rcases Bool.eq_false_or_eq_true (goodB x) with hg | hg
    · simp only [hg, Bool.not_true, Bool.false_eq_true, if_false, Bool.true_and]
      rcases Bool.eq_false_or_eq_true (pre.any (flow x)) with hf | hf
      · simp [hf]
      · simp only [hf, Bool.false_eq_true, if_false, Option.bind_some, Sum.elim_inr, Bool.not_false, Bool.true_and, hw]
        exact this
    · simp [hg]
theorem boxes_impl (k : Nat) (hK : 2097152 ≤ k) (l : List S104) : f135 k l = some (decide (l.length ≤ 6) && goods [] l) := by
  simp only [f135, f135.step]
  by_cases c : l.length ≤ 6
  · rw [if_neg (fb (by omega))]
    have e : f135.l4 k k l l (l.length : Int) 0 = _ := impl_goods k hK l [] k (by omega) (by simp; omega)
    rw [e]
    cases goods [] l <;> simp [c]
  · rw [if_pos (tb (by omega))]
    simp [c]
theorem spec_goods (k : Nat) (hK : 2097152 ≤ k) : ∀ (rest pre : List S104) (j : Nat), rest.length < j → (pre ++ rest).length ≤ 10 →
    f137.l4 k j (pre ++ rest) (pre.length : Int) = some (if goods pre rest = true then .inr () else .inl false) := by
  intro rest
  induction rest with
  | nil =>
    intro pre j hj hl
    obtain ⟨j, rfl⟩ : ∃ j', j = j' + 1 := ⟨j - 1, by omega⟩
    simp only [f137.l4, f137.l4.step]
    rw [if_neg (fb (by simp))]
    simp [goods]
  | cons b rest ih =>
    intro pre j hj hl
    obtain ⟨j, rfl⟩ : ∃ j', j = j' + 1 := ⟨j - 1, by omega⟩
    have hp : (0 : Int) ≤ (pre.length : Int) := by omega
    have hw := wnext pre b (by simp at hl; omega)
    have := ih (pre ++ [b]) j (by simp at hj; omega) (by simpa using hl)
    simp only [List.append_assoc, List.singleton_append] at this
    have hle : (pre.length : Int) ≤ ((pre ++ b :: rest).length : Int) := by simp; omega
    simp only [f137.l4, f137.l4.step, gm, in_spec, Option.bind_some, take_mid, goods, goodB]
    simp only [lt_mid, hp, hle, if_true, decide_true]
    by_cases c1 : b.f0.size = 4
    case neg =>
      have : ¬ (b.f0.size : Int) = 4 := by omega
      simp [hdr, c1, this]
    by_cases c2 : b.f1.size = 4
    case neg =>
      have : ¬ (b.f1.size : Int) = 4 := by omega
      simp [hdr, c1, c2, this]
    by_cases c3 : 0 ≤ b.f2 ∧ b.f2 ≤ 65535
    case neg => simp [hdr, c1, c2, c3]
    by_cases c4 : 0 ≤ b.f3 ∧ b.f3 ≤ 255
    case neg => simp [hdr, c1, c2, c3, c4]
    by_cases c5 : 0 ≤ b.f4 ∧ b.f4 ≤ 1000030
    case neg => simp [hdr, c1, c2, c3, c4, c5]
    have c1' : (b.f0.size : Int) = 4 := by omega
    have c2' : (b.f1.size : Int) = 4 := by omega
    by_cases c6 : 1 ≤ b.f5.length
    case neg =>
      have q : (b.f5.length : Int) = 0 := by omega
      have : ¬ hdr b := fun h => c6 h.2.2.2.2.2.1
      simp only [c1', c2', tb c3, tb c4, tb c5, ff this, q]
      simp
    by_cases c7 : b.f5.length ≤ 12
    case neg =>
      have q : ¬ (b.f5.length : Int) = 0 := by omega
      have q2 : (b.f5.length : Int) > 12 := by omega
      have : ¬ hdr b := fun h => c7 h.2.2.2.2.2.2
      simp only [c1', c2', tb c3, tb c4, tb c5, ff this, ff q, tb q2]
      simp
    have q : ¬ (b.f5.length : Int) = 0 := by omega
    have q2 : ¬ (b.f5.length : Int) > 12 := by omega
    have h : hdr b := ⟨c1, c2, c3, c4, c5, c6, c7⟩
    have e : f137.l11 k k (pre ++ b :: rest) (pre.length : Int) 0 0 b.f0 b.f1 b.f2 b.f3 b.f4 b.f5 = _ := spec_chk k (pre ++ b :: rest) (pre.length : Int) b.f0 b.f1 b.f2 b.f3 b.f4 b.f5 [] k 0 (by omega) (by simp; omega) (by omega)
    simp only [c1', c2', tb c3, tb c4, tb c5, tb h, ff q, ff q2, e]
    simp only [ne_eq, not_true_eq_false, decide_false, if_true, Bool.not_true, Bool.true_and]
    have fnd : ∃ v : Int, f177 k pre b.f0 b.f1 b.f2 b.f3 b.f4 b.f5 = some v ∧ decide (v ≥ 0) = pre.any (flow b) := by
      rcases spec_find k b pre [] k (by simp at hl; omega) (by simp at hl ⊢; omega) with ⟨v, h1, h2⟩ | ⟨h1, h2⟩
      · have h1 : f177.l2 k k pre 0 b.f0 b.f1 b.f2 b.f3 b.f4 b.f5 = some (.inl (v : Int)) := h1
        exact ⟨v, by simp only [f177, f177.step, h1]; rfl, by rw [h2]; simp⟩
      · have h1 : f177.l2 k k pre 0 b.f0 b.f1 b.f2 b.f3 b.f4 b.f5 = some (.inr ()) := h1
        exact ⟨-1, by simp only [f177, f177.step, h1]; rfl, by rw [h2]; simp⟩
    obtain ⟨v, hv, hv2⟩ := fnd
    simp only [hv, Option.bind_some, hv2]
    cases hf : pre.any (flow b)
    · simp only [Bool.false_eq_true, if_false, Bool.not_false, Bool.true_and]
      cases hc : chk 0 b.f5
      · simp
      · simp only [List.nil_append, if_true, Option.bind_some, Sum.elim_inr, spec_whole k hK b.f0 b.f1 b.f2 b.f3 b.f4 c6 (by omega : b.f5.length ≤ 1000) (chk_short hc), Bool.true_and]
        cases wholeB b.f5
        · simp only [Bool.false_eq_true, if_false, Bool.not_false, Bool.true_and, hw]
          exact this
        · simp
    · simp
theorem boxes_spec (k : Nat) (hK : 2097152 ≤ k) (l : List S104) : f137 k l = some (decide (l.length ≤ 6) && goods [] l) := by
  simp only [f137, f137.step]
  by_cases c : l.length ≤ 6
  · rw [if_neg (fb (by omega))]
    have e : f137.l4 k k l 0 = _ := spec_goods k hK l [] k (by omega) (by simp; omega)
    rw [e]
    cases goods [] l <;> simp [c]
  · rw [if_pos (tb (by omega))]
    simp [c]
/-! ### right packets -/
/-- A right packet; n: how long its data are. -/
def PkOK (v : Int) (from_ to : ByteArray) (hop proto id off : Int) (more keep : Bool) (n : Nat) : Prop :=
  (0 ≤ hop ∧ hop ≤ 255) ∧ (0 ≤ proto ∧ proto ≤ 255) ∧ n ≤ 1500 ∧
    ((v = 4 ∧ from_.size = 4 ∧ to.size = 4 ∧ (0 ≤ id ∧ id ≤ 65535) ∧ (0 ≤ off ∧ off ≤ 8191) ∧ (keep = true → more = false ∧ off = 0) ∧ (more = true → n % 8 = 0 ∧ 0 < n) ∧ 8 * off + n ≤ 65515) ∨
     (v = 6 ∧ from_.size = 16 ∧ to.size = 16 ∧ id = 0 ∧ off = 0 ∧ more = false ∧ keep = false))
instance (v : Int) (from_ to : ByteArray) (hop proto id off : Int) (more keep : Bool) (n : Nat) : Decidable (PkOK v from_ to hop proto id off more keep n) := by unfold PkOK; infer_instance
theorem wsum {off : Int} {n : Nat} (h : 0 ≤ off ∧ off ≤ 8191) (hn : n ≤ 1500) : IntKind.i64.wrap (IntKind.i64.wrap (8 * off) + (n : Int)) = 8 * off + n := by rw [w64 (n := 8 * off) (by omega) (by omega), w64 (by omega) (by omega)]
theorem pk_spec (k : Nat) (v : Int) (from_ to : ByteArray) (hop proto id off : Int) (more keep : Bool) (xs : List Int) : f85 k v from_ to hop proto id off more keep xs = some (decide (PkOK v from_ to hop proto id off more keep xs.length)) := by
  simp only [f85, f85.step, in_spec, Option.bind_some, tm8, PkOK]
  by_cases h1 : 0 ≤ hop ∧ hop ≤ 255
  case neg => simp [h1]
  by_cases h2 : 0 ≤ proto ∧ proto ≤ 255
  case neg => simp [h1, h2]
  by_cases h3 : xs.length ≤ 1500
  case neg =>
    have : ((xs.length : Int) > 1500) := by omega
    simp [h1, h2, h3, this]
  have h3' : ¬ ((xs.length : Int) > 1500) := by omega
  by_cases h4 : v = 4
  · subst h4
    by_cases h5 : from_.size = 4
    case neg =>
      have : ¬ ((from_.size : Int) = 4) := by omega
      simp [h1, h2, h3, h3', h5, this]
    by_cases h6 : to.size = 4
    case neg =>
      have : ¬ ((to.size : Int) = 4) := by omega
      simp [h1, h2, h3, h3', h5, h6, this]
    by_cases h7 : 0 ≤ id ∧ id ≤ 65535
    case neg => simp [h1, h2, h3, h3', h5, h6, h7]
    by_cases h8 : 0 ≤ off ∧ off ≤ 8191
    case neg => simp [h1, h2, h3, h3', h5, h6, h7, h8]
    simp only [wsum h8 h3]
    simp [-List.length_eq_zero_iff, h1, h2, h3, h3', h5, h6, h7, h8]
    cases keep <;> cases more <;> simp [-List.length_eq_zero_iff]
    · rcases Nat.eq_zero_or_pos xs.length with q1 | q1
      · simp [-List.length_eq_zero_iff, q1]
      · by_cases q2 : xs.length % 8 = 0 <;> simp [-List.length_eq_zero_iff, Nat.ne_of_gt q1, q1, q2] <;> omega
    · by_cases q0 : off = 0
      · subst q0; simp
      · have : ¬ off ≤ 0 := by omega
        simp [q0, this]
  · simp [h1, h2, h3, h3', h4]
    by_cases g1 : v = 6
    case neg => simp [g1]
    by_cases g2 : from_.size = 16
    case neg =>
      have : ¬ ((from_.size : Int) = 16) := by omega
      simp [g2, this]
    by_cases g3 : to.size = 16
    case neg =>
      have : ¬ ((to.size : Int) = 16) := by omega
      simp [g3, this]
    by_cases g4 : id = 0 <;> by_cases g5 : off = 0 <;> cases more <;> cases keep <;> simp [g1, g2, g3, g4, g5]
/-! ### bytes; the Internet sum -/
theorem wf_u8 {x : Int} (h : (Lit.int .u8 x).wf = true) : 0 ≤ x ∧ x ≤ 255 := by
  simp [Lit.wf, IntKind.min, IntKind.max, IntKind.bits, IntKind.signed] at h
  omega
/-! ### what is drawn -/
def Bytes (l : List Int) : Prop := ∀ x ∈ l, 0 ≤ x ∧ x ≤ 255
theorem getD_byte {l : List Int} (h : Bytes l) (i : Nat) : 0 ≤ l.getD i 0 ∧ l.getD i 0 ≤ 255 := by
  rw [List.getD_eq_getElem?_getD]
  cases e : l[i]? with
  | none => simp
  | some x => exact h x (List.mem_of_getElem? e)
theorem Bytes.drop {l : List Int} (h : Bytes l) (i : Nat) : Bytes (l.drop i) := fun x hx => h x (List.mem_of_mem_drop hx)
theorem Bytes.take {l : List Int} (h : Bytes l) (i : Nat) : Bytes (l.take i) := fun x hx => h x (List.mem_of_mem_take hx)
/-! ### texts as bytes -/
theorem strOf_size (xs : List Int) : (strOf xs).size = xs.length := by simp [strOf, ByteArray.size]
theorem strOf_bytesOf (s : ByteArray) : strOf (bytesOf s) = s := by
  rcases s with ⟨⟨l⟩⟩
  show ByteArray.mk (List.map (fun n : Int => UInt8.ofNat n.toNat) (List.map (fun b : UInt8 => (b.toNat : Int)) l)).toArray = _
  rw [List.map_map, show ((fun n : Int => UInt8.ofNat n.toNat) ∘ fun b : UInt8 => (b.toNat : Int)) = id from funext fun b => by simp, List.map_id]
theorem bytesOf_length (s : ByteArray) : (bytesOf s).length = s.size := by simp [bytesOf]
theorem bytesOf_bytes (s : ByteArray) : Bytes (bytesOf s) := fun x hx => by
  obtain ⟨b, _, rfl⟩ := List.mem_map.mp hx
  have := b.toNat_lt; omega
theorem bytesOf_strOf {xs : List Int} (h : Bytes xs) : bytesOf (strOf xs) = xs := by
  simp only [bytesOf, strOf, List.map_map]
  rw [List.map_congr_left (g := id) fun x hx => ?_, List.map_id]
  have := h x hx
  simp [UInt8.toNat_ofNat]; omega
theorem wu8 (x : Int) : 0 ≤ IntKind.u8.wrap x ∧ IntKind.u8.wrap x ≤ 255 := by rw [IntKind.wrap_u8]; omega
theorem wu8_eq {x : Int} (h : 0 ≤ x ∧ x ≤ 255) : IntKind.u8.wrap x = x := by rw [IntKind.wrap_u8]; omega
theorem Bytes.append {a b : List Int} (ha : Bytes a) (hb : Bytes b) : Bytes (a ++ b) := fun x hx => (List.mem_append.mp hx).elim (ha x) (hb x)
theorem Bytes.snoc {a : List Int} (ha : Bytes a) {x : Int} (hx : 0 ≤ x ∧ x ≤ 255) : Bytes (a ++ [x]) := ha.append fun y hy => by simp at hy; omega
theorem Bytes.cons {a : List Int} (ha : Bytes a) {x : Int} (hx : 0 ≤ x ∧ x ≤ 255) : Bytes (x :: a) := fun y hy => by
  rcases List.mem_cons.mp hy with rfl | h
  · exact hx
  · exact ha y h
theorem Bytes.set {a : List Int} (ha : Bytes a) (i : Nat) {x : Int} (hx : 0 ≤ x ∧ x ≤ 255) : Bytes (a.set i x) := fun y hy => by
  rcases List.mem_or_eq_of_mem_set hy with h | rfl
  · exact ha y h
  · exact hx
/-! ### what is drawn -/
/-- A source's state: it has been asked at most n times. -/
structure GS (xs : List Int) (a s : Int) (n : Nat) : Prop where
  len : xs.length ≤ 1048576
  b : Bytes xs
  a0 : 0 ≤ a
  a1 : a ≤ n
  s0 : 0 ≤ s
  s1 : s < 2147483648
theorem GS.to {xs : List Int} {a s : Int} {n n' : Nat} (h : GS xs a s n) (hn : n ≤ n') : GS xs a s n' := ⟨h.len, h.b, h.a0, by have := h.a1; omega, h.s0, h.s1⟩
theorem byte_ok (k : Nat) {xs : List Int} {a s : Int} {n : Nat} (h : GS xs a s n) (hn : n ≤ 100000) : ∃ v a' s', f182 k xs a s = some (v, xs, a', s') ∧ (0 ≤ v ∧ v ≤ 255) ∧ GS xs a' s' (n + 1) := by
  obtain ⟨h0, h1, h2, h3, h4, h5⟩ := h
  have e1 : IntKind.i64.wrap (a + 1) = a + 1 := w64 (by omega) (by omega)
  simp only [f182, f182.step, e1]
  by_cases c : a + 1 ≤ (xs.length : Int)
  · have e2 : IntKind.i64.wrap (a + 1 - 1) = a := by rw [w64 (by omega) (by omega)]; omega
    have hb := getD_byte h1 a.toNat
    rw [if_pos (tb c), e2, if_pos (by omega), if_pos (by omega), if_pos (by omega), if_pos (by omega)]
    refine ⟨_, _, _, rfl, ?_, h0, h1, by omega, by omega, ?_, ?_⟩
    · rw [w64 (by omega) (by omega)]; exact hb
    · rw [w64 (n := xs.getD a.toNat 0) (by omega) (by omega), w64 (n := s * 31) (by omega) (by omega), w64 (n := s * 31 + _) (by omega) (by omega), w64 (by omega) (by omega), Int.tmod_eq_emod_of_nonneg (by omega)]
      omega
    · rw [w64 (n := xs.getD a.toNat 0) (by omega) (by omega), w64 (n := s * 31) (by omega) (by omega), w64 (n := s * 31 + _) (by omega) (by omega), w64 (by omega) (by omega), Int.tmod_eq_emod_of_nonneg (by omega)]
      omega
  · rw [if_neg (fb c)]
    by_cases c2 : a + 1 > 3000
    · rw [if_pos (tb c2)]
      exact ⟨_, _, _, rfl, by omega, h0, h1, by omega, by omega, h4, h5⟩
    · rw [if_neg (fb c2)]
      have e3 : IntKind.i64.wrap (s * 1103515245) = s * 1103515245 := w64 (by omega) (by omega)
      have e4 : IntKind.i64.wrap (s * 1103515245 + 12345) = s * 1103515245 + 12345 := w64 (by omega) (by omega)
      have e5 : Int.tmod (s * 1103515245 + 12345) 2147483648 = (s * 1103515245 + 12345) % 2147483648 := Int.tmod_eq_emod_of_nonneg (by omega)
      rw [e3, e4, e5]
      have h6 : 0 ≤ (s * 1103515245 + 12345) % 2147483648 ∧ (s * 1103515245 + 12345) % 2147483648 < 2147483648 := by omega
      generalize (s * 1103515245 + 12345) % 2147483648 = z at h6
      have e6 : Int.tdiv z 65536 = z / 65536 := Int.tdiv_eq_ediv_of_nonneg h6.1
      rw [e6, w64 (by omega) (by omega), Int.tmod_eq_emod_of_nonneg (by omega)]
      exact ⟨_, _, _, rfl, by omega, h0, h1, by omega, by omega, h6.1, h6.2⟩
theorem next_ok (k : Nat) {xs : List Int} {a s : Int} {n : Nat} (h : GS xs a s n) (hn : n ≤ 90000) {N : Int} (h1 : 1 ≤ N) (h2 : N ≤ 65536) : ∃ v a' s', f145 k xs a s N = some (v, xs, a', s') ∧ (0 ≤ v ∧ v < N) ∧ GS xs a' s' (n + 3) := by
  simp only [f145, f145.step]
  by_cases c : N ≤ 1
  · rw [if_pos (tb c)]
    exact ⟨_, _, _, rfl, by omega, h.to (by omega)⟩
  · rw [if_neg (fb c)]
    by_cases c2 : N ≤ 256
    · obtain ⟨v, a', s', e, hv, g⟩ := byte_ok k h (by omega)
      rw [if_pos (tb c2), e]
      simp only [Option.bind_some]
      rw [if_pos (by omega), Int.tmod_eq_emod_of_nonneg hv.1]
      exact ⟨_, _, _, rfl, ⟨Int.emod_nonneg _ (by omega), Int.emod_lt_of_pos _ (by omega)⟩, g.to (by omega)⟩
    · obtain ⟨v1, a1, s1, e1, hv1, g1⟩ := byte_ok k h (by omega)
      obtain ⟨v2, a2, s2, e2, hv2, g2⟩ := byte_ok k g1 (by omega)
      obtain ⟨v3, a3, s3, e3, hv3, g3⟩ := byte_ok k g2 (by omega)
      rw [if_neg (fb c2), e1]
      simp only [Option.bind_some, e2, e3]
      rw [if_pos (by omega), w64 (n := v1 * 65536) (by omega) (by omega), w64 (n := v2 * 256) (by omega) (by omega), w64 (n := v1 * 65536 + v2 * 256) (by omega) (by omega), w64 (by omega) (by omega), Int.tmod_eq_emod_of_nonneg (by omega)]
      exact ⟨_, _, _, rfl, ⟨Int.emod_nonneg _ (by omega), Int.emod_lt_of_pos _ (by omega)⟩, g3⟩
theorem six_loop (k : Nat) : ∀ (d j n : Nat) (i : Int) (xs : List Int) (a s : Int) (out : List Int), i ≤ d → 0 ≤ i → d < j → GS xs a s n → n + 6 * d ≤ 80000 → out.length = 16 → ∃ a' s' out', f164.l5 k j i xs a s out = some (xs, a', s', out') ∧ GS xs a' s' (n + 6 * d) ∧ out'.length = 16 := by
  intro d
  induction d with
  | zero =>
    intro j n i xs a s out hi h0 hj g hn ho
    obtain ⟨j, rfl⟩ : ∃ j', j = j' + 1 := ⟨j - 1, by omega⟩
    simp only [f164.l5, f164.l5.step]
    rw [if_neg (fb (by omega))]
    exact ⟨_, _, _, rfl, g.to (by omega), ho⟩
  | succ d ih =>
    intro j n i xs a s out hi h0 hj g hn ho
    obtain ⟨j, rfl⟩ : ∃ j', j = j' + 1 := ⟨j - 1, by omega⟩
    simp only [f164.l5, f164.l5.step]
    by_cases c : i > 0
    · obtain ⟨v1, a1, s1, e1, hv1, g1⟩ := next_ok k g (by omega) (N := 16) (by omega) (by omega)
      obtain ⟨v2, a2, s2, e2, hv2, g2⟩ := next_ok k g1 (by omega) (N := 256) (by omega) (by omega)
      rw [if_pos (tb c), e1]
      simp only [Option.bind_some, e2]
      rw [if_pos (by omega), if_pos (by omega), w64 (by omega) (by omega)]
      obtain ⟨a', s', out', e, g', ho'⟩ := ih j (n + 6) (i - 1) xs a2 s2 (out.set v1.toNat (IntKind.u8.wrap v2)) (by omega) (by omega) (by omega) (g2.to (by omega)) (by omega) (by simpa using ho)
      exact ⟨a', s', out', e, g'.to (by omega), ho'⟩
    · rw [if_neg (fb c)]
      exact ⟨_, _, _, rfl, g.to (by omega), ho⟩
theorem addr6_ok {k : Nat} (hK : 2097152 ≤ k) {xs : List Int} {a s : Int} {n : Nat} (g : GS xs a s n) (hn : n ≤ 70000) : ∃ t a' s', f164 k xs a s = some (t, xs, a', s') ∧ GS xs a' s' (n + 30) ∧ t.size = 16 := by
  obtain ⟨v1, a1, s1, e1, hv1, g1⟩ := next_ok k g (by omega) (N := 2) (by omega) (by omega)
  obtain ⟨v2, a2, s2, e2, hv2, g2⟩ := next_ok k g1 (by omega) (N := 4) (by omega) (by omega)
  obtain ⟨a', s', out', e, g', ho⟩ := six_loop k 4 k (n + 6) v2 xs a2 s2 (List.set (List.set (List.replicate 16 0) 0 32) 1 (IntKind.u8.wrap v1)) (by omega) hv2.1 (by omega) g2 (by omega) (by simp)
  simp only [f164, f164.step, e1, Option.bind_some, e2]
  rw [if_pos (by decide), if_pos (by decide), e]
  exact ⟨_, _, _, rfl, g'.to (by omega), by rw [strOf_size, ho]⟩
theorem bytes_loop (k : Nat) : ∀ (d j n : Nat) (i : Int) (xs : List Int) (a s : Int) (out : List Int), i ≤ d → 0 ≤ i → d < j → GS xs a s n → n + 3 * d ≤ 80000 → out.length + d ≤ 1000 → Bytes out → ∃ a' s' out', f165.l3 k j i xs a s out = some (xs, a', s', out') ∧ GS xs a' s' (n + 3 * d) ∧ out'.length ≤ out.length + d ∧ Bytes out' := by
  intro d
  induction d with
  | zero =>
    intro j n i xs a s out hi h0 hj g hn ho hB
    obtain ⟨j, rfl⟩ : ∃ j', j = j' + 1 := ⟨j - 1, by omega⟩
    simp only [f165.l3, f165.l3.step]
    rw [if_neg (fb (by omega))]
    exact ⟨_, _, _, rfl, g.to (by omega), by omega, hB⟩
  | succ d ih =>
    intro j n i xs a s out hi h0 hj g hn ho hB
    obtain ⟨j, rfl⟩ : ∃ j', j = j' + 1 := ⟨j - 1, by omega⟩
    simp only [f165.l3, f165.l3.step]
    by_cases c : i > 0
    · obtain ⟨v1, a1, s1, e1, hv1, g1⟩ := next_ok k g (by omega) (N := 256) (by omega) (by omega)
      rw [if_pos (tb c), e1]
      simp only [Option.bind_some]
      rw [if_pos (by simp [maxN]; omega), w64 (by omega) (by omega)]
      obtain ⟨a', s', out', e, g', hl, hB'⟩ := ih j (n + 3) (i - 1) xs a1 s1 (out ++ [IntKind.u8.wrap v1]) (by omega) (by omega) (by omega) g1 (by omega) (by simp; omega) (hB.snoc (wu8 _))
      exact ⟨a', s', out', e, g'.to (by omega), by simp at hl; omega, hB'⟩
    · rw [if_neg (fb c)]
      exact ⟨_, _, _, rfl, g.to (by omega), by omega, hB⟩
theorem bytes_ok {k : Nat} (hK : 2097152 ≤ k) {xs : List Int} {a s : Int} {n : Nat} (g : GS xs a s n) (hn : n ≤ 70000) : ∃ t a' s', f165 k xs a s 40 = some (t, xs, a', s') ∧ GS xs a' s' (n + 130) ∧ t.length ≤ 40 ∧ Bytes t := by
  have hw : IntKind.i64.wrap (40 + 1) = 41 := w64 (by omega) (by omega)
  obtain ⟨v1, a1, s1, e1, hv1, g1⟩ := next_ok k g (by omega) (N := 41) (by omega) (by omega)
  obtain ⟨a', s', out', e, g', hl, hB⟩ := bytes_loop k 40 k (n + 3) v1 xs a1 s1 [] (by omega) hv1.1 (by omega) g1 (by omega) (by simp) (by intro x hx; cases hx)
  simp only [f165, f165.step, hw, e1, Option.bind_some, e]
  exact ⟨_, _, _, rfl, g'.to (by omega), by simpa using hl, hB⟩
theorem chance_ok (k : Nat) {xs : List Int} {a s : Int} {n : Nat} (g : GS xs a s n) (hn : n ≤ 70000) {N : Int} (h1 : 1 ≤ N) (h2 : N ≤ 65536) : ∃ t a' s', f166 k xs a s N = some (t, xs, a', s') ∧ GS xs a' s' (n + 3) := by
  obtain ⟨v1, a1, s1, e1, hv1, g1⟩ := next_ok k g (by omega) h1 h2
  simp only [f166, f166.step, e1, Option.bind_some]
  exact ⟨_, _, _, rfl, g1⟩
theorem addr4_ok (k : Nat) {xs : List Int} {a s : Int} {n : Nat} (g : GS xs a s n) (hn : n ≤ 70000) : ∃ t a' s', f167 k xs a s = some (t, xs, a', s') ∧ GS xs a' s' (n + 9) ∧ t.size = 4 := by
  obtain ⟨v1, a1, s1, e1, hv1, g1⟩ := next_ok k g (by omega) (N := 3) (by omega) (by omega)
  obtain ⟨v2, a2, s2, e2, hv2, g2⟩ := next_ok k g1 (by omega) (N := 2) (by omega) (by omega)
  obtain ⟨v3, a3, s3, e3, hv3, g3⟩ := next_ok k g2 (by omega) (N := 4) (by omega) (by omega)
  simp only [f167, f167.step, e1, Option.bind_some, e2, e3]
  exact ⟨_, _, _, rfl, g3, rfl⟩
/-- A drawn packet: what is known of it. -/
def PK (xs : List Int) (n : Nat) (t : Int × ByteArray × ByteArray × Int × Int × Int × Int × Bool × Bool × List Int × List Int × Int × Int) : Prop :=
  PkOK t.1 t.2.1 t.2.2.1 t.2.2.2.1 t.2.2.2.2.1 t.2.2.2.2.2.1 t.2.2.2.2.2.2.1 t.2.2.2.2.2.2.2.1 t.2.2.2.2.2.2.2.2.1 t.2.2.2.2.2.2.2.2.2.1.length ∧ Bytes t.2.2.2.2.2.2.2.2.2.1 ∧ t.2.2.2.2.2.2.2.2.2.1.length ≤ 1440 ∧ t.2.2.2.2.2.2.2.2.2.2.1 = xs ∧ GS xs t.2.2.2.2.2.2.2.2.2.2.2.1 t.2.2.2.2.2.2.2.2.2.2.2.2 n
theorem packet_ok {k : Nat} (hK : 2097152 ≤ k) {xs : List Int} {a s : Int} {n : Nat} (g : GS xs a s n) (hn : n ≤ 60000) : ∃ t, f123 k xs a s = some t ∧ PK xs (n + 300) t := by
  obtain ⟨u1, a1, s1, e1, g1, z1⟩ := addr6_ok hK g (by omega)
  obtain ⟨u2, a2, s2, e2, g2, z2⟩ := addr6_ok hK g1 (by omega)
  obtain ⟨v3, a3, s3, e3, hv3, g3⟩ := next_ok k g2 (by omega) (N := 4) (by omega) (by omega)
  obtain ⟨v4, a4, s4, e4, hv4, g4⟩ := next_ok k g3 (by omega) (N := 256) (by omega) (by omega)
  obtain ⟨d, a5, s5, e5, g5, hd, hdB⟩ := bytes_ok hK g4 (by omega)
  obtain ⟨b6, a6, s6, e6, g6⟩ := chance_ok k g5 (by omega) (N := 3) (by omega) (by omega)
  have hhop : 0 ≤ List.getD ([64, 1, 0, 255] : List Int) v3.toNat 0 ∧ List.getD ([64, 1, 0, 255] : List Int) v3.toNat 0 ≤ 255 := getD_byte (by intro x hx; simp at hx; omega) _
  simp only [f123, f123.step, e1, Option.bind_some, e2, e3, e4, e5, e6]
  rw [if_pos hv3.1, if_pos (by simpa using hv3.2)]
  -- the rest, once the data are known
  have rest : ∀ (d : List Int) (a7 s7 : Int), d.length ≤ 1440 → Bytes d → GS xs a7 s7 (n + 240) → ∃ t, ((f166 k xs a7 s7 2).bind fun t17 => if t17.1 = true then
      (f167 k t17.2.1 t17.2.2.1 t17.2.2.2).bind fun t18 => (f167 k t18.2.1 t18.2.2.1 t18.2.2.2).bind fun t19 => (f145 k t19.2.1 t19.2.2.1 t19.2.2.2 65536).bind fun t20 => (f145 k t20.2.1 t20.2.2.1 t20.2.2.2 4).bind fun t21 => if decide (t21.1 = 0) = true then
        some ((4 : Int), t18.1, t19.1, (List.getD ([64, 1, 0, 255] : List Int) v3.toNat 0), v4, t20.1, (0 : Int), false, true, d, t21.2.1, t21.2.2.1, t21.2.2.2)
      else if decide (t21.1 = 1) = true then
        (f145 k t21.2.1 t21.2.2.1 t21.2.2.2 20).bind fun t22 => if decide ((Int.tmod (d.length : Int) 8) = 0) = true then
          some ((4 : Int), t18.1, t19.1, (List.getD ([64, 1, 0, 255] : List Int) v3.toNat 0), v4, t20.1, t22.1, decide ((d.length : Int) > 0), false, d, t22.2.1, t22.2.2.1, t22.2.2.2)
        else some ((4 : Int), t18.1, t19.1, (List.getD ([64, 1, 0, 255] : List Int) v3.toNat 0), v4, t20.1, t22.1, false, false, d, t22.2.1, t22.2.2.1, t22.2.2.2)
      else some ((4 : Int), t18.1, t19.1, (List.getD ([64, 1, 0, 255] : List Int) v3.toNat 0), v4, t20.1, (0 : Int), false, false, d, t21.2.1, t21.2.2.1, t21.2.2.2)
    else some ((6 : Int), u1, u2, (List.getD ([64, 1, 0, 255] : List Int) v3.toNat 0), v4, (0 : Int), (0 : Int), false, false, d, t17.2.1, t17.2.2.1, t17.2.2.2)) = some t ∧ PK xs (n + 300) t := fun d a7 s7 hd hdB g7 => by
    have hv4' : 0 ≤ v4 ∧ v4 ≤ 255 := by omega
    have h8 : decide (Int.tmod (d.length : Int) 8 = 0) = true → d.length % 8 = 0 := fun h => by rw [tm8] at h; have := of_decide_eq_true h; omega
    obtain ⟨b8, a8, s8, e8, g8⟩ := chance_ok k g7 (by omega) (N := 2) (by omega) (by omega)
    obtain ⟨u9, a9, s9, e9, g9, z9⟩ := addr4_ok k g8 (by omega)
    obtain ⟨u10, a10, s10, e10, g10, z10⟩ := addr4_ok k g9 (by omega)
    obtain ⟨v11, a11, s11, e11, hv11, g11⟩ := next_ok k g10 (by omega) (N := 65536) (by omega) (by omega)
    obtain ⟨v12, a12, s12, e12, hv12, g12⟩ := next_ok k g11 (by omega) (N := 4) (by omega) (by omega)
    obtain ⟨v13, a13, s13, e13, hv13, g13⟩ := next_ok k g12 (by omega) (N := 20) (by omega) (by omega)
    simp only [e8, Option.bind_some, e9, e10, e11, e12, e13]
    split
    · split
      · exact ⟨_, rfl, (show PkOK 4 u9 u10 (List.getD ([64, 1, 0, 255] : List Int) v3.toNat 0) v4 v11 0 false true d.length from ⟨hhop, hv4', by omega, .inl ⟨rfl, z9, z10, by omega, by omega, fun _ => ⟨rfl, rfl⟩, fun h => by simp at h, by omega⟩⟩), hdB, hd, rfl, g12.to (by omega)⟩
      · split
        · split
          · exact ⟨_, rfl, (show PkOK 4 u9 u10 (List.getD ([64, 1, 0, 255] : List Int) v3.toNat 0) v4 v11 v13 (decide ((d.length : Int) > 0)) false d.length from ⟨hhop, hv4', by omega, .inl ⟨rfl, z9, z10, by omega, by omega, fun h => by simp at h, fun h => ⟨h8 (by assumption), by simpa using h⟩, by omega⟩⟩), hdB, hd, rfl, g13.to (by omega)⟩
          · exact ⟨_, rfl, (show PkOK 4 u9 u10 (List.getD ([64, 1, 0, 255] : List Int) v3.toNat 0) v4 v11 v13 false false d.length from ⟨hhop, hv4', by omega, .inl ⟨rfl, z9, z10, by omega, by omega, fun h => by simp at h, fun h => by simp at h, by omega⟩⟩), hdB, hd, rfl, g13.to (by omega)⟩
        · exact ⟨_, rfl, (show PkOK 4 u9 u10 (List.getD ([64, 1, 0, 255] : List Int) v3.toNat 0) v4 v11 0 false false d.length from ⟨hhop, hv4', by omega, .inl ⟨rfl, z9, z10, by omega, by omega, fun h => by simp at h, fun h => by simp at h, by omega⟩⟩), hdB, hd, rfl, g12.to (by omega)⟩
    · exact ⟨_, rfl, (show PkOK 6 u1 u2 (List.getD ([64, 1, 0, 255] : List Int) v3.toNat 0) v4 0 0 false false d.length from ⟨hhop, hv4', by omega, .inr ⟨rfl, z1, z2, rfl, rfl, rfl, rfl⟩⟩), hdB, hd, rfl, g8.to (by omega)⟩
  split
  · obtain ⟨v7, a7, s7, e7, hv7, g7⟩ := next_ok k g6 (by omega) (N := 1400) (by omega) (by omega)
    simp only [e7, Option.bind_some]
    rw [if_pos hv7.1, if_pos (by simp [maxN]; omega)]
    exact rest _ _ _ (by simp; omega) (hdB.append (fun x hx => by have := List.eq_of_mem_replicate hx; omega)) (g7.to (by omega))
  · exact rest _ _ _ (by omega) hdB (g6.to (by omega))
/-! ### boxes copied -/
theorem clone_loop (k : Nat) (s1 s2 t1 t2 : ByteArray) (a1 a2 a3 b1 b2 b3 : Int) (xs : List S211) (hl : xs.length ≤ 1048576) (hs : ShortPc 1048576 xs) : ∀ (rest pre : List S211) (j : Nat), xs = pre ++ rest → rest.length < j →
    f136.l3 k j xs (xs.length : Int) (pre.length : Int) s1 s2 a1 a2 a3 xs t1 t2 b1 b2 b3 (pre ++ List.replicate rest.length (⟨0, false, []⟩ : S211)) = some (s1, s2, a1, a2, a3, xs, t1, t2, b1, b2, b3, xs) := by
  intro rest
  induction rest with
  | nil =>
    intro pre j hx hj
    obtain ⟨j, rfl⟩ : ∃ j', j = j' + 1 := ⟨j - 1, by omega⟩
    simp only [f136.l3, f136.l3.step]
    have : xs.length = pre.length := by rw [hx]; simp
    rw [if_neg (fb (by omega)), hx]; simp
  | cons x rest ih =>
    intro pre j hx hj
    obtain ⟨j, rfl⟩ : ∃ j', j = j' + 1 := ⟨j - 1, by omega⟩
    have hlt : (pre.length : Int) < (xs.length : Int) := by rw [hx]; exact lt_mid _ _ _
    have hg : ∀ d, xs.getD (Int.toNat (pre.length : Int)) d = x := fun d => by rw [hx]; exact gm _ _ _ _
    have hxl : x.f2.length ≤ 1048576 := hs x (by rw [hx]; simp)
    have hw := wnext pre x (by omega)
    have hp : (0 : Int) ≤ (pre.length : Int) := by omega
    have hm : (([] : List Int).length + x.f2.length) * 1 ≤ maxN := by simp [maxN]; omega
    simp only [f136.l3, f136.l3.step, hg, hw, List.length_cons, List.replicate_succ, List.nil_append, set_mid]
    simp only [hlt, hp, hm, lt_mid, if_true, decide_true]
    have := ih (pre ++ [x]) j (by rw [hx]; simp) (by simp at hj; omega)
    simp only [List.append_assoc, List.singleton_append] at this
    exact this
theorem clone_ok (k : Nat) (hK : 2097152 ≤ k) (b : S104) (hl : b.f5.length ≤ 1048576) (hs : ShortPc 1048576 b.f5) : f136 k b.f0 b.f1 b.f2 b.f3 b.f4 b.f5 = some (b.f0, b.f1, b.f2, b.f3, b.f4, b.f5) := by
  have e : f136.l3 k k b.f5 (b.f5.length : Int) 0 b.f0 b.f1 b.f2 b.f3 b.f4 b.f5 ByteArray.empty ByteArray.empty 0 0 0 (List.replicate (Int.toNat (b.f5.length : Int)) (⟨0, false, []⟩ : S211)) = _ :=
    clone_loop k b.f0 b.f1 ByteArray.empty ByteArray.empty b.f2 b.f3 b.f4 0 0 0 b.f5 hl hs b.f5 [] k rfl (by omega)
  simp only [f136, f136.step, e, Option.bind_some]
  rw [if_pos (by omega), if_pos (by simp [maxN]; omega)]
theorem own_loop8 (k : Nat) (xs : List S104) (bpre brest : List S104) (b : S104) (hx : xs = bpre ++ b :: brest) (ys : List S104) (s1 s2 : ByteArray) (a1 a2 a3 : Int) (hl : b.f5.length ≤ 1048576) (hs : ShortPc 1048576 b.f5) : ∀ (rest pre : List S211) (j : Nat), b.f5 = pre ++ rest → rest.length < j →
    f133.l8 k j xs (bpre.length : Int) (pre.length : Int) ys s1 s2 a1 a2 a3 pre = some (xs, (bpre.length : Int), ys, s1, s2, a1, a2, a3, b.f5) := by
  intro rest
  have hg0 : ∀ d, xs.getD (Int.toNat (bpre.length : Int)) d = b := fun d => by rw [hx]; exact gm _ _ _ _
  have hlt0 : (bpre.length : Int) < (xs.length : Int) := by rw [hx]; exact lt_mid _ _ _
  have hp0 : (0 : Int) ≤ (bpre.length : Int) := by omega
  induction rest with
  | nil =>
    intro pre j he hj
    obtain ⟨j, rfl⟩ : ∃ j', j = j' + 1 := ⟨j - 1, by omega⟩
    have : b.f5.length = pre.length := by rw [he]; simp
    simp only [f133.l8, f133.l8.step, hg0]
    rw [if_pos hp0, if_pos hlt0, if_neg (fb (by omega)), he]; simp
  | cons x rest ih =>
    intro pre j he hj
    obtain ⟨j, rfl⟩ : ∃ j', j = j' + 1 := ⟨j - 1, by omega⟩
    have hlt : (pre.length : Int) < (b.f5.length : Int) := by rw [he]; exact lt_mid _ _ _
    have hg : ∀ d, b.f5.getD (Int.toNat (pre.length : Int)) d = x := fun d => by rw [he]; exact gm _ _ _ _
    have hxl : x.f2.length ≤ 1048576 := hs x (by rw [he]; simp)
    have hw := wnext pre x (by omega)
    have hp : (0 : Int) ≤ (pre.length : Int) := by omega
    have hm : (([] : List Int).length + x.f2.length) * 1 ≤ maxN := by simp [maxN]; omega
    have hm2 : ∀ y : S211, (pre.length + ([y] : List S211).length) * 40 ≤ maxN := fun y => by simp [maxN]; omega
    simp only [f133.l8, f133.l8.step, hg0, hg, hw, List.nil_append]
    simp only [hlt, hp, hm, hm2, hp0, hlt0, if_true, decide_true]
    exact ih (pre ++ [x]) j (by rw [he]; simp) (by simp at hj; omega)
theorem own_loop3 (k : Nat) (hK : 2097152 ≤ k) (xs : List S104) (hl : xs.length ≤ 1048576) (hs : ShortX 1048576 xs) : ∀ (rest pre : List S104) (j : Nat), xs = pre ++ rest → rest.length < j →
    f133.l3 k j xs (pre.length : Int) pre = some xs := by
  intro rest
  induction rest with
  | nil =>
    intro pre j hx hj
    obtain ⟨j, rfl⟩ : ∃ j', j = j' + 1 := ⟨j - 1, by omega⟩
    simp only [f133.l3, f133.l3.step]
    have : xs.length = pre.length := by rw [hx]; simp
    rw [if_neg (fb (by omega)), hx]; simp
  | cons x rest ih =>
    intro pre j hx hj
    obtain ⟨j, rfl⟩ : ∃ j', j = j' + 1 := ⟨j - 1, by omega⟩
    have hlt : (pre.length : Int) < (xs.length : Int) := by rw [hx]; exact lt_mid _ _ _
    have hg : ∀ d, xs.getD (Int.toNat (pre.length : Int)) d = x := fun d => by rw [hx]; exact gm _ _ _ _
    have hxl := hs x (by rw [hx]; simp)
    have hw := wnext pre x (by omega)
    have hp : (0 : Int) ≤ (pre.length : Int) := by omega
    have hm2 : ∀ y : S104, (pre.length + ([y] : List S104).length) * 80 ≤ maxN := fun y => by simp [maxN]; omega
    have e : f133.l8 k k xs (pre.length : Int) 0 pre x.f0 x.f1 x.f2 x.f3 x.f4 [] = _ := own_loop8 k xs pre rest x hx pre x.f0 x.f1 x.f2 x.f3 x.f4 hxl.1 hxl.2 x.f5 [] k rfl (by omega)
    simp only [f133.l3, f133.l3.step, hg, e, Option.bind_some, hw]
    simp only [hlt, hp, hm2, if_true, decide_true]
    exact ih (pre ++ [x]) j (by rw [hx]; simp) (by simp at hj; omega)
theorem own_ok (k : Nat) (hK : 2097152 ≤ k) {xs : List S104} (hl : xs.length ≤ 1048576) (hs : ShortX 1048576 xs) : f133 k xs = some xs := by
  have e : f133.l3 k k xs 0 [] = some xs := own_loop3 k hK xs hl hs xs [] k rfl (by omega)
  simp only [f133, f133.step, e, Option.bind_some]
/-! ### boxes that are fed -/
def key (b : S104) : List UInt8 × List UInt8 × Int × Int := (b.f0.toList, b.f1.toList, b.f2, b.f3)
theorem flow_key (a b : S104) : flow a b = decide (key a = key b) := by
  simp only [flow, key, Prod.mk.injEq]
  by_cases c1 : a.f0.toList = b.f0.toList <;> by_cases c2 : a.f1.toList = b.f1.toList <;> by_cases c3 : a.f2 = b.f2 <;> by_cases c4 : a.f3 = b.f3 <;> simp [c1, c2, c3, c4]
def GB (l : List S104) : Prop := (∀ b ∈ l, goodB b = true) ∧ (l.map key).Nodup
theorem goods_of : ∀ (l pre : List S104), (∀ b ∈ l, goodB b = true ∧ pre.any (flow b) = false) → (l.map key).Nodup → goods pre l = true
  | [], pre, _, _ => rfl
  | b :: r, pre, h, hp => by
    have h1 := h b List.mem_cons_self
    rw [List.map_cons, List.nodup_cons] at hp
    simp only [goods, h1.1, h1.2, Bool.not_false, Bool.true_and]
    refine goods_of r (pre ++ [b]) (fun c hc => ⟨(h c (List.mem_cons_of_mem _ hc)).1, ?_⟩) hp.2
    rw [List.any_append, (h c (List.mem_cons_of_mem _ hc)).2]
    simp only [List.any_cons, List.any_nil, Bool.or_false, Bool.false_or, flow_key]
    exact ff fun e => hp.1 (e ▸ List.mem_map_of_mem hc)
theorem GB.goods {l : List S104} (h : GB l) : goods [] l = true := goods_of l [] (fun b hb => ⟨h.1 b hb, rfl⟩) h.2
theorem GB.without {l : List S104} (h : GB l) (v : Nat) : GB (l.take v ++ l.drop (v + 1)) := by
  have hs : (l.take v ++ l.drop (v + 1)).Sublist l := by
    rw [← List.eraseIdx_eq_take_drop_succ]; exact List.eraseIdx_sublist _ _
  exact ⟨fun b hb => h.1 b (hs.subset hb), h.2.sublist (hs.map key)⟩
theorem GB.set {l : List S104} (h : GB l) {v : Nat} (hv : v < l.length) {b : S104} (hb : goodB b = true) (hk : key b = key (l.getD v ⟨ByteArray.empty, ByteArray.empty, 0, 0, 0, []⟩)) : GB (l.set v b) := by
  refine ⟨fun c hc => ?_, ?_⟩
  · rcases List.mem_or_eq_of_mem_set hc with h1 | rfl
    · exact h.1 c h1
    · exact hb
  · have : (l.set v b).map key = l.map key := by
      rw [List.map_set, hk]
      apply List.ext_getElem?
      intro i
      rw [List.getElem?_set]
      split
      · rename_i e
        subst e
        simp [hv, List.getD_eq_getElem?_getD]
      · rfl
    rw [this]; exact h.2
theorem GB.snoc {l : List S104} (h : GB l) {b : S104} (hb : goodB b = true) (hk : ∀ c ∈ l, key c ≠ key b) : GB (l ++ [b]) := by
  refine ⟨fun c hc => ?_, ?_⟩
  · rcases List.mem_append.mp hc with h1 | h1
    · exact h.1 c h1
    · simp at h1; subst h1; exact hb
  · rw [List.map_append, List.nodup_append]
    refine ⟨h.2, by simp, fun a ha b' hb' => ?_⟩
    simp at hb'
    obtain ⟨c, hc, rfl⟩ := List.mem_map.mp ha
    rw [hb']; exact hk c hc
theorem find_loop (k : Nat) (b : S104) : ∀ (rest pre : List S104) (j : Nat), rest.length < j → (pre ++ rest).length ≤ 100000 →
    (∃ v : Nat, v < (pre ++ rest).length ∧ f177.l2 k j (pre ++ rest) (pre.length : Int) b.f0 b.f1 b.f2 b.f3 b.f4 b.f5 = some (.inl (v : Int)) ∧ key ((pre ++ rest).getD v ⟨ByteArray.empty, ByteArray.empty, 0, 0, 0, []⟩) = key b) ∨ (f177.l2 k j (pre ++ rest) (pre.length : Int) b.f0 b.f1 b.f2 b.f3 b.f4 b.f5 = some (.inr ()) ∧ ∀ c ∈ rest, key c ≠ key b) := by
  intro rest
  induction rest with
  | nil =>
    intro pre j hj hl
    obtain ⟨j, rfl⟩ : ∃ j', j = j' + 1 := ⟨j - 1, by omega⟩
    simp only [f177.l2, f177.l2.step]
    rw [if_neg (fb (by simp))]
    exact .inr ⟨rfl, fun c hc => by cases hc⟩
  | cons x rest ih =>
    intro pre j hj hl
    obtain ⟨j, rfl⟩ : ∃ j', j = j' + 1 := ⟨j - 1, by omega⟩
    have hp : (0 : Int) ≤ (pre.length : Int) := by omega
    have hw := wnext pre x (by simp at hl; omega)
    have hgx : (pre ++ x :: rest).getD pre.length ⟨ByteArray.empty, ByteArray.empty, 0, 0, 0, []⟩ = x := by
      have := gm pre rest x (⟨ByteArray.empty, ByteArray.empty, 0, 0, 0, []⟩ : S104)
      rwa [Int.toNat_natCast] at this
    have hlx : pre.length < (pre ++ x :: rest).length := by simp
    have := ih (pre ++ [x]) j (by simp at hj; omega) (by simpa using hl)
    simp only [List.append_assoc, List.singleton_append] at this
    simp only [f177.l2, f177.l2.step, gm, hw]
    simp only [lt_mid, hp, if_true, decide_true]
    by_cases hk : key x = key b
    · have hk' := hk
      simp only [key, Prod.mk.injEq] at hk'
      refine .inl ⟨pre.length, hlx, ?_, by rw [hgx]; exact hk⟩
      simp [hk'.1, hk'.2.1, hk'.2.2.1, hk'.2.2.2]
    · have hn : ∀ (α : Type) (A B : α), (if decide (x.f0.toList = b.f0.toList) = true then (if decide (x.f1.toList = b.f1.toList) = true then (if decide (x.f2 = b.f2) = true then (if decide (x.f3 = b.f3) = true then A else B) else B) else B) else B) = B := fun α A B => by
        by_cases c1 : x.f0.toList = b.f0.toList <;> by_cases c2 : x.f1.toList = b.f1.toList <;> by_cases c3 : x.f2 = b.f2 <;> by_cases c4 : x.f3 = b.f3 <;> simp [c1, c2, c3, c4]
        exact absurd (by simp [key, c1, c2, c3, c4]) hk
      rw [hn]
      rcases this with ⟨v, h1, h2, h3⟩ | ⟨h1, h2⟩
      · exact .inl ⟨v, h1, h2, h3⟩
      · exact .inr ⟨h1, fun c hc => (List.mem_cons.mp hc).elim (fun e => e ▸ hk) (h2 c)⟩
theorem find_at (k : Nat) (hK : 2097152 ≤ k) (b : S104) (l : List S104) (hl : l.length ≤ 6) :
    (∃ v : Nat, v < l.length ∧ f177 k l b.f0 b.f1 b.f2 b.f3 b.f4 b.f5 = some (v : Int) ∧ key (l.getD v ⟨ByteArray.empty, ByteArray.empty, 0, 0, 0, []⟩) = key b) ∨ (f177 k l b.f0 b.f1 b.f2 b.f3 b.f4 b.f5 = some (-1) ∧ ∀ c ∈ l, key c ≠ key b) := by
  rcases find_loop k b l [] k (by omega) (by simp; omega) with ⟨v, h1, h2, h3⟩ | ⟨h1, h2⟩
  · have h2 : f177.l2 k k l 0 b.f0 b.f1 b.f2 b.f3 b.f4 b.f5 = some (.inl (v : Int)) := h2
    exact .inl ⟨v, h1, by simp only [f177, f177.step, h2]; rfl, h3⟩
  · have h1 : f177.l2 k k l 0 b.f0 b.f1 b.f2 b.f3 b.f4 b.f5 = some (.inr ()) := h1
    exact .inr ⟨by simp only [f177, f177.step, h1]; rfl, h2⟩
/-! pieces -/
def PcNew (x : S211) : Prop := 0 ≤ x.f0 ∧ Int.tmod x.f0 8 = 0 ∧ x.f2.length ≤ 1440 ∧ x.f0 + x.f2.length ≤ 65515 ∧ (x.f1 = false → x.f2.length % 8 = 0 ∧ 0 < x.f2.length)
theorem chk_up : ∀ {l : List S211} {e e' : Int}, chk e l = true → (∀ y r, l = y :: r → e' ≤ y.f0) → chk e' l = true
  | [], _, _, _, _ => rfl
  | y :: r, e, e', h, hy => by
    simp only [chk, Bool.and_eq_true, decide_eq_true_eq] at h ⊢
    simp only [pcOK] at h ⊢
    exact ⟨⟨hy y r rfl, h.1.2⟩, h.2⟩
theorem chk_insert {x : S211} (hx : PcNew x) {rest : List S211} (hr : ∀ y r, rest = y :: r → x.f0 + x.f2.length ≤ y.f0 ∧ x.f1 = false) : ∀ (pre : List S211) (e : Int), chk e (pre ++ rest) = true →
    (pre = [] → e ≤ x.f0) → (∀ p pre', pre = pre' ++ [p] → p.f0 + p.f2.length ≤ x.f0 ∧ p.f1 = false) → chk e (pre ++ x :: rest) = true
  | [], e, h, h0, _ => by
    have hf : x.f1 = true → rest.isEmpty = true := fun hx1 => by
      cases rest with
      | nil => rfl
      | cons y r => have := (hr y r rfl).2; rw [hx1] at this; cases this
    simp only [List.nil_append] at h ⊢
    simp only [chk, Bool.and_eq_true, decide_eq_true_eq]
    simp only [pcOK]
    exact ⟨⟨h0 rfl, hx.2.1, by have := hx.2.2.1; omega, hx.2.2.2.1, hf, hx.2.2.2.2⟩, chk_up h fun y r e => (hr y r e).1⟩
  | p :: pre, e, h, _, hp => by
    simp only [List.cons_append, chk, Bool.and_eq_true, decide_eq_true_eq] at h ⊢
    simp only [pcOK] at h ⊢
    have hpf : p.f1 = false := by
      cases hpp : pre with
      | nil => exact (hp p [] (by rw [hpp]; rfl)).2
      | cons q pre' =>
        by_cases hb : p.f1 = true
        · have := h.1.2.2.2.2.1 hb; rw [hpp] at this; simp at this
        · simpa using hb
    refine ⟨⟨h.1.1, h.1.2.1, h.1.2.2.1, h.1.2.2.2.1, fun hb => (by rw [hpf] at hb; cases hb), h.1.2.2.2.2.2⟩, ?_⟩
    refine chk_insert hx hr pre _ h.2 (fun e0 => ?_) (fun q pre' e1 => hp q (p :: pre') (by rw [e1]; rfl))
    subst e0
    exact (hp p [] rfl).1
theorem put_loop (k : Nat) (l : List S211) (hl : l.length ≤ 1000) (e a : Int) (b : Bool) (xs : List Int) : ∀ (rest pre : List S211) (j : Nat), l = pre ++ rest → rest.length < j → ∃ v : Nat, v ≤ l.length ∧ f193.l3 k j l e (pre.length : Int) a b xs = some (l, e, (v : Int), a, b, xs) := by
  intro rest
  induction rest with
  | nil =>
    intro pre j he hj
    obtain ⟨j, rfl⟩ : ∃ j', j = j' + 1 := ⟨j - 1, by omega⟩
    simp only [List.append_nil] at he
    simp only [f193.l3, f193.l3.step]
    rw [if_neg (fb (by rw [← he]; omega))]
    exact ⟨pre.length, by rw [he]; exact Nat.le_refl _, rfl⟩
  | cons x rest ih =>
    intro pre j he hj
    obtain ⟨j, rfl⟩ : ∃ j', j = j' + 1 := ⟨j - 1, by omega⟩
    have hlen : pre.length + rest.length + 1 = l.length := by rw [he]; simp; omega
    have hw := wnext pre x (by omega)
    simp only [f193.l3, f193.l3.step, hw]
    rw [if_pos (tb (by omega)), if_pos (by omega), if_pos (by omega)]
    split
    · exact ih (pre ++ [x]) j (by rw [he]; simp) (by simp at hj; omega)
    · exact ⟨pre.length, by omega, rfl⟩
theorem chk_range : ∀ {l : List S211} {e : Int}, 0 ≤ e → chk e l = true → ∀ x ∈ l, 0 ≤ x.f0 ∧ x.f0 ≤ 65515 ∧ x.f2.length ≤ 1500
  | [], _, _, _, _, hx => by cases hx
  | y :: r, e, h0, h, x, hx => by
    simp only [chk, Bool.and_eq_true, decide_eq_true_eq] at h
    simp only [pcOK] at h
    rcases List.mem_cons.mp hx with rfl | hx
    · exact ⟨by omega, by omega, h.1.2.2.1⟩
    · exact chk_range (e := y.f0 + y.f2.length) (by omega) h.2 x hx
theorem last_split {α : Type} (l : List α) (v : Nat) (h0 : 0 < v) (hv : v ≤ l.length) (d : α) : l.take v = l.take (v - 1) ++ [l.getD (v - 1) d] := by
  have h1 : v - 1 < l.length := by omega
  have : v = v - 1 + 1 := by omega
  rw [this, List.take_add_one, Nat.add_sub_cancel]
  simp [List.getD_eq_getElem?_getD, List.getElem?_eq_getElem h1]
theorem put_ok (k : Nat) (hK : 2097152 ≤ k) {l : List S211} (hl : l.length ≤ 12) (hc : chk 0 l = true) {x : S211} (hx : PcNew x) :
    f193 k l x.f0 x.f1 x.f2 = some (.inl (l, false)) ∧ 0 < l.length ∨ ∃ l', f193 k l x.f0 x.f1 x.f2 = some (.inr (l', true)) ∧ chk 0 l' = true ∧ l'.length = l.length + 1 := by
  obtain ⟨x0, x1, x2⟩ := x
  have hx' := hx
  simp only [PcNew] at hx
  have hsh := chk_short hc
  have w0 : IntKind.i64.wrap (x0 + (x2.length : Int)) = x0 + (x2.length : Int) := w64 (by omega) (by omega)
  obtain ⟨v, hv, e⟩ := put_loop k l (by omega) (x0 + (x2.length : Int)) x0 x1 x2 l [] k rfl (by omega)
  have e : f193.l3 k k l (x0 + (x2.length : Int)) 0 x0 x1 x2 = some (l, x0 + (x2.length : Int), (v : Int), x0, x1, x2) := e
  have hsp : l = l.take v ++ l.drop v := (List.take_append_drop v l).symm
  have fin : (0 < v → (l.getD (v - 1) (⟨0, false, []⟩ : S211)).f0 + (l.getD (v - 1) (⟨0, false, []⟩ : S211)).f2.length ≤ x0 ∧ (l.getD (v - 1) (⟨0, false, []⟩ : S211)).f1 = false) →
      (v < l.length → x0 + x2.length ≤ (l.getD v (⟨0, false, []⟩ : S211)).f0 ∧ x1 = false) → chk 0 (l.take v ++ ⟨x0, x1, x2⟩ :: l.drop v) = true := fun h1 h2 => by
    refine chk_insert hx' (rest := l.drop v) (fun y r hy => ?_) (l.take v) 0 (by rw [← hsp]; exact hc) (fun _ => hx.1) (fun p pre' hp => ?_)
    · have hlt : v < l.length := by
        by_cases hlt : v < l.length
        · exact hlt
        · rw [List.drop_of_length_le (by omega)] at hy; cases hy
      have : l.getD v (⟨0, false, []⟩ : S211) = y := by
        rw [List.drop_eq_getElem_cons hlt] at hy
        injection hy with hy _
        simp [List.getD_eq_getElem?_getD, List.getElem?_eq_getElem hlt, hy]
      rw [← this]; exact h2 hlt
    · have h0 : 0 < v := by
        by_cases h0 : 0 < v
        · exact h0
        · have : v = 0 := by omega
          subst this
          simp at hp
      rw [last_split l v h0 hv (⟨0, false, []⟩ : S211)] at hp
      have := (List.append_inj' hp rfl).2
      injection this with this _
      rw [← this]; exact h1 h0
  have hs0 : ∀ i, 0 ≤ i → True := fun _ _ => trivial
  have cap1 : (([] : List S211).length + (List.drop 0 (List.take (Int.toNat (v : Int)) l)).length) * 40 ≤ maxN := by simp [maxN]; omega
  have cap2 : ∀ y : S211, ((([] : List S211) ++ List.drop 0 (List.take (Int.toNat (v : Int)) l)).length + [y].length) * 40 ≤ maxN := fun y => by simp [maxN]; omega
  have cap3 : ∀ y : S211, (((([] : List S211) ++ List.drop 0 (List.take (Int.toNat (v : Int)) l)) ++ [y]).length + (List.drop (Int.toNat (v : Int)) (List.take (Int.toNat (l.length : Int)) l)).length) * 40 ≤ maxN := fun y => by simp [maxN]; omega
  have res : ((([] : List S211) ++ List.drop 0 (List.take (Int.toNat (v : Int)) l)) ++ [⟨x0, x1, x2⟩]) ++ List.drop (Int.toNat (v : Int)) (List.take (Int.toNat (l.length : Int)) l) = l.take v ++ ⟨x0, x1, x2⟩ :: l.drop v := by simp
  have hlr : (l.take v ++ (⟨x0, x1, x2⟩ : S211) :: l.drop v).length = l.length + 1 := by simp; omega
  simp only [f193, f193.step, w0, e, Option.bind_some]
  have v0 : (0 : Int) ≤ (v : Int) := by omega
  have v1 : (v : Int) ≤ (l.length : Int) := by omega
  have lr : (l.length : Int) ≤ (l.length : Int) := Int.le_refl _
  by_cases hv0 : (v : Int) > 0
  · have wv : IntKind.i64.wrap ((v : Int) - 1) = ((v - 1 : Nat) : Int) := by rw [w64 (by omega) (by omega)]; omega
    have b1 : (0 : Int) ≤ ((v - 1 : Nat) : Int) := by omega
    have b2 : ((v - 1 : Nat) : Int) < (l.length : Int) := by omega
    have hm : l.getD (v - 1) (⟨0, false, []⟩ : S211) ∈ l := by
      rw [List.getD_eq_getElem?_getD, List.getElem?_eq_getElem (show v - 1 < l.length by omega)]; exact List.getElem_mem _
    have hq := chk_range (Int.le_refl 0) hc _ hm
    generalize hqq : l.getD (v - 1) (⟨0, false, []⟩ : S211) = q at hq fin
    have wq : IntKind.i64.wrap (q.f0 + (q.f2.length : Int)) = q.f0 + (q.f2.length : Int) := w64 (by omega) (by omega)
    simp only [wv, Int.toNat_natCast (n := v - 1), hqq, b1, b2, wq, tb hv0, if_true]
    have hl0 : 0 < l.length := by omega
    by_cases d1 : q.f0 + (q.f2.length : Int) > x0
    · rw [if_neg (by rw [tb d1]; simp)]; exact .inl ⟨rfl, hl0⟩
    rw [if_pos (ff d1)]
    by_cases d2 : q.f1 = false
    case neg => rw [if_neg d2]; exact .inl ⟨rfl, hl0⟩
    rw [if_pos d2]
    by_cases hvl : (v : Int) < (l.length : Int)
    · simp only [v0, hvl, decide_true, if_true]
      by_cases d3 : (l.getD (Int.toNat (v : Int)) (⟨0, false, []⟩ : S211)).f0 < x0 + (x2.length : Int)
      · rw [if_neg (by rw [tb d3]; simp)]; exact .inl ⟨rfl, hl0⟩
      rw [if_pos (ff d3)]
      by_cases d4 : (l.getD (Int.toNat (v : Int)) (⟨0, false, []⟩ : S211)).f0 = x0
      · rw [if_neg (by rw [tb d4]; simp)]; exact .inl ⟨rfl, hl0⟩
      rw [if_pos (ff d4)]
      cases x1 with
      | true => rw [if_pos rfl]; exact .inl ⟨rfl, hl0⟩
      | false =>
        rw [if_neg (by simp), if_pos v1, if_pos cap1, if_pos (cap2 _), if_pos v1, if_pos lr, if_pos (cap3 _), res]
        refine .inr ⟨_, rfl, fin (fun _ => ⟨by omega, d2⟩) (fun _ => ⟨?_, rfl⟩), hlr⟩
        rw [Int.toNat_natCast] at d3; omega
    · rw [if_neg (fb hvl), if_pos v0, if_pos v1, if_pos cap1, if_pos (cap2 _), if_pos v0, if_pos v1, if_pos lr, if_pos (cap3 _), res]
      exact .inr ⟨_, rfl, fin (fun _ => ⟨by omega, d2⟩) (fun h => by omega), hlr⟩
  · rw [if_neg (fb hv0)]
    by_cases hvl : (v : Int) < (l.length : Int)
    · have hl0 : 0 < l.length := by omega
      simp only [v0, hvl, decide_true, if_true]
      by_cases d3 : (l.getD (Int.toNat (v : Int)) (⟨0, false, []⟩ : S211)).f0 < x0 + (x2.length : Int)
      · rw [if_neg (by rw [tb d3]; simp)]; exact .inl ⟨rfl, hl0⟩
      rw [if_pos (ff d3)]
      by_cases d4 : (l.getD (Int.toNat (v : Int)) (⟨0, false, []⟩ : S211)).f0 = x0
      · rw [if_neg (by rw [tb d4]; simp)]; exact .inl ⟨rfl, hl0⟩
      rw [if_pos (ff d4)]
      cases x1 with
      | true => rw [if_pos rfl]; exact .inl ⟨rfl, hl0⟩
      | false =>
        rw [if_neg (by simp), if_pos v1, if_pos cap1, if_pos (cap2 _), if_pos v1, if_pos lr, if_pos (cap3 _), res]
        refine .inr ⟨_, rfl, fin (fun h => by omega) (fun _ => ⟨?_, rfl⟩), hlr⟩
        rw [Int.toNat_natCast] at d3; omega
    · rw [if_neg (fb hvl), if_pos v0, if_pos v1, if_pos cap1, if_pos (cap2 _), if_pos v0, if_pos v1, if_pos lr, if_pos (cap3 _), res]
      exact .inr ⟨_, rfl, fin (fun h => by omega) (fun h => by omega), hlr⟩
theorem same_loop (k : Nat) (l : List S211) (hl : l.length ≤ 1000) (a : Int) (b : Bool) (xs : List Int) : ∀ (rest pre : List S211) (j : Nat), l = pre ++ rest → rest.length < j → ∃ r, f192.l2 k j l (pre.length : Int) a b xs = some r := by
  intro rest
  induction rest with
  | nil =>
    intro pre j he hj
    obtain ⟨j, rfl⟩ : ∃ j', j = j' + 1 := ⟨j - 1, by omega⟩
    simp only [List.append_nil] at he
    simp only [f192.l2, f192.l2.step]
    rw [if_neg (fb (by rw [← he]; omega))]
    exact ⟨_, rfl⟩
  | cons x rest ih =>
    intro pre j he hj
    obtain ⟨j, rfl⟩ : ∃ j', j = j' + 1 := ⟨j - 1, by omega⟩
    have hlen : pre.length + rest.length + 1 = l.length := by rw [he]; simp; omega
    have hw := wnext pre x (by omega)
    have h0 : (0 : Int) ≤ (pre.length : Int) := by omega
    have h1 : (pre.length : Int) < (l.length : Int) := by omega
    have := ih (pre ++ [x]) j (by rw [he]; simp) (by simp at hj; omega)
    simp only [f192.l2, f192.l2.step, hw, h0, h1, if_true, decide_true]
    split
    · split
      · split
        · exact ⟨_, rfl⟩
        · exact this
      · exact this
    · exact this
theorem same_ok (k : Nat) (hK : 2097152 ≤ k) (l : List S211) (hl : l.length ≤ 1000) (a : Int) (b : Bool) (xs : List Int) : ∃ q, f192 k l a b xs = some q := by
  obtain ⟨r, h⟩ := same_loop k l hl a b xs l [] k rfl (by omega)
  have h : f192.l2 k k l 0 a b xs = some r := h
  simp only [f192, f192.step, h, Option.bind_some]
  rcases r with r | r
  · exact ⟨r, rfl⟩
  · exact ⟨false, rfl⟩
theorem without_ok (k : Nat) {l : List S104} (hl : l.length ≤ 1000) {v : Nat} (hv : v < l.length) : f194 k l (v : Int) = some (l.take v ++ l.drop (v + 1)) := by
  have w1 : IntKind.i64.wrap ((v : Int) + 1) = ((v + 1 : Nat) : Int) := by rw [w64 (by omega) (by omega)]; omega
  simp only [f194, f194.step, w1]
  rw [if_pos (by omega), if_pos (by omega), if_pos (by simp [maxN]; omega), if_pos (by omega), if_pos (by omega), if_pos (Int.le_refl _), if_pos (by simp [maxN]; omega)]
  simp
theorem join_loop (k : Nat) (xs : List S104) (s1 s2 s3 s4 s5 s6 : ByteArray) (a1 a2 a3 b1 b2 b3 b4 b5 c1 c2 c3 c4 c5 : Int) (q1 q2 q3 q4 : Bool) (l : List S211) (hl : l.length ≤ 12) (hs : ShortPc 1500 l) : ∀ (rest pre : List S211) (j : Nat) (d : List Int), l = pre ++ rest → rest.length < j → d.length ≤ 1500 * pre.length →
    ∃ d', f195.l6 k j xs (pre.length : Int) s1 s2 a1 a2 a3 l b1 s3 s4 b2 b3 b4 b5 q1 q2 c1 s5 s6 c2 c3 c4 c5 q3 q4 d = some (xs, b1, s3, s4, b2, b3, b4, b5, q1, q2, c1, s5, s6, c2, c3, c4, c5, q3, q4, d') := by
  intro rest
  induction rest with
  | nil =>
    intro pre j d he hj hd
    obtain ⟨j, rfl⟩ : ∃ j', j = j' + 1 := ⟨j - 1, by omega⟩
    simp only [List.append_nil] at he
    simp only [f195.l6, f195.l6.step]
    rw [if_neg (fb (by rw [← he]; omega))]
    exact ⟨d, rfl⟩
  | cons x rest ih =>
    intro pre j d he hj hd
    obtain ⟨j, rfl⟩ : ∃ j', j = j' + 1 := ⟨j - 1, by omega⟩
    have hlen : pre.length + rest.length + 1 = l.length := by rw [he]; simp; omega
    have hw := wnext pre x (by omega)
    have hx := hs x (by rw [he]; simp)
    have hg : ∀ z, l.getD (Int.toNat (pre.length : Int)) z = x := fun z => by rw [he, gm]
    simp only [f195.l6, f195.l6.step, hw, hg]
    rw [if_pos (tb (by omega)), if_pos (by omega), if_pos (by omega), if_pos (by simp [maxN]; omega)]
    exact ih (pre ++ [x]) j (d ++ x.f2) (by rw [he]; simp) (by simp at hj; omega) (by simp; omega)
theorem join_ok (k : Nat) (hK : 2097152 ≤ k) (xs : List S104) (v : Int) (s3 s4 s12 s13 : ByteArray) (a5 a6 a7 a8 a14 a15 a16 : Int) (b9 b10 : Bool) (d : List Int) {l : List S211} (hl : l.length ≤ 12) (hs : ShortPc 1500 l) :
    ∃ r, f195 k xs v s3 s4 a5 a6 a7 a8 b9 b10 d s12 s13 a14 a15 a16 l = some r ∧ Sum.elim (fun t => t.1) (fun t => t.1) r = xs := by
  obtain ⟨d', e⟩ := join_loop k xs s12 s13 ByteArray.empty ByteArray.empty s3 s4 a14 a15 a16 0 0 0 0 0 v a5 a6 a7 0 false false false b10 l hl hs l [] k [] rfl (by omega) (by simp)
  have e : f195.l6 k k xs 0 s12 s13 a14 a15 a16 l 0 ByteArray.empty ByteArray.empty 0 0 0 0 false false v s3 s4 a5 a6 a7 0 false b10 [] = _ := e
  simp only [f195, f195.step, e, Option.bind_some]
  have hp := pk_spec k v s3 s4 a5 a6 a7 0 false b10 d'
  rw [hp]
  simp only [Option.bind_some]
  split
  · exact ⟨_, rfl, rfl⟩
  · exact ⟨_, rfl, rfl⟩
/-- A drawn piece of a packet. -/
def PP (p : S24) : Prop := p.f0 = 4 ∧ p.f1.size = 4 ∧ p.f2.size = 4 ∧ (0 ≤ p.f4 ∧ p.f4 ≤ 255) ∧ (0 ≤ p.f5 ∧ p.f5 ≤ 65535) ∧ (0 ≤ p.f6 ∧ p.f6 ≤ 1000) ∧ p.f9.length ≤ 1440 ∧ (p.f7 = true → p.f9.length % 8 = 0 ∧ 0 < p.f9.length)
def fst3 {β γ δ : Type} : (List S104 × β) ⊕ ((List S104 × γ) ⊕ (List S104 × δ)) → List S104 := Sum.elim (fun t => t.1) (Sum.elim (fun t => t.1) (fun t => t.1))
theorem goodB_short {b : S104} (h : goodB b = true) : chk 0 b.f5 = true ∧ b.f5.length ≤ 12 ∧ 1 ≤ b.f5.length ∧ hdr b := by
  simp only [goodB, Bool.and_eq_true, decide_eq_true_eq] at h
  exact ⟨h.2.1, h.1.2.2.2.2.2.2, h.1.2.2.2.2.2.1, h.1⟩
theorem feed_ok (k : Nat) (hK : 2097152 ≤ k) {l : List S104} (hG : GB l) (hl : l.length ≤ 6) {p : S24} (hp : PP p) {now : Int} (hn : 0 ≤ now ∧ now ≤ 1000) :
    ∃ r, f174 k l p.f0 p.f1 p.f2 p.f3 p.f4 p.f5 p.f6 p.f7 p.f8 p.f9 now = some r ∧ GB (fst3 r) ∧ (fst3 r).length ≤ 6 := by
  obtain ⟨V, A, B, hop, proto, id, off, more, keep, d⟩ := p
  obtain ⟨rfl, hA, hB, hpr, hid, hoff, hd, hm⟩ := hp
  simp only at hA hB hpr hid hoff hd hm
  have w8 : IntKind.i64.wrap (8 * off) = 8 * off := w64 (by omega) (by omega)
  have w30 : IntKind.i64.wrap (now + 30) = now + 30 := w64 (by omega) (by omega)
  have capd : (([] : List Int).length + d.length) * 1 ≤ maxN := by simp [maxN]; omega
  have capl : (([] : List S104).length + l.length) * 80 ≤ maxN := by simp [maxN]; omega
  have hx : PcNew ⟨8 * off, !more, d⟩ := by
    refine ⟨by show 0 ≤ 8 * off; omega, ?_, hd, ?_, fun h => hm (by simpa using h)⟩
    · show Int.tmod (8 * off) 8 = 0
      rw [Int.tmod_eq_emod_of_nonneg (by omega)]; omega
    · show 8 * off + (d.length : Int) ≤ 65515; omega
  have same : ∀ (x : List S104), x = l → GB x ∧ x.length ≤ 6 := fun x e => by subst e; exact ⟨hG, hl⟩
  have less : ∀ v : Nat, v < l.length → GB (l.take v ++ l.drop (v + 1)) ∧ (l.take v ++ l.drop (v + 1)).length ≤ 6 := fun v hv => ⟨hG.without v, by simp; omega⟩
  simp only [f174, f174.step, w8, w30, List.nil_append]
  by_cases hmo : (!more) = true
  · rw [if_pos hmo]
    by_cases h0 : off = 0
    · rw [if_pos (tb h0)]
      simp only [f146, f146.step]
      rw [if_pos capd]
      exact ⟨_, rfl, hG, hl⟩
    · rw [if_neg (fb h0)]
      rw [if_pos capd]
      rcases find_at k hK (⟨A, B, id, proto, now + 30, []⟩ : S104) l hl with ⟨v, hv, e, hk⟩ | ⟨e, hk⟩
      · have e : f177 k l A B id proto (now + 30) [] = some (v : Int) := e
        rw [e]
        simp only [Option.bind_some, Int.toNat_natCast]
        rw [if_pos (tb (by omega)), if_pos (by omega), if_pos (by omega)]
        have hbm : l.getD v (⟨ByteArray.empty, ByteArray.empty, 0, 0, 0, []⟩ : S104) ∈ l := by
          rw [List.getD_eq_getElem?_getD, List.getElem?_eq_getElem hv]; exact List.getElem_mem _
        have hgb := goodB_short (hG.1 _ hbm)
        have hset := fun (b : S104) (hb : goodB b = true) (hkb : key b = key (l.getD v (⟨ByteArray.empty, ByteArray.empty, 0, 0, 0, []⟩ : S104))) => hG.set hv hb hkb
        generalize l.getD v (⟨ByteArray.empty, ByteArray.empty, 0, 0, 0, []⟩ : S104) = q at hgb hk hset
        obtain ⟨sm, e2⟩ := same_ok k hK q.f5 (by omega) (8 * off) (!more) d
        rw [e2]
        simp only [Option.bind_some]
        cases sm with
        | true => rw [if_pos rfl]; exact ⟨_, rfl, hG, hl⟩
        | false =>
          rw [if_neg (by simp)]
          rcases put_ok k hK (l := q.f5) hgb.2.1 hgb.1 hx with ⟨e3, _⟩ | ⟨l', e3, hc', hl'⟩
          · have e3 : f193 k q.f5 (8 * off) (!more) d = some (.inl (q.f5, false)) := e3
            rw [e3]
            simp only [Option.bind_some, Sum.elim_inl, without_ok k (show l.length ≤ 1000 by omega) hv]
            rw [if_pos (show (!false) = true from rfl)]
            exact ⟨_, rfl, less v hv⟩
          · have e3 : f193 k q.f5 (8 * off) (!more) d = some (.inr (l', true)) := e3
            rw [e3]
            simp only [Option.bind_some, Sum.elim_inr, without_ok k (show l.length ≤ 1000 by omega) hv]
            rw [if_neg (by simp)]
            by_cases h12 : (l'.length : Int) > 12
            · rw [if_pos (tb h12)]
              exact ⟨_, rfl, less v hv⟩
            · rw [if_neg (fb h12), spec_whole k hK q.f0 q.f1 q.f2 q.f3 q.f4 (by omega) (by omega) (chk_short hc')]
              simp only [Option.bind_some]
              cases hwb : wholeB l' with
              | true =>
                rw [if_pos rfl, if_pos (tb (by omega))]
                obtain ⟨r, e5, hr⟩ := join_ok k hK (l.take v ++ l.drop (v + 1)) 4 A B q.f0 q.f1 hop proto id off q.f2 q.f3 q.f4 more keep d (l := l') (by omega) (chk_short hc')
                rw [e5]
                simp only [Option.bind_some]
                rcases r with r | r
                · have hr : r.1 = l.take v ++ l.drop (v + 1) := hr
                  refine ⟨_, rfl, ?_⟩
                  show GB r.1 ∧ r.1.length ≤ 6
                  rw [hr]; exact less v hv
                · have hr : r.1 = l.take v ++ l.drop (v + 1) := hr
                  refine ⟨_, rfl, ?_⟩
                  show GB r.1 ∧ r.1.length ≤ 6
                  rw [hr]; exact less v hv
              | false =>
                rw [if_neg (by simp), if_pos (tb (by omega)), if_pos capl, if_pos (by omega), if_pos (by simp; omega)]
                refine ⟨_, rfl, ?_, ?_⟩
                · refine hset _ ?_ rfl
                  have hd := hgb.2.2.2
                  simp only [goodB, hc', hwb, Bool.not_false, Bool.and_true]
                  exact tb ⟨hd.1, hd.2.1, hd.2.2.1, hd.2.2.2.1, hd.2.2.2.2.1, by show 1 ≤ l'.length; omega, by show l'.length ≤ 12; omega⟩
                · show (List.set l v _).length ≤ 6
                  rw [List.length_set]; exact hl
      · have e : f177 k l A B id proto (now + 30) [] = some (-1) := e
        rw [e]
        simp only [Option.bind_some]
        rw [if_neg (by decide)]
        by_cases h6 : (l.length : Int) = 6
        · rw [if_pos (tb h6)]; exact ⟨_, rfl, hG, hl⟩
        · rw [if_neg (fb h6)]
          rcases put_ok k hK (l := []) (by simp) rfl hx with ⟨_, h⟩ | ⟨l', e3, hc', hl'⟩
          · simp at h
          · have e3 : f193 k [] (8 * off) (!more) d = some (.inr (l', true)) := e3
            have hl1 : l'.length = 1 := by simpa using hl'
            rw [e3]
            simp only [Option.bind_some, Sum.elim_inr]
            rw [if_neg (by simp), if_neg (fb (by omega)), spec_whole k hK A B id proto (now + 30) (by omega) (by omega) (chk_short hc')]
            simp only [Option.bind_some]
            cases hwb : wholeB l' with
            | true =>
              rw [if_pos rfl, if_neg (by decide)]
              obtain ⟨r, e5, hr⟩ := join_ok k hK l 4 A B A B hop proto id off id proto (now + 30) more keep d (l := l') (by omega) (chk_short hc')
              rw [e5]
              simp only [Option.bind_some]
              rcases r with r | r
              · have hr : r.1 = l := hr
                exact ⟨_, rfl, same r.1 hr⟩
              · have hr : r.1 = l := hr
                exact ⟨_, rfl, same r.1 hr⟩
            | false =>
              rw [if_neg (by simp), if_neg (by decide), if_pos capl, if_pos (by simp [maxN]; omega)]
              refine ⟨_, rfl, ?_, ?_⟩
              · refine hG.snoc ?_ hk
                simp only [goodB, hc', hwb, Bool.not_false, Bool.and_true]
                exact tb ⟨hA, hB, hid, hpr, ⟨by show 0 ≤ now + 30; omega, by show now + 30 ≤ 1000030; omega⟩, by show 1 ≤ l'.length; omega, by show l'.length ≤ 12; omega⟩
              · show (l ++ [_]).length ≤ 6
                rw [List.length_append]; simp; omega
  · rw [if_neg hmo]
    rw [if_pos capd]
    rcases find_at k hK (⟨A, B, id, proto, now + 30, []⟩ : S104) l hl with ⟨v, hv, e, hk⟩ | ⟨e, hk⟩
    · have e : f177 k l A B id proto (now + 30) [] = some (v : Int) := e
      rw [e]
      simp only [Option.bind_some, Int.toNat_natCast]
      rw [if_pos (tb (by omega)), if_pos (by omega), if_pos (by omega)]
      have hbm : l.getD v (⟨ByteArray.empty, ByteArray.empty, 0, 0, 0, []⟩ : S104) ∈ l := by
        rw [List.getD_eq_getElem?_getD, List.getElem?_eq_getElem hv]; exact List.getElem_mem _
      have hgb := goodB_short (hG.1 _ hbm)
      have hset := fun (b : S104) (hb : goodB b = true) (hkb : key b = key (l.getD v (⟨ByteArray.empty, ByteArray.empty, 0, 0, 0, []⟩ : S104))) => hG.set hv hb hkb
      generalize l.getD v (⟨ByteArray.empty, ByteArray.empty, 0, 0, 0, []⟩ : S104) = q at hgb hk hset
      obtain ⟨sm, e2⟩ := same_ok k hK q.f5 (by omega) (8 * off) (!more) d
      rw [e2]
      simp only [Option.bind_some]
      cases sm with
      | true => rw [if_pos rfl]; exact ⟨_, rfl, hG, hl⟩
      | false =>
        rw [if_neg (by simp)]
        rcases put_ok k hK (l := q.f5) hgb.2.1 hgb.1 hx with ⟨e3, _⟩ | ⟨l', e3, hc', hl'⟩
        · have e3 : f193 k q.f5 (8 * off) (!more) d = some (.inl (q.f5, false)) := e3
          rw [e3]
          simp only [Option.bind_some, Sum.elim_inl, without_ok k (show l.length ≤ 1000 by omega) hv]
          rw [if_pos (show (!false) = true from rfl)]
          exact ⟨_, rfl, less v hv⟩
        · have e3 : f193 k q.f5 (8 * off) (!more) d = some (.inr (l', true)) := e3
          rw [e3]
          simp only [Option.bind_some, Sum.elim_inr, without_ok k (show l.length ≤ 1000 by omega) hv]
          rw [if_neg (by simp)]
          by_cases h12 : (l'.length : Int) > 12
          · rw [if_pos (tb h12)]
            exact ⟨_, rfl, less v hv⟩
          · rw [if_neg (fb h12), spec_whole k hK q.f0 q.f1 q.f2 q.f3 q.f4 (by omega) (by omega) (chk_short hc')]
            simp only [Option.bind_some]
            cases hwb : wholeB l' with
            | true =>
              rw [if_pos rfl, if_pos (tb (by omega))]
              obtain ⟨r, e5, hr⟩ := join_ok k hK (l.take v ++ l.drop (v + 1)) 4 A B q.f0 q.f1 hop proto id off q.f2 q.f3 q.f4 more keep d (l := l') (by omega) (chk_short hc')
              rw [e5]
              simp only [Option.bind_some]
              rcases r with r | r
              · have hr : r.1 = l.take v ++ l.drop (v + 1) := hr
                refine ⟨_, rfl, ?_⟩
                show GB r.1 ∧ r.1.length ≤ 6
                rw [hr]; exact less v hv
              · have hr : r.1 = l.take v ++ l.drop (v + 1) := hr
                refine ⟨_, rfl, ?_⟩
                show GB r.1 ∧ r.1.length ≤ 6
                rw [hr]; exact less v hv
            | false =>
              rw [if_neg (by simp), if_pos (tb (by omega)), if_pos capl, if_pos (by omega), if_pos (by simp; omega)]
              refine ⟨_, rfl, ?_, ?_⟩
              · refine hset _ ?_ rfl
                have hd := hgb.2.2.2
                simp only [goodB, hc', hwb, Bool.not_false, Bool.and_true]
                exact tb ⟨hd.1, hd.2.1, hd.2.2.1, hd.2.2.2.1, hd.2.2.2.2.1, by show 1 ≤ l'.length; omega, by show l'.length ≤ 12; omega⟩
              · show (List.set l v _).length ≤ 6
                rw [List.length_set]; exact hl
    · have e : f177 k l A B id proto (now + 30) [] = some (-1) := e
      rw [e]
      simp only [Option.bind_some]
      rw [if_neg (by decide)]
      by_cases h6 : (l.length : Int) = 6
      · rw [if_pos (tb h6)]; exact ⟨_, rfl, hG, hl⟩
      · rw [if_neg (fb h6)]
        rcases put_ok k hK (l := []) (by simp) rfl hx with ⟨_, h⟩ | ⟨l', e3, hc', hl'⟩
        · simp at h
        · have e3 : f193 k [] (8 * off) (!more) d = some (.inr (l', true)) := e3
          have hl1 : l'.length = 1 := by simpa using hl'
          rw [e3]
          simp only [Option.bind_some, Sum.elim_inr]
          rw [if_neg (by simp), if_neg (fb (by omega)), spec_whole k hK A B id proto (now + 30) (by omega) (by omega) (chk_short hc')]
          simp only [Option.bind_some]
          cases hwb : wholeB l' with
          | true =>
            rw [if_pos rfl, if_neg (by decide)]
            obtain ⟨r, e5, hr⟩ := join_ok k hK l 4 A B A B hop proto id off id proto (now + 30) more keep d (l := l') (by omega) (chk_short hc')
            rw [e5]
            simp only [Option.bind_some]
            rcases r with r | r
            · have hr : r.1 = l := hr
              exact ⟨_, rfl, same r.1 hr⟩
            · have hr : r.1 = l := hr
              exact ⟨_, rfl, same r.1 hr⟩
          | false =>
            rw [if_neg (by simp), if_neg (by decide), if_pos capl, if_pos (by simp [maxN]; omega)]
            refine ⟨_, rfl, ?_, ?_⟩
            · refine hG.snoc ?_ hk
              simp only [goodB, hc', hwb, Bool.not_false, Bool.and_true]
              exact tb ⟨hA, hB, hid, hpr, ⟨by show 0 ≤ now + 30; omega, by show now + 30 ≤ 1000030; omega⟩, by show 1 ≤ l'.length; omega, by show l'.length ≤ 12; omega⟩
            · show (l ++ [_]).length ≤ 6
              rw [List.length_append]; simp; omega
/-! ### drawn boxes -/
def SA : ByteArray := ⟨#[10, 0, 0, 1]⟩
def SB : ByteArray := ⟨#[10, 0, 0, 2]⟩
set_option maxRecDepth 4000 in
theorem four_loop {k : Nat} (hK : 2097152 ≤ k) : ∀ (d j n : Nat) (i : Int) (xs : List Int) (a s : Int), i + d = 8 → d < j → GS xs a s n → n + 300 * d ≤ 50000 →
    (∃ t, f144.l2 k j i xs a s 0 ByteArray.empty ByteArray.empty 0 0 0 0 false false = some (.inl t) ∧ t.2.2.2.1 = 4 ∧ (0 ≤ t.2.2.2.2.2.2.2.1 ∧ t.2.2.2.2.2.2.2.1 ≤ 255) ∧ t.2.2.2.2.2.2.2.2.2.2.2.2.length ≤ 1440 ∧ t.1 = xs ∧ GS xs t.2.1 t.2.2.1 (n + 300 * d)) ∨
    (∃ t, f144.l2 k j i xs a s 0 ByteArray.empty ByteArray.empty 0 0 0 0 false false = some (.inr t) ∧ t.1 = xs ∧ GS xs t.2.1 t.2.2.1 (n + 300 * d)) := by
  intro d
  induction d with
  | zero =>
    intro j n i xs a s hi hj g hn
    obtain ⟨j, rfl⟩ : ∃ j', j = j' + 1 := ⟨j - 1, by omega⟩
    simp only [f144.l2, f144.l2.step]
    rw [if_neg (fb (by omega))]
    exact .inr ⟨_, rfl, rfl, g⟩
  | succ d ih =>
    intro j n i xs a s hi hj g hn
    obtain ⟨j, rfl⟩ : ∃ j', j = j' + 1 := ⟨j - 1, by omega⟩
    obtain ⟨t, e, h1, h2, h3, h4, h5⟩ := packet_ok hK g (by omega)
    obtain ⟨t1, t2, t3, t4, t5, t6, t7, t8, t9, t10, t11, t12, t13⟩ := t
    simp only at h1 h2 h3 h4 h5
    subst h4
    simp only [f144.l2, f144.l2.step, e, Option.bind_some]
    rw [if_pos (tb (by omega))]
    by_cases c : t1 = 4
    · rw [if_pos (tb c)]
      exact .inl ⟨_, rfl, c, h1.2.1, h3, rfl, h5.to (by omega)⟩
    · rw [if_neg (fb c), w64 (by omega) (by omega)]
      rcases ih j (n + 300) (i + 1) t11 t12 t13 (by omega) (by omega) h5 (by omega) with ⟨t, e1, e2, e3, e4, e5, e6⟩ | ⟨t, e1, e2, e3⟩
      · exact .inl ⟨t, e1, e2, e3, e4, e5, e6.to (by omega)⟩
      · exact .inr ⟨t, e1, e2, e3.to (by omega)⟩
set_option maxRecDepth 4000 in
theorem whole_ok {k : Nat} (hK : 2097152 ≤ k) {xs : List Int} {a s : Int} {n : Nat} (g : GS xs a s n) (hn : n ≤ 40000) :
    (∃ hop proto id d a' s', f82 k xs a s = some (.inl (4, SA, SB, hop, proto, id, 0, false, false, d, xs, a', s')) ∧ (0 ≤ proto ∧ proto ≤ 255) ∧ (0 ≤ id ∧ id < 4) ∧ d.length ≤ 1440 ∧ GS xs a' s' (n + 2410)) ∨
    (∃ id a' s', f82 k xs a s = some (.inr (4, SA, SB, 0, 0, id, 0, false, false, xs, a', s')) ∧ (0 ≤ id ∧ id < 4) ∧ GS xs a' s' (n + 2410)) := by
  simp only [f82, f82.step, f144, f144.step]
  rcases four_loop hK 8 k n 0 xs a s (by omega) (by omega) g (by omega) with ⟨t, e1, e2, e3, e4, e5, e6⟩ | ⟨t, e1, e2, e3⟩
  · obtain ⟨t1, t2, t3, t4, t5, t6, t7, t8, t9, t10, t11, t12, t13⟩ := t
    simp only at e2 e3 e4 e5 e6
    subst e5
    subst e2
    obtain ⟨v, a', s', e, hv, g'⟩ := next_ok k e6 (by omega) (N := 4) (by omega) (by omega)
    rw [e1]
    simp only [Option.bind_some, Sum.elim_inl, e]
    exact .inl ⟨t7, t8, v, t13, a', s', rfl, e3, hv, e4, g'.to (by omega)⟩
  · obtain ⟨t1, t2, t3, t4, t5, t6, t7, t8, t9, t10, t11, t12⟩ := t
    simp only at e2 e3
    subst e2
    obtain ⟨v, a', s', e, hv, g'⟩ := next_ok k e3 (by omega) (N := 4) (by omega) (by omega)
    rw [e1]
    simp only [Option.bind_some, Sum.elim_inr, e]
    exact .inr ⟨v, a', s', rfl, hv, g'.to (by omega)⟩
theorem frag_loop (k : Nat) {hop proto id : Int} (hpr : 0 ≤ proto ∧ proto ≤ 255) (hid : 0 ≤ id ∧ id < 4) (data : List Int) {room m8 : Nat} (h8 : 8 ≤ m8) (hd8 : m8 % 8 = 0) (hm : m8 ≤ room) (hr : room ≤ 2000) : ∀ (f j at_ : Nat) (acc : List S24), data.length - at_ ≤ f → at_ < data.length → f + 1 < j → acc.length ≤ at_ → data.length ≤ 1440 → at_ % 8 = 0 → (∀ x ∈ acc, PP x) →
    ∃ l, f87.l6 k j ((room : Int) + 20) m8 at_ 4 SA SB hop proto id 0 false false data acc = some l ∧ (∀ x ∈ l, PP x) ∧ l.length ≤ data.length + 1 := by
  intro f
  induction f with
  | zero => intro j at_ acc hf h1; omega
  | succ f ih =>
    intro j at_ acc hf h1 hj ha hl h0 hacc
    obtain ⟨j, rfl⟩ : ∃ j', j = j' + 1 := ⟨j - 1, by omega⟩
    have e1 : IntKind.i64.wrap ((data.length : Int) - (at_ : Int)) = ((data.length - at_ : Nat) : Int) := by rw [w64 (by omega) (by omega)]; omega
    have e2 : IntKind.i64.wrap ((room : Int) + 20 - 20) = (room : Int) := by rw [w64 (by omega) (by omega)]; omega
    have e3 : IntKind.i64.wrap (Int.tdiv (at_ : Int) 8) = ((at_ / 8 : Nat) : Int) := by rw [Int.tdiv_eq_ediv_of_nonneg (by omega), w64 (by omega) (by omega)]; omega
    have e4 : IntKind.i64.wrap (0 + ((at_ / 8 : Nat) : Int)) = ((at_ / 8 : Nat) : Int) := by rw [w64 (by omega) (by omega)]; omega
    have hdl : (data.drop at_).length = data.length - at_ := List.length_drop
    have snoc : ∀ (m : Bool) (d : List Int), d.length ≤ 1440 → (m = true → d.length % 8 = 0 ∧ 0 < d.length) → ∀ x ∈ acc ++ [(⟨4, SA, SB, hop, proto, id, ((at_ / 8 : Nat) : Int), m, false, d⟩ : S24)], PP x := fun m d hd hm' x hx => by
      rcases List.mem_append.mp hx with h | h
      · exact hacc x h
      · simp at h; subst h
        exact ⟨rfl, rfl, rfl, hpr, ⟨hid.1, by show id ≤ 65535; omega⟩, ⟨by show (0 : Int) ≤ ((at_ / 8 : Nat) : Int); omega, by show ((at_ / 8 : Nat) : Int) ≤ 1000; omega⟩, hd, hm'⟩
    simp only [f87.l6, f87.l6.step, e1, e2, e3, e4, List.nil_append, Int.toNat_natCast, List.take_length]
    rw [if_pos (tb (by omega))]
    by_cases c : data.length - at_ ≤ room
    · have e5 : IntKind.i64.wrap ((at_ : Int) + ((data.length - at_ : Nat) : Int)) = (data.length : Int) := by rw [w64 (by omega) (by omega)]; omega
      rw [if_pos (tb (by omega)), if_pos (by omega), if_pos (by omega), if_pos (by omega), if_pos (by simp [maxN]; omega), if_pos trivial, if_pos (by simp [maxN]; omega), e5]
      obtain ⟨j, rfl⟩ : ∃ j', j = j' + 1 := ⟨j - 1, by omega⟩
      simp only [f87.l6, f87.l6.step]
      rw [if_neg (fb (by omega))]
      exact ⟨_, rfl, snoc _ _ (by omega) (fun h => by simp at h), by simp; omega⟩
    · have e5 : IntKind.i64.wrap ((at_ : Int) + (m8 : Int)) = ((at_ + m8 : Nat) : Int) := by rw [w64 (by omega) (by omega)]; omega
      have e6 : (if (data.length : Int) < ((at_ + m8 : Nat) : Int) then (data.length : Int) else ((at_ + m8 : Nat) : Int)) = ((at_ + m8 : Nat) : Int) := by rw [if_neg (by omega)]
      have e7 : List.drop at_ (List.take (at_ + m8) data) = (data.drop at_).take m8 := by rw [List.drop_take]; congr 1; omega
      rw [if_neg (fb (by omega))]
      simp only [e5, e6, Int.toNat_natCast, e7]
      rw [if_pos (by omega), if_pos (by omega), if_pos (by omega), if_pos (by simp [maxN]; omega), if_pos trivial, if_pos (by simp [maxN]; omega)]
      have htl : ((data.drop at_).take m8).length = m8 := by simp; omega
      exact ih j (at_ + m8) _ (by omega) (by omega) (by omega) (by simp; omega) hl (by omega) (snoc _ _ (by omega) (fun _ => by omega))
theorem frag_ok {k : Nat} (hK : 2097152 ≤ k) {hop proto id : Int} (hpr : 0 ≤ proto ∧ proto ≤ 255) (hid : 0 ≤ id ∧ id < 4) (data : List Int) (hd : data.length ≤ 1440) {t : Int} (ht : 0 ≤ t ∧ t < 200) :
    ∃ l, f87 k 4 SA SB hop proto id 0 false false data (IntKind.i64.wrap (28 + t)) = some l ∧ (∀ x ∈ l, PP x) ∧ l.length ≤ 1441 := by
  obtain ⟨room, rfl⟩ : ∃ room : Nat, t = (room : Int) - 8 := ⟨(t + 8).toNat, by omega⟩
  have e0 : IntKind.i64.wrap (28 + ((room : Int) - 8)) = (room : Int) + 20 := by rw [w64 (by omega) (by omega)]; omega
  have e1 : IntKind.i64.wrap (20 + (data.length : Int)) = 20 + (data.length : Int) := w64 (by omega) (by omega)
  simp only [f87, f87.step, e0, e1]
  by_cases c : 20 + (data.length : Int) ≤ (room : Int) + 20
  · rw [if_pos (tb c)]
    simp only [f146, f146.step]
    rw [if_pos (by simp [maxN]; omega)]
    refine ⟨_, rfl, fun x hx => ?_, by simp⟩
    simp at hx; subst hx
    exact ⟨rfl, rfl, rfl, hpr, ⟨hid.1, by show id ≤ 65535; omega⟩, ⟨Int.le_refl 0, by show (0 : Int) ≤ 1000; omega⟩, hd, fun h => by cases h⟩
  · rw [if_neg (fb c)]
    have e2 : IntKind.i64.wrap ((room : Int) + 20 - 20) = (room : Int) := by rw [w64 (by omega) (by omega)]; omega
    have e3 : IntKind.i64.wrap (Int.tdiv (room : Int) 8) = ((room / 8 : Nat) : Int) := by rw [Int.tdiv_eq_ediv_of_nonneg (by omega), w64 (by omega) (by omega)]; omega
    have e4 : IntKind.i64.wrap (((room / 8 : Nat) : Int) * 8) = ((room / 8 * 8 : Nat) : Int) := by rw [w64 (by omega) (by omega)]; omega
    obtain ⟨l, h1, h2, h3⟩ := frag_loop k (hop := hop) hpr hid data (room := room) (m8 := room / 8 * 8) (by omega) (by omega) (by omega) (by omega) data.length k 0 [] (by omega) (by omega) (by omega) (by simp) hd (by omega) (fun x hx => by cases hx)
    have h1 : f87.l6 k k ((room : Int) + 20) ((room / 8 * 8 : Nat) : Int) 0 4 SA SB hop proto id 0 false false data [] = some l := h1
    simp only [e2, e3, e4, h1, Option.bind_some]
    exact ⟨l, rfl, h2, by omega⟩
theorem ins_loop (k : Nat) (L : List S24) (hL : ∀ x ∈ L, PP x) (hLl : L.length ≤ 2000) (a5 : Int) : ∀ (d j n i : Nat) (xs : List Int) (a s : Int) (out : List S24), i + d = 14 → d < j → GS xs a s n → n + 3 * d ≤ 80000 → (∀ x ∈ out, PP x) → out.length + d ≤ 1000 →
    ∃ a' s' out', f173.l7 k j a5 (i : Int) xs a s out L = some (a5, xs, a', s', out') ∧ GS xs a' s' (n + 3 * d) ∧ (∀ x ∈ out', PP x) ∧ out'.length ≤ out.length + d := by
  intro d
  induction d with
  | zero =>
    intro j n i xs a s out hi hj g hn ho hol
    obtain ⟨j, rfl⟩ : ∃ j', j = j' + 1 := ⟨j - 1, by omega⟩
    have hstop : ∀ (A : Option (Int × List Int × Int × Int × List S24)), (if decide ((i : Int) < (L.length : Int)) = true then (if decide ((i : Int) < 14) = true then A else some (a5, xs, a, s, out)) else some (a5, xs, a, s, out)) = some (a5, xs, a, s, out) := fun A => by
      rw [if_neg (c := decide ((i : Int) < 14) = true) (fb (by omega))]
      split <;> rfl
    refine ⟨a, s, out, ?_, g.to (by omega), ho, by omega⟩
    rw [f173.l7, f173.l7.step]
    exact hstop _
  | succ d ih =>
    intro j n i xs a s out hi hj g hn ho hol
    obtain ⟨j, rfl⟩ : ∃ j', j = j' + 1 := ⟨j - 1, by omega⟩
    simp only [f173.l7, f173.l7.step]
    by_cases c : (i : Int) < (L.length : Int)
    · have wl : IntKind.i64.wrap ((out.length : Int) + 1) = (out.length : Int) + 1 := w64 (by omega) (by omega)
      have wi : IntKind.i64.wrap ((i : Int) + 1) = ((i + 1 : Nat) : Int) := by rw [w64 (by omega) (by omega)]; omega
      obtain ⟨v, a1, s1, e1, hv, g1⟩ := next_ok k g (by omega) (N := (out.length : Int) + 1) (by omega) (by omega)
      obtain ⟨v, rfl⟩ : ∃ v' : Nat, v = (v' : Int) := ⟨v.toNat, by omega⟩
      have hm : L.getD (Int.toNat (i : Int)) (⟨0, ByteArray.empty, ByteArray.empty, 0, 0, 0, 0, false, false, []⟩ : S24) ∈ L := by
        rw [Int.toNat_natCast, List.getD_eq_getElem?_getD, List.getElem?_eq_getElem (show i < L.length by omega)]; exact List.getElem_mem _
      have hq := hL _ hm
      generalize L.getD (Int.toNat (i : Int)) (⟨0, ByteArray.empty, ByteArray.empty, 0, 0, 0, 0, false, false, []⟩ : S24) = q at hq
      simp only [wl, wi, e1, Option.bind_some, Int.toNat_natCast, Nat.sub_zero, List.drop_zero, List.nil_append]
      rw [if_pos (tb c), if_pos (tb (by omega)), if_pos (by omega), if_pos (by omega), if_pos (by simp [maxN]; omega), if_pos (by omega), if_pos (by omega), if_pos (by simp [maxN]; omega), if_pos (by omega), if_pos (by omega), if_pos (by omega), if_pos (by simp [maxN]; omega)]
      obtain ⟨a', s', out', e, g', ho', hl'⟩ := ih j (n + 3) (i + 1) xs a1 s1 (List.take v out ++ [(⟨q.f0, q.f1, q.f2, q.f3, q.f4, q.f5, q.f6, q.f7, q.f8, q.f9⟩ : S24)] ++ List.take (out.length - v) (List.drop v out)) (by omega) (by omega) g1 (by omega) (fun x hx => by
        rcases List.mem_append.mp hx with h | h
        · rcases List.mem_append.mp h with h | h
          · exact ho x (List.mem_of_mem_take h)
          · simp at h; subst h; exact hq
        · exact ho x (List.mem_of_mem_drop (List.mem_of_mem_take h))) (by simp; omega)
      exact ⟨a', s', out', e, g'.to (by omega), ho', by simp at hl'; omega⟩
    · rw [if_neg (fb c)]
      exact ⟨_, _, _, rfl, g.to (by omega), ho, by omega⟩
set_option maxRecDepth 20000 in
theorem pieces_loop {k : Nat} (hK : 2097152 ≤ k) : ∀ (d j n : Nat) (i : Int) (xs : List Int) (a s : Int) (out : List S24), i ≤ d → 0 ≤ i → d < j → GS xs a s n → n + 2500 * d ≤ 30000 → (∀ x ∈ out, PP x) → out.length + 14 * d ≤ 500 →
    ∃ a' s' out', f173.l3 k j i xs a s out = some (xs, a', s', out') ∧ GS xs a' s' (n + 2500 * d) ∧ (∀ x ∈ out', PP x) ∧ out'.length ≤ out.length + 14 * d := by
  intro d
  induction d with
  | zero =>
    intro j n i xs a s out hi h0 hj g hn ho hol
    obtain ⟨j, rfl⟩ : ∃ j', j = j' + 1 := ⟨j - 1, by omega⟩
    simp only [f173.l3, f173.l3.step]
    rw [if_neg (fb (by omega))]
    exact ⟨_, _, _, rfl, g.to (by omega), ho, by omega⟩
  | succ d ih =>
    intro j n i xs a s out hi h0 hj g hn ho hol
    obtain ⟨j, rfl⟩ : ∃ j', j = j' + 1 := ⟨j - 1, by omega⟩
    simp only [f173.l3, f173.l3.step]
    by_cases c : i > 0
    · rw [if_pos (tb c)]
      have wi : IntKind.i64.wrap (i - 1) = i - 1 := w64 (by omega) (by omega)
      rcases whole_ok hK g (by omega) with ⟨hop, proto, id, dd, a1, s1, e1, hpr, hid, hd, g1⟩ | ⟨id, a1, s1, e1, hid, g1⟩
      · obtain ⟨v, a2, s2, e2, hv, g2⟩ := next_ok k g1 (by omega) (N := 200) (by omega) (by omega)
        obtain ⟨L, e3, hL, hLl⟩ := frag_ok hK (hop := hop) hpr hid dd hd hv
        obtain ⟨a3, s3, out3, e4, g3, ho3, hl3⟩ := ins_loop k L hL (by omega) i 14 k (n + 2413) 0 xs a2 s2 out (by omega) (by omega) (g2.to (by omega)) (by omega) ho (by omega)
        have e4 : f173.l7 k k i 0 xs a2 s2 out L = some (i, xs, a3, s3, out3) := e4
        obtain ⟨a', s', out', e, g', ho', hl'⟩ := ih j (n + 2500) (i - 1) xs a3 s3 out3 (by omega) (by omega) (by omega) (g3.to (by omega)) (by omega) ho3 (by omega)
        simp only [e1, Option.bind_some, Sum.elim_inl, e2, e3, e4, wi]
        exact ⟨a', s', out', e, g'.to (by omega), ho', by omega⟩
      · obtain ⟨v, a2, s2, e2, hv, g2⟩ := next_ok k g1 (by omega) (N := 200) (by omega) (by omega)
        obtain ⟨L, e3, hL, hLl⟩ := frag_ok hK (hop := 0) (proto := 0) (by omega) hid [] (by simp) hv
        obtain ⟨a3, s3, out3, e4, g3, ho3, hl3⟩ := ins_loop k L hL (by omega) i 14 k (n + 2413) 0 xs a2 s2 out (by omega) (by omega) (g2.to (by omega)) (by omega) ho (by omega)
        have e4 : f173.l7 k k i 0 xs a2 s2 out L = some (i, xs, a3, s3, out3) := e4
        obtain ⟨a', s', out', e, g', ho', hl'⟩ := ih j (n + 2500) (i - 1) xs a3 s3 out3 (by omega) (by omega) (by omega) (g3.to (by omega)) (by omega) ho3 (by omega)
        simp only [e1, Option.bind_some, Sum.elim_inr, e2, e3, e4, wi]
        exact ⟨a', s', out', e, g'.to (by omega), ho', by omega⟩
    · rw [if_neg (fb c)]
      exact ⟨_, _, _, rfl, g.to (by omega), ho, by omega⟩
theorem box_loop {k : Nat} (hK : 2097152 ≤ k) (L : List S24) (hL : ∀ x ∈ L, PP x) (hLl : L.length ≤ 500) (m : Int) (hm : m ≤ (L.length : Int)) : ∀ (d j n i : Nat) (xs : List Int) (a s : Int) (out : List S104), m ≤ (i : Int) + d → d < j → GS xs a s n → n + 3 * d ≤ 80000 → i + d ≤ 1000 → GB out → out.length ≤ 6 →
    ∃ a' s' out', f134.l5 k j out L m (i : Int) xs a s = some (out', xs, a', s') ∧ GB out' ∧ out'.length ≤ 6 := by
  intro d
  induction d with
  | zero =>
    intro j n i xs a s out hi hj g hn hid hG hl
    obtain ⟨j, rfl⟩ : ∃ j', j = j' + 1 := ⟨j - 1, by omega⟩
    simp only [f134.l5, f134.l5.step]
    rw [if_neg (fb (by omega))]
    exact ⟨_, _, _, rfl, hG, hl⟩
  | succ d ih =>
    intro j n i xs a s out hi hj g hn hid hG hl
    obtain ⟨j, rfl⟩ : ∃ j', j = j' + 1 := ⟨j - 1, by omega⟩
    simp only [f134.l5, f134.l5.step]
    by_cases c : (i : Int) < m
    · have wi : IntKind.i64.wrap ((i : Int) + 1) = ((i + 1 : Nat) : Int) := by rw [w64 (by omega) (by omega)]; omega
      obtain ⟨v, a1, s1, e1, hv, g1⟩ := next_ok k g (by omega) (N := 50) (by omega) (by omega)
      have hmm : L.getD (Int.toNat (i : Int)) (⟨0, ByteArray.empty, ByteArray.empty, 0, 0, 0, 0, false, false, []⟩ : S24) ∈ L := by
        rw [Int.toNat_natCast, List.getD_eq_getElem?_getD, List.getElem?_eq_getElem (show i < L.length by omega)]; exact List.getElem_mem _
      have hq := hL _ hmm
      generalize L.getD (Int.toNat (i : Int)) (⟨0, ByteArray.empty, ByteArray.empty, 0, 0, 0, 0, false, false, []⟩ : S24) = q at hq
      obtain ⟨r, e2, hG', hl'⟩ := feed_ok k hK hG hl hq (now := v) (by omega)
      simp only [wi, e1, e2, Option.bind_some]
      rw [if_pos (tb c), if_pos (by omega), if_pos (by omega)]
      rcases r with r | r | r
      · exact ih j (n + 3) (i + 1) xs a1 s1 r.1 (by omega) (by omega) g1 (by omega) (by omega) hG' hl'
      · exact ih j (n + 3) (i + 1) xs a1 s1 r.1 (by omega) (by omega) g1 (by omega) (by omega) hG' hl'
      · exact ih j (n + 3) (i + 1) xs a1 s1 r.1 (by omega) (by omega) g1 (by omega) (by omega) hG' hl'
    · rw [if_neg (fb c)]
      exact ⟨_, _, _, rfl, hG, hl⟩
theorem GB.short {l : List S104} (h : GB l) : ShortX 1048576 l := fun b hb => by
  obtain ⟨h1, h2, _⟩ := goodB_short (h.1 b hb)
  exact ⟨by omega, fun x hx => by have := chk_short h1 x hx; omega⟩
theorem boxes_ok {k : Nat} (hK : 2097152 ≤ k) {xs : List Int} (hb : Bytes xs) (hl : xs.length ≤ 1048576) : ∃ l, f68 k xs = some l ∧ GB l ∧ l.length ≤ 6 := by
  have g : GS xs 0 (Int.tmod (xs.length : Int) 1000) 0 := by
    rw [Int.tmod_eq_emod_of_nonneg (by omega)]
    exact ⟨hl, hb, by omega, by omega, by omega, by omega⟩
  obtain ⟨v, a1, s1, e1, hv, g1⟩ := next_ok k g (by omega) (N := 3) (by omega) (by omega)
  have w1 : IntKind.i64.wrap (1 + v) = 1 + v := w64 (by omega) (by omega)
  obtain ⟨a2, s2, L, e2, g2, hL, hLl⟩ := pieces_loop hK 3 k 3 (1 + v) xs a1 s1 [] (by omega) (by omega) (by omega) (g1.to (by omega)) (by omega) (fun x hx => by cases hx) (by simp)
  simp only [List.length_nil] at hLl
  have w2 : IntKind.i64.wrap ((L.length : Int) + 1) = (L.length : Int) + 1 := w64 (by omega) (by omega)
  obtain ⟨m, a3, s3, e3, hm, g3⟩ := next_ok k g2 (by omega) (N := (L.length : Int) + 1) (by omega) (by omega)
  have hG0 : GB [] := by unfold GB; simp
  obtain ⟨a4, s4, l, e4, hG, hl6⟩ := box_loop hK L hL (by omega) m (by omega) L.length k 20000 0 xs a3 s3 [] (by omega) (by omega) (g3.to (by omega)) (by omega) (by omega) hG0 (by simp)
  have e4 : f134.l5 k k [] L m 0 xs a3 s3 = some (l, xs, a4, s4) := e4
  have e5 := own_ok k hK (xs := l) (by omega) hG.short
  simp only [f68, f68.step, f81, f81.step, f134, f134.step, f173, f173.step, Option.bind_some, e1, w1, e2, w2, e3, e4, e5]
  exact ⟨l, rfl, hG, hl6⟩
/-! ### boxes whose time is over -/
def later (now : Int) (b : S104) : Bool := decide (b.f4 > now)
theorem impl_exp_loop (k : Nat) (hK : 2097152 ≤ k) (now : Int) (xs : List S104) (hl : xs.length ≤ 1048576) (hs : ShortX 1048576 xs) : ∀ (rest pre : List S104) (j : Nat) (out : List S104), xs = pre ++ rest → rest.length < j → out.length ≤ pre.length →
    f69.l9 k j xs now xs (xs.length : Int) (pre.length : Int) out = some (xs, out ++ rest.filter (later now)) := by
  intro rest
  induction rest with
  | nil =>
    intro pre j out hx hj ho
    obtain ⟨j, rfl⟩ : ∃ j', j = j' + 1 := ⟨j - 1, by omega⟩
    simp only [f69.l9, f69.l9.step]
    have : xs.length = pre.length := by rw [hx]; simp
    rw [if_neg (fb (by omega))]; simp
  | cons x rest ih =>
    intro pre j out hx hj ho
    obtain ⟨j, rfl⟩ : ∃ j', j = j' + 1 := ⟨j - 1, by omega⟩
    have hlt : (pre.length : Int) < (xs.length : Int) := by rw [hx]; exact lt_mid _ _ _
    have hg : ∀ d, xs.getD (Int.toNat (pre.length : Int)) d = x := fun d => by rw [hx]; exact gm _ _ _ _
    have hxl := hs x (by rw [hx]; simp)
    have hw := wnext pre x (by omega)
    have hp : (0 : Int) ≤ (pre.length : Int) := by omega
    have hm2 : ∀ y : S104, (out.length + ([y] : List S104).length) * 80 ≤ maxN := fun y => by simp [maxN]; omega
    simp only [f69.l9, f69.l9.step, hg, hw, clone_ok k hK x hxl.1 hxl.2, Option.bind_some]
    simp only [hlt, hp, hm2, if_true, decide_true]
    by_cases c : x.f4 > now
    · rw [if_pos (tb c)]
      have := ih (pre ++ [x]) j (out ++ [x]) (by rw [hx]; simp) (by simp at hj; omega) (by simp; omega)
      refine Eq.trans this ?_
      rw [List.filter_cons_of_pos (by simp [later, c])]
      simp
    · rw [if_neg (fb c)]
      have := ih (pre ++ [x]) j out (by rw [hx]; simp) (by simp at hj; omega) (by simp; omega)
      refine Eq.trans this ?_
      rw [List.filter_cons_of_neg (by simp [later]; omega)]
theorem spec_exp_loop (k : Nat) (now : Int) (xs : List S104) (hl : xs.length ≤ 1048576) : ∀ (rest pre : List S104) (j : Nat) (out : List S104), xs = pre ++ rest → rest.length < j → out.length ≤ pre.length →
    f70.l9 k j xs now (pre.length : Int) out = some (xs, out ++ rest.filter (later now)) := by
  intro rest
  induction rest with
  | nil =>
    intro pre j out hx hj ho
    obtain ⟨j, rfl⟩ : ∃ j', j = j' + 1 := ⟨j - 1, by omega⟩
    simp only [f70.l9, f70.l9.step]
    have : xs.length = pre.length := by rw [hx]; simp
    rw [if_neg (fb (by omega))]; simp
  | cons x rest ih =>
    intro pre j out hx hj ho
    obtain ⟨j, rfl⟩ : ∃ j', j = j' + 1 := ⟨j - 1, by omega⟩
    have hlt : (pre.length : Int) < (xs.length : Int) := by rw [hx]; exact lt_mid _ _ _
    have hg : ∀ d, xs.getD (Int.toNat (pre.length : Int)) d = x := fun d => by rw [hx]; exact gm _ _ _ _
    have hw := wnext pre x (by omega)
    have hp : (0 : Int) ≤ (pre.length : Int) := by omega
    have hm2 : ∀ y : S104, (out.length + ([y] : List S104).length) * 80 ≤ maxN := fun y => by simp [maxN]; omega
    simp only [f70.l9, f70.l9.step, hg, hw]
    simp only [hlt, hp, hm2, if_true, decide_true]
    by_cases c : x.f4 > now
    · rw [if_pos (tb c)]
      have := ih (pre ++ [x]) j (out ++ [x]) (by rw [hx]; simp) (by simp at hj; omega) (by simp; omega)
      refine Eq.trans this ?_
      rw [List.filter_cons_of_pos (by simp [later, c])]
      simp
    · rw [if_neg (fb c)]
      have := ih (pre ++ [x]) j out (by rw [hx]; simp) (by simp at hj; omega) (by simp; omega)
      refine Eq.trans this ?_
      rw [List.filter_cons_of_neg (by simp [later]; omega)]
theorem short_filter {n : Nat} {l : List S104} (p : S104 → Bool) (h : ShortX n l) : ShortX n (l.filter p) := fun b hb => h b (List.mem_filter.mp hb).1
theorem expire_good (k : Nat) (hK : 2097152 ≤ k) (l : List S104) (hl : l.length ≤ 6) (hs : ShortX 1048576 l) (hg : goods [] l = true) (now : Int) (hn : 0 ≤ now ∧ now ≤ 1000000) :
    f69 k l now = some (.inr (l.filter (later now), (l.length : Int) - ((l.filter (later now)).length : Int), 0)) ∧ f70 k l now = some (l.filter (later now), (l.length : Int) - ((l.filter (later now)).length : Int), 0) := by
  have hf : (l.filter (later now)).length ≤ l.length := List.length_filter_le _ _
  have hb : (decide (l.length ≤ 6) && goods [] l) = true := by rw [tb hl, hg]; rfl
  simp only [f69, f69.step, f70, f70.step, boxes_impl k hK, boxes_spec k hK, in_impl, in_spec, Option.bind_some, hb]
  rw [if_neg (fb (show ¬ (l.length : Int) > 4096 by omega)), if_neg (fb (show ¬ (l.length : Int) > 4096 by omega))]
  simp only [Bool.not_true, Bool.false_eq_true, if_false]
  rw [if_neg (by rw [tb hn]; simp), if_neg (by rw [tb hn]; simp)]
  have e1 : f69.l9 k k l now l (l.length : Int) 0 [] = _ := impl_exp_loop k hK now l (by omega) hs l [] k [] rfl (by omega) (by simp)
  have e2 : f70.l9 k k l now 0 [] = _ := spec_exp_loop k now l (by omega) l [] k [] rfl (by omega) (by simp)
  have e3 := own_ok k hK (xs := l.filter (later now)) (by omega) (short_filter _ hs)
  have e4 : IntKind.i64.wrap ((l.length : Int) - ((l.filter (later now)).length : Int)) = (l.length : Int) - ((l.filter (later now)).length : Int) := w64 (by omega) (by omega)
  refine ⟨?_, ?_⟩
  · rw [e1]; simp only [Option.bind_some, List.nil_append, e4]
  · rw [e2]; simp only [Option.bind_some, List.nil_append, e3, e4]
theorem at_ok (k : Nat) {xs : List Int} (hb : Bytes xs) (hl : xs.length ≤ 1048576) : ∃ v, f16 k xs 0 100 = some v ∧ 0 ≤ v ∧ v < 100 := by
  simp only [f16, f16.step]
  rw [if_neg (fb (by omega))]
  by_cases c : (xs.length : Int) = 0
  · rw [if_pos (tb c), if_pos (by omega), w64 (by omega) (by omega)]
    exact ⟨_, rfl, by decide, by decide⟩
  · have e1 : Int.tmod 0 (xs.length : Int) = 0 := Int.zero_tmod _
    have e2 : Int.tmod (IntKind.i64.wrap (0 + 1)) (xs.length : Int) = 1 % (xs.length : Int) := by
      rw [w64 (by omega) (by omega), Int.tmod_eq_emod_of_nonneg (by omega)]; rfl
    have e3 : Int.tdiv 0 (xs.length : Int) = 0 := Int.zero_tdiv _
    have h1 : 0 ≤ 1 % (xs.length : Int) ∧ 1 % (xs.length : Int) < xs.length := ⟨Int.emod_nonneg _ c, Int.emod_lt_of_pos _ (by omega)⟩
    rw [if_neg (fb c), e1, e2, e3, if_pos c, if_pos (by omega), if_pos (by omega), if_pos c, if_pos h1.1, if_pos h1.2, if_pos c, if_pos (by omega)]
    have b0 := getD_byte hb (Int.toNat 0)
    have b1 := getD_byte hb (Int.toNat (1 % (xs.length : Int)))
    rw [w64 (n := xs.getD (Int.toNat 0) 0) (by omega) (by omega), w64 (n := xs.getD (Int.toNat (1 % (xs.length : Int))) 0) (by omega) (by omega), w64 (n := _ * 31) (by omega) (by omega), w64 (n := _ * 31 + _) (by omega) (by omega), w64 (n := (0 : Int)) (by omega) (by omega), w64 (by omega) (by omega), Int.tmod_eq_emod_of_nonneg (by omega)]
    exact ⟨_, rfl, by omega, by omega⟩
theorem cmp_loop (k : Nat) (now : Int) (l : List S104) (hl : l.length ≤ 6) (hn : ∀ b ∈ l, b.f4 > now) : ∀ (d i j : Nat), i + d = l.length → d < j → f12.l10_1 k j now (i : Int) l l = some (.inr ()) := by
  intro d
  induction d with
  | zero =>
    intro i j hi hj
    obtain ⟨j, rfl⟩ : ∃ j', j = j' + 1 := ⟨j - 1, by omega⟩
    simp only [f12.l10_1, f12.l10_1.step]
    rw [if_neg (fb (by omega))]
  | succ d ih =>
    intro i j hi hj
    obtain ⟨j, rfl⟩ : ∃ j', j = j' + 1 := ⟨j - 1, by omega⟩
    have wi : IntKind.i64.wrap ((i : Int) + 1) = ((i + 1 : Nat) : Int) := by rw [w64 (by omega) (by omega)]; omega
    have hm : l.getD (Int.toNat (i : Int)) (⟨ByteArray.empty, ByteArray.empty, 0, 0, 0, []⟩ : S104) ∈ l := by
      rw [Int.toNat_natCast, List.getD_eq_getElem?_getD, List.getElem?_eq_getElem (show i < l.length by omega)]; exact List.getElem_mem _
    have hq := hn _ hm
    have h0 : (0 : Int) ≤ (i : Int) := by omega
    have h1 : (i : Int) < (l.length : Int) := by omega
    simp only [f12.l10_1, f12.l10_1.step, wi, h0, h1, if_true, decide_true, ne_eq, not_true, decide_false, Bool.false_eq_true, if_false]
    rw [if_pos (ff (by omega))]
    exact ih (i + 1) j (by omega) (by omega)
theorem FnExpires : Says := by
  intro xs ys ⟨_, hx⟩ ⟨_, hy⟩
  obtain ⟨k, hK⟩ : ∃ k : Nat, 2097152 ≤ k := ⟨_, Nat.le_refl _⟩
  refine ⟨k, ?_⟩
  have hbx : Bytes xs := fun x h => wf_u8 (hx x h)
  have hby : Bytes ys := fun x h => wf_u8 (hy x h)
  simp only [f12, f12.step]
  by_cases c1 : (xs.length : Int) > 1048576
  · rw [if_neg (by rw [tb c1]; simp)]
  rw [if_pos (ff c1)]
  by_cases c2 : (ys.length : Int) > 1048576
  · rw [if_pos (tb c2)]
  rw [if_neg (fb c2)]
  obtain ⟨l, e1, hG, hl⟩ := boxes_ok hK hbx (by omega)
  obtain ⟨now, e2, h0, h1⟩ := at_ok k hby (by omega)
  obtain ⟨e3, e4⟩ := expire_good k hK l hl hG.short hG.goods now (by omega)
  have hf : (l.filter (later now)).length ≤ l.length := List.length_filter_le _ _
  have w : IntKind.i64.wrap ((l.length : Int) - ((l.filter (later now)).length : Int) + ((l.filter (later now)).length : Int)) = (l.length : Int) := by rw [w64 (by omega) (by omega)]; omega
  have e5 : f12.l10_1 k k now 0 (l.filter (later now)) (l.filter (later now)) = some (.inr ()) := cmp_loop k now _ (by omega) (fun b hb => by
    have := (List.mem_filter.mp hb).2
    simpa [later] using this) (l.filter (later now)).length 0 k (by omega) (by omega)
  simp only [e1, e2, e3, e4, Option.bind_some, Sum.elim_inr, w, e5]
  simp
end Go.Proofs.Ytildepkogbcdpaa.Pure

/- The plain law of FnAddrs. -/
import Derived.Test.YtebmblbfplmcaaaDoorSaysFnAddrs
namespace Go.Proofs.YtebmblbfplmcaaaDoor.Pure
open Go Go.B Go.Proofs.YtebmblbfplmcaaaDoor.B Go.Proofs.YtebmblbfplmcaaaDoor.SaysFnAddrs
set_option linter.unusedVariables false
set_option linter.unusedSimpArgs false
theorem w64 {n : Int} (h0 : -9223372036854775808 ≤ n) (h1 : n ≤ 9223372036854775807) : IntKind.i64.wrap n = n := by
  rw [IntKind.wrap_i64]; omega
theorem tb {c : Prop} [Decidable c] (h : c) : decide c = true := decide_eq_true h
theorem fb {c : Prop} [Decidable c] (h : ¬ c) : ¬ decide c = true := by simpa using h
theorem ff {c : Prop} [Decidable c] (h : ¬ c) : decide c = false := by simpa using h
theorem gm {α : Type} (pre rest : List α) (x d : α) : List.getD (pre ++ x :: rest) (Int.toNat (pre.length : Int)) d = x := by
  simp [List.getD_eq_getElem?_getD]
theorem lt_mid {α : Type} (pre rest : List α) (x : α) : (pre.length : Int) < ((pre ++ x :: rest).length : Int) := by simp; omega
theorem set_mid {α : Type} (pre rest : List α) (x y : α) : List.set (pre ++ x :: rest) (Int.toNat (pre.length : Int)) y = pre ++ y :: rest := by
  simp
theorem set_at {e : TypeId} (pre rest : List (env.T e)) (x y : env.T e) {off : Nat} {cs : List (Cell env.T)} (h : putCells (E := env) e x off cs = some y) : setE env e (pre ++ x :: rest) (Int.toNat (pre.length : Int)) off cs = pre ++ y :: rest := by
  have hg : List.getD (pre ++ x :: rest) (Int.toNat (pre.length : Int)) (env.dflt e) = x := gm pre rest x _
  simp only [setE, hg, h, Option.getD_some, set_mid]
theorem mid_next {α : Type} (pre rest : List α) (x : α) : pre ++ x :: rest = (pre ++ [x]) ++ rest := by simp
def ds (s : ByteArray) : List UInt8 := s.data.toList
theorem ds_len (s : ByteArray) : (ds s).length = s.size := (Lib.size_eq s).symm
theorem ds_inj {s t : ByteArray} (h : ds s = ds t) : s = t := by
  obtain ⟨⟨l⟩⟩ := s; obtain ⟨⟨m⟩⟩ := t
  simp only [ds] at h
  rw [h]
theorem ds_mk (l : List UInt8) : ds ⟨l.toArray⟩ = l := rfl
theorem bt_get {s : ByteArray} {i : Nat} {b : UInt8} (h : (ds s)[i]? = some b) : bt s (i : Int) = (b.toNat : Int) := by
  obtain ⟨⟨l⟩⟩ := s
  simp only [ds] at h
  have hl : i < l.length := (List.getElem?_eq_some_iff.1 h).1
  unfold bt
  rw [dif_pos (by rw [Int.toNat_natCast]; exact hl)]
  have : l[i] = b := (List.getElem?_eq_some_iff.1 h).2
  simp only [Int.toNat_natCast]
  show ((l[i].toNat : Nat) : Int) = _
  rw [this]
theorem bt_at {s : ByteArray} {i : Nat} {b : UInt8} {rest : List UInt8} (hi : i < s.size) (e : ds s = (ds s).take i ++ b :: rest) : bt s (i : Int) = (b.toNat : Int) := by
  apply bt_get
  rw [e, List.getElem?_append_right (by simp; omega)]
  simp [ds_len, Nat.min_eq_left (Nat.le_of_lt hi)]
theorem take_next {l rest : List UInt8} {i : Nat} {b : UInt8} (e : l = l.take i ++ b :: rest) (h : i < l.length) : l = l.take (i + 1) ++ rest := by
  have h2 : l.drop i = b :: rest := List.append_cancel_left ((List.take_append_drop i l).trans e)
  have h3 : l.drop (i + 1) = rest := by rw [← List.drop_drop, h2]; rfl
  rw [← h3, List.take_append_drop]
def dig : Int → List UInt8 → Option Int
  | a, [] => some a
  | a, b :: l => if 48 ≤ (b.toNat : Int) ∧ (b.toNat : Int) ≤ 57 then dig (10 * a + ((b.toNat : Int) - 48)) l else none
theorem w8_id {n : Int} (h0 : 0 ≤ n) (h1 : n ≤ 255) : IntKind.u8.wrap n = n := by
  simp [IntKind.wrap, IntKind.bits, IntKind.signed]; omega
theorem wr_spec {a x : Int} (h0 : 0 ≤ a) (h1 : a ≤ 100000000000000000) (hx : 48 ≤ x ∧ x ≤ 57) : IntKind.i64.wrap (IntKind.i64.wrap (IntKind.i64.wrap (a * 10) + IntKind.i64.wrap x) - 48) = 10 * a + (x - 48) := by
  rw [w64 (n := a * 10) (by omega) (by omega), w64 (n := x) (by omega) (by omega), w64 (n := a * 10 + x) (by omega) (by omega), w64 (by omega) (by omega)]; omega
theorem wr_impl {a x : Int} (h0 : 0 ≤ a) (h1 : a ≤ 100000000000000000) (hx : 48 ≤ x ∧ x ≤ 57) : IntKind.i64.wrap (IntKind.i64.wrap (10 * a) + IntKind.i64.wrap (IntKind.u8.wrap (x - 48))) = 10 * a + (x - 48) := by
  rw [w8_id (by omega) (by omega), w64 (n := 10 * a) (by omega) (by omega), w64 (n := x - 48) (by omega) (by omega), w64 (by omega) (by omega)]
theorem spec_dig (k : Nat) (s : ByteArray) (g : Int) (hs : s.size ≤ 1000) : ∀ (rest : List UInt8) (i j : Nat) (a : Int), ds s = (ds s).take i ++ rest → i + rest.length = s.size → rest.length < j → 0 ≤ a → (a + 1) * 10 ^ rest.length ≤ 1000000000000000000 →
    (∃ v, dig a rest = some v ∧ f38.l9 k j s g a (i : Int) = some (.inr (g, v)) ∧ 0 ≤ v ∧ v < 1000000000000000000) ∨ (dig a rest = none ∧ ∃ c, f38.l9 k j s g a (i : Int) = some (.inl (0, false, g, c)))
  | rest, i, 0, a, e, hi, hj, h0, h1 => by omega
  | [], i, j + 1, a, e, hi, hj, h0, h1 => by
    left
    have h2 : ¬ (i : Int) < (s.size : Int) := by simp at hi; omega
    simp only [List.length_nil, Nat.pow_zero] at h1
    refine ⟨a, rfl, ?_, h0, by omega⟩
    simp only [f38.l9, f38.l9.step, h2, decide_false]; rfl
  | b :: rest, i, j + 1, a, e, hi, hj, h0, h1 => by
    simp only [List.length_cons] at hi hj
    have hil : i < s.size := by omega
    have h2 : (i : Int) < (s.size : Int) := by omega
    have h3 : (0 : Int) ≤ (i : Int) := by omega
    have hb : bt s (i : Int) = (b.toNat : Int) := bt_at hil e
    have hb2 : b.toNat ≤ 255 := by have := b.toNat_lt; omega
    have hw : IntKind.i64.wrap ((i : Int) + 1) = ((i + 1 : Nat) : Int) := by rw [w64 (by omega) (by omega)]; omega
    have e' : ds s = (ds s).take (i + 1) ++ rest := take_next e (by rw [ds_len]; omega)
    have hp : (10 : Int) ^ (rest.length + 1) = 10 ^ rest.length * 10 := by rw [Int.pow_succ]
    have hpp : (0 : Int) < 10 ^ rest.length := Int.pow_pos (by omega)
    rw [List.length_cons, hp] at h1
    by_cases hlo : (b.toNat : Int) < 48
    · right
      refine ⟨by simp only [dig]; rw [if_neg (by omega)], a, ?_⟩
      simp only [f38.l9, f38.l9.step, h2, h3, hb, hlo, decide_true, if_true]; rfl
    by_cases hhi : (b.toNat : Int) > 57
    · right
      refine ⟨by simp only [dig]; rw [if_neg (by omega)], a, ?_⟩
      simp only [f38.l9, f38.l9.step, h2, h3, hb, hlo, hhi, decide_true, decide_false, if_true]
    have hd : dig a (b :: rest) = dig (10 * a + ((b.toNat : Int) - 48)) rest := by simp only [dig]; rw [if_pos (by omega)]
    have hle : (a + 1) * 10 ≤ 1000000000000000000 := by
      have : (a + 1) * (10 ^ rest.length * 10) = ((a + 1) * 10) * 10 ^ rest.length := by rw [Int.mul_comm (10 ^ rest.length) 10, Int.mul_assoc]
      rw [this] at h1
      have h5 : ((a + 1) * 10) * 1 ≤ ((a + 1) * 10) * 10 ^ rest.length := Int.mul_le_mul_of_nonneg_left (by omega) (by omega)
      omega
    have hn : (10 * a + ((b.toNat : Int) - 48) + 1) * 10 ^ rest.length ≤ 1000000000000000000 := by
      have : (a + 1) * (10 ^ rest.length * 10) = (10 * a + 10) * 10 ^ rest.length := by
        rw [Int.mul_comm (10 ^ rest.length) 10, ← Int.mul_assoc]; congr 1; omega
      rw [this] at h1
      have h5 : (10 * a + ((b.toNat : Int) - 48) + 1) * 10 ^ rest.length ≤ (10 * a + 10) * 10 ^ rest.length := Int.mul_le_mul_of_nonneg_right (by omega) (by omega)
      omega
    have ih := spec_dig k s g hs rest (i + 1) j (10 * a + ((b.toNat : Int) - 48)) e' (by omega) (by omega) (by omega) hn
    rw [hd]
    have hst : f38.l9 k (j + 1) s g a (i : Int) = f38.l9 k j s g (10 * a + ((b.toNat : Int) - 48)) ((i + 1 : Nat) : Int) := by
      rw [f38.l9]
      simp only [f38.l9.step, h2, h3, hb, hlo, hhi, decide_true, decide_false, if_true, hw]
      rw [wr_spec h0 (by omega) ⟨by omega, by omega⟩]
      rfl
    rw [hst]
    exact ih
theorem spec_dig1 (k : Nat) (s : ByteArray) (g : Int) (hs : s.size ≤ 1000) : ∀ (rest : List UInt8) (i j : Nat) (a : Int), ds s = (ds s).take i ++ rest → i + rest.length = s.size → rest.length < j → 0 ≤ a → (a + 1) * 10 ^ rest.length ≤ 1000000000000000000 →
    (∃ v, dig a rest = some v ∧ f38.l9_1 k j s g a (i : Int) = some (.inr (g, v)) ∧ 0 ≤ v ∧ v < 1000000000000000000) ∨ (dig a rest = none ∧ ∃ c, f38.l9_1 k j s g a (i : Int) = some (.inl (0, false, g, c)))
  | rest, i, 0, a, e, hi, hj, h0, h1 => by omega
  | [], i, j + 1, a, e, hi, hj, h0, h1 => by
    left
    have h2 : ¬ (i : Int) < (s.size : Int) := by simp at hi; omega
    simp only [List.length_nil, Nat.pow_zero] at h1
    refine ⟨a, rfl, ?_, h0, by omega⟩
    simp only [f38.l9_1, f38.l9_1.step, h2, decide_false]; rfl
  | b :: rest, i, j + 1, a, e, hi, hj, h0, h1 => by
    simp only [List.length_cons] at hi hj
    have hil : i < s.size := by omega
    have h2 : (i : Int) < (s.size : Int) := by omega
    have h3 : (0 : Int) ≤ (i : Int) := by omega
    have hb : bt s (i : Int) = (b.toNat : Int) := bt_at hil e
    have hb2 : b.toNat ≤ 255 := by have := b.toNat_lt; omega
    have hw : IntKind.i64.wrap ((i : Int) + 1) = ((i + 1 : Nat) : Int) := by rw [w64 (by omega) (by omega)]; omega
    have e' : ds s = (ds s).take (i + 1) ++ rest := take_next e (by rw [ds_len]; omega)
    have hp : (10 : Int) ^ (rest.length + 1) = 10 ^ rest.length * 10 := by rw [Int.pow_succ]
    have hpp : (0 : Int) < 10 ^ rest.length := Int.pow_pos (by omega)
    rw [List.length_cons, hp] at h1
    by_cases hlo : (b.toNat : Int) < 48
    · right
      refine ⟨by simp only [dig]; rw [if_neg (by omega)], a, ?_⟩
      simp only [f38.l9_1, f38.l9_1.step, h2, h3, hb, hlo, decide_true, if_true]; rfl
    by_cases hhi : (b.toNat : Int) > 57
    · right
      refine ⟨by simp only [dig]; rw [if_neg (by omega)], a, ?_⟩
      simp only [f38.l9_1, f38.l9_1.step, h2, h3, hb, hlo, hhi, decide_true, decide_false, if_true]
    have hd : dig a (b :: rest) = dig (10 * a + ((b.toNat : Int) - 48)) rest := by simp only [dig]; rw [if_pos (by omega)]
    have hle : (a + 1) * 10 ≤ 1000000000000000000 := by
      have : (a + 1) * (10 ^ rest.length * 10) = ((a + 1) * 10) * 10 ^ rest.length := by rw [Int.mul_comm (10 ^ rest.length) 10, Int.mul_assoc]
      rw [this] at h1
      have h5 : ((a + 1) * 10) * 1 ≤ ((a + 1) * 10) * 10 ^ rest.length := Int.mul_le_mul_of_nonneg_left (by omega) (by omega)
      omega
    have hn : (10 * a + ((b.toNat : Int) - 48) + 1) * 10 ^ rest.length ≤ 1000000000000000000 := by
      have : (a + 1) * (10 ^ rest.length * 10) = (10 * a + 10) * 10 ^ rest.length := by
        rw [Int.mul_comm (10 ^ rest.length) 10, ← Int.mul_assoc]; congr 1; omega
      rw [this] at h1
      have h5 : (10 * a + ((b.toNat : Int) - 48) + 1) * 10 ^ rest.length ≤ (10 * a + 10) * 10 ^ rest.length := Int.mul_le_mul_of_nonneg_right (by omega) (by omega)
      omega
    have ih := spec_dig1 k s g hs rest (i + 1) j (10 * a + ((b.toNat : Int) - 48)) e' (by omega) (by omega) (by omega) hn
    rw [hd]
    have hst : f38.l9_1 k (j + 1) s g a (i : Int) = f38.l9_1 k j s g (10 * a + ((b.toNat : Int) - 48)) ((i + 1 : Nat) : Int) := by
      rw [f38.l9_1]
      simp only [f38.l9_1.step, h2, h3, hb, hlo, hhi, decide_true, decide_false, if_true, hw]
      rw [wr_spec h0 (by omega) ⟨by omega, by omega⟩]
      rfl
    rw [hst]
    exact ih
theorem impl_dig (k : Nat) (s : ByteArray) (s0 : ByteArray) (hs : s.size ≤ 1000) : ∀ (rest : List UInt8) (i j : Nat) (a : Int), ds s = (ds s).take i ++ rest → i + rest.length = s.size → rest.length < j → 0 ≤ a → (a + 1) * 10 ^ rest.length ≤ 1000000000000000000 →
    (∃ v, dig a rest = some v ∧ f20.l10 k j s0 s a (i : Int) = some (.inr (s0, s, v)) ∧ 0 ≤ v ∧ v < 1000000000000000000) ∨ (dig a rest = none ∧ ∃ c, f20.l10 k j s0 s a (i : Int) = some (.inl (s0, 0, false, s, c)))
  | rest, i, 0, a, e, hi, hj, h0, h1 => by omega
  | [], i, j + 1, a, e, hi, hj, h0, h1 => by
    left
    have h2 : ¬ (i : Int) < (s.size : Int) := by simp at hi; omega
    simp only [List.length_nil, Nat.pow_zero] at h1
    refine ⟨a, rfl, ?_, h0, by omega⟩
    simp only [f20.l10, f20.l10.step, h2, decide_false]; rfl
  | b :: rest, i, j + 1, a, e, hi, hj, h0, h1 => by
    simp only [List.length_cons] at hi hj
    have hil : i < s.size := by omega
    have h2 : (i : Int) < (s.size : Int) := by omega
    have h3 : (0 : Int) ≤ (i : Int) := by omega
    have hb : bt s (i : Int) = (b.toNat : Int) := bt_at hil e
    have hb2 : b.toNat ≤ 255 := by have := b.toNat_lt; omega
    have hw : IntKind.i64.wrap ((i : Int) + 1) = ((i + 1 : Nat) : Int) := by rw [w64 (by omega) (by omega)]; omega
    have e' : ds s = (ds s).take (i + 1) ++ rest := take_next e (by rw [ds_len]; omega)
    have hp : (10 : Int) ^ (rest.length + 1) = 10 ^ rest.length * 10 := by rw [Int.pow_succ]
    have hpp : (0 : Int) < 10 ^ rest.length := Int.pow_pos (by omega)
    rw [List.length_cons, hp] at h1
    by_cases hlo : (b.toNat : Int) < 48
    · right
      refine ⟨by simp only [dig]; rw [if_neg (by omega)], a, ?_⟩
      simp only [f20.l10, f20.l10.step, h2, h3, hb, hlo, decide_true, if_true]; rfl
    by_cases hhi : (b.toNat : Int) > 57
    · right
      refine ⟨by simp only [dig]; rw [if_neg (by omega)], a, ?_⟩
      simp only [f20.l10, f20.l10.step, h2, h3, hb, hlo, hhi, decide_true, decide_false, if_true]
    have hd : dig a (b :: rest) = dig (10 * a + ((b.toNat : Int) - 48)) rest := by simp only [dig]; rw [if_pos (by omega)]
    have hle : (a + 1) * 10 ≤ 1000000000000000000 := by
      have : (a + 1) * (10 ^ rest.length * 10) = ((a + 1) * 10) * 10 ^ rest.length := by rw [Int.mul_comm (10 ^ rest.length) 10, Int.mul_assoc]
      rw [this] at h1
      have h5 : ((a + 1) * 10) * 1 ≤ ((a + 1) * 10) * 10 ^ rest.length := Int.mul_le_mul_of_nonneg_left (by omega) (by omega)
      omega
    have hn : (10 * a + ((b.toNat : Int) - 48) + 1) * 10 ^ rest.length ≤ 1000000000000000000 := by
      have : (a + 1) * (10 ^ rest.length * 10) = (10 * a + 10) * 10 ^ rest.length := by
        rw [Int.mul_comm (10 ^ rest.length) 10, ← Int.mul_assoc]; congr 1; omega
      rw [this] at h1
      have h5 : (10 * a + ((b.toNat : Int) - 48) + 1) * 10 ^ rest.length ≤ (10 * a + 10) * 10 ^ rest.length := Int.mul_le_mul_of_nonneg_right (by omega) (by omega)
      omega
    have ih := impl_dig k s s0 hs rest (i + 1) j (10 * a + ((b.toNat : Int) - 48)) e' (by omega) (by omega) (by omega) hn
    rw [hd]
    have hst : f20.l10 k (j + 1) s0 s a (i : Int) = f20.l10 k j s0 s (10 * a + ((b.toNat : Int) - 48)) ((i + 1 : Nat) : Int) := by
      rw [f20.l10]
      simp only [f20.l10.step, h2, h3, hb, hlo, hhi, decide_true, decide_false, if_true, hw]
      rw [wr_impl h0 (by omega) ⟨by omega, by omega⟩]
      rfl
    rw [hst]
    exact ih
theorem impl_dig1 (k : Nat) (s : ByteArray) (s0 : ByteArray) (hs : s.size ≤ 1000) : ∀ (rest : List UInt8) (i j : Nat) (a : Int), ds s = (ds s).take i ++ rest → i + rest.length = s.size → rest.length < j → 0 ≤ a → (a + 1) * 10 ^ rest.length ≤ 1000000000000000000 →
    (∃ v, dig a rest = some v ∧ f20.l10_1 k j s0 s a (i : Int) = some (.inr (s0, s, v)) ∧ 0 ≤ v ∧ v < 1000000000000000000) ∨ (dig a rest = none ∧ ∃ c, f20.l10_1 k j s0 s a (i : Int) = some (.inl (s0, 0, false, s, c)))
  | rest, i, 0, a, e, hi, hj, h0, h1 => by omega
  | [], i, j + 1, a, e, hi, hj, h0, h1 => by
    left
    have h2 : ¬ (i : Int) < (s.size : Int) := by simp at hi; omega
    simp only [List.length_nil, Nat.pow_zero] at h1
    refine ⟨a, rfl, ?_, h0, by omega⟩
    simp only [f20.l10_1, f20.l10_1.step, h2, decide_false]; rfl
  | b :: rest, i, j + 1, a, e, hi, hj, h0, h1 => by
    simp only [List.length_cons] at hi hj
    have hil : i < s.size := by omega
    have h2 : (i : Int) < (s.size : Int) := by omega
    have h3 : (0 : Int) ≤ (i : Int) := by omega
    have hb : bt s (i : Int) = (b.toNat : Int) := bt_at hil e
    have hb2 : b.toNat ≤ 255 := by have := b.toNat_lt; omega
    have hw : IntKind.i64.wrap ((i : Int) + 1) = ((i + 1 : Nat) : Int) := by rw [w64 (by omega) (by omega)]; omega
    have e' : ds s = (ds s).take (i + 1) ++ rest := take_next e (by rw [ds_len]; omega)
    have hp : (10 : Int) ^ (rest.length + 1) = 10 ^ rest.length * 10 := by rw [Int.pow_succ]
    have hpp : (0 : Int) < 10 ^ rest.length := Int.pow_pos (by omega)
    rw [List.length_cons, hp] at h1
    by_cases hlo : (b.toNat : Int) < 48
    · right
      refine ⟨by simp only [dig]; rw [if_neg (by omega)], a, ?_⟩
      simp only [f20.l10_1, f20.l10_1.step, h2, h3, hb, hlo, decide_true, if_true]; rfl
    by_cases hhi : (b.toNat : Int) > 57
    · right
      refine ⟨by simp only [dig]; rw [if_neg (by omega)], a, ?_⟩
      simp only [f20.l10_1, f20.l10_1.step, h2, h3, hb, hlo, hhi, decide_true, decide_false, if_true]
    have hd : dig a (b :: rest) = dig (10 * a + ((b.toNat : Int) - 48)) rest := by simp only [dig]; rw [if_pos (by omega)]
    have hle : (a + 1) * 10 ≤ 1000000000000000000 := by
      have : (a + 1) * (10 ^ rest.length * 10) = ((a + 1) * 10) * 10 ^ rest.length := by rw [Int.mul_comm (10 ^ rest.length) 10, Int.mul_assoc]
      rw [this] at h1
      have h5 : ((a + 1) * 10) * 1 ≤ ((a + 1) * 10) * 10 ^ rest.length := Int.mul_le_mul_of_nonneg_left (by omega) (by omega)
      omega
    have hn : (10 * a + ((b.toNat : Int) - 48) + 1) * 10 ^ rest.length ≤ 1000000000000000000 := by
      have : (a + 1) * (10 ^ rest.length * 10) = (10 * a + 10) * 10 ^ rest.length := by
        rw [Int.mul_comm (10 ^ rest.length) 10, ← Int.mul_assoc]; congr 1; omega
      rw [this] at h1
      have h5 : (10 * a + ((b.toNat : Int) - 48) + 1) * 10 ^ rest.length ≤ (10 * a + 10) * 10 ^ rest.length := Int.mul_le_mul_of_nonneg_right (by omega) (by omega)
      omega
    have ih := impl_dig1 k s s0 hs rest (i + 1) j (10 * a + ((b.toNat : Int) - 48)) e' (by omega) (by omega) (by omega) hn
    rw [hd]
    have hst : f20.l10_1 k (j + 1) s0 s a (i : Int) = f20.l10_1 k j s0 s (10 * a + ((b.toNat : Int) - 48)) ((i + 1 : Nat) : Int) := by
      rw [f20.l10_1]
      simp only [f20.l10_1.step, h2, h3, hb, hlo, hhi, decide_true, decide_false, if_true, hw]
      rw [wr_impl h0 (by omega) ⟨by omega, by omega⟩]
      rfl
    rw [hst]
    exact ih
theorem p18 : ∀ n : Nat, n ≤ 18 → ((0 : Int) + 1) * 10 ^ n ≤ 1000000000000000000 := fun n h => by
  have : ∀ m : Fin 19, ((0 : Int) + 1) * 10 ^ m.val ≤ 1000000000000000000 := by decide
  exact this ⟨n, by omega⟩
theorem dig_ge : ∀ (l : List UInt8) (a v : Int), dig a l = some v → 0 ≤ a → a * 10 ^ l.length ≤ v
  | [], a, v, h, h0 => by simp only [dig, Option.some.injEq] at h; simp [h]
  | b :: l, a, v, h, h0 => by
    simp only [dig] at h
    split at h
    · rename_i hb
      have ih := dig_ge l _ v h (by omega)
      have hpp : (0 : Int) < 10 ^ l.length := Int.pow_pos (by omega)
      have e : a * 10 ^ (b :: l).length = (10 * a) * 10 ^ l.length := by rw [List.length_cons, Int.pow_succ, Int.mul_comm (10 ^ l.length) 10, ← Int.mul_assoc, Int.mul_comm a 10]
      have h5 : (10 * a) * 10 ^ l.length ≤ (10 * a + ((b.toNat : Int) - 48)) * 10 ^ l.length := Int.mul_le_mul_of_nonneg_right (by omega) (by omega)
      rw [e]; omega
    · cases h
theorem dig_small {s : ByteArray} {v : Int} (h : dig 0 (ds s) = some v) (hs : 0 < s.size) (hb : ¬ bt s 0 = 48) (hv : v ≤ 255) : 0 < v ∧ s.size ≤ 3 := by
  have hl := ds_len s
  cases hd : ds s with
  | nil => rw [hd] at hl; simp at hl; omega
  | cons b l =>
    rw [hd] at h hl
    have hb0 : bt s 0 = (b.toNat : Int) := bt_get (s := s) (i := 0) (by rw [hd]; rfl)
    rw [hb0] at hb
    simp only [dig] at h
    split at h
    · rename_i hr
      have hg := dig_ge l _ v h (by omega)
      have hpp : (0 : Int) < 10 ^ l.length := Int.pow_pos (by omega)
      have h5 : 1 * 10 ^ l.length ≤ (10 * 0 + ((b.toNat : Int) - 48)) * 10 ^ l.length := Int.mul_le_mul_of_nonneg_right (by omega) (by omega)
      refine ⟨by omega, ?_⟩
      simp only [List.length_cons] at hl
      by_cases c : l.length ≤ 2
      · omega
      · have : (10 : Int) ^ 3 ≤ 10 ^ l.length := by
          obtain ⟨m, hm⟩ : ∃ m, l.length = 3 + m := ⟨l.length - 3, by omega⟩
          rw [hm, Int.pow_add]
          have hq : (0 : Int) < 10 ^ m := Int.pow_pos (by omega)
          have : (10 : Int) ^ 3 * 1 ≤ 10 ^ 3 * 10 ^ m := Int.mul_le_mul_of_nonneg_left (by omega) (by decide)
          omega
        have e3 : (10 : Int) ^ 3 = 1000 := by decide
        omega
    · cases h
theorem num_eq (k : Nat) (hK : 2097152 ≤ k) (s : ByteArray) (hs : s.size ≤ 1000) : ∃ v b, f38 k s = some (v, b) ∧ f20 k s = some (v, b) ∧ (b = true → 0 ≤ v → v ≤ 255 → s.size ≤ 10) := by
  simp only [f38, f38.step, f20, f20.step]
  by_cases h0 : (s.size : Int) > 0
  case neg =>
    have h1 : (s.size : Int) = 0 := by omega
    have h2 : (s.size : Int) < 1 := by omega
    simp only [h0, h1, h2, decide_true, decide_false]
    exact ⟨0, false, rfl, rfl, fun h => by cases h⟩
  have hlt : (0 : Int) < (s.size : Int) := h0
  have hne : ¬ (s.size : Int) = 0 := by omega
  have hn1 : ¬ (s.size : Int) < 1 := by omega
  have h1l : (1 : Int) ≤ (s.size : Int) := by omega
  simp only [h0, hlt, decide_true, if_true]
  by_cases hm : bt s 0 = 45
  · let t := s.extract 1 s.size
    have ht : s.extract 1 (Int.toNat (s.size : Int)) = t := by rw [Int.toNat_natCast]
    have hts : t.size = s.size - 1 := by show (s.extract 1 s.size).size = _; rw [ByteArray.size_extract]; omega
    simp only [hm, h1l, decide_true, if_true, Int.le_refl, ht]
    by_cases c1 : (t.size : Int) = 0
    · have c2 : (t.size : Int) < 1 := by omega
      simp only [c1, c2, decide_true]
      exact ⟨0, false, rfl, rfl, fun h => by cases h⟩
    have c2 : ¬ (t.size : Int) < 1 := by omega
    simp only [c1, c2, decide_false, if_true]
    by_cases c3 : (t.size : Int) > 18
    · simp only [c3, decide_true]
      exact ⟨0, false, rfl, rfl, fun h => by cases h⟩
    have c4 : (0 : Int) < (t.size : Int) := by omega
    simp only [c3, c4, decide_false, if_true]
    by_cases c5 : bt t 0 = 48
    · have c6 : (s.size : Int) > 1 := by omega
      simp only [c5, c6, decide_true, if_true]
      by_cases c7 : (t.size : Int) > 1
      · simp only [c7, decide_true]; exact ⟨0, false, rfl, rfl, fun h => by cases h⟩
      · simp only [c7, decide_false, if_true]; exact ⟨0, false, rfl, rfl, fun h => by cases h⟩
    simp only [c5, decide_false]
    have d1 := spec_dig k t (-1) (by omega) (ds t) 0 k 0 (by simp) (by rw [ds_len]; omega) (by rw [ds_len]; omega) (by omega) (p18 _ (by rw [ds_len]; omega))
    have d2 := impl_dig k t s (by omega) (ds t) 0 k 0 (by simp) (by rw [ds_len]; omega) (by rw [ds_len]; omega) (by omega) (p18 _ (by rw [ds_len]; omega))
    rcases d1 with ⟨v, e1, e2, b0, b1⟩ | ⟨e1, c, e2⟩
    · rcases d2 with ⟨v', e3, e4, _⟩ | ⟨e3, _⟩
      · rw [e1] at e3; cases e3
        have e2' : f38.l9 k k t (-1) 0 0 = some (.inr (-1, v)) := e2
        have e4' : f20.l10 k k s t 0 0 = some (.inr (s, t, v)) := e4
        have c8 : (t.size : Int) < (s.size : Int) := by omega
        simp only [e2', e4', Option.bind_some, Sum.elim_inr, c8, decide_true, if_true]
        have w1 : IntKind.i64.wrap (-1 * v) = -v := by rw [w64 (by omega) (by omega)]; omega
        have w2 : IntKind.i64.wrap (0 - v) = -v := by rw [w64 (by omega) (by omega)]; omega
        rw [w1, w2]
        refine ⟨-v, true, rfl, rfl, fun _ hv _ => ?_⟩
        have := dig_small e1 (by omega) c5 (by omega)
        omega
      · rw [e1] at e3; cases e3
    · rcases d2 with ⟨v', e3, _⟩ | ⟨e3, c', e4⟩
      · rw [e1] at e3; cases e3
      · have e2' : f38.l9 k k t (-1) 0 0 = some (.inl (0, false, -1, c)) := e2
        have e4' : f20.l10 k k s t 0 0 = some (.inl (s, 0, false, t, c')) := e4
        simp only [e2', e4', Option.bind_some, Sum.elim_inl]
        exact ⟨0, false, rfl, rfl, fun h => by cases h⟩
  · simp only [hm, decide_false, hne, hn1]
    by_cases c3 : (s.size : Int) > 18
    · simp only [c3, decide_true]
      exact ⟨0, false, rfl, rfl, fun h => by cases h⟩
    have d1 := spec_dig1 k s 1 (by omega) (ds s) 0 k 0 (by simp) (by rw [ds_len]; omega) (by rw [ds_len]; omega) (by omega) (p18 _ (by rw [ds_len]; omega))
    have d2 := impl_dig1 k s s (by omega) (ds s) 0 k 0 (by simp) (by rw [ds_len]; omega) (by rw [ds_len]; omega) (by omega) (p18 _ (by rw [ds_len]; omega))
    have key : ∃ v b, ((f38.l9_1 k k s 1 0 0).bind (Sum.elim (fun t6 => some (t6.1, t6.2.1)) (fun t7 => some ((IntKind.i64.wrap (t7.1 * t7.2)), true)))) = some (v, b) ∧
        ((f20.l10_1 k k s s 0 0).bind (Sum.elim (fun t14 => some (t14.2.1, t14.2.2.1)) (fun t15 => if (decide ((t15.2.1.size : Int) < (t15.1.size : Int))) = true then some ((IntKind.i64.wrap (0 - t15.2.2)), true) else some (t15.2.2, true)))) = some (v, b) ∧ (b = true → dig 0 (ds s) = some v) := by
      rcases d1 with ⟨v, e1, e2, b0, b1⟩ | ⟨e1, c, e2⟩
      · rcases d2 with ⟨v', e3, e4, _⟩ | ⟨e3, _⟩
        · rw [e1] at e3; cases e3
          have e2' : f38.l9_1 k k s 1 0 0 = some (.inr (1, v)) := e2
          have e4' : f20.l10_1 k k s s 0 0 = some (.inr (s, s, v)) := e4
          have c8 : ¬ (s.size : Int) < (s.size : Int) := by omega
          simp only [e2', e4', Option.bind_some, Sum.elim_inr, c8, decide_false]
          have w1 : IntKind.i64.wrap (1 * v) = v := by rw [w64 (by omega) (by omega)]; omega
          rw [w1]
          exact ⟨v, true, rfl, rfl, fun _ => e1⟩
        · rw [e1] at e3; cases e3
      · rcases d2 with ⟨v', e3, _⟩ | ⟨e3, c', e4⟩
        · rw [e1] at e3; cases e3
        · have e2' : f38.l9_1 k k s 1 0 0 = some (.inl (0, false, 1, c)) := e2
          have e4' : f20.l10_1 k k s s 0 0 = some (.inl (s, 0, false, s, c')) := e4
          simp only [e2', e4', Option.bind_some, Sum.elim_inl]
          exact ⟨0, false, rfl, rfl, fun h => by cases h⟩
    simp only [c3, decide_false, if_true]
    by_cases c5 : bt s 0 = 48
    · simp only [c5, decide_true, if_true]
      by_cases c7 : (s.size : Int) > 1
      · simp only [c7, decide_true]; exact ⟨0, false, rfl, rfl, fun h => by cases h⟩
      · simp only [c7, decide_false, if_true]
        obtain ⟨v, b, k1, k2, k3⟩ := key
        exact ⟨v, b, k1, k2, fun _ _ _ => by omega⟩
    · simp only [c5, decide_false]
      obtain ⟨v, b, k1, k2, k3⟩ := key
      exact ⟨v, b, k1, k2, fun h _ hv => by have := dig_small (k3 h) (by omega) c5 hv; omega⟩
/-! ### cut at a byte -/
def sp (c : UInt8) : List UInt8 → List (List UInt8)
  | [] => [[]]
  | b :: l => if b = c then [] :: sp c l else match sp c l with
    | [] => [[b]]
    | x :: xs => (b :: x) :: xs
theorem sp_ne (c : UInt8) : ∀ l, sp c l ≠ []
  | [] => by simp [sp]
  | b :: l => by
    unfold sp
    split
    · simp
    · split <;> simp
theorem split_sp (c : UInt8) : ∀ l : List UInt8, Lib.splitK [c] 0 (Lib.count l [c]) l = sp c l
  | [] => by
    rw [Lib.count_miss (by simp [Lib.index])]; rfl
  | b :: l => by
    have ih := split_sp c l
    by_cases h : b = c
    · subst h
      have hix : Lib.index (b :: l) [b] = 0 := by rw [Lib.index]; simp [List.isPrefixOf]
      rw [Lib.count_cons_eq, Nat.add_comm]
      simp only [Lib.splitK, hix]
      simp [ih, sp]
    · rw [Lib.count_cons_ne b c l h]
      have hp : ([c] : List UInt8).isPrefixOf (b :: l) = false := by simp [List.isPrefixOf, Ne.symm h]
      have hix : Lib.index (b :: l) [c] = if Lib.index l [c] == -1 then -1 else Lib.index l [c] + 1 := by rw [Lib.index, hp]; simp
      cases hc : Lib.count l [c] with
      | zero =>
        rw [hc] at ih
        simp only [Lib.splitK] at ih ⊢
        simp only [sp, h, if_false, ← ih]
      | succ m =>
        rw [hc] at ih
        by_cases hm : Lib.index l [c] = -1
        · rw [Lib.count_miss hm] at hc; cases hc
        · have hge := Lib.index_ge l [c]
          obtain ⟨j, hj⟩ : ∃ j : Nat, Lib.index l [c] = j := ⟨(Lib.index l [c]).toNat, by omega⟩
          have hix' : Lib.index (b :: l) [c] = ((j + 1 : Nat) : Int) := by rw [hix, if_neg (fun e => hm (beq_iff_eq.1 e)), hj]; omega
          have n1 : ¬ (((j + 1 : Nat) : Int) == -1) = true := fun e => by have := beq_iff_eq.1 e; omega
          have n2 : ¬ (((j : Nat) : Int) == -1) = true := fun e => by have := beq_iff_eq.1 e; omega
          simp only [Lib.splitK, hj, if_neg n2] at ih
          simp only [Lib.splitK, hix', if_neg n1, sp, h, if_false, ← ih]
          simp
theorem pieces_sp (c : UInt8) (s : ByteArray) : (Lib.splitB ⟨#[c]⟩ 0 (Lib.countB s ⟨#[c]⟩) s).map ds = sp c (ds s) := by
  have h := Lib.splitB_data ⟨#[c]⟩ 0 (Lib.countB s ⟨#[c]⟩) s
  have h2 : (Lib.splitB ⟨#[c]⟩ 0 (Lib.countB s ⟨#[c]⟩) s).map ds = (Lib.splitB ⟨#[c]⟩ 0 (Lib.countB s ⟨#[c]⟩) s).map (·.data.toList) := rfl
  rw [h2, h]
  exact split_sp c (ds s)
/-! ### the specification's cut -/
def spA (c : UInt8) : List UInt8 → List UInt8 → List (List UInt8)
  | p, [] => [p]
  | p, b :: l => if b = c then p :: spA c [] l else spA c (p ++ [b]) l
theorem spA_sp (c : UInt8) : ∀ l p, spA c p l = (p ++ (sp c l).headD []) :: (sp c l).tail
  | [], p => by simp [spA, sp]
  | b :: l, p => by
    unfold spA sp
    by_cases h : b = c
    · rw [if_pos h, if_pos h, spA_sp c l []]
      cases hh : sp c l with
      | nil => exact absurd hh (sp_ne c l)
      | cons x xs => simp
    · rw [if_neg h, if_neg h, spA_sp c l (p ++ [b])]
      cases hh : sp c l with
      | nil => exact absurd hh (sp_ne c l)
      | cons x xs => simp
theorem spA_nil (c : UInt8) (l : List UInt8) : spA c [] l = sp c l := by
  rw [spA_sp]
  cases hh : sp c l with
  | nil => exact absurd hh (sp_ne c l)
  | cons x xs => simp
theorem ds_ex (s : ByteArray) (p i : Nat) : ds (s.extract p i) = ((ds s).take i).drop p := by
  show (s.extract p i).data.toList = _
  rw [Lib.extract_data, List.drop_take]; rfl
theorem drop_next {l rest : List UInt8} {i : Nat} {b : UInt8} (h : l.drop i = b :: rest) : l[i]? = some b ∧ l.drop (i + 1) = rest ∧ l.take (i + 1) = l.take i ++ [b] := by
  have h1 : l[i]? = some b := by rw [← List.head?_drop, h]; rfl
  refine ⟨h1, by rw [← List.drop_drop, h]; rfl, by rw [List.take_add_one, h1]; rfl⟩
theorem bn_eq {b c : UInt8} {C : Int} (hC : C = (c.toNat : Int)) (h : b = c) : (b.toNat : Int) = C := by rw [hC, h]
theorem bn_ne {b c : UInt8} {C : Int} (hC : C = (c.toNat : Int)) (h : ¬ b = c) : ¬ (b.toNat : Int) = C := fun e => h (UInt8.toNat_inj.1 (by omega))
theorem cut_loop (k : Nat) (s : ByteArray) (c : UInt8) (C : Int) (hC : C = (c.toNat : Int)) (hs : s.size ≤ 1000) : ∀ (rest : List UInt8) (p i j : Nat) (acc : List ByteArray), p ≤ i → (ds s).drop i = rest → i + rest.length = s.size → rest.length < j → acc.length ≤ i →
    ∃ (p' : Nat) (acc' : List ByteArray), f57.l4 k j s C (p : Int) (i : Int) acc = some (s, (p' : Int), acc') ∧ p' ≤ s.size ∧ acc'.length ≤ s.size ∧ (acc' ++ [s.extract p' s.size]).map ds = acc.map ds ++ spA c (((ds s).take i).drop p) rest
  | rest, p, i, 0, acc, hp, hd, hi, hj, ha => by omega
  | [], p, i, j + 1, acc, hp, hd, hi, hj, ha => by
    have hi' : i = s.size := by simpa using hi
    have h2 : ¬ (i : Int) < (s.size : Int) := by omega
    refine ⟨p, acc, ?_, by omega, by omega, ?_⟩
    · simp only [f57.l4, f57.l4.step, h2, decide_false]; rfl
    · rw [List.map_append, hi']; simp only [List.map_cons, List.map_nil, ds_ex, spA]
  | b :: rest, p, i, j + 1, acc, hp, hd, hi, hj, ha => by
    simp only [List.length_cons] at hi hj
    obtain ⟨g1, g2, g3⟩ := drop_next hd
    have h2 : (i : Int) < (s.size : Int) := by omega
    have h3 : (0 : Int) ≤ (i : Int) := by omega
    have h4 : (0 : Int) ≤ (p : Int) := by omega
    have h5 : (p : Int) ≤ (i : Int) := by omega
    have h6 : (i : Int) ≤ (s.size : Int) := by omega
    have hb : bt s (i : Int) = (b.toNat : Int) := bt_get g1
    have hw : IntKind.i64.wrap ((i : Int) + 1) = ((i + 1 : Nat) : Int) := by rw [w64 (by omega) (by omega)]; omega
    by_cases he : b = c
    · have hm : (List.length acc + List.length [s.extract p i]) * 16 ≤ maxN := by simp only [List.length_cons, List.length_nil, maxN]; omega
      obtain ⟨p', acc', e1, e2, e3, e4⟩ := cut_loop k s c C hC hs rest (i + 1) (i + 1) j (acc ++ [s.extract p i]) (by omega) g2 (by omega) (by omega) (by simp; omega)
      refine ⟨p', acc', ?_, e2, e3, ?_⟩
      · rw [← e1, f57.l4]
        simp only [f57.l4.step, h2, h3, h4, h5, h6, hb, bn_eq hC he, Int.toNat_natCast, hm, decide_true, if_true, hw]
      · rw [e4, spA, if_pos he]
        have : List.drop (i + 1) (List.take (i + 1) (ds s)) = [] := by rw [List.drop_eq_nil_iff]; simp; omega
        rw [this]
        simp [ds_ex]
    · obtain ⟨p', acc', e1, e2, e3, e4⟩ := cut_loop k s c C hC hs rest p (i + 1) j acc (by omega) g2 (by omega) (by omega) (by omega)
      refine ⟨p', acc', ?_, e2, e3, ?_⟩
      · rw [← e1, f57.l4]
        simp only [f57.l4.step, h2, h3, hb, bn_ne hC he, decide_true, decide_false, if_true, hw]; rfl
      · rw [e4, spA, if_neg he, g3]
        rw [List.drop_append_of_le_length (by simp [ds_len]; omega)]
theorem map_ds_inj : ∀ {l m : List ByteArray}, l.map ds = m.map ds → l = m
  | [], [], _ => rfl
  | [], _ :: _, h => by cases h
  | _ :: _, [], h => by cases h
  | a :: l, b :: m, h => by
    simp only [List.map_cons, List.cons.injEq] at h
    rw [ds_inj h.1, map_ds_inj h.2]
def pcs (c : UInt8) (s : ByteArray) : List ByteArray := Lib.splitB ⟨#[c]⟩ 0 (Lib.countB s ⟨#[c]⟩) s
theorem pcs_ds (c : UInt8) (s : ByteArray) : (pcs c s).map ds = sp c (ds s) := pieces_sp c s
theorem spec_cut (k : Nat) (hK : 2097152 ≤ k) (s : ByteArray) (c : UInt8) (C : Int) (hC : C = (c.toNat : Int)) (hs : s.size ≤ 1000) : f57 k s C = some (pcs c s) := by
  obtain ⟨p', acc', e1, e2, e3, e4⟩ := cut_loop k s c C hC hs (ds s) 0 0 k [] (Nat.le_refl _) rfl (by rw [ds_len]; omega) (by rw [ds_len]; omega) (Nat.zero_le _)
  have e1' : f57.l4 k k s C 0 0 ([] : List ByteArray) = some (s, (p' : Int), acc') := e1
  have h0 : (0 : Int) ≤ (p' : Int) := by omega
  have h1 : (p' : Int) ≤ (s.size : Int) := by omega
  have hm : (List.length acc' + List.length [s.extract p' s.size]) * 16 ≤ maxN := by simp only [List.length_cons, List.length_nil, maxN]; omega
  simp only [f57, f57.step, e1', Option.bind_some, h0, h1, Int.le_refl, Int.toNat_natCast, hm, if_true]
  congr 1
  apply map_ds_inj
  rw [pcs_ds, e4, List.map_nil, List.nil_append]
  exact spA_nil c (ds s)
theorem impl_cut (k : Nat) (s : ByteArray) (c : UInt8) (hs : s.size ≤ 1000) : f36 k s (⟨#[c]⟩ : ByteArray) = some (pcs c s) := by
  unfold f36
  have h1 : (⟨#[c]⟩ : ByteArray).size = 1 := rfl
  rw [if_pos ⟨by omega, by omega⟩]; rfl
theorem sp_sum (c : UInt8) : ∀ l, ((sp c l).map List.length).sum + (sp c l).length = l.length + 1
  | [] => by simp [sp]
  | b :: l => by
    have ih := sp_sum c l
    unfold sp
    split
    · simp only [List.map_cons, List.length_nil, List.sum_cons, List.length_cons]; omega
    · cases hh : sp c l with
      | nil => exact absurd hh (sp_ne c l)
      | cons x xs =>
        rw [hh] at ih
        simp only [List.map_cons, List.sum_cons, List.length_cons] at ih ⊢; omega
theorem mem_le_sum : ∀ {l : List Nat} {x : Nat}, x ∈ l → x ≤ l.sum
  | [], _, h => by cases h
  | a :: l, x, h => by
    rw [List.sum_cons]
    rcases List.mem_cons.1 h with h | h
    · omega
    · have := mem_le_sum h; omega
theorem pcs_sum (c : UInt8) (s : ByteArray) : ((pcs c s).map ByteArray.size).sum + (pcs c s).length = s.size + 1 := by
  have h := sp_sum c (ds s)
  rw [← pcs_ds, List.map_map, List.length_map, ds_len] at h
  have : (List.length ∘ ds) = ByteArray.size := by funext x; exact ds_len x
  rw [this] at h; exact h
theorem pcs_le (c : UInt8) (s : ByteArray) (x : ByteArray) (hx : x ∈ pcs c s) : x.size ≤ s.size := by
  have h := pcs_sum c s
  have h1 := mem_le_sum (List.mem_map.2 ⟨x, hx, rfl⟩ : x.size ∈ (pcs c s).map ByteArray.size)
  have h2 : 0 < (pcs c s).length := List.length_pos_iff.2 (fun e => by rw [e] at hx; cases hx)
  omega
/-! ### four numbers -/
def q (k : Nat) (s : ByteArray) : Int × Bool := (f20 k s).getD (0, false)
theorem q_impl (k : Nat) (hK : 2097152 ≤ k) (s : ByteArray) (hs : s.size ≤ 1000) : f20 k s = some (q k s) := by
  obtain ⟨v, b, _, h, _⟩ := num_eq k hK s hs
  unfold q; rw [h]; rfl
theorem q_spec (k : Nat) (hK : 2097152 ≤ k) (s : ByteArray) (hs : s.size ≤ 1000) : f38 k s = some (q k s) := by
  obtain ⟨v, b, h1, h, _⟩ := num_eq k hK s hs
  unfold q; rw [h1, h]; rfl
def bv (k : Nat) (s : ByteArray) : Option Int := if (q k s).2 = true ∧ 0 ≤ (q k s).1 ∧ (q k s).1 ≤ 255 then some (q k s).1 else none
def mv (k : Nat) : List ByteArray → Option (List Int)
  | [] => some []
  | x :: xs => (bv k x).bind fun v => (mv k xs).map fun l => v :: l
theorem gmb (pre rest : List ByteArray) (x : ByteArray) : List.getD (pre ++ x :: rest) (Int.toNat (pre.length : Int)) ByteArray.empty = x := gm pre rest x _
theorem four_spec (k : Nat) (hK : 2097152 ≤ k) (P : List ByteArray) (hP : P.length ≤ 1000) (hb : ∀ x ∈ P, x.size ≤ 1000) : ∀ (rest pre : List ByteArray) (j : Nat) (acc : List Int), P = pre ++ rest → rest.length < j → acc.length = pre.length →
    (∃ vs, mv k rest = some vs ∧ vs.length = rest.length ∧ f34.l4 k j (pre.length : Int) acc P = some (.inr (acc ++ vs))) ∨ (mv k rest = none ∧ ∃ c, f34.l4 k j (pre.length : Int) acc P = some (.inl ((⟨#[]⟩ : ByteArray), false, c)))
  | rest, pre, 0, acc, e, hj, ha => by omega
  | [], pre, j + 1, acc, e, hj, ha => by
    left
    have h2 : ¬ (pre.length : Int) < (P.length : Int) := by rw [e]; simp
    refine ⟨[], rfl, rfl, ?_⟩
    simp only [f34.l4, f34.l4.step, h2, decide_false, List.append_nil]; rfl
  | x :: rest, pre, j + 1, acc, e, hj, ha => by
    simp only [List.length_cons] at hj
    have h2 : (pre.length : Int) < (P.length : Int) := by rw [e]; exact lt_mid pre rest x
    have h3 : (0 : Int) ≤ (pre.length : Int) := by omega
    have hx : List.getD P (Int.toNat (pre.length : Int)) ByteArray.empty = x := by rw [e]; exact gmb pre rest x
    have hq := q_spec k hK x (hb x (by rw [e]; simp))
    have hr : f39 k (q k x).1 0 255 = some (decide (0 ≤ (q k x).1 ∧ (q k x).1 ≤ 255)) := by
      simp only [f39, f39.step]
      by_cases c1 : (q k x).1 ≥ 0
      · simp only [c1, decide_true, if_true, true_and, ge_iff_le]; 
      · simp only [c1, decide_false, ge_iff_le, false_and]; rfl
    by_cases c1 : (q k x).2 = true
    · by_cases c2 : 0 ≤ (q k x).1 ∧ (q k x).1 ≤ 255
      · have hbv : bv k x = some (q k x).1 := by unfold bv; rw [if_pos ⟨c1, c2⟩]
        have hw : IntKind.i64.wrap ((pre.length : Int) + 1) = (((pre ++ [x]).length : Nat) : Int) := by rw [w64 (by omega) (by omega)]; simp
        have hm : (List.length acc + List.length [(q k x).1]) * 1 ≤ maxN := by simp only [List.length_cons, List.length_nil, maxN]; omega
        have hst : f34.l4 k (j + 1) (pre.length : Int) acc P = f34.l4 k j (((pre ++ [x]).length : Nat) : Int) (acc ++ [(q k x).1]) P := by
          rw [f34.l4]
          simp only [f34.l4.step, h2, h3, hx, hq, hr, c1, c2, w8_id c2.1 c2.2, hm, hw, Option.bind_some, decide_true, if_true, Bool.not_true, true_and]
          rfl
        rcases four_spec k hK P hP hb rest (pre ++ [x]) j (acc ++ [(q k x).1]) (by rw [e, mid_next]) (by omega) (by simp [ha]) with ⟨vs, e1, e2, e3⟩ | ⟨e1, c, e3⟩
        · left
          refine ⟨(q k x).1 :: vs, by simp only [mv, hbv, e1]; rfl, by simp [e2], ?_⟩
          rw [hst, e3]; simp
        · right
          exact ⟨by simp only [mv, hbv, e1]; rfl, c, by rw [hst, e3]⟩
      · right
        have hbv : bv k x = none := by unfold bv; rw [if_neg (fun h => c2 h.2)]
        refine ⟨by simp only [mv, hbv]; rfl, acc, ?_⟩
        rw [f34.l4]
        simp only [f34.l4.step, h2, h3, hx, hq, hr, c1, ff c2, Option.bind_some, decide_true, if_true, Bool.not_true, Bool.not_false]
    · right
      have hbv : bv k x = none := by unfold bv; rw [if_neg (fun h => c1 h.1)]
      refine ⟨by simp only [mv, hbv]; rfl, acc, ?_⟩
      rw [f34.l4]
      have c1' : (q k x).2 = false := by simpa using c1
      simp only [f34.l4.step, h2, h3, hx, hq, c1', Option.bind_some, decide_true, if_true, Bool.not_true, Bool.not_false]
      rfl
theorem four_impl (k : Nat) (hK : 2097152 ≤ k) (P : List ByteArray) (hP : P.length ≤ 1000) (hb : ∀ x ∈ P, x.size ≤ 1000) : ∀ (rest pre : List ByteArray) (j : Nat) (acc zs : List Int), P = pre ++ rest → rest.length < j → acc.length = pre.length → zs.length = rest.length →
    (∃ vs, mv k rest = some vs ∧ f16.l6 k j (P.length : Int) (pre.length : Int) P (acc ++ zs) = some (.inr (acc ++ vs))) ∨ (mv k rest = none ∧ ∃ c, f16.l6 k j (P.length : Int) (pre.length : Int) P (acc ++ zs) = some (.inl ((⟨#[]⟩ : ByteArray), false, c)))
  | rest, pre, 0, acc, zs, e, hj, ha, hz => by omega
  | [], pre, j + 1, acc, zs, e, hj, ha, hz => by
    left
    have h2 : ¬ (pre.length : Int) < (P.length : Int) := by rw [e]; simp
    have hz' : zs = [] := List.length_eq_zero_iff.1 hz
    refine ⟨[], rfl, ?_⟩
    simp only [f16.l6, f16.l6.step, h2, decide_false, hz', List.append_nil]; rfl
  | x :: rest, pre, j + 1, acc, zs, e, hj, ha, hz => by
    simp only [List.length_cons] at hj hz
    have h2 : (pre.length : Int) < (P.length : Int) := by rw [e]; exact lt_mid pre rest x
    have h3 : (0 : Int) ≤ (pre.length : Int) := by omega
    have hx : List.getD P (Int.toNat (pre.length : Int)) ByteArray.empty = x := by rw [e]; exact gmb pre rest x
    have hq := q_impl k hK x (hb x (by rw [e]; simp))
    have hr : f21 k (q k x).1 0 255 = some (decide (0 ≤ (q k x).1 ∧ (q k x).1 ≤ 255)) := by
      simp only [f21, f21.step]
      by_cases c1 : (q k x).1 ≥ 0
      · simp only [c1, decide_true, if_true, true_and, ge_iff_le]; 
      · simp only [c1, decide_false, ge_iff_le, false_and]; rfl
    obtain ⟨z, zs, rfl⟩ : ∃ z zs', zs = z :: zs' := by cases zs with | nil => cases hz | cons z zs => exact ⟨z, zs, rfl⟩
    have h4 : (pre.length : Int) < ((acc ++ z :: zs).length : Int) := by rw [← ha]; exact lt_mid acc zs z
    by_cases c1 : (q k x).2 = true
    · by_cases c2 : 0 ≤ (q k x).1 ∧ (q k x).1 ≤ 255
      · have hbv : bv k x = some (q k x).1 := by unfold bv; rw [if_pos ⟨c1, c2⟩]
        have hw : IntKind.i64.wrap ((pre.length : Int) + 1) = (((pre ++ [x]).length : Nat) : Int) := by rw [w64 (by omega) (by omega)]; simp
        have hs : List.set (acc ++ z :: zs) (Int.toNat (pre.length : Int)) (q k x).1 = (acc ++ [(q k x).1]) ++ zs := by rw [← ha, set_mid, mid_next]
        have hst : f16.l6 k (j + 1) (P.length : Int) (pre.length : Int) P (acc ++ z :: zs) = f16.l6 k j (P.length : Int) (((pre ++ [x]).length : Nat) : Int) P ((acc ++ [(q k x).1]) ++ zs) := by
          rw [f16.l6]
          simp only [f16.l6.step, h2, h3, h4, hx, hq, hr, c1, c2, w8_id c2.1 c2.2, hw, hs, Option.bind_some, decide_true, if_true, Bool.not_true, true_and]
          rfl
        rcases four_impl k hK P hP hb rest (pre ++ [x]) j (acc ++ [(q k x).1]) zs (by rw [e, mid_next]) (by omega) (by simp [ha]) (by simpa using hz) with ⟨vs, e1, e3⟩ | ⟨e1, c, e3⟩
        · left
          refine ⟨(q k x).1 :: vs, by simp only [mv, hbv, e1]; rfl, ?_⟩
          rw [hst, e3]; simp
        · right
          exact ⟨by simp only [mv, hbv, e1]; rfl, c, by rw [hst, e3]⟩
      · right
        have hbv : bv k x = none := by unfold bv; rw [if_neg (fun h => c2 h.2)]
        refine ⟨by simp only [mv, hbv]; rfl, acc ++ z :: zs, ?_⟩
        rw [f16.l6]
        simp only [f16.l6.step, h2, h3, hx, hq, hr, c1, ff c2, Option.bind_some, decide_true, if_true, Bool.not_true, Bool.not_false]
    · right
      have hbv : bv k x = none := by unfold bv; rw [if_neg (fun h => c1 h.1)]
      refine ⟨by simp only [mv, hbv]; rfl, acc ++ z :: zs, ?_⟩
      rw [f16.l6]
      have c1' : (q k x).2 = false := by simpa using c1
      simp only [f16.l6.step, h2, h3, hx, hq, c1', Option.bind_some, decide_true, if_true, Bool.not_true, Bool.not_false]
      rfl
/-- Four numbers: the specification and the code say the same. -/
theorem four_eq (k : Nat) (hK : 2097152 ≤ k) (s : ByteArray) (hs : s.size ≤ 100) : ∃ t b t', f34 k s = some (t, b) ∧ f16 k s = some (t', b) ∧ (b = true → t' = t ∧ ∃ vs, mv k (pcs 46 s) = some vs ∧ vs.length = 4 ∧ t = strOf vs) := by
  have e1 := spec_cut k hK s 46 46 rfl (by omega)
  have e2 := impl_cut k s 46 (by omega)
  have hsum := pcs_sum 46 s
  have hP : (pcs 46 s).length ≤ 1000 := by omega
  have hb : ∀ x ∈ pcs 46 s, x.size ≤ 1000 := fun x hx => by have := pcs_le 46 s x hx; omega
  have a1 := four_spec k hK (pcs 46 s) hP hb (pcs 46 s) [] k [] rfl (by omega) rfl
  simp only [f34, f34.step, f16, f16.step, e1, e2, Option.bind_some]
  by_cases c : (((pcs 46 s).length : Nat) : Int) = 4
  · have c' : ¬ (((pcs 46 s).length : Nat) : Int) ≠ 4 := fun h => h c
    have hl : (pcs 46 s).length = 4 := by omega
    rw [if_neg (fb c')]
    have a2 := four_impl k hK (pcs 46 s) hP hb (pcs 46 s) [] k [] (List.replicate 4 0) rfl (by omega) rfl (by simp [hl])
    rcases a1 with ⟨vs, m1, m2, m3⟩ | ⟨m1, c1, m3⟩
    · rcases a2 with ⟨vs', n1, n3⟩ | ⟨n1, _⟩
      · rw [m1] at n1; cases n1
        have m3' : f34.l4 k k 0 ([] : List Int) (pcs 46 s) = some (.inr vs) := m3
        have n3' : f16.l6 k k ((pcs 46 s).length : Int) 0 (pcs 46 s) (List.replicate 4 0) = some (.inr vs) := n3
        rw [m3', n3']
        simp only [Option.bind_some, Sum.elim_inr]
        have h4 : ((vs.length : Nat) : Int) = 4 := by omega
        refine ⟨strOf vs, true, strOf vs, by simp only [h4, decide_true], rfl, fun _ => ⟨rfl, vs, m1, by omega, rfl⟩⟩
      · rw [m1] at n1; cases n1
    · rcases a2 with ⟨vs', n1, n3⟩ | ⟨n1, c2, n3⟩
      · rw [m1] at n1; cases n1
      · have m3' : f34.l4 k k 0 ([] : List Int) (pcs 46 s) = some (.inl ((⟨#[]⟩ : ByteArray), false, c1)) := m3
        have n3' : f16.l6 k k ((pcs 46 s).length : Int) 0 (pcs 46 s) (List.replicate 4 0) = some (.inl ((⟨#[]⟩ : ByteArray), false, c2)) := n3
        rw [m3', n3']
        exact ⟨_, false, _, rfl, rfl, fun h => by cases h⟩
  · have c' : (((pcs 46 s).length : Nat) : Int) ≠ 4 := c
    rw [if_pos (tb c')]
    rcases a1 with ⟨vs, m1, m2, m3⟩ | ⟨m1, c1, m3⟩
    · have m3' : f34.l4 k k 0 ([] : List Int) (pcs 46 s) = some (.inr vs) := m3
      rw [m3']
      have h4 : ¬ ((vs.length : Nat) : Int) = 4 := by omega
      simp only [Option.bind_some, Sum.elim_inr, h4, decide_false]
      exact ⟨_, false, _, rfl, rfl, fun h => by cases h⟩
    · have m3' : f34.l4 k k 0 ([] : List Int) (pcs 46 s) = some (.inl ((⟨#[]⟩ : ByteArray), false, c1)) := m3
      rw [m3']
      exact ⟨_, false, _, rfl, rfl, fun h => by cases h⟩
/-! ### words of hex digits -/
def hx (x : Int) : Int := (f68 0 x).getD 0
theorem hx_all : ∀ x : Fin 256, f68 0 (x.val : Int) = some (hx x.val) ∧ f60 0 (x.val : Int) = some (hx x.val) ∧ -1 ≤ hx x.val ∧ hx x.val ≤ 15 := by decide +kernel
theorem hx_spec (k : Nat) (b : UInt8) : f68 k (b.toNat : Int) = some (hx b.toNat) := (hx_all ⟨b.toNat, b.toNat_lt⟩).1
theorem hx_impl (k : Nat) (b : UInt8) : f60 k (b.toNat : Int) = some (hx b.toNat) := (hx_all ⟨b.toNat, b.toNat_lt⟩).2.1
theorem hx_rng (b : UInt8) : -1 ≤ hx b.toNat ∧ hx b.toNat ≤ 15 := (hx_all ⟨b.toNat, b.toNat_lt⟩).2.2
def hexv : Int → List UInt8 → Option Int
  | a, [] => some a
  | a, b :: l => if hx b.toNat < 0 then none else hexv (16 * a + hx b.toNat) l
theorem hex_step {a d : Int} {n : Nat} (ha : 0 ≤ a) (hd : 0 ≤ d) (hd2 : d ≤ 15) (h1 : (a + 1) * 16 ^ (n + 1) ≤ 65536) : a ≤ 4095 ∧ (16 * a + d + 1) * 16 ^ n ≤ 65536 := by
  have hp : (16 : Int) ^ (n + 1) = 16 ^ n * 16 := by rw [Int.pow_succ]
  have hpp : (0 : Int) < 16 ^ n := Int.pow_pos (by omega)
  rw [hp] at h1
  have e : (a + 1) * (16 ^ n * 16) = (16 * a + 16) * 16 ^ n := by rw [Int.mul_comm (16 ^ n) 16, ← Int.mul_assoc]; congr 1; omega
  rw [e] at h1
  have h5 : (16 * a + d + 1) * 16 ^ n ≤ (16 * a + 16) * 16 ^ n := Int.mul_le_mul_of_nonneg_right (by omega) (by omega)
  have h6 : (16 * a + 16) * 1 ≤ (16 * a + 16) * 16 ^ n := Int.mul_le_mul_of_nonneg_left (by omega) (by omega)
  omega
theorem hex_spec (k : Nat) (s : ByteArray) (m : Int) (acc : List Int) (P : List ByteArray) (hs : s.size ≤ 4) : ∀ (rest : List UInt8) (i j : Nat) (a : Int), (ds s).drop i = rest → i + rest.length = s.size → rest.length < j → 0 ≤ a → (a + 1) * 16 ^ rest.length ≤ 65536 →
    (∃ v, hexv a rest = some v ∧ 0 ≤ v ∧ v < 65536 ∧ f58.l13 k j m s a (i : Int) acc P = some (.inr (m, v, acc, P))) ∨ (hexv a rest = none ∧ ∃ c, f58.l13 k j m s a (i : Int) acc P = some (.inl (false, m, c, acc, P)))
  | rest, i, 0, a, hd, hi, hj, h0, h1 => by omega
  | [], i, j + 1, a, hd, hi, hj, h0, h1 => by
    left
    have h2 : ¬ (i : Int) < (s.size : Int) := by simp at hi; omega
    simp only [List.length_nil, Int.pow_zero] at h1
    refine ⟨a, rfl, h0, by omega, ?_⟩
    simp only [f58.l13, f58.l13.step, h2, decide_false]; rfl
  | b :: rest, i, j + 1, a, hd, hi, hj, h0, h1 => by
    simp only [List.length_cons] at hi hj h1
    obtain ⟨g1, g2, g3⟩ := drop_next hd
    have h2 : (i : Int) < (s.size : Int) := by omega
    have h3 : (0 : Int) ≤ (i : Int) := by omega
    have hb : bt s (i : Int) = (b.toNat : Int) := bt_get g1
    have hw : IntKind.i64.wrap ((i : Int) + 1) = ((i + 1 : Nat) : Int) := by rw [w64 (by omega) (by omega)]; omega
    have hr := hx_rng b
    by_cases c : hx b.toNat < 0
    · right
      refine ⟨by simp only [hexv]; rw [if_pos c], a, ?_⟩
      rw [f58.l13]
      simp only [f58.l13.step, h2, h3, hb, hx_spec, Option.bind_some, c, decide_true, if_true]
    · obtain ⟨q1, q2⟩ := hex_step h0 (by omega) hr.2 h1
      have hv : IntKind.i64.wrap (IntKind.i64.wrap (a * 16) + hx b.toNat) = 16 * a + hx b.toNat := by
        rw [w64 (n := a * 16) (by omega) (by omega), w64 (by omega) (by omega)]; omega
      have hst : f58.l13 k (j + 1) m s a (i : Int) acc P = f58.l13 k j m s (16 * a + hx b.toNat) ((i + 1 : Nat) : Int) acc P := by
        rw [f58.l13]
        simp only [f58.l13.step, h2, h3, hb, hx_spec, Option.bind_some, c, decide_true, decide_false, if_true, hv, hw]; rfl
      rw [hst]
      have hh : hexv a (b :: rest) = hexv (16 * a + hx b.toNat) rest := by simp only [hexv]; rw [if_neg c]
      rw [hh]
      exact hex_spec k s m acc P hs rest (i + 1) j _ g2 (by omega) (by omega) (by omega) q2
theorem hex_impl (k : Nat) (s : ByteArray) (m n : Int) (acc : List Int) (P : List ByteArray) (hs : s.size ≤ 4) : ∀ (rest : List UInt8) (i j : Nat) (a : Int), (ds s).drop i = rest → i + rest.length = s.size → rest.length < j → 0 ≤ a → (a + 1) * 16 ^ rest.length ≤ 65536 →
    (∃ v, hexv a rest = some v ∧ f37.l11 k j s a (i : Int) m n acc P = some (.inr (v, m, n, acc, P))) ∨ (hexv a rest = none ∧ ∃ c, f37.l11 k j s a (i : Int) m n acc P = some (.inl (false, c, m, n, acc, P)))
  | rest, i, 0, a, hd, hi, hj, h0, h1 => by omega
  | [], i, j + 1, a, hd, hi, hj, h0, h1 => by
    left
    have h2 : ¬ (i : Int) < (s.size : Int) := by simp at hi; omega
    refine ⟨a, rfl, ?_⟩
    simp only [f37.l11, f37.l11.step, h2, decide_false]; rfl
  | b :: rest, i, j + 1, a, hd, hi, hj, h0, h1 => by
    simp only [List.length_cons] at hi hj h1
    obtain ⟨g1, g2, g3⟩ := drop_next hd
    have h2 : (i : Int) < (s.size : Int) := by omega
    have h3 : (0 : Int) ≤ (i : Int) := by omega
    have hb : bt s (i : Int) = (b.toNat : Int) := bt_get g1
    have hw : IntKind.i64.wrap ((i : Int) + 1) = ((i + 1 : Nat) : Int) := by rw [w64 (by omega) (by omega)]; omega
    have hr := hx_rng b
    by_cases c : hx b.toNat < 0
    · right
      refine ⟨by simp only [hexv]; rw [if_pos c], a, ?_⟩
      rw [f37.l11]
      simp only [f37.l11.step, h2, h3, hb, hx_impl, Option.bind_some, c, decide_true, if_true]
    · obtain ⟨q1, q2⟩ := hex_step h0 (by omega) hr.2 h1
      have hv : IntKind.i64.wrap (IntKind.i64.wrap (16 * a) + hx b.toNat) = 16 * a + hx b.toNat := by
        rw [w64 (n := 16 * a) (by omega) (by omega), w64 (by omega) (by omega)]
      have hst : f37.l11 k (j + 1) s a (i : Int) m n acc P = f37.l11 k j s (16 * a + hx b.toNat) ((i + 1 : Nat) : Int) m n acc P := by
        rw [f37.l11]
        simp only [f37.l11.step, h2, h3, hb, hx_impl, Option.bind_some, c, decide_true, decide_false, if_true, hv, hw]; rfl
      rw [hst]
      have hh : hexv a (b :: rest) = hexv (16 * a + hx b.toNat) rest := by simp only [hexv]; rw [if_neg c]
      rw [hh]
      exact hex_impl k s m n acc P hs rest (i + 1) j _ g2 (by omega) (by omega) (by omega) q2
def wd (x : ByteArray) : Option (List Int) := if x.size = 0 ∨ x.size > 4 then none else (hexv 0 (ds x)).map fun v => [v / 256, v % 256]
def wm : List ByteArray → Option (List Int)
  | [] => some []
  | x :: xs => (wd x).bind fun v => (wm xs).map fun l => v ++ l
theorem w16 {v : Int} (h0 : 0 ≤ v) (h1 : v < 65536) : IntKind.u8.wrap (IntKind.i64.wrap (Int.tdiv v 256)) = v / 256 ∧ IntKind.u8.wrap (Int.tmod v 256) = v % 256 ∧ IntKind.u8.wrap (Int.fdiv v (2 ^ (min (8 : Int).toNat IntKind.i64.bits))) = v / 256 ∧ IntKind.u8.wrap v = v % 256 := by
  have e : (2 : Int) ^ (min (8 : Int).toNat IntKind.i64.bits) = 256 := by decide
  have t1 : Int.tdiv v 256 = v / 256 := Int.tdiv_eq_ediv_of_nonneg h0
  have t2 : Int.tmod v 256 = v % 256 := Int.tmod_eq_emod_of_nonneg h0
  have t3 : Int.fdiv v 256 = v / 256 := Int.fdiv_eq_ediv_of_nonneg _ (by omega)
  rw [e, t1, t2, t3]
  refine ⟨?_, ?_, ?_, ?_⟩
  · rw [w64 (by omega) (by omega)]; exact w8_id (by omega) (by omega)
  · exact w8_id (by omega) (by omega)
  · exact w8_id (by omega) (by omega)
  · simp [IntKind.wrap, IntKind.bits, IntKind.signed]
theorem words_spec (k : Nat) (hK : 2097152 ≤ k) (P : List ByteArray) (hP : P.length ≤ 1000) : ∀ (rest pre : List ByteArray) (j : Nat) (acc : List Int), P = pre ++ rest → rest.length < j → acc.length = 2 * pre.length →
    (∃ vs, wm rest = some vs ∧ vs.length = 2 * rest.length ∧ f58.l6 k j (pre.length : Int) acc P = some (.inr (acc ++ vs))) ∨ (wm rest = none ∧ ∃ c, f58.l6 k j (pre.length : Int) acc P = some (.inl (false, c)))
  | rest, pre, 0, acc, e, hj, ha => by omega
  | [], pre, j + 1, acc, e, hj, ha => by
    left
    have h2 : ¬ (pre.length : Int) < (P.length : Int) := by rw [e]; simp
    refine ⟨[], rfl, rfl, ?_⟩
    simp only [f58.l6, f58.l6.step, h2, decide_false, List.append_nil]; rfl
  | x :: rest, pre, j + 1, acc, e, hj, ha => by
    simp only [List.length_cons] at hj
    have hpl : pre.length < P.length := by rw [e]; simp
    have h2 : (pre.length : Int) < (P.length : Int) := by omega
    have h3 : (0 : Int) ≤ (pre.length : Int) := by omega
    have hx : List.getD P (Int.toNat (pre.length : Int)) ByteArray.empty = x := by rw [e]; exact gmb pre rest x
    by_cases c0 : (x.size : Int) = 0
    · right
      refine ⟨by simp only [wm, wd]; rw [if_pos (by omega)]; rfl, acc, ?_⟩
      rw [f58.l6]
      simp only [f58.l6.step, h2, h3, hx, c0, decide_true, if_true]
      rfl
    by_cases c4 : (x.size : Int) > 4
    · right
      refine ⟨by simp only [wm, wd]; rw [if_pos (by omega)]; rfl, acc, ?_⟩
      rw [f58.l6]
      simp only [f58.l6.step, h2, h3, hx, c0, c4, decide_true, decide_false, if_true]
    have hwd : wd x = (hexv 0 (ds x)).map fun v => [v / 256, v % 256] := by unfold wd; rw [if_neg (by omega)]
    have hle : ((0 : Int) + 1) * 16 ^ (ds x).length ≤ 65536 := by
      have : ∀ m : Fin 5, ((0 : Int) + 1) * 16 ^ m.val ≤ 65536 := by decide
      exact this ⟨(ds x).length, by rw [ds_len]; omega⟩
    rcases hex_spec k x (pre.length : Int) acc P (by omega) (ds x) 0 k 0 rfl (by rw [ds_len]; omega) (by rw [ds_len]; omega) (by omega) hle with ⟨v, v1, v2, v3, v4⟩ | ⟨v1, c, v4⟩
    · obtain ⟨u1, u2, _, _⟩ := w16 v2 v3
      have v4' : f58.l13 k k (pre.length : Int) x 0 0 acc P = some (.inr ((pre.length : Int), v, acc, P)) := v4
      have hw : IntKind.i64.wrap ((pre.length : Int) + 1) = (((pre ++ [x]).length : Nat) : Int) := by rw [w64 (by omega) (by omega)]; simp
      have hm : (List.length acc + List.length [v / 256, v % 256]) * 1 ≤ maxN := by simp only [List.length_cons, List.length_nil, maxN]; omega
      have hst : f58.l6 k (j + 1) (pre.length : Int) acc P = f58.l6 k j (((pre ++ [x]).length : Nat) : Int) (acc ++ [v / 256, v % 256]) P := by
        rw [f58.l6]
        simp only [f58.l6.step, h2, h3, hx, c0, c4, v4', Option.bind_some, Sum.elim_inr, u1, u2, hm, hw, decide_true, decide_false, if_true]
        rfl
      rcases words_spec k hK P hP rest (pre ++ [x]) j (acc ++ [v / 256, v % 256]) (by rw [e, mid_next]) (by omega) (by simp [ha]; omega) with ⟨vs, e1, e2, e3⟩ | ⟨e1, c, e3⟩
      · left
        refine ⟨[v / 256, v % 256] ++ vs, by simp only [wm, hwd, v1, e1]; rfl, by simp [e2]; omega, ?_⟩
        rw [hst, e3]; simp
      · right
        exact ⟨by simp only [wm, hwd, v1, e1]; rfl, c, by rw [hst, e3]⟩
    · right
      have v4' : f58.l13 k k (pre.length : Int) x 0 0 acc P = some (.inl (false, (pre.length : Int), c, acc, P)) := v4
      refine ⟨by simp only [wm, hwd, v1]; rfl, acc, ?_⟩
      rw [f58.l6]
      simp only [f58.l6.step, h2, h3, hx, c0, c4, v4', Option.bind_some, Sum.elim_inl, decide_true, decide_false, if_true]
      rfl
theorem words_impl (k : Nat) (hK : 2097152 ≤ k) (P : List ByteArray) (hP : P.length ≤ 1000) : ∀ (rest pre : List ByteArray) (j : Nat) (acc : List Int), P = pre ++ rest → rest.length < j → acc.length = 2 * pre.length →
    (∃ vs, wm rest = some vs ∧ f37.l5 k j (P.length : Int) (pre.length : Int) acc P = some (.inr (acc ++ vs))) ∨ (wm rest = none ∧ ∃ c, f37.l5 k j (P.length : Int) (pre.length : Int) acc P = some (.inl (false, c)))
  | rest, pre, 0, acc, e, hj, ha => by omega
  | [], pre, j + 1, acc, e, hj, ha => by
    left
    have h2 : ¬ (pre.length : Int) < (P.length : Int) := by rw [e]; simp
    refine ⟨[], rfl, ?_⟩
    simp only [f37.l5, f37.l5.step, h2, decide_false, List.append_nil]; rfl
  | x :: rest, pre, j + 1, acc, e, hj, ha => by
    simp only [List.length_cons] at hj
    have hpl : pre.length < P.length := by rw [e]; simp
    have h2 : (pre.length : Int) < (P.length : Int) := by omega
    have h3 : (0 : Int) ≤ (pre.length : Int) := by omega
    have hx : List.getD P (Int.toNat (pre.length : Int)) ByteArray.empty = x := by rw [e]; exact gmb pre rest x
    by_cases c0 : (x.size : Int) < 1
    · right
      refine ⟨by simp only [wm, wd]; rw [if_pos (by omega)]; rfl, acc, ?_⟩
      rw [f37.l5]
      simp only [f37.l5.step, h2, h3, hx, c0, decide_true, if_true]
      rfl
    by_cases c4 : (x.size : Int) > 4
    · right
      refine ⟨by simp only [wm, wd]; rw [if_pos (by omega)]; rfl, acc, ?_⟩
      rw [f37.l5]
      simp only [f37.l5.step, h2, h3, hx, c0, c4, decide_true, decide_false, if_true]
    have hwd : wd x = (hexv 0 (ds x)).map fun v => [v / 256, v % 256] := by unfold wd; rw [if_neg (by omega)]
    have hle : ((0 : Int) + 1) * 16 ^ (ds x).length ≤ 65536 := by
      have : ∀ m : Fin 5, ((0 : Int) + 1) * 16 ^ m.val ≤ 65536 := by decide
      exact this ⟨(ds x).length, by rw [ds_len]; omega⟩
    have hsp := hex_spec k x (pre.length : Int) acc P (by omega) (ds x) 0 k 0 rfl (by rw [ds_len]; omega) (by rw [ds_len]; omega) (by omega) hle
    rcases hex_impl k x (P.length : Int) (pre.length : Int) acc P (by omega) (ds x) 0 k 0 rfl (by rw [ds_len]; omega) (by rw [ds_len]; omega) (by omega) hle with ⟨v, v1, v4⟩ | ⟨v1, c, v4⟩
    · obtain ⟨v2, v3⟩ : 0 ≤ v ∧ v < 65536 := by
        rcases hsp with ⟨v', w1, w2, w3, _⟩ | ⟨w1, _⟩
        · rw [v1] at w1; cases w1; exact ⟨w2, w3⟩
        · rw [v1] at w1; cases w1
      obtain ⟨_, _, u1, u2⟩ := w16 v2 v3
      have v4' : f37.l11 k k x 0 0 (P.length : Int) (pre.length : Int) acc P = some (.inr (v, (P.length : Int), (pre.length : Int), acc, P)) := v4
      have hw : IntKind.i64.wrap ((pre.length : Int) + 1) = (((pre ++ [x]).length : Nat) : Int) := by rw [w64 (by omega) (by omega)]; simp
      have hm : (List.length acc + List.length [v / 256, v % 256]) * 1 ≤ maxN := by simp only [List.length_cons, List.length_nil, maxN]; omega
      have h61 : f61 k v = some [v / 256, v % 256] := by simp only [f61, f61.step, u1, u2]
      have hst : f37.l5 k (j + 1) (P.length : Int) (pre.length : Int) acc P = f37.l5 k j (P.length : Int) (((pre ++ [x]).length : Nat) : Int) (acc ++ [v / 256, v % 256]) P := by
        rw [f37.l5]
        simp only [f37.l5.step, h2, h3, hx, c0, c4, v4', h61, Option.bind_some, Sum.elim_inr, hm, hw, decide_true, decide_false, if_true]
        rfl
      rcases words_impl k hK P hP rest (pre ++ [x]) j (acc ++ [v / 256, v % 256]) (by rw [e, mid_next]) (by omega) (by simp [ha]; omega) with ⟨vs, e1, e3⟩ | ⟨e1, c, e3⟩
      · left
        refine ⟨[v / 256, v % 256] ++ vs, by simp only [wm, hwd, v1, e1]; rfl, ?_⟩
        rw [hst, e3]; simp
      · right
        exact ⟨by simp only [wm, hwd, v1, e1]; rfl, c, by rw [hst, e3]⟩
    · right
      have v4' : f37.l11 k k x 0 0 (P.length : Int) (pre.length : Int) acc P = some (.inl (false, c, (P.length : Int), (pre.length : Int), acc, P)) := v4
      refine ⟨by simp only [wm, hwd, v1]; rfl, acc, ?_⟩
      rw [f37.l5]
      simp only [f37.l5.step, h2, h3, hx, c0, c4, v4', Option.bind_some, Sum.elim_inl, decide_true, decide_false, if_true]
      rfl
def wds (s : ByteArray) : Option (List Int) := if ByteArray.toList s = ByteArray.toList (⟨#[]⟩ : ByteArray) then some [] else wm (pcs 58 s)
theorem wds_eq (k : Nat) (hK : 2097152 ≤ k) (s : ByteArray) (hs : s.size ≤ 100) : (∃ x, wds s = some x ∧ x.length ≤ 1000 ∧ f58 k s = some (x, decide ((x.length : Int) ≤ 16)) ∧ f37 k s = some (.inl (x, true))) ∨ (wds s = none ∧ (∃ c, f58 k s = some (c, false)) ∧ f37 k s = some (.inr false)) := by
  by_cases c : ByteArray.toList s = ByteArray.toList (⟨#[]⟩ : ByteArray)
  · left
    refine ⟨[], by unfold wds; rw [if_pos c], Nat.zero_le _, ?_, ?_⟩
    · simp only [f58, f58.step, c, decide_true, if_true]; rfl
    · simp only [f37, f37.step, c, decide_true, if_true]
  have hw : wds s = wm (pcs 58 s) := by unfold wds; rw [if_neg c]
  have e1 := spec_cut k hK s 58 58 rfl (by omega)
  have e2 := impl_cut k s 58 (by omega)
  have hsum := pcs_sum 58 s
  have hP : (pcs 58 s).length ≤ 1000 := by omega
  have a1 := words_spec k hK (pcs 58 s) hP (pcs 58 s) [] k [] rfl (by omega) rfl
  have a2 := words_impl k hK (pcs 58 s) hP (pcs 58 s) [] k [] rfl (by omega) rfl
  rcases a1 with ⟨vs, m1, m2, m3⟩ | ⟨m1, c1, m3⟩
  · rcases a2 with ⟨vs', n1, n3⟩ | ⟨n1, _⟩
    · rw [m1] at n1; cases n1
      have m3' : f58.l6 k k 0 ([] : List Int) (pcs 58 s) = some (.inr vs) := m3
      have n3' : f37.l5 k k ((pcs 58 s).length : Int) 0 ([] : List Int) (pcs 58 s) = some (.inr vs) := n3
      left
      refine ⟨vs, by rw [hw, m1], by omega, ?_, ?_⟩
      · simp only [f58, f58.step, c, decide_false, e1, m3', Option.bind_some, Sum.elim_inr]; rfl
      · simp only [f37, f37.step, c, decide_false, e2, n3', Option.bind_some, Sum.elim_inr]; rfl
    · rw [m1] at n1; cases n1
  · rcases a2 with ⟨vs', n1, n3⟩ | ⟨n1, c2, n3⟩
    · rw [m1] at n1; cases n1
    · have m3' : f58.l6 k k 0 ([] : List Int) (pcs 58 s) = some (.inl (false, c1)) := m3
      have n3' : f37.l5 k k ((pcs 58 s).length : Int) 0 ([] : List Int) (pcs 58 s) = some (.inl (false, c2)) := n3
      right
      refine ⟨by rw [hw, m1], ⟨c1, ?_⟩, ?_⟩
      · simp only [f58, f58.step, c, decide_false, e1, m3', Option.bind_some, Sum.elim_inl]; rfl
      · simp only [f37, f37.step, c, decide_false, e2, n3', Option.bind_some, Sum.elim_inl]; rfl
/-! ### sixteen bytes -/
theorem l2_end (k j : Nat) (s : ByteArray) (hs : s.size ≤ 100) (m : Nat) (h : ¬ m + 1 < s.size) (hm : m ≤ s.size) : f35.l2 k (j + 1) s (m : Int) = some (.inr s) := by
  have hw : IntKind.i64.wrap ((m : Int) + 1) = (m : Int) + 1 := w64 (by omega) (by omega)
  have h2 : ¬ (m : Int) + 1 < (s.size : Int) := by omega
  rw [f35.l2]
  simp only [f35.l2.step, hw, h2, decide_false]; rfl
theorem two_at {s : ByteArray} {m : Nat} (h : m + 1 < s.size) : ∃ b c rest, (ds s).drop m = b :: c :: rest ∧ bt s (m : Int) = (b.toNat : Int) ∧ bt s ((m : Int) + 1) = (c.toNat : Int) := by
  have h1 : ∃ b, (ds s)[m]? = some b := ⟨_, List.getElem?_eq_getElem (by rw [ds_len]; omega)⟩
  have h2 : ∃ c, (ds s)[m + 1]? = some c := ⟨_, List.getElem?_eq_getElem (by rw [ds_len]; omega)⟩
  obtain ⟨b, hb⟩ := h1
  obtain ⟨c, hc⟩ := h2
  refine ⟨b, c, (ds s).drop (m + 2), ?_, bt_get hb, ?_⟩
  · have l1 : m < (ds s).length := by rw [ds_len]; omega
    have l2 : m + 1 < (ds s).length := by rw [ds_len]; omega
    rw [List.drop_eq_getElem_cons l1, List.drop_eq_getElem_cons l2]
    rw [List.getElem?_eq_getElem l1] at hb
    rw [List.getElem?_eq_getElem l2] at hc
    cases hb; cases hc; rfl
  · have := bt_get hc
    rw [show ((m + 1 : Nat) : Int) = (m : Int) + 1 from by omega] at this
    exact this
theorem l2_skip (k j : Nat) (s : ByteArray) (hs : s.size ≤ 100) (m : Nat) (h : m + 1 < s.size) (ho : Lib.occAt (ds s) [58, 58] m = false) : f35.l2 k (j + 1) s (m : Int) = f35.l2 k j s ((m + 1 : Nat) : Int) := by
  have hw : IntKind.i64.wrap ((m : Int) + 1) = (m : Int) + 1 := w64 (by omega) (by omega)
  have h2 : (m : Int) + 1 < (s.size : Int) := by omega
  have h3 : (m : Int) < (s.size : Int) := by omega
  have h4 : (0 : Int) ≤ (m : Int) := by omega
  have h5 : (0 : Int) ≤ (m : Int) + 1 := by omega
  have he : ((m + 1 : Nat) : Int) = (m : Int) + 1 := by omega
  obtain ⟨b, c, rest, hd, hb, hc⟩ := two_at h
  unfold Lib.occAt at ho
  rw [hd] at ho
  rw [f35.l2, he]
  by_cases c1 : b = 58
  · have c2 : ¬ c = 58 := fun e => by subst c1; subst e; simp [List.isPrefixOf] at ho
    have n1 : ¬ (b.toNat : Int) ≠ 58 := fun e => e (by rw [c1]; rfl)
    have n2 : (c.toNat : Int) ≠ 58 := fun e => c2 (UInt8.toNat_inj.1 (by show c.toNat = 58; omega))
    simp only [f35.l2.step, hw, h2, h3, h4, h5, hb, hc, ff n1, tb n2, decide_true, if_true]
  · have n1 : (b.toNat : Int) ≠ 58 := fun e => c1 (UInt8.toNat_inj.1 (by show b.toNat = 58; omega))
    simp only [f35.l2.step, hw, h2, h3, h4, hb, tb n1, decide_true, if_true]; rfl
theorem l2_run (k : Nat) (s : ByteArray) (hs : s.size ≤ 100) : ∀ (n m j : Nat), (∀ i, m ≤ i → i < m + n → Lib.occAt (ds s) [58, 58] i = false) → m + n + 1 ≤ s.size → f35.l2 k (j + n) s (m : Int) = f35.l2 k j s ((m + n : Nat) : Int)
  | 0, m, j, ho, h => rfl
  | n + 1, m, j, ho, h => by
    rw [show j + (n + 1) = (j + n) + 1 from rfl, l2_skip k (j + n) s hs m (by omega) (ho m (Nat.le_refl _) (by omega))]
    rw [l2_run k s hs n (m + 1) j (fun i h1 h2 => ho i (by omega) (by omega)) (by omega)]
    rw [show m + 1 + n = m + (n + 1) from by omega]
theorem occ_room {s : ByteArray} {m : Nat} (h : Lib.occAt (ds s) [58, 58] m = true) : m + 1 < s.size := by
  unfold Lib.occAt at h
  have := (List.isPrefixOf_iff_prefix.1 h).length_le
  simp [ds_len] at this; omega
theorem l2_none (k : Nat) (hK : 2097152 ≤ k) (s : ByteArray) (hs : s.size ≤ 100) (h : ∀ j, j ≤ (ds s).length → Lib.occAt (ds s) [58, 58] j = false) : f35.l2 k k s 0 = some (.inr s) := by
  cases hz : s.size with
  | zero =>
    obtain ⟨j, rfl⟩ : ∃ j, k = j + 1 := ⟨k - 1, by omega⟩
    exact l2_end (j + 1) j s hs 0 (by omega) (by omega)
  | succ n =>
    obtain ⟨j, rfl⟩ : ∃ j, k = j + 1 + n := ⟨k - 1 - n, by omega⟩
    have h1 := l2_run (j + 1 + n) s hs n 0 (j + 1) (fun i _ hi => h i (by rw [ds_len]; omega)) (by omega)
    refine h1.trans ?_
    exact l2_end _ j s hs (0 + n) (by omega) (by omega)
theorem l2_hit (k j : Nat) (s : ByteArray) (hs : s.size ≤ 100) (m : Nat) (ho : Lib.occAt (ds s) [58, 58] m = true)
    (x y : List Int) (b c : Bool) (h1 : f58 k (s.extract 0 m) = some (x, b)) (h2' : f58 k (s.extract (m + 2) s.size) = some (y, c)) (hxl : b = true → x.length ≤ 1000) (hyl : c = true → y.length ≤ 1000) :
    f35.l2 k (j + 1) s (m : Int) = some (.inl (if b = true ∧ c = true ∧ x.length + y.length ≤ 14 then (s, (strOf x ++ strOf (List.replicate (16 - x.length - y.length) 0)) ++ strOf y, true) else (s, (⟨#[]⟩ : ByteArray), false))) := by
  have h := occ_room ho
  have hw : IntKind.i64.wrap ((m : Int) + 1) = (m : Int) + 1 := w64 (by omega) (by omega)
  have hw2 : IntKind.i64.wrap ((m : Int) + 2) = ((m + 2 : Nat) : Int) := by rw [w64 (by omega) (by omega)]; omega
  have h2 : (m : Int) + 1 < (s.size : Int) := by omega
  have h3 : (m : Int) < (s.size : Int) := by omega
  have h3' : (m : Int) ≤ (s.size : Int) := by omega
  have h4 : (0 : Int) ≤ (m : Int) := by omega
  have h5 : (0 : Int) ≤ (m : Int) + 1 := by omega
  have h6 : (0 : Int) ≤ ((m + 2 : Nat) : Int) := by omega
  have h7 : ((m + 2 : Nat) : Int) ≤ (s.size : Int) := by omega
  obtain ⟨p, r, rest, hd, hb, hc⟩ := two_at h
  unfold Lib.occAt at ho
  rw [hd] at ho
  have hpr : p = 58 ∧ r = 58 := by simp [List.isPrefixOf] at ho; exact ⟨ho.1.symm, ho.2.symm⟩
  have n1 : ¬ (p.toNat : Int) ≠ 58 := fun e => e (by rw [hpr.1]; rfl)
  have n2 : ¬ (r.toNat : Int) ≠ 58 := fun e => e (by rw [hpr.2]; rfl)
  rw [f35.l2]
  simp only [f35.l2.step, hw, hw2, h2, h3, h3', h4, h5, h6, h7, Int.le_refl, hb, hc, ff n1, ff n2, Int.toNat_natCast, h1, h2', Option.bind_some, decide_true, if_true, Bool.false_eq_true, if_false]
  cases b with
  | false => simp
  | true =>
    cases c with
    | false => simp
    | true =>
      have lx := hxl rfl
      have ly := hyl rfl
      simp only [Bool.not_true, if_true, true_and]
      have e1 : IntKind.i64.wrap ((x.length : Int) + (y.length : Int)) = (x.length : Int) + (y.length : Int) := w64 (by omega) (by omega)
      have e2 : IntKind.i64.wrap (16 - (x.length : Int)) = 16 - (x.length : Int) := w64 (by omega) (by omega)
      have e3 : IntKind.i64.wrap (16 - (x.length : Int) - (y.length : Int)) = 16 - (x.length : Int) - (y.length : Int) := w64 (by omega) (by omega)
      rw [e1, e2, e3]
      by_cases c14 : x.length + y.length ≤ 14
      · have g1 : ¬ (x.length : Int) + (y.length : Int) > 14 := by omega
        have g2 : (0 : Int) ≤ 16 - (x.length : Int) - (y.length : Int) := by omega
        have g3 : Int.toNat (16 - (x.length : Int) - (y.length : Int)) = 16 - x.length - y.length := by omega
        have z1 : ∀ xs : List Int, (strOf xs).size = xs.length := fun xs => by simp [strOf, ByteArray.size]
        have g4 : (16 - x.length - y.length) * 1 ≤ maxN := by simp only [maxN]; omega
        have g5 : (strOf x).size + (strOf (List.replicate (16 - x.length - y.length) 0)).size ≤ maxN := by rw [z1, z1, List.length_replicate]; simp only [maxN]; omega
        have g6 : (strOf x ++ strOf (List.replicate (16 - x.length - y.length) 0)).size + (strOf y).size ≤ maxN := by rw [ByteArray.size_append, z1, z1, z1, List.length_replicate]; simp only [maxN]; omega
        rw [if_neg (fb g1), if_pos g2, g3, if_pos g4, if_pos g5, if_pos g6, if_pos c14]
      · have g1 : (x.length : Int) + (y.length : Int) > 14 := by omega
        rw [if_pos (tb g1), if_neg c14]
theorem ds_append (a b : ByteArray) : ds (a ++ b) = ds a ++ ds b := by
  simp [ds, ByteArray.data_append]
theorem strOf_append (x y : List Int) : strOf x ++ strOf y = strOf (x ++ y) := by
  apply ds_inj; rw [ds_append]; simp [strOf, ds]
theorem copy_six (x y : List Int) (h : x.length + y.length ≤ 14) : copyL (copyL (List.replicate 16 0) 0 16 x) (16 - y.length) (16 - (16 - y.length)) y = x ++ List.replicate (16 - x.length - y.length) 0 ++ y := by
  have e1 : copyL (List.replicate 16 0) 0 16 x = x ++ List.replicate (16 - x.length) 0 := by
    unfold copyL
    rw [List.take_zero, List.nil_append, List.take_of_length_le (by omega), List.drop_replicate]
    congr 2; omega
  rw [e1]
  unfold copyL
  rw [List.take_append, List.take_of_length_le (l := x) (by omega), List.take_replicate, List.take_of_length_le (l := y) (by omega), List.drop_eq_nil_of_le (by simp; omega), List.append_nil]
  congr 3; omega
/-- Sixteen bytes: the specification and the code say the same. -/
theorem six_eq (k : Nat) (hK : 2097152 ≤ k) (s : ByteArray) (hs : s.size ≤ 100) : ∃ t b t', f35 k s = some (t, b) ∧ f17 k s = some (t', b) ∧ (b = true → t' = t ∧
    ((∃ x, wds s = some x ∧ x.length = 16 ∧ t = strOf x) ∨ ∃ m x y, m + 1 < s.size ∧ wds (s.extract 0 m) = some x ∧ wds (s.extract (m + 2) s.size) = some y ∧ x.length + y.length ≤ 14 ∧ t = strOf (x ++ List.replicate (16 - x.length - y.length) 0 ++ y))) := by
  have hcut : f19 k s (⟨#[58, 58]⟩ : ByteArray) = some (⟨(Lib.cut (ds s) [58, 58]).1.toArray⟩, ⟨(Lib.cut (ds s) [58, 58]).2.1.toArray⟩, (Lib.cut (ds s) [58, 58]).2.2) := by
    unfold f19; rw [if_pos (by omega)]; rfl
  have mk : ∀ a : ByteArray, (⟨(ds a).toArray⟩ : ByteArray) = a := fun a => ds_inj rfl
  rcases Lib.index_spec (ds s) [58, 58] with ⟨i1, i2⟩ | ⟨m, i1, i2, i3, i4⟩
  · have hc : Lib.cut (ds s) [58, 58] = (ds s, [], false) := by unfold Lib.cut; rw [if_neg (by omega)]
    rw [hc] at hcut
    simp only [mk] at hcut
    have hl := l2_none k hK s hs i2
    rcases wds_eq k hK s hs with ⟨x, w1, w2, w3, w4⟩ | ⟨w1, ⟨c, w3⟩, w4⟩
    · simp only [f35, f35.step, f17, f17.step, hl, hcut, Option.bind_some, Sum.elim_inl, Sum.elim_inr, w3, w4, Bool.not_true, Bool.not_false, if_true]
      by_cases c16 : (x.length : Int) ≤ 16
      · rw [if_pos (tb c16)]
        refine ⟨strOf x, decide ((x.length : Int) = 16), strOf x, rfl, rfl, fun h => ⟨rfl, Or.inl ⟨x, w1, ?_, rfl⟩⟩⟩
        have := of_decide_eq_true h; omega
      · rw [if_neg (fb c16)]
        have : ¬ (x.length : Int) = 16 := by omega
        exact ⟨strOf x, false, strOf x, rfl, by simp only [ff this]; rfl, fun h => by cases h⟩
    · simp only [f35, f35.step, f17, f17.step, hl, hcut, Option.bind_some, Sum.elim_inl, Sum.elim_inr, w3, w4, Bool.not_true, Bool.not_false, if_true]
      exact ⟨_, false, _, rfl, rfl, fun h => by cases h⟩
  · have hroom := occ_room (s := s) i3
    have hc : Lib.cut (ds s) [58, 58] = (ds (s.extract 0 m), ds (s.extract (m + 2) s.size), true) := by
      unfold Lib.cut; rw [if_pos (by omega), i1, Int.toNat_natCast, ds_ex, ds_ex]
      rw [List.drop_zero]
      congr 2
      rw [List.take_of_length_le (by rw [ds_len]; omega)]; rfl
    rw [hc] at hcut
    simp only [mk] at hcut
    obtain ⟨j, hj⟩ : ∃ j, k = j + 1 + m := ⟨k - 1 - m, by omega⟩
    have hrun : f35.l2 k k s 0 = f35.l2 k (j + 1) s (m : Int) := by
      have := l2_run k s hs m 0 (j + 1) (fun i _ hi => i4 i (by omega)) (by omega)
      rw [← hj] at this
      rw [Nat.zero_add] at this
      exact this
    have z1 : (s.extract 0 m).size ≤ 100 := by rw [ByteArray.size_extract]; omega
    have z2 : (s.extract (m + 2) s.size).size ≤ 100 := by rw [ByteArray.size_extract]; omega
    rcases wds_eq k hK _ z1 with ⟨x, w1, w2, w3, w4⟩ | ⟨w1, ⟨c1, w3⟩, w4⟩
    · rcases wds_eq k hK _ z2 with ⟨y, v1, v2, v3, v4⟩ | ⟨v1, ⟨c2, v3⟩, v4⟩
      · have hh := l2_hit k j s hs m i3 x y _ _ w3 v3 (fun _ => w2) (fun _ => v2)
        have e1 : IntKind.i64.wrap ((x.length : Int) + (y.length : Int)) = (x.length : Int) + (y.length : Int) := w64 (by omega) (by omega)
        have e2 : IntKind.i64.wrap (16 - (y.length : Int)) = 16 - (y.length : Int) := w64 (by omega) (by omega)
        simp only [f35, f35.step, f17, f17.step, hrun, hh, hcut, Option.bind_some, Sum.elim_inl, Sum.elim_inr, w4, v4, Bool.not_true, Bool.false_eq_true, if_false, if_true, e1, e2]
        by_cases c14 : x.length + y.length ≤ 14
        · have g1 : ¬ (x.length : Int) + (y.length : Int) > 14 := by omega
          have g0 : decide ((x.length : Int) ≤ 16) = true ∧ decide ((y.length : Int) ≤ 16) = true ∧ x.length + y.length ≤ 14 := ⟨tb (by omega), tb (by omega), c14⟩
          have hlen : (copyL (List.replicate 16 (0 : Int)) 0 (List.length (List.replicate 16 (0 : Int))) x).length = 16 := by rw [copyL_len _ _ _ _ (by simp)]; simp
          have g2 : (0 : Int) ≤ 16 - (y.length : Int) := by omega
          have g3 : 16 - (y.length : Int) ≤ ((16 : Nat) : Int) := by omega
          have g4 : Int.toNat (16 - (y.length : Int)) = 16 - y.length := by omega
          rw [if_pos g0, if_neg (fb g1), if_pos g2, hlen, if_pos g3, if_pos (Int.le_refl _), g4, Int.toNat_natCast, List.length_replicate, copy_six x y c14, strOf_append, strOf_append]
          exact ⟨_, true, _, rfl, rfl, fun _ => ⟨rfl, Or.inr ⟨m, x, y, hroom, w1, v1, c14, rfl⟩⟩⟩
        · have g1 : (x.length : Int) + (y.length : Int) > 14 := by omega
          rw [if_neg (fun h => c14 h.2.2), if_pos (tb g1)]
          exact ⟨_, false, _, rfl, rfl, fun h => by cases h⟩
      · have hh := l2_hit k j s hs m i3 x c2 _ _ w3 v3 (fun _ => w2) (fun h => by cases h)
        simp only [f35, f35.step, f17, f17.step, hrun, hh, hcut, Option.bind_some, Sum.elim_inl, Sum.elim_inr, w4, v4, Bool.not_true, Bool.not_false, Bool.false_eq_true, if_false, if_true, false_and, and_false]
        exact ⟨_, false, _, rfl, rfl, fun h => by cases h⟩
    · have hy : ∃ y c, f58 k (s.extract (m + 2) s.size) = some (y, c) ∧ (c = true → y.length ≤ 1000) := by
        rcases wds_eq k hK _ z2 with ⟨y, v1, v2, v3, v4⟩ | ⟨v1, ⟨c2, v3⟩, v4⟩
        · exact ⟨y, _, v3, fun _ => v2⟩
        · exact ⟨c2, false, v3, fun h => by cases h⟩
      obtain ⟨y, c, v3, v2⟩ := hy
      have hh := l2_hit k j s hs m i3 c1 y _ _ w3 v3 (fun h => by cases h) v2
      simp only [f35, f35.step, f17, f17.step, hrun, hh, hcut, Option.bind_some, Sum.elim_inl, Sum.elim_inr, w4, Bool.not_true, Bool.not_false, Bool.false_eq_true, if_false, if_true, false_and, and_false]
      exact ⟨_, false, _, rfl, rfl, fun h => by cases h⟩
/-! ### the address -/
theorem tooLong_eq (k : Nat) (hK : 2097152 ≤ k) (s : ByteArray) : f15 k [s] = some (decide ((s.size : Int) > 65536)) := by
  obtain ⟨j, hj⟩ : ∃ j, k = j + 1 + 1 := ⟨k - 2, by omega⟩
  have h : f15.l2 k k [s] (List.length [s] : Nat) 0 = some (if (s.size : Int) > 65536 then .inl true else .inr ()) := by
    rw [show f15.l2 k k = f15.l2 k (j + 1 + 1) from by rw [← hj], f15.l2]
    by_cases c : (s.size : Int) > 65536
    · have e : List.getD [s] (Int.toNat 0) ByteArray.empty = s := rfl
      simp only [f15.l2.step, e, c, decide_true, if_true]; rfl
    · have e : List.getD [s] (Int.toNat 0) ByteArray.empty = s := rfl
      have hw : IntKind.i64.wrap ((0 : Int) + 1) = 1 := by decide
      simp only [f15.l2.step, e, c, decide_false, hw]
      rw [f15.l2]; rfl
  simp only [f15, f15.step, h, Option.bind_some]
  by_cases c : (s.size : Int) > 65536
  · simp only [c, if_true, Sum.elim_inl, decide_true]
  · simp only [c, if_false, Sum.elim_inr, decide_false]
/-- What an address that is read says. -/
def Got (k : Nat) (s t : ByteArray) : Prop := (∃ vs, mv k (pcs 46 s) = some vs ∧ vs.length = 4 ∧ t = strOf vs) ∨
  (∃ x, wds s = some x ∧ x.length = 16 ∧ t = strOf x) ∨ ∃ m x y, m + 1 < s.size ∧ wds (s.extract 0 m) = some x ∧ wds (s.extract (m + 2) s.size) = some y ∧ x.length + y.length ≤ 14 ∧ t = strOf (x ++ List.replicate (16 - x.length - y.length) 0 ++ y)
theorem read_eq (k : Nat) (hK : 2097152 ≤ k) (s : ByteArray) (hs : s.size ≤ 100) : ∃ t b, f14 k s = some (t, b) ∧ (b = true → Got k s t) ∧
    (∀ hl : s.size ≤ 60, f7 k s = some (if b = true then (t, 0) else ((⟨#[]⟩ : ByteArray), 3))) := by
  obtain ⟨t, b, t', a1, a2, a3⟩ := four_eq k hK s hs
  obtain ⟨u, c, u', b1, b2, b3⟩ := six_eq k hK s hs
  cases b with
  | true =>
    obtain ⟨rfl, hv⟩ := a3 rfl
    refine ⟨t', true, by simp only [f14, f14.step, a1, Option.bind_some, if_true], fun _ => Or.inl hv, fun hl => ?_⟩
    have n1 : ¬ (s.size : Int) > 65536 := by omega
    have n2 : ¬ (s.size : Int) > 60 := by omega
    simp only [f7, f7.step, tooLong_eq k hK, n1, n2, decide_false, Option.bind_some, a2, if_true, Bool.false_eq_true, if_false]
  | false =>
    refine ⟨u, c, by simp only [f14, f14.step, a1, b1, Option.bind_some, Bool.false_eq_true, if_false], fun h => Or.inr (b3 h).2, fun hl => ?_⟩
    have n1 : ¬ (s.size : Int) > 65536 := by omega
    have n2 : ¬ (s.size : Int) > 60 := by omega
    simp only [f7, f7.step, tooLong_eq k hK, n1, n2, decide_false, Option.bind_some, a2, b2, if_true, Bool.false_eq_true, if_false]
    cases c with
    | true => rw [(b3 rfl).1]; rfl
    | false => rfl
theorem addr_eq (k : Nat) (hK : 2097152 ≤ k) (s : ByteArray) : ∃ r, f6 k s = some r ∧ f7 k s = some r := by
  by_cases c1 : (s.size : Int) > 65536
  · refine ⟨((⟨#[]⟩ : ByteArray), 2), ?_, ?_⟩
    · simp only [f6, f6.step, c1, decide_true, if_true]
    · simp only [f7, f7.step, tooLong_eq k hK, c1, decide_true, Option.bind_some, if_true]
  by_cases c2 : (s.size : Int) > 60
  · refine ⟨((⟨#[]⟩ : ByteArray), 3), ?_, ?_⟩
    · simp only [f6, f6.step, c1, c2, decide_true, decide_false, if_true, Bool.false_eq_true, if_false]
    · simp only [f7, f7.step, tooLong_eq k hK, c1, c2, decide_true, decide_false, Option.bind_some, if_true, Bool.false_eq_true, if_false]
  obtain ⟨t, b, h1, _, h2⟩ := read_eq k hK s (by omega)
  have h2 := h2 (by omega)
  refine ⟨_, ?_, h2⟩
  simp only [f6, f6.step, c1, c2, decide_false, Bool.false_eq_true, if_false, h1, Option.bind_some]
  cases b <;> rfl
/-! ### an address that is read is short -/
theorem strOf_size (xs : List Int) : (strOf xs).size = xs.length := by simp [strOf, ByteArray.size]
theorem mv_len (k : Nat) (hK : 2097152 ≤ k) : ∀ (P : List ByteArray) (vs : List Int), (∀ x ∈ P, x.size ≤ 1000) → mv k P = some vs → vs.length = P.length ∧ (P.map ByteArray.size).sum ≤ 10 * P.length
  | [], vs, hb, h => by simp only [mv, Option.some.injEq] at h; subst h; simp
  | x :: P, vs, hb, h => by
    simp only [mv] at h
    obtain ⟨v, h1, h2⟩ := Option.bind_eq_some_iff.1 h
    obtain ⟨l, h3, h4⟩ := Option.map_eq_some_iff.1 h2
    obtain ⟨i1, i2⟩ := mv_len k hK P l (fun y hy => hb y (List.mem_cons_of_mem _ hy)) h3
    have hx : x.size ≤ 10 := by
      obtain ⟨w, b, _, e1, e2⟩ := num_eq k hK x (hb x (List.mem_cons_self ..))
      unfold bv at h1
      split at h1
      · rename_i hc
        have hq : q k x = (w, b) := by unfold q; rw [e1]; rfl
        rw [hq] at hc
        exact e2 hc.1 hc.2.1 hc.2.2
      · cases h1
    subst h4
    simp only [List.length_cons, List.map_cons, List.sum_cons]
    omega
theorem wd_len {x : ByteArray} {v : List Int} (h : wd x = some v) : v.length = 2 ∧ x.size ≤ 4 := by
  unfold wd at h
  split at h
  · cases h
  · obtain ⟨w, _, e⟩ := Option.map_eq_some_iff.1 h
    subst e
    exact ⟨rfl, by omega⟩
theorem wm_len : ∀ (P : List ByteArray) (vs : List Int), wm P = some vs → vs.length = 2 * P.length ∧ (P.map ByteArray.size).sum ≤ 4 * P.length
  | [], vs, h => by simp only [wm, Option.some.injEq] at h; subst h; simp
  | x :: P, vs, h => by
    simp only [wm] at h
    obtain ⟨v, h1, h2⟩ := Option.bind_eq_some_iff.1 h
    obtain ⟨l, h3, h4⟩ := Option.map_eq_some_iff.1 h2
    obtain ⟨i1, i2⟩ := wm_len P l h3
    obtain ⟨j1, j2⟩ := wd_len h1
    subst h4
    simp only [List.length_cons, List.map_cons, List.sum_cons, List.length_append]
    omega
theorem wds_len {s : ByteArray} {x : List Int} (h : wds s = some x) : 2 * s.size ≤ 5 * x.length := by
  unfold wds at h
  split at h
  · rename_i hc
    rw [Lib.toList_data, Lib.toList_data] at hc
    have : (ds s).length = 0 := by show s.data.toList.length = 0; rw [hc]; rfl
    rw [ds_len] at this
    omega
  · have h1 := wm_len _ _ h
    have h2 := pcs_sum 58 s
    omega
theorem got_small (k : Nat) (hK : 2097152 ≤ k) {s t : ByteArray} (hs : s.size ≤ 100) (h : Got k s t) : s.size ≤ 60 ∧ (t.size = 4 ∨ t.size = 16) := by
  rcases h with ⟨vs, h1, h2, h3⟩ | ⟨x, h1, h2, h3⟩ | ⟨m, x, y, h0, h1, h2, h3, h4⟩
  · have a := mv_len k hK _ _ (fun x hx => by have := pcs_le 46 s x hx; omega) h1
    have b := pcs_sum 46 s
    refine ⟨by omega, Or.inl (by rw [h3, strOf_size, h2])⟩
  · have a := wds_len h1
    exact ⟨by omega, Or.inr (by rw [h3, strOf_size, h2])⟩
  · have a := wds_len h1
    have b := wds_len h2
    rw [ByteArray.size_extract] at a b
    refine ⟨by omega, Or.inr ?_⟩
    rw [h4, strOf_size]; simp; omega
/-! ### digits -/
theorem sz_mk (l : List UInt8) : (⟨l.toArray⟩ : ByteArray).size = l.length := by simp [ByteArray.size]
theorem mk_append (a b : List UInt8) : (⟨a.toArray⟩ : ByteArray) ++ ⟨b.toArray⟩ = ⟨(a ++ b).toArray⟩ := by
  apply ds_inj; rw [ds_append]; simp [ds]
theorem dec_eq (n : Nat) : Lib.decDigits n = if n < 10 then [UInt8.ofNat (48 + n)] else Lib.decDigits (n / 10) ++ [UInt8.ofNat (48 + n % 10)] := by
  rw [Lib.decDigits]; split <;> rfl
theorem str1 (x : Int) (n : Nat) (h : x = (n : Int)) : strOf [x] = (⟨[UInt8.ofNat n].toArray⟩ : ByteArray) := by
  subst h; simp [strOf]
theorem digits_spec (k : Nat) : ∀ (d n j : Nat), n < 10 ^ (d + 1) → d ≤ 5 → d < j → (Lib.decDigits n).length ≤ d + 1 ∧ f51i.r k j (n : Int) = some ⟨(Lib.decDigits n).toArray⟩
  | d, n, 0, hn, hd, hj => by omega
  | d, n, j + 1, hn, hd, hj => by
    have hd6 : n < 10000000 := Nat.lt_of_lt_of_le hn (Nat.pow_le_pow_right (by omega) (by omega : d + 1 ≤ 7))
    have m1 : ¬ (n : Int) = -9223372036854775808 := by omega
    have m2 : ¬ (n : Int) < 0 := by omega
    have e : f51i.r k (j + 1) (n : Int) = f51i.step (f51i.r k j) k some (n : Int) := rfl
    rw [e, dec_eq]
    simp only [f51i.step, ff m1, ff m2, Bool.false_eq_true, if_false]
    by_cases c : n < 10
    · have c' : (n : Int) < 10 := by omega
      rw [if_pos c, if_pos (tb c')]
      refine ⟨by simp, ?_⟩
      rw [w64 (n := 48 + (n : Int)) (by omega) (by omega), w8_id (by omega) (by omega), str1 _ (48 + n) (by omega)]
    · have c' : ¬ (n : Int) < 10 := by omega
      rw [if_neg c, if_neg (fb c')]
      obtain ⟨d', rfl⟩ : ∃ d', d = d' + 1 := by
        cases d with
        | zero => simp at hn; omega
        | succ d' => exact ⟨d', rfl⟩
      have hq : n / 10 < 10 ^ (d' + 1) := by
        rw [Nat.pow_succ] at hn
        exact Nat.div_lt_of_lt_mul (by omega)
      obtain ⟨i1, i2⟩ := digits_spec k d' (n / 10) j hq (by omega) (by omega)
      have t1 : Int.tdiv (n : Int) 10 = ((n / 10 : Nat) : Int) := by rw [Int.tdiv_eq_ediv_of_nonneg (by omega)]; omega
      have t2 : Int.tmod (n : Int) 10 = ((n % 10 : Nat) : Int) := by rw [Int.tmod_eq_emod_of_nonneg (by omega)]; omega
      have hs : strOf [IntKind.u8.wrap (IntKind.i64.wrap (48 + ((n % 10 : Nat) : Int)))] = (⟨[UInt8.ofNat (48 + n % 10)].toArray⟩ : ByteArray) := by
        rw [w64 (by omega) (by omega), w8_id (by omega) (by omega), str1 _ (48 + n % 10) (by omega)]
      refine ⟨by simp; omega, ?_⟩
      rw [t1, w64 (by omega) (by omega), i2, t2, hs]
      simp only [Option.bind_some]
      rw [if_pos (by rw [sz_mk, sz_mk]; simp only [List.length_cons, List.length_nil, maxN]; omega), mk_append]
theorem itoa_eq (k : Nat) (n : Nat) (h : n < 65536) : f28 k (n : Int) = some ⟨(Lib.decDigits n).toArray⟩ := by
  unfold f28
  rw [if_pos ⟨by omega, by omega⟩, Lib.itoa, if_neg (by omega)]
  simp
theorem digits_eq (k : Nat) (hK : 2097152 ≤ k) (n : Nat) (h : n < 65536) : f51 k (n : Int) = some ⟨(Lib.decDigits n).toArray⟩ := (digits_spec k 4 n k (by omega) (by omega) (by omega)).2
theorem dec_len (n : Nat) (h : n < 256) : (Lib.decDigits n).length ≤ 3 := (digits_spec 0 2 n 3 (by omega) (by omega) (by omega)).1
theorem dec_mem (n : Nat) : ∀ b ∈ Lib.decDigits n, 48 ≤ b.toNat ∧ b.toNat ≤ 57 := by
    intro b hb
    rw [dec_eq] at hb
    split at hb
    · simp at hb; subst hb; simp; omega
    · rename_i c
      rcases List.mem_append.1 hb with hb | hb
      · exact dec_mem (n / 10) b hb
      · simp at hb; subst hb; simp; omega
theorem dig_append : ∀ (l : List UInt8) (a : Int) (r : List UInt8), dig a (l ++ r) = (dig a l).bind fun v => dig v r
  | [], a, r => rfl
  | b :: l, a, r => by
    simp only [List.cons_append, dig]
    split
    · exact dig_append l _ r
    · rfl
theorem dig_dec (n : Nat) : dig 0 (Lib.decDigits n) = some (n : Int) := by
    rw [dec_eq]
    split
    · rename_i c
      have e : ((UInt8.ofNat (48 + n)).toNat : Int) = 48 + n := by simp; omega
      simp only [dig, e]
      rw [if_pos (by omega)]; congr 1; omega
    · rename_i c
      rw [dig_append, dig_dec (n / 10)]
      have e : ((UInt8.ofNat (48 + n % 10)).toNat : Int) = 48 + (n % 10 : Nat) := by simp; omega
      simp only [Option.bind_some, dig, e]
      rw [if_pos (by omega)]; congr 1; omega
theorem dec_head (n : Nat) (h : 0 < n) : ∃ b l, Lib.decDigits n = b :: l ∧ b ≠ 48 := by
    rw [dec_eq]
    split
    · rename_i c
      refine ⟨_, _, rfl, fun e => ?_⟩
      have := congrArg UInt8.toNat e
      simp at this; omega
    · obtain ⟨b, l, e, hb⟩ := dec_head (n / 10) (by omega)
      exact ⟨b, l ++ [_], by rw [e]; rfl, hb⟩
theorem num_pos (k : Nat) (hK : 2097152 ≤ k) (s : ByteArray) (hs : s.size ≤ 18) (hs0 : 0 < s.size) {v : Int} (hd : dig 0 (ds s) = some v) (hm : ¬ bt s 0 = 45) (hz : bt s 0 = 48 → s.size ≤ 1) : f20 k s = some (v, true) := by
  have h0 : (s.size : Int) > 0 := by omega
  have hn1 : ¬ (s.size : Int) < 1 := by omega
  have h1l : (1 : Int) ≤ (s.size : Int) := by omega
  have hlt : (0 : Int) < (s.size : Int) := h0
  have c3 : ¬ (s.size : Int) > 18 := by omega
  have d2 := impl_dig1 k s s (by omega) (ds s) 0 k 0 (by simp) (by rw [ds_len]; omega) (by rw [ds_len]; omega) (by omega) (p18 _ (by rw [ds_len]; omega))
  have key : ((f20.l10_1 k k s s 0 0).bind (Sum.elim (fun t14 => some (t14.2.1, t14.2.2.1)) (fun t15 => if (decide ((t15.2.1.size : Int) < (t15.1.size : Int))) = true then some ((IntKind.i64.wrap (0 - t15.2.2)), true) else some (t15.2.2, true)))) = some (v, true) := by
    rcases d2 with ⟨v', e3, e4, _⟩ | ⟨e3, _⟩
    · rw [hd] at e3; cases e3
      have e4' : f20.l10_1 k k s s 0 0 = some (.inr (s, s, v)) := e4
      have c8 : ¬ (s.size : Int) < (s.size : Int) := by omega
      simp only [e4', Option.bind_some, Sum.elim_inr, c8, decide_false]; rfl
    · rw [hd] at e3; cases e3
  simp only [f20, f20.step, h0, hlt, hm, hn1, c3, decide_true, decide_false, if_true, Bool.false_eq_true, if_false]
  by_cases c5 : bt s 0 = 48
  · have c7 : ¬ (s.size : Int) > 1 := by have := hz c5; omega
    simp only [c5, c7, decide_true, decide_false, if_true, Bool.false_eq_true, if_false]
    exact key
  · simp only [c5, decide_false, Bool.false_eq_true, if_false]
    exact key
theorem q_dec (k : Nat) (hK : 2097152 ≤ k) (n : Nat) (h : n < 256) : q k ⟨(Lib.decDigits n).toArray⟩ = ((n : Int), true) := by
  have hds : ds (⟨(Lib.decDigits n).toArray⟩ : ByteArray) = Lib.decDigits n := rfl
  have hl := dec_len n h
  obtain ⟨b, l, e, hb⟩ : ∃ b l, Lib.decDigits n = b :: l ∧ (n = 0 ∨ b ≠ 48) := by
    by_cases c : n = 0
    · subst c; exact ⟨_, _, by rw [dec_eq]; rfl, Or.inl rfl⟩
    · obtain ⟨b, l, e, hb⟩ := dec_head n (by omega); exact ⟨b, l, e, Or.inr hb⟩
  have hb0 : bt (⟨(Lib.decDigits n).toArray⟩ : ByteArray) 0 = (b.toNat : Int) := bt_get (i := 0) (by rw [hds, e]; rfl)
  have hr := dec_mem n b (by rw [e]; exact List.mem_cons_self ..)
  have hn := num_pos k hK ⟨(Lib.decDigits n).toArray⟩ (by rw [sz_mk]; omega) (by rw [sz_mk, e]; simp) (v := (n : Int)) (by rw [hds]; exact dig_dec n) (by rw [hb0]; omega) (fun h48 => by
    rcases hb with hb | hb
    · subst hb; rw [sz_mk, dec_eq]; simp
    · rw [hb0] at h48; exact absurd (UInt8.toNat_inj.1 (by show b.toNat = 48; omega)) hb)
  unfold q; rw [hn]; rfl
/-! ### joined texts -/
def jn (c : UInt8) : List (List UInt8) → List UInt8
  | [] => []
  | [x] => x
  | x :: y :: r => x ++ c :: jn c (y :: r)
theorem join_jn (c : UInt8) : ∀ ls, Lib.join ls [c] = jn c ls
  | [] => rfl
  | [x] => by simp [Lib.join, jn]
  | x :: y :: r => by
    have ih := join_jn c (y :: r)
    rw [jn, ← ih]
    simp [Lib.join, List.intercalate]
theorem jn_len (c : UInt8) (B : Nat) : ∀ ls : List (List UInt8), (∀ x ∈ ls, x.length ≤ B) → (jn c ls).length ≤ ls.length * (B + 1)
  | [], h => by simp [jn]
  | [x], h => by have := h x (by simp); simp [jn]; omega
  | x :: y :: r, h => by
    have ih := jn_len c B (y :: r) (fun z hz => h z (List.mem_cons_of_mem _ hz))
    have hx := h x (by simp)
    rw [jn, List.length_append, List.length_cons, List.length_cons, Nat.succ_mul]
    omega
theorem sp_app (c : UInt8) (r : List UInt8) : ∀ x : List UInt8, (∀ b ∈ x, b ≠ c) → sp c (x ++ c :: r) = x :: sp c r
  | [], h => by simp [sp]
  | b :: x, h => by
    have ih := sp_app c r x (fun z hz => h z (List.mem_cons_of_mem _ hz))
    rw [List.cons_append, sp, if_neg (h b (by simp)), ih]
theorem sp_one (c : UInt8) : ∀ x : List UInt8, (∀ b ∈ x, b ≠ c) → sp c x = [x]
  | [], h => rfl
  | b :: x, h => by
    have ih := sp_one c x (fun z hz => h z (List.mem_cons_of_mem _ hz))
    rw [sp, if_neg (h b (by simp)), ih]
theorem sp_jn (c : UInt8) : ∀ ls : List (List UInt8), ls ≠ [] → (∀ x ∈ ls, ∀ b ∈ x, b ≠ c) → sp c (jn c ls) = ls
  | [], h, _ => absurd rfl h
  | [x], _, h => sp_one c x (h x (by simp))
  | x :: y :: r, _, h => by
    rw [jn, sp_app c _ x (h x (by simp)), sp_jn c (y :: r) (by simp) (fun z hz => h z (List.mem_cons_of_mem _ hz))]
theorem pcs_jn (c : UInt8) (ls : List (List UInt8)) (h : ls ≠ []) (hc : ∀ x ∈ ls, ∀ b ∈ x, b ≠ c) : pcs c ⟨(jn c ls).toArray⟩ = ls.map fun l => ⟨l.toArray⟩ := by
  apply map_ds_inj
  rw [pcs_ds]
  show sp c (jn c ls) = _
  rw [sp_jn c ls h hc, List.map_map]
  exact (List.map_id' _).symm
theorem f29_eq (k : Nat) (c : UInt8) (ls : List (List UInt8)) (h : ls.length ≤ 8) (hl : ∀ x ∈ ls, x.length ≤ 4) : f29 k (ls.map fun l => (⟨l.toArray⟩ : ByteArray)) (⟨#[c]⟩ : ByteArray) = some (⟨(jn c ls).toArray⟩, ls.map fun l => (⟨l.toArray⟩ : ByteArray)) := by
  have e : Lib.join ((ls.map fun l => (⟨l.toArray⟩ : ByteArray)).map (·.data.toList)) [c] = jn c ls := by
    rw [List.map_map, ← join_jn]; congr 1; exact List.map_id' _
  have e' : Lib.join ((ls.map fun l => (⟨l.toArray⟩ : ByteArray)).map (·.data.toList)) (⟨#[c]⟩ : ByteArray).data.toList = jn c ls := e
  have hlen := jn_len c 4 ls hl
  unfold f29
  rw [e', if_pos ⟨by simp; omega, by omega⟩]
/-! ### an address of four bytes -/
def dd (b : UInt8) : List UInt8 := Lib.decDigits b.toNat
def mk8 (l : List UInt8) : ByteArray := ⟨l.toArray⟩
theorem dd_len (b : UInt8) : (dd b).length ≤ 3 := dec_len _ b.toNat_lt
theorem wb (b : UInt8) : IntKind.i64.wrap ((b.toNat : Nat) : Int) = (b.toNat : Int) := by have := b.toNat_lt; exact w64 (by omega) (by omega)
theorem l8_loop (k : Nat) (s : ByteArray) (N : Int) (hN : N = 4) (hs : s.size = 4) : ∀ (rest : List UInt8) (i j : Nat) (acc : List ByteArray), (ds s).drop i = rest → i + rest.length = 4 → rest.length < j → acc.length = i →
    f11.l8 k j s N (i : Int) (acc ++ List.replicate rest.length ByteArray.empty) = some (acc ++ rest.map fun b => mk8 (dd b))
  | rest, i, 0, acc, hd, hi, hj, ha => by omega
  | [], i, j + 1, acc, hd, hi, hj, ha => by
    have h2 : ¬ (i : Int) < N := by simp at hi; omega
    rw [f11.l8]
    simp only [f11.l8.step, ff h2]; simp
  | b :: rest, i, j + 1, acc, hd, hi, hj, ha => by
    simp only [List.length_cons] at hi hj
    obtain ⟨g1, g2, g3⟩ := drop_next hd
    have h2 : (i : Int) < N := by omega
    have h3 : (0 : Int) ≤ (i : Int) := by omega
    have h4 : (i : Int) < (s.size : Int) := by omega
    have hb : bt s (i : Int) = (b.toNat : Int) := bt_get g1
    have hw : IntKind.i64.wrap ((i : Int) + 1) = ((i + 1 : Nat) : Int) := by rw [w64 (by omega) (by omega)]; omega
    have hf := itoa_eq k b.toNat (by have := b.toNat_lt; omega)
    have hrep : List.replicate (rest.length + 1) ByteArray.empty = ByteArray.empty :: List.replicate rest.length ByteArray.empty := rfl
    have hlt : (i : Int) < ((acc ++ ByteArray.empty :: List.replicate rest.length ByteArray.empty).length : Int) := by rw [← ha]; exact lt_mid _ _ _
    have hset : List.set (acc ++ ByteArray.empty :: List.replicate rest.length ByteArray.empty) (Int.toNat (i : Int)) (mk8 (dd b)) = (acc ++ [mk8 (dd b)]) ++ List.replicate rest.length ByteArray.empty := by rw [← ha, set_mid, mid_next]
    have hset' : List.set (acc ++ ByteArray.empty :: List.replicate rest.length ByteArray.empty) (Int.toNat (i : Int)) (⟨(Lib.decDigits b.toNat).toArray⟩ : ByteArray) = (acc ++ [mk8 (dd b)]) ++ List.replicate rest.length ByteArray.empty := hset
    have ih := l8_loop k s N hN hs rest (i + 1) j (acc ++ [mk8 (dd b)]) g2 (by omega) (by omega) (by simp [ha])
    rw [f11.l8, List.length_cons, hrep]
    simp only [f11.l8.step, h2, h3, h4, hb, wb, hf, Option.bind_some, hlt, hset', hw, decide_true, if_true]
    rw [ih]; simp
def text4 (s : ByteArray) : ByteArray := mk8 (jn 46 ((ds s).map dd))
theorem ds_four {s : ByteArray} (hs : s.size = 4) : ∃ a b c d, ds s = [a, b, c, d] := by
  have hl := ds_len s
  rw [hs] at hl
  match h : ds s, hl with
  | [a, b, c, d], _ => exact ⟨a, b, c, d, rfl⟩
theorem impl4 (k : Nat) (hK : 2097152 ≤ k) (s : ByteArray) (hs : s.size = 4) : f11 k s = some (text4 s, 0) := by
  have n1 : ¬ (s.size : Int) > 65536 := by omega
  have n4 : (s.size : Int) = 4 := by omega
  have h27 : f27 k s = some true := by simp only [f27, f27.step, n4, decide_true]; rfl
  have hl : f11.l8 k k s (((List.length (List.replicate 4 ByteArray.empty)) : Nat) : Int) 0 (List.replicate 4 ByteArray.empty) = some (((ds s).map dd).map fun l => (⟨l.toArray⟩ : ByteArray)) := by
    have := l8_loop k s (((List.length (List.replicate 4 ByteArray.empty)) : Nat) : Int) (by simp) hs (ds s) 0 k [] rfl (by rw [ds_len]; omega) (by rw [ds_len]; omega) rfl
    rw [ds_len, hs] at this
    rw [List.map_map]
    exact this
  have hj := f29_eq k 46 ((ds s).map dd) (by rw [List.length_map, ds_len]; omega) (fun x hx => by
    obtain ⟨b, _, rfl⟩ := List.mem_map.1 hx
    have := dd_len b; omega)
  simp only [f11, f11.step, tooLong_eq k hK, ff n1, h27, n4, hl, hj, Option.bind_some, decide_true, if_true, Bool.false_eq_true, if_false, Bool.not_true]
  rfl
theorem spec4 (k : Nat) (hK : 2097152 ≤ k) (s : ByteArray) (hs : s.size = 4) : f12 k s = some (text4 s, 0) := by
  obtain ⟨a, b, c, d, hd⟩ := ds_four hs
  have n4 : (s.size : Int) = 4 := by omega
  have n4' : ¬ (s.size : Int) ≠ 4 := fun h => h n4
  have b0 : bt s 0 = (a.toNat : Int) := bt_get (i := 0) (by rw [hd]; rfl)
  have b1 : bt s 1 = (b.toNat : Int) := bt_get (i := 1) (by rw [hd]; rfl)
  have b2 : bt s 2 = (c.toNat : Int) := bt_get (i := 2) (by rw [hd]; rfl)
  have b3 : bt s 3 = (d.toNat : Int) := bt_get (i := 3) (by rw [hd]; rfl)
  have hf := fun x : UInt8 => digits_eq k hK x.toNat (by have := x.toNat_lt; omega)
  have la := dd_len a
  have lb := dd_len b
  have lc := dd_len c
  have ld := dd_len d
  unfold dd at la lb lc ld
  have dot : (⟨#[46]⟩ : ByteArray) = ⟨[46].toArray⟩ := rfl
  have c0 : (0 : Int) < (s.size : Int) := by omega
  have c1 : (1 : Int) < (s.size : Int) := by omega
  have c2 : (2 : Int) < (s.size : Int) := by omega
  have c3 : (3 : Int) < (s.size : Int) := by omega
  have h32 : f32 k s = some (text4 s) := by
    simp only [f32, f32.step, n4, decide_true, if_true, b0, b1, b2, b3, wb, hf, Option.bind_some, dot, mk_append, sz_mk, List.length_append, List.length_cons, List.length_nil]
    rw [if_pos (by omega), if_pos (by simp only [maxN]; omega), if_pos (by omega), if_pos (by simp only [maxN]; omega), if_pos (by simp only [maxN]; omega), if_pos (by omega), if_pos (by simp only [maxN]; omega), if_pos (by simp only [maxN]; omega), if_pos (by omega), if_pos (by simp only [maxN]; omega)]
    congr 1
    apply ds_inj
    show _ = jn 46 ((ds s).map dd)
    rw [hd]
    simp [jn, dd, ds]
  simp only [f12, f12.step, ff n4', h32, Option.bind_some, Bool.false_eq_true, if_false]
theorem mv_dd (k : Nat) (hK : 2097152 ≤ k) : ∀ l : List UInt8, mv k (l.map fun b => mk8 (dd b)) = some (l.map fun b => (b.toNat : Int))
  | [] => rfl
  | b :: l => by
    have hq : q k (mk8 (dd b)) = ((b.toNat : Int), true) := q_dec k hK b.toNat b.toNat_lt
    have hlt := b.toNat_lt
    have hp : (q k (mk8 (dd b))).2 = true ∧ 0 ≤ (q k (mk8 (dd b))).1 ∧ (q k (mk8 (dd b))).1 ≤ 255 := by
      rw [hq]; exact ⟨rfl, by show (0 : Int) ≤ (b.toNat : Int); omega, by show (b.toNat : Int) ≤ 255; omega⟩
    have hb : bv k (mk8 (dd b)) = some (b.toNat : Int) := by
      unfold bv
      rw [if_pos hp, hq]
    simp only [List.map_cons, mv, hb, mv_dd k hK l, Option.bind_some, Option.map_some]
theorem strOf_nat (l : List UInt8) : strOf (l.map fun b => (b.toNat : Int)) = mk8 l := by
  apply ds_inj
  show (l.map fun b => (b.toNat : Int)).map (fun n => UInt8.ofNat n.toNat) = l
  rw [List.map_map]
  have : ((fun n : Int => UInt8.ofNat n.toNat) ∘ fun b : UInt8 => ((b.toNat : Nat) : Int)) = id := by funext b; simp
  rw [this, List.map_id]
theorem text4_size (s : ByteArray) (hs : s.size = 4) : (text4 s).size ≤ 16 := by
  have := jn_len 46 3 ((ds s).map dd) (fun x hx => by
    obtain ⟨b, _, rfl⟩ := List.mem_map.1 hx
    exact dd_len b)
  rw [List.length_map, ds_len, hs] at this
  show (mk8 _).size ≤ 16
  unfold mk8
  rw [sz_mk]; exact this
theorem read4 (k : Nat) (hK : 2097152 ≤ k) (s : ByteArray) (hs : s.size = 4) : f7 k (text4 s) = some (s, 0) := by
  have hsz := text4_size s hs
  have hp : pcs 46 (text4 s) = (ds s).map fun b => mk8 (dd b) := by
    have := pcs_jn 46 ((ds s).map dd) (by intro e; have h := congrArg List.length e; rw [List.length_map, ds_len, hs] at h; cases h) (fun x hx b hb => by
      obtain ⟨y, _, rfl⟩ := List.mem_map.1 hx
      intro e
      have := dec_mem y.toNat b hb
      subst e
      have h46 : (46 : UInt8).toNat = 46 := rfl
      omega)
    rw [List.map_map] at this
    exact this
  have e2 := impl_cut k (text4 s) 46 (by omega)
  have hl4 : (pcs 46 (text4 s)).length = 4 := by rw [hp, List.length_map, ds_len, hs]
  have a2 := four_impl k hK (pcs 46 (text4 s)) (by omega) (fun x hx => by have := pcs_le 46 _ x hx; omega) (pcs 46 (text4 s)) [] k [] (List.replicate 4 0) rfl (by omega) rfl (by simp [hl4])
  have hm : mv k (pcs 46 (text4 s)) = some ((ds s).map fun b => (b.toNat : Int)) := by rw [hp]; exact mv_dd k hK (ds s)
  have h16 : f16 k (text4 s) = some (s, true) := by
    rcases a2 with ⟨vs, n1, n3⟩ | ⟨n1, _⟩
    · rw [hm] at n1; cases n1
      have n3' : f16.l6 k k ((pcs 46 (text4 s)).length : Int) 0 (pcs 46 (text4 s)) (List.replicate 4 0) = some (.inr ((ds s).map fun b => (b.toNat : Int))) := n3
      have c' : ¬ (((pcs 46 (text4 s)).length : Nat) : Int) ≠ 4 := by omega
      simp only [f16, f16.step, e2, Option.bind_some, ff c', Bool.false_eq_true, if_false, n3', Sum.elim_inr, strOf_nat]
      rfl
    · rw [hm] at n1; cases n1
  have n1 : ¬ ((text4 s).size : Int) > 65536 := by omega
  have n2 : ¬ ((text4 s).size : Int) > 60 := by omega
  simp only [f7, f7.step, tooLong_eq k hK, ff n1, ff n2, h16, Option.bind_some, if_true, Bool.false_eq_true, if_false]
/-! ### hexadecimal words -/
theorem hexL_eq (n : Nat) : Fmt.hexL n = if n < 16 then [Fmt.hexd n] else Fmt.hexL (n / 16) ++ [Fmt.hexd (n % 16)] := by
  rw [Fmt.hexL]
theorem enc_all : ∀ d : Fin 16, Utf8.encode (bt (⟨#[48, 49, 50, 51, 52, 53, 54, 55, 56, 57, 97, 98, 99, 100, 101, 102]⟩ : ByteArray) (d.val : Int)) = (⟨[Fmt.hexd d.val].toArray⟩ : ByteArray) := by decide +kernel
theorem enc_at (z : Int) (d : Nat) (hz : z = (d : Int)) (hd : d < 16) : Utf8.encode (bt (⟨#[48, 49, 50, 51, 52, 53, 54, 55, 56, 57, 97, 98, 99, 100, 101, 102]⟩ : ByteArray) z) = (⟨[Fmt.hexd d].toArray⟩ : ByteArray) := by
  subst hz; exact enc_all ⟨d, hd⟩
theorem hexd_all : ∀ d : Fin 16, hx ((Fmt.hexd d.val).toNat : Int) = (d.val : Int) ∧ Fmt.hexd d.val ≠ 58 ∧ Fmt.hexd d.val ≠ 46 := by decide +kernel
theorem hexs_spec (k : Nat) : ∀ (d n j : Nat), n < 16 ^ (d + 1) → d ≤ 4 → d < j → (Fmt.hexL n).length ≤ d + 1 ∧ f53i.r k j (n : Int) = some ⟨(Fmt.hexL n).toArray⟩
  | d, n, 0, hn, hd, hj => by omega
  | d, n, j + 1, hn, hd, hj => by
    have hd6 : n < 16777216 := Nat.lt_of_lt_of_le hn (Nat.pow_le_pow_right (by omega) (by omega : d + 1 ≤ 6))
    have e : f53i.r k (j + 1) (n : Int) = f53i.step (f53i.r k j) k some (n : Int) := rfl
    have s16 : ((ByteArray.size (⟨#[48, 49, 50, 51, 52, 53, 54, 55, 56, 57, 97, 98, 99, 100, 101, 102]⟩ : ByteArray) : Nat) : Int) = 16 := rfl
    rw [e, hexL_eq]
    simp only [f53i.step, s16]
    by_cases c : n < 16
    · have c' : (n : Int) < 16 := by omega
      rw [if_pos c, if_pos (tb c'), if_pos (by omega), if_pos c', enc_at _ n rfl c]
      exact ⟨by simp, rfl⟩
    · have c' : ¬ (n : Int) < 16 := by omega
      rw [if_neg c, if_neg (fb c')]
      obtain ⟨d', rfl⟩ : ∃ d', d = d' + 1 := by
        cases d with
        | zero => simp at hn; omega
        | succ d' => exact ⟨d', rfl⟩
      have hq : n / 16 < 16 ^ (d' + 1) := by
        rw [Nat.pow_succ] at hn
        exact Nat.div_lt_of_lt_mul (by omega)
      obtain ⟨i1, i2⟩ := hexs_spec k d' (n / 16) j hq (by omega) (by omega)
      have t1 : Int.tdiv (n : Int) 16 = ((n / 16 : Nat) : Int) := by rw [Int.tdiv_eq_ediv_of_nonneg (by omega)]; omega
      have t2 : Int.tmod (n : Int) 16 = ((n % 16 : Nat) : Int) := by rw [Int.tmod_eq_emod_of_nonneg (by omega)]; omega
      refine ⟨by simp; omega, ?_⟩
      rw [t1, w64 (by omega) (by omega), i2, t2]
      simp only [Option.bind_some, enc_at _ (n % 16) rfl (by omega)]
      rw [if_pos (by omega), if_pos (by omega), if_pos (by rw [sz_mk, sz_mk]; simp only [List.length_cons, List.length_nil, maxN]; omega), mk_append]
theorem hex_spec53 (k : Nat) (hK : 2097152 ≤ k) (n : Nat) (h : n < 65536) : f53 k (n : Int) = some ⟨(Fmt.hexL n).toArray⟩ := (hexs_spec k 3 n k (by omega) (by omega) (by omega)).2
theorem hex_impl50 (k : Nat) (n : Nat) (h : n < 65536) : f50 k (n : Int) = some ⟨(Fmt.hexL n).toArray⟩ := by
  have : f66 k (n : Int) 16 = some ⟨(Fmt.hexL n).toArray⟩ := by
    unfold f66; rw [if_pos ⟨by omega, by omega, rfl⟩, Int.toNat_natCast]
  simp only [f50, f50.step, this, Option.bind_some]
theorem hexL_len (n : Nat) (h : n < 65536) : (Fmt.hexL n).length ≤ 4 := (hexs_spec 0 3 n 4 (by omega) (by omega) (by omega)).1
theorem hexL_ne (n : Nat) : Fmt.hexL n ≠ [] := by rw [hexL_eq]; split <;> simp
theorem hexL_mem (n : Nat) : ∀ b ∈ Fmt.hexL n, b ≠ 58 ∧ b ≠ 46 := by
  intro b hb
  rw [hexL_eq] at hb
  split at hb
  · rename_i c; simp at hb; subst hb; exact (hexd_all ⟨n, c⟩).2
  · rcases List.mem_append.1 hb with hb | hb
    · exact hexL_mem (n / 16) b hb
    · simp at hb; subst hb; exact (hexd_all ⟨n % 16, by omega⟩).2
theorem hexv_append : ∀ (l : List UInt8) (a : Int) (r : List UInt8), hexv a (l ++ r) = (hexv a l).bind fun v => hexv v r
  | [], a, r => rfl
  | b :: l, a, r => by
    simp only [List.cons_append, hexv]
    split
    · rfl
    · exact hexv_append l _ r
theorem hexv_hexL (n : Nat) : hexv 0 (Fmt.hexL n) = some (n : Int) := by
  rw [hexL_eq]
  split
  · rename_i c
    have e := (hexd_all ⟨n, c⟩).1
    simp only at e
    simp only [hexv, e]
    rw [if_neg (by omega)]; congr 1; omega
  · rw [hexv_append, hexv_hexL (n / 16)]
    have e := (hexd_all ⟨n % 16, by omega⟩).1
    simp only at e
    simp only [Option.bind_some, hexv, e]
    rw [if_neg (by omega)]; congr 1; omega
def hh (n : Nat) : List UInt8 := Fmt.hexL n
theorem wd_hh (n : Nat) (h : n < 65536) : wd (mk8 (hh n)) = some [((n / 256 : Nat) : Int), ((n % 256 : Nat) : Int)] := by
  have hl := hexL_len n h
  have hne : (Fmt.hexL n).length ≠ 0 := fun e => hexL_ne n (List.length_eq_zero_iff.1 e)
  have hs : (mk8 (hh n)).size = (Fmt.hexL n).length := sz_mk _
  unfold wd
  rw [if_neg (by omega)]
  show (hexv 0 (Fmt.hexL n)).map _ = _
  rw [hexv_hexL]
  simp
def two (n : Nat) : List Int := [((n / 256 : Nat) : Int), ((n % 256 : Nat) : Int)]
theorem wm_hh : ∀ ws : List Nat, (∀ w ∈ ws, w < 65536) → wm (ws.map fun w => mk8 (hh w)) = some (ws.flatMap two)
  | [], _ => rfl
  | w :: ws, h => by
    have ih := wm_hh ws (fun x hx => h x (List.mem_cons_of_mem _ hx))
    simp only [List.map_cons, wm, wd_hh w (h w (by simp)), ih, Option.bind_some, Option.map_some, List.flatMap_cons]
    rfl
/-- Words that are joined by colons are read back. -/
theorem wds_jn (ws : List Nat) (h : ∀ w ∈ ws, w < 65536) : wds (mk8 (jn 58 (ws.map hh))) = some (ws.flatMap two) := by
  unfold wds
  cases ws with
  | nil =>
    have e : (mk8 (jn 58 (([] : List Nat).map hh))).toList = (⟨#[]⟩ : ByteArray).toList := rfl
    rw [if_pos e]; rfl
  | cons w ws =>
    have hne : jn 58 ((w :: ws).map hh) ≠ [] := by
      cases ws with
      | nil => exact hexL_ne w
      | cons v vs =>
        intro e
        have e' : hh w ++ 58 :: jn 58 ((v :: vs).map hh) = [] := e
        simp at e'
    rw [if_neg (fun e => by
      rw [Lib.toList_data, Lib.toList_data] at e
      exact hne e)]
    have := pcs_jn 58 ((w :: ws).map hh) (by simp) (fun x hx b hb => by
      obtain ⟨y, _, rfl⟩ := List.mem_map.1 hx
      exact (hexL_mem y b hb).1)
    show wm (pcs 58 ⟨(jn 58 ((w :: ws).map hh)).toArray⟩) = _
    rw [this, List.map_map]
    exact wm_hh (w :: ws) h
/-! ### bits -/
theorem ofInt_nat {n : Nat} (h : n < 9223372036854775808) : (BitVec.ofInt 64 (n : Int)).toNat = n := by
  rw [BitVec.toNat_ofInt]; omega
theorem or_nat {a b : Nat} (ha : a < 9223372036854775808) (hb : b < 9223372036854775808) (hc : a ||| b < 9223372036854775808) : bitsV .or .i64 (a : Int) (b : Int) = ((a ||| b : Nat) : Int) := by
  show IntKind.i64.wrap (((BitVec.ofInt 64 (a : Int) ||| BitVec.ofInt 64 (b : Int)).toNat : Nat) : Int) = _
  rw [BitVec.toNat_or, ofInt_nat ha, ofInt_nat hb, w64 (by omega) (by omega)]
theorem or_byte {a b : Int} (ha : 0 ≤ a ∧ a ≤ 255) (hb : 0 ≤ b ∧ b ≤ 255) : bitsV .or .i64 (a * 256) b = a * 256 + b := by
  obtain ⟨n, rfl⟩ : ∃ n : Nat, a = n := ⟨a.toNat, by omega⟩
  obtain ⟨m, rfl⟩ : ∃ m : Nat, b = m := ⟨b.toNat, by omega⟩
  have e : (2 ^ 8 * n + m : Nat) = 2 ^ 8 * n ||| m := Nat.two_pow_add_eq_or_of_lt (by omega) n
  have e2 : (n * 256 : Nat) = 2 ^ 8 * n := by omega
  have := or_nat (a := n * 256) (b := m) (by omega) (by omega) (by rw [e2, ← e]; omega)
  rw [show ((n : Int) * 256) = ((n * 256 : Nat) : Int) by omega, this, e2, ← e]
  omega
/-! ### the words of sixteen bytes -/
def wl : List UInt8 → List Nat
  | a :: b :: r => (a.toNat * 256 + b.toNat) :: wl r
  | _ => []
theorem wl_len : ∀ (m : Nat) (l : List UInt8), l.length = 2 * m → (wl l).length = m
  | 0, [], h => rfl
  | m + 1, a :: b :: r, h => by simp only [wl, List.length_cons]; rw [wl_len m r (by simp at h; omega)]
  | m + 1, [a], h => by simp at h; omega
  | m + 1, [], h => by simp at h
theorem wl_lt : ∀ (l : List UInt8), ∀ w ∈ wl l, w < 65536
  | [], w, h => by cases h
  | [a], w, h => by cases h
  | a :: b :: r, w, h => by
    simp only [wl, List.mem_cons] at h
    rcases h with h | h
    · have := a.toNat_lt; have := b.toNat_lt; omega
    · exact wl_lt r w h
theorem wl_two : ∀ (m : Nat) (l : List UInt8), l.length = 2 * m → (wl l).flatMap two = l.map fun b => (b.toNat : Int)
  | 0, [], h => rfl
  | m + 1, a :: b :: r, h => by
    have ih := wl_two m r (by simp at h; omega)
    have hb := b.toNat_lt
    simp only [wl, List.flatMap_cons, ih, two, List.map_cons, List.cons_append, List.nil_append]
    rw [show (a.toNat * 256 + b.toNat) / 256 = a.toNat by omega, show (a.toNat * 256 + b.toNat) % 256 = b.toNat by omega]
  | m + 1, [a], h => by simp at h; omega
  | m + 1, [], h => by simp at h
theorem wl_get : ∀ (l : List UInt8) (i : Nat) (a b : UInt8), l[2 * i]? = some a → l[2 * i + 1]? = some b → (wl l)[i]? = some (a.toNat * 256 + b.toNat)
  | [], i, a, b, h, _ => by simp at h
  | [x], 0, a, b, _, h => by simp at h
  | [x], i + 1, a, b, h, _ => by
    rw [show 2 * (i + 1) = 2 * i + 1 + 1 from by omega] at h; simp at h
  | x :: y :: r, 0, a, b, h, h' => by
    simp at h h'; subst h; subst h'; rfl
  | x :: y :: r, i + 1, a, b, h, h' => by
    rw [show 2 * (i + 1) = 2 * i + 1 + 1 from by omega] at h h'
    simp only [List.getElem?_cons_succ] at h h'
    simp only [wl, List.getElem?_cons_succ]
    exact wl_get r i a b h h'
theorem word_at {s : ByteArray} (hs : s.size = 16) {i : Nat} (hi : i < 8) : ∃ a b : UInt8, bt s ((2 * i : Nat) : Int) = (a.toNat : Int) ∧ bt s ((2 * i + 1 : Nat) : Int) = (b.toNat : Int) ∧ (wl (ds s))[i]? = some (a.toNat * 256 + b.toNat) := by
  have l0 : 2 * i < (ds s).length := by rw [ds_len]; omega
  have l1 : 2 * i + 1 < (ds s).length := by rw [ds_len]; omega
  exact ⟨_, _, bt_get (List.getElem?_eq_getElem l0), bt_get (List.getElem?_eq_getElem l1), wl_get _ _ _ _ (List.getElem?_eq_getElem l0) (List.getElem?_eq_getElem l1)⟩
theorem idx_at {i : Nat} (hi : i < 8) : IntKind.i64.wrap (2 * (i : Int)) = ((2 * i : Nat) : Int) ∧ IntKind.i64.wrap (((2 * i : Nat) : Int) + 1) = ((2 * i + 1 : Nat) : Int) := by
  constructor
  · rw [w64 (by omega) (by omega)]; omega
  · rw [w64 (by omega) (by omega)]; omega
theorem word_spec (k : Nat) {s : ByteArray} (hs : s.size = 16) {i : Nat} (hi : i < 8) {w : Nat} (hw : (wl (ds s))[i]? = some w) : f54 k s (i : Int) = some (w : Int) := by
  obtain ⟨a, b, h1, h2, h3⟩ := word_at hs hi
  rw [h3] at hw; cases hw
  obtain ⟨e1, e2⟩ := idx_at hi
  have ha := a.toNat_lt
  have hb := b.toNat_lt
  have c0 : (0 : Int) ≤ ((2 * i : Nat) : Int) := by omega
  have c1 : ((2 * i : Nat) : Int) < (s.size : Int) := by omega
  have c2 : (0 : Int) ≤ ((2 * i + 1 : Nat) : Int) := by omega
  have c3 : ((2 * i + 1 : Nat) : Int) < (s.size : Int) := by omega
  simp only [f54, f54.step, e1, e2, c0, c1, c2, c3, if_true, h1, h2, wb]
  congr 1
  rw [w64 (n := (a.toNat : Int) * 256) (by omega) (by omega), w64 (by omega) (by omega)]; omega
def wi (ws : List Nat) : List Int := ws.map fun w : Nat => (w : Int)
theorem l15_loop (k : Nat) (s : ByteArray) (N : Int) (hN : N = 8) (hs : s.size = 16) : ∀ (rest : List Nat) (i j : Nat) (acc : List Int), (wl (ds s)).drop i = rest → i + rest.length = 8 → rest.length < j → acc.length = i →
    f11.l15 k j s N (i : Int) (acc ++ List.replicate rest.length 0) = some (acc ++ wi rest)
  | rest, i, 0, acc, hd, hi, hj, ha => by omega
  | [], i, j + 1, acc, hd, hi, hj, ha => by
    have h2 : ¬ (i : Int) < N := by simp at hi; omega
    rw [f11.l15]
    simp only [f11.l15.step, ff h2]; simp [wi]
  | w :: rest, i, j + 1, acc, hd, hi, hj, ha => by
    simp only [List.length_cons] at hi hj
    have g1 : (wl (ds s))[i]? = some w := by rw [← List.head?_drop, hd]; rfl
    have g2 : (wl (ds s)).drop (i + 1) = rest := by rw [← List.drop_drop, hd]; rfl
    obtain ⟨a, b, h1, h2', h3⟩ := word_at hs (show i < 8 by omega)
    rw [h3] at g1
    have hw' : w = a.toNat * 256 + b.toNat := (Option.some.inj g1).symm
    obtain ⟨e1, e2⟩ := idx_at (show i < 8 by omega)
    have hla := a.toNat_lt
    have hlb := b.toNat_lt
    have h2 : (i : Int) < N := by omega
    have c0 : (0 : Int) ≤ ((2 * i : Nat) : Int) := by omega
    have c1 : ((2 * i : Nat) : Int) < (s.size : Int) := by omega
    have c2 : (0 : Int) ≤ ((2 * i + 1 : Nat) : Int) := by omega
    have c3 : ((2 * i + 1 : Nat) : Int) < (s.size : Int) := by omega
    have h4 : (0 : Int) ≤ (i : Int) := by omega
    have hw : IntKind.i64.wrap ((i : Int) + 1) = ((i + 1 : Nat) : Int) := by rw [w64 (by omega) (by omega)]; omega
    have e256 : (2 : Int) ^ (min (8 : Int).toNat IntKind.i64.bits) = 256 := by decide
    have hor : bitsV .or .i64 (IntKind.i64.wrap ((a.toNat : Int) * 256)) (b.toNat : Int) = (w : Int) := by
      rw [w64 (n := (a.toNat : Int) * 256) (by omega) (by omega), or_byte (by omega) (by omega), hw']; omega
    have hrep : List.replicate (rest.length + 1) (0 : Int) = 0 :: List.replicate rest.length 0 := rfl
    have hlt : (i : Int) < ((acc ++ 0 :: List.replicate rest.length 0).length : Int) := by rw [← ha]; exact lt_mid _ _ _
    have hset : List.set (acc ++ 0 :: List.replicate rest.length 0) (Int.toNat (i : Int)) (w : Int) = (acc ++ [(w : Int)]) ++ List.replicate rest.length 0 := by rw [← ha, set_mid, mid_next]
    have ih := l15_loop k s N hN hs rest (i + 1) j (acc ++ [(w : Int)]) g2 (by omega) (by omega) (by simp [ha])
    rw [f11.l15, List.length_cons, hrep]
    simp only [f11.l15.step, h2, e1, e2, c0, c1, c2, c3, h4, hlt, h1, h2', wb, e256, hor, hset, hw, decide_true, if_true]
    rw [ih]; simp [wi]
/-! ### the longest run of noughts -/
def rn : List Nat → Nat
  | [] => 0
  | w :: r => if w = 0 then rn r + 1 else 0
theorem rn_le : ∀ l, rn l ≤ l.length
  | [] => Nat.le_refl _
  | w :: r => by
    have := rn_le r
    unfold rn; split <;> simp <;> omega
def rb : List Bool → Nat
  | [] => 0
  | b :: r => if b = true then rb r + 1 else 0
def zb (ws : List Nat) : List Bool := ws.map fun w => decide (w = 0)
theorem rn_rb : ∀ ws, rn ws = rb (zb ws)
  | [] => rfl
  | w :: r => by
    have := rn_rb r
    unfold rn zb
    simp only [List.map_cons, rb, decide_eq_true_eq]
    rw [this]; rfl
theorem l5_loop (k : Nat) (ws : List Nat) (hl : ws.length = 8) (a7 a8 a9 : Int) : ∀ (rest : List Nat) (i j : Nat), ws.drop i = rest → i + rest.length = 8 → rest.length < j →
    f30.l5 k j (wi ws) a7 a8 a9 (i : Int) = some (wi ws, a7, a8, a9, ((i + rn rest : Nat) : Int))
  | rest, i, 0, hd, hi, hj => by omega
  | [], i, j + 1, hd, hi, hj => by
    have hwl : (wi ws).length = 8 := by simp [wi, hl]
    have h2 : ¬ (i : Int) < ((wi ws).length : Int) := by simp at hi; omega
    rw [f30.l5]
    simp only [f30.l5.step, ff h2]; simp [rn]
  | w :: rest, i, j + 1, hd, hi, hj => by
    simp only [List.length_cons] at hi hj
    have hwl : (wi ws).length = 8 := by simp [wi, hl]
    have g1 : ws[i]? = some w := by rw [← List.head?_drop, hd]; rfl
    have g2 : ws.drop (i + 1) = rest := by rw [← List.drop_drop, hd]; rfl
    have h2 : (i : Int) < ((wi ws).length : Int) := by omega
    have h4 : (0 : Int) ≤ (i : Int) := by omega
    have hg : List.getD (wi ws) (Int.toNat (i : Int)) 0 = (w : Int) := by
      rw [Int.toNat_natCast, List.getD_eq_getElem?_getD, wi, List.getElem?_map, g1]; rfl
    have hw : IntKind.i64.wrap ((i : Int) + 1) = ((i + 1 : Nat) : Int) := by rw [w64 (by omega) (by omega)]; omega
    rw [f30.l5]
    by_cases c : w = 0
    · have c' : (w : Int) = 0 := by omega
      have ih := l5_loop k ws hl a7 a8 a9 rest (i + 1) j g2 (by omega) (by omega)
      have hrn : rn (w :: rest) = rn rest + 1 := by rw [rn, if_pos c]
      simp only [f30.l5.step, h2, h4, hg, tb c', hw, decide_true, if_true, ih, hrn]
      rw [show i + 1 + rn rest = i + (rn rest + 1) from by omega]
    · have c' : ¬ (w : Int) = 0 := by omega
      simp only [f30.l5.step, h2, h4, hg, ff c', decide_true, if_true, rn, if_neg c]
      simp
theorem l7_loop (k : Nat) {s : ByteArray} (hs : s.size = 16) (a7 a8 : Int) (i : Nat) : ∀ (rest : List Nat) (n j : Nat), (wl (ds s)).drop (i + n) = rest → i + n + rest.length = 8 → rest.length < j →
    f52.l7 k j s a7 a8 (i : Int) (n : Int) = some (s, a7, a8, (i : Int), ((n + rn rest : Nat) : Int))
  | rest, n, 0, hd, hi, hj => by omega
  | [], n, j + 1, hd, hi, hj => by
    have hw : IntKind.i64.wrap ((i : Int) + (n : Int)) = ((i + n : Nat) : Int) := by rw [w64 (by simp at hi; omega) (by simp at hi; omega)]; omega
    have h2 : ¬ ((i + n : Nat) : Int) < 8 := by simp at hi; omega
    rw [f52.l7]
    simp only [f52.l7.step, hw, ff h2]; simp [rn]
  | w :: rest, n, j + 1, hd, hi, hj => by
    simp only [List.length_cons] at hi hj
    have g1 : (wl (ds s))[i + n]? = some w := by rw [← List.head?_drop, hd]; rfl
    have g2 : (wl (ds s)).drop (i + (n + 1)) = rest := by rw [← Nat.add_assoc, ← List.drop_drop, hd]; rfl
    have hw : IntKind.i64.wrap ((i : Int) + (n : Int)) = ((i + n : Nat) : Int) := by rw [w64 (by omega) (by omega)]; omega
    have hw1 : IntKind.i64.wrap ((n : Int) + 1) = ((n + 1 : Nat) : Int) := by rw [w64 (by omega) (by omega)]; omega
    have h2 : ((i + n : Nat) : Int) < 8 := by omega
    have hf := word_spec k hs (show i + n < 8 by omega) g1
    rw [f52.l7]
    by_cases c : w = 0
    · have c' : (w : Int) = 0 := by omega
      have ih := l7_loop k hs a7 a8 i rest (n + 1) j g2 (by omega) (by omega)
      have hrn : rn (w :: rest) = rn rest + 1 := by rw [rn, if_pos c]
      simp only [f52.l7.step, hw, h2, hf, Option.bind_some, tb c', hw1, decide_true, if_true, ih, hrn]
      rw [show n + 1 + rn rest = n + (rn rest + 1) from by omega]
    · have c' : ¬ (w : Int) = 0 := by omega
      simp only [f52.l7.step, hw, h2, hf, Option.bind_some, ff c', decide_true, if_true, rn, if_neg c]
      simp
/-! ### the gap: the code's and the specification's -/
def ni (p : Nat × Nat) : Int × Int := (((p.1 : Nat) : Int), ((p.2 : Nat) : Int))
def gI (zs : List Bool) : Nat → Nat → Nat → Nat → Nat × Nat
  | 0, at_, best, i => (at_, best)
  | f + 1, at_, best, i => if i < 8 then (if rb (zs.drop i) > best then gI zs f i (rb (zs.drop i)) (if i + 1 > i + rb (zs.drop i) then i + 1 else i + rb (zs.drop i)) else gI zs f at_ best (if i + 1 > i + rb (zs.drop i) then i + 1 else i + rb (zs.drop i))) else (at_, best)
def gS (zs : List Bool) : Nat → Nat → Nat → Nat → Nat × Nat
  | 0, at_, best, i => (at_, best)
  | f + 1, at_, best, i => if i < 8 then (if rb (zs.drop i) > best then gS zs f i (rb (zs.drop i)) (i + 1) else gS zs f at_ best (i + 1)) else (at_, best)
def okGap (zs : List Bool) : Bool :=
  decide ((gI zs 8 0 0 0).2 < 2) == decide ((gS zs 8 0 1 0).2 < 2) && (decide ((gS zs 8 0 1 0).2 < 2) || (decide (gI zs 8 0 0 0 = gS zs 8 0 1 0) && decide ((gS zs 8 0 1 0).1 + (gS zs 8 0 1 0).2 ≤ 8) && ((zs.drop (gS zs 8 0 1 0).1).take (gS zs 8 0 1 0).2).all id))
theorem gap_all : ∀ b0 b1 b2 b3 b4 b5 b6 b7 : Bool, okGap [b0, b1, b2, b3, b4, b5, b6, b7] = true := by decide +kernel
theorem gap_ok (zs : List Bool) (h : zs.length = 8) : okGap zs = true := by
  match zs, h with
  | [b0, b1, b2, b3, b4, b5, b6, b7], _ => exact gap_all b0 b1 b2 b3 b4 b5 b6 b7
theorem zb_drop (ws : List Nat) (i : Nat) : rb ((zb ws).drop i) = rn (ws.drop i) := by
  rw [rn_rb]; unfold zb; rw [List.map_drop]
theorem l3_loop (k : Nat) (hK : 2097152 ≤ k) (ws : List Nat) (hl : ws.length = 8) : ∀ (f at_ best i j : Nat), 8 ≤ i + f → i ≤ 8 → at_ ≤ 8 → best ≤ 8 → f < j →
    f30.l3 k j (wi ws) (at_ : Int) (best : Int) (i : Int) = some (ni (gI (zb ws) f at_ best i))
  | f, at_, best, i, 0, h1, h2, h3, h4, hj => by omega
  | 0, at_, best, i, j + 1, h1, h2, h3, h4, hj => by
    have hwl : (wi ws).length = 8 := by simp [wi, hl]
    have c : ¬ (i : Int) < ((wi ws).length : Int) := by omega
    rw [f30.l3]
    simp only [f30.l3.step, ff c]; rfl
  | f + 1, at_, best, i, j + 1, h1, h2, h3, h4, hj => by
    have hwl : (wi ws).length = 8 := by simp [wi, hl]
    rw [f30.l3, gI]
    by_cases c : i < 8
    · have c' : (i : Int) < ((wi ws).length : Int) := by omega
      have hr := rn_le (ws.drop i)
      rw [List.length_drop, hl] at hr
      have hlp := l5_loop k ws hl (at_ : Int) (best : Int) (i : Int) (ws.drop i) i k rfl (by rw [List.length_drop]; omega) (by rw [List.length_drop]; omega)
      rw [zb_drop, if_pos c]
      generalize rn (ws.drop i) = r at hr hlp ⊢
      have e1 : IntKind.i64.wrap (((i + r : Nat) : Int) - (i : Int)) = (r : Int) := by rw [w64 (by omega) (by omega)]; omega
      have e2 : IntKind.i64.wrap ((i : Int) + 1) = ((i + 1 : Nat) : Int) := by rw [w64 (by omega) (by omega)]; omega
      simp only [f30.l3.step, tb c', if_true, hlp, Option.bind_some, e1, e2]
      have hm : (if ((i + 1 : Nat) : Int) > ((i + r : Nat) : Int) then ((i + 1 : Nat) : Int) else ((i + r : Nat) : Int)) = (((if i + 1 > i + r then i + 1 else i + r) : Nat) : Int) := by
        by_cases q : i + 1 > i + r
        · rw [if_pos (by omega), if_pos q]
        · rw [if_neg (by omega), if_neg q]
      rw [hm]
      have hn : i + 1 ≤ (if i + 1 > i + r then i + 1 else i + r) ∧ (if i + 1 > i + r then i + 1 else i + r) ≤ 8 := by split <;> omega
      generalize (if i + 1 > i + r then i + 1 else i + r) = i' at hn ⊢
      by_cases q : r > best
      · have q' : (r : Int) > (best : Int) := by omega
        rw [if_pos (tb q'), if_pos q]
        exact l3_loop k hK ws hl f i r i' j (by omega) (by omega) (by omega) (by omega) (by omega)
      · have q' : ¬ (r : Int) > (best : Int) := by omega
        rw [if_neg (fb q'), if_neg q]
        exact l3_loop k hK ws hl f at_ best i' j (by omega) (by omega) (by omega) (by omega) (by omega)
    · have c' : ¬ (i : Int) < ((wi ws).length : Int) := by omega
      rw [if_neg c]
      simp only [f30.l3.step, ff c']; rfl
theorem l4_loop (k : Nat) (hK : 2097152 ≤ k) {s : ByteArray} (hs : s.size = 16) : ∀ (f at_ best i j : Nat), 8 ≤ i + f → i ≤ 8 → at_ ≤ 8 → best ≤ 8 → f < j →
    f52.l4 k j s (at_ : Int) (best : Int) (i : Int) = some (ni (gS (zb (wl (ds s))) f at_ best i))
  | f, at_, best, i, 0, h1, h2, h3, h4, hj => by omega
  | 0, at_, best, i, j + 1, h1, h2, h3, h4, hj => by
    have c : ¬ (i : Int) < 8 := by omega
    rw [f52.l4]
    simp only [f52.l4.step, ff c]; rfl
  | f + 1, at_, best, i, j + 1, h1, h2, h3, h4, hj => by
    have hl : (wl (ds s)).length = 8 := wl_len 8 _ (by rw [ds_len]; omega)
    rw [f52.l4, gS]
    by_cases c : i < 8
    · have c' : (i : Int) < 8 := by omega
      have hr := rn_le ((wl (ds s)).drop i)
      rw [List.length_drop, hl] at hr
      have hlp := l7_loop k hs (at_ : Int) (best : Int) i ((wl (ds s)).drop i) 0 k rfl (by rw [List.length_drop]; omega) (by rw [List.length_drop]; omega)
      rw [zb_drop, if_pos c]
      generalize rn ((wl (ds s)).drop i) = r at hr hlp ⊢
      have hlp' : f52.l7 k k s (at_ : Int) (best : Int) (i : Int) 0 = some (s, (at_ : Int), (best : Int), (i : Int), ((0 + r : Nat) : Int)) := hlp
      rw [Nat.zero_add] at hlp'
      have e2 : IntKind.i64.wrap ((i : Int) + 1) = ((i + 1 : Nat) : Int) := by rw [w64 (by omega) (by omega)]; omega
      simp only [f52.l4.step, tb c', if_true, hlp', Option.bind_some, e2]
      by_cases q : r > best
      · have q' : (r : Int) > (best : Int) := by omega
        rw [if_pos (tb q'), if_pos q]
        exact l4_loop k hK hs f i r (i + 1) j (by omega) (by omega) (by omega) (by omega) (by omega)
      · have q' : ¬ (r : Int) > (best : Int) := by omega
        rw [if_neg (fb q'), if_neg q]
        exact l4_loop k hK hs f at_ best (i + 1) j (by omega) (by omega) (by omega) (by omega) (by omega)
    · have c' : ¬ (i : Int) < 8 := by omega
      rw [if_neg c]
      simp only [f52.l4.step, ff c']; rfl
/-- Both find no gap, or the same: F, N. -/
theorem gap_eq (k : Nat) (hK : 2097152 ≤ k) (s : ByteArray) (hs : s.size = 16) :
    (∃ a b, f30 k (wi (wl (ds s))) = some (a, b) ∧ b < 2 ∧ f52 k s = some (8, 0)) ∨
    ∃ F N : Nat, f30 k (wi (wl (ds s))) = some ((F : Int), (N : Int)) ∧ f52 k s = some ((F : Int), (N : Int)) ∧ 2 ≤ N ∧ F + N ≤ 8 ∧ ∀ w ∈ ((wl (ds s)).drop F).take N, w = 0 := by
  have hl : (wl (ds s)).length = 8 := wl_len 8 _ (by rw [ds_len]; omega)
  have h30 := l3_loop k hK (wl (ds s)) hl 8 0 0 0 k (by omega) (by omega) (by omega) (by omega) (by omega)
  have h52 := l4_loop k hK hs 8 0 1 0 k (by omega) (by omega) (by omega) (by omega) (by omega)
  have hok := gap_ok (zb (wl (ds s))) (by simp [zb, hl])
  have e30 : f30 k (wi (wl (ds s))) = some (ni (gI (zb (wl (ds s))) 8 0 0 0)) := by
    have h30' : f30.l3 k k (wi (wl (ds s))) 0 0 0 = _ := h30
    simp only [f30, f30.step, h30', Option.bind_some]
  have h52' : f52.l4 k k s 0 1 0 = some (ni (gS (zb (wl (ds s))) 8 0 1 0)) := h52
  unfold okGap at hok
  generalize hgi : gI (zb (wl (ds s))) 8 0 0 0 = gi at *
  generalize hgs : gS (zb (wl (ds s))) 8 0 1 0 = gs at *
  rw [Bool.and_eq_true, beq_iff_eq] at hok
  obtain ⟨o1, o2⟩ := hok
  by_cases c : gs.2 < 2
  · left
    have c' : ((gs.2 : Nat) : Int) < 2 := by omega
    have c2 : gi.2 < 2 := by
      rw [decide_eq_true c] at o1
      exact of_decide_eq_true o1
    refine ⟨_, _, e30, by omega, ?_⟩
    simp only [f52, f52.step, h52', Option.bind_some, ni, tb c', if_true]
  · right
    have c' : ¬ ((gs.2 : Nat) : Int) < 2 := by omega
    rw [decide_eq_false c, Bool.false_or, Bool.and_eq_true, Bool.and_eq_true] at o2
    obtain ⟨⟨p1, p2⟩, p3⟩ := o2
    have p1 := of_decide_eq_true p1
    have p2 := of_decide_eq_true p2
    subst p1
    refine ⟨gi.1, gi.2, e30, ?_, by omega, p2, fun w hw => ?_⟩
    · simp only [f52, f52.step, h52', Option.bind_some, ni, ff c', Bool.false_eq_true, if_false]
    · rw [List.all_eq_true] at p3
      have := p3 (decide (w = 0)) (by
        unfold zb
        rw [← List.map_drop, ← List.map_take]
        exact List.mem_map.2 ⟨w, hw, rfl⟩)
      simpa using this
/-! ### the text of sixteen bytes -/
theorem f31_loop (k : Nat) (ws : List Nat) (hl : ws.length ≤ 8) (hw6 : ∀ w ∈ ws, w < 65536) : ∀ (rest : List Nat) (i j : Nat) (acc : List ByteArray), ws.drop i = rest → i + rest.length = ws.length → rest.length < j → acc.length = i →
    f31.l3 k j (wi ws) ((wi ws).length : Int) (i : Int) (acc ++ List.replicate rest.length ByteArray.empty) = some (acc ++ rest.map fun w => mk8 (hh w))
  | rest, i, 0, acc, hd, hi, hj, ha => by omega
  | [], i, j + 1, acc, hd, hi, hj, ha => by
    have hwl : (wi ws).length = ws.length := by simp [wi]
    have h2 : ¬ (i : Int) < ((wi ws).length : Int) := by simp at hi; omega
    rw [f31.l3]
    simp only [f31.l3.step, ff h2]; simp
  | w :: rest, i, j + 1, acc, hd, hi, hj, ha => by
    simp only [List.length_cons] at hi hj
    have hwl : (wi ws).length = ws.length := by simp [wi]
    have g1 : ws[i]? = some w := by rw [← List.head?_drop, hd]; rfl
    have g2 : ws.drop (i + 1) = rest := by rw [← List.drop_drop, hd]; rfl
    have h2 : (i : Int) < ((wi ws).length : Int) := by omega
    have h4 : (0 : Int) ≤ (i : Int) := by omega
    have hg : List.getD (wi ws) (Int.toNat (i : Int)) 0 = (w : Int) := by
      rw [Int.toNat_natCast, List.getD_eq_getElem?_getD, wi, List.getElem?_map, g1]; rfl
    have hw : IntKind.i64.wrap ((i : Int) + 1) = ((i + 1 : Nat) : Int) := by rw [w64 (by omega) (by omega)]; omega
    have hf : f50 k (w : Int) = some (mk8 (hh w)) := hex_impl50 k w (hw6 w (List.mem_of_getElem? g1))
    have hrep : List.replicate (rest.length + 1) ByteArray.empty = ByteArray.empty :: List.replicate rest.length ByteArray.empty := rfl
    have hlt : (i : Int) < ((acc ++ ByteArray.empty :: List.replicate rest.length ByteArray.empty).length : Int) := by rw [← ha]; exact lt_mid _ _ _
    have hset : List.set (acc ++ ByteArray.empty :: List.replicate rest.length ByteArray.empty) (Int.toNat (i : Int)) (mk8 (hh w)) = (acc ++ [mk8 (hh w)]) ++ List.replicate rest.length ByteArray.empty := by rw [← ha, set_mid, mid_next]
    have ih := f31_loop k ws hl hw6 rest (i + 1) j (acc ++ [mk8 (hh w)]) g2 (by omega) (by omega) (by simp [ha])
    rw [f31.l3, List.length_cons, hrep]
    simp only [f31.l3.step, h2, h4, hg, hf, Option.bind_some, hlt, hset, hw, decide_true, if_true]
    rw [ih]; simp
theorem f31_eq (k : Nat) (hK : 2097152 ≤ k) (ws : List Nat) (hl : ws.length ≤ 8) (hw6 : ∀ w ∈ ws, w < 65536) : f31 k (wi ws) = some (mk8 (jn 58 (ws.map hh))) := by
  have hwl : (wi ws).length = ws.length := by simp [wi]
  have h0 : (0 : Int) ≤ ((wi ws).length : Int) := by omega
  have h1 : (Int.toNat ((wi ws).length : Int)) * 16 ≤ maxN := by rw [Int.toNat_natCast]; simp only [maxN]; omega
  have hlp := f31_loop k ws hl hw6 ws 0 k [] rfl (by omega) (by omega) rfl
  have hlp' : f31.l3 k k (wi ws) ((wi ws).length : Int) 0 (List.replicate (Int.toNat ((wi ws).length : Int)) ByteArray.empty) = some ((ws.map hh).map fun l => (⟨l.toArray⟩ : ByteArray)) := by
    rw [Int.toNat_natCast, hwl, List.map_map]; rw [hwl] at hlp; exact hlp
  have hj := f29_eq k 58 (ws.map hh) (by simpa using hl) (fun x hx => by
    obtain ⟨w, hw, rfl⟩ := List.mem_map.1 hx
    exact hexL_len w (hw6 w hw))
  simp only [f31, f31.step, h0, h1, if_true, hlp', hj, Option.bind_some]
  rfl
def col (l : List Nat) : List UInt8 := (l.map fun w => 58 :: hh w).flatten
theorem jn_col : ∀ (l : List Nat) (w : Nat), jn 58 ((w :: l).map hh) = hh w ++ col l
  | [], w => by simp [jn, col]
  | v :: l, w => by
    have ih := jn_col l v
    show hh w ++ 58 :: jn 58 ((v :: l).map hh) = _
    rw [ih]; simp [col]
theorem mk8_append (a b : List UInt8) : mk8 a ++ mk8 b = mk8 (a ++ b) := mk_append a b
theorem mk8_size (l : List UInt8) : (mk8 l).size = l.length := sz_mk l
theorem st_bare (k : Nat) (hK : 2097152 ≤ k) {s : ByteArray} (hs : s.size = 16) (F N : Nat) (hF : F ≤ 8) (hN : N ≤ 8) (i j w : Nat) (out : List UInt8) (hw : (wl (ds s))[i]? = some w) (hi : i < 8) (h1 : i ≠ F) (h2 : i = 0 ∨ i = F + N) (ho : out.length ≤ 1000) :
    f32.l6 k (j + 1) s (F : Int) (N : Int) (mk8 out) (i : Int) = f32.l6 k j s (F : Int) (N : Int) (mk8 (out ++ hh w)) ((i + 1 : Nat) : Int) := by
  have hlt := wl_lt _ w (List.mem_of_getElem? hw)
  have h54 := word_spec k hs hi hw
  have h53 : f53 k (w : Int) = some (mk8 (hh w)) := hex_spec53 k hK w hlt
  have hlen := hexL_len w hlt
  have hlen' : (hh w).length ≤ 4 := hlen
  have c1 : (i : Int) < 8 := by omega
  have c2 : ¬ (i : Int) = (F : Int) := by omega
  have e1 : IntKind.i64.wrap ((i : Int) + 1) = ((i + 1 : Nat) : Int) := by rw [w64 (by omega) (by omega)]; omega
  have e2 : IntKind.i64.wrap ((F : Int) + (N : Int)) = ((F + N : Nat) : Int) := by rw [w64 (by omega) (by omega)]; omega
  have hsz : ByteArray.size (mk8 out) + ByteArray.size (mk8 (hh w)) ≤ maxN := by rw [mk8_size, mk8_size]; simp only [maxN]; omega
  rw [f32.l6]
  by_cases c3 : (i : Int) > 0
  · have c4 : ¬ (i : Int) ≠ ((F + N : Nat) : Int) := by omega
    simp only [f32.l6.step, tb c1, ff c2, tb c3, e2, ff c4, if_true, Bool.false_eq_true, if_false, h54, h53, Option.bind_some, hsz, mk8_append, e1]
  · simp only [f32.l6.step, tb c1, ff c2, ff c3, if_true, Bool.false_eq_true, if_false, h54, h53, Option.bind_some, hsz, mk8_append, e1]
theorem st_col (k : Nat) (hK : 2097152 ≤ k) {s : ByteArray} (hs : s.size = 16) (F N : Nat) (hF : F ≤ 8) (hN : N ≤ 8) (i j w : Nat) (out : List UInt8) (hw : (wl (ds s))[i]? = some w) (hi : i < 8) (h1 : i ≠ F) (h2 : i ≠ F + N) (h3 : 0 < i) (ho : out.length ≤ 1000) :
    f32.l6 k (j + 1) s (F : Int) (N : Int) (mk8 out) (i : Int) = f32.l6 k j s (F : Int) (N : Int) (mk8 (out ++ 58 :: hh w)) ((i + 1 : Nat) : Int) := by
  have hlt := wl_lt _ w (List.mem_of_getElem? hw)
  have h54 := word_spec k hs hi hw
  have h53 : f53 k (w : Int) = some (mk8 (hh w)) := hex_spec53 k hK w hlt
  have hlen : (hh w).length ≤ 4 := hexL_len w hlt
  have c1 : (i : Int) < 8 := by omega
  have c2 : ¬ (i : Int) = (F : Int) := by omega
  have c3 : (i : Int) > 0 := by omega
  have e1 : IntKind.i64.wrap ((i : Int) + 1) = ((i + 1 : Nat) : Int) := by rw [w64 (by omega) (by omega)]; omega
  have e2 : IntKind.i64.wrap ((F : Int) + (N : Int)) = ((F + N : Nat) : Int) := by rw [w64 (by omega) (by omega)]; omega
  have c4 : (i : Int) ≠ ((F + N : Nat) : Int) := by omega
  have dot : (⟨#[58]⟩ : ByteArray) = mk8 [58] := rfl
  have hsz : ByteArray.size (mk8 out) + ByteArray.size (mk8 [58]) ≤ maxN := by rw [mk8_size, mk8_size]; simp only [maxN, List.length_cons, List.length_nil]; omega
  have hsz2 : ByteArray.size (mk8 (out ++ [58])) + ByteArray.size (mk8 (hh w)) ≤ maxN := by rw [mk8_size, mk8_size]; simp only [maxN, List.length_append, List.length_cons, List.length_nil]; omega
  have ea : out ++ [58] ++ hh w = out ++ 58 :: hh w := by simp
  rw [f32.l6]
  simp only [f32.l6.step, tb c1, ff c2, tb c3, e2, tb c4, if_true, Bool.false_eq_true, if_false, dot, hsz, h54, h53, Option.bind_some, mk8_append, hsz2, e1, ea]
theorem st_gap (k : Nat) (hK : 2097152 ≤ k) {s : ByteArray} (hs : s.size = 16) (F N : Nat) (hF : F ≤ 8) (hN : N ≤ 8) (j : Nat) (out : List UInt8) (h1 : F < 8) (h2 : 1 ≤ N) (ho : out.length ≤ 1000) :
    f32.l6 k (j + 1) s (F : Int) (N : Int) (mk8 out) (F : Int) = f32.l6 k j s (F : Int) (N : Int) (mk8 (out ++ [58, 58])) ((F + N : Nat) : Int) := by
  have c1 : (F : Int) < 8 := by omega
  have dot : (⟨#[58, 58]⟩ : ByteArray) = mk8 [58, 58] := rfl
  have hsz : ByteArray.size (mk8 out) + ByteArray.size (mk8 [58, 58]) ≤ maxN := by rw [mk8_size, mk8_size]; simp only [maxN, List.length_cons, List.length_nil]; omega
  have e1 : IntKind.i64.wrap (IntKind.i64.wrap ((F : Int) + IntKind.i64.wrap ((N : Int) - 1)) + 1) = ((F + N : Nat) : Int) := by
    rw [w64 (n := (N : Int) - 1) (by omega) (by omega), w64 (n := (F : Int) + ((N : Int) - 1)) (by omega) (by omega), w64 (by omega) (by omega)]; omega
  rw [f32.l6]
  simp only [f32.l6.step, tb c1, decide_true, if_true, dot, hsz, mk8_append, e1]
theorem st_end (k : Nat) (hK : 2097152 ≤ k) {s : ByteArray} (hs : s.size = 16) (F N : Nat) (hF : F ≤ 8) (hN : N ≤ 8) (j : Nat) (out : List UInt8) : f32.l6 k (j + 1) s (F : Int) (N : Int) (mk8 out) ((8 : Nat) : Int) = some (mk8 out) := by
  have c : ¬ ((8 : Nat) : Int) < 8 := by omega
  rw [f32.l6]
  simp only [f32.l6.step, ff c, Bool.false_eq_true, if_false]
theorem st_cols (k : Nat) (hK : 2097152 ≤ k) {s : ByteArray} (hs : s.size = 16) (F N : Nat) (hF : F ≤ 8) (hN : N ≤ 8) : ∀ (l rest : List Nat) (i j : Nat) (out : List UInt8), (wl (ds s)).drop i = l ++ rest → 0 < i → i + l.length ≤ 8 → (∀ x, i ≤ x → x < i + l.length → x ≠ F ∧ x ≠ F + N) → out.length + 5 * l.length ≤ 1000 →
    f32.l6 k (j + l.length) s (F : Int) (N : Int) (mk8 out) (i : Int) = f32.l6 k j s (F : Int) (N : Int) (mk8 (out ++ col l)) ((i + l.length : Nat) : Int)
  | [], rest, i, j, out, hd, h0, hi, hx, ho => by simp [col]
  | w :: l, rest, i, j, out, hd, h0, hi, hx, ho => by
    simp only [List.length_cons] at hi ho
    have g1 : (wl (ds s))[i]? = some w := by rw [← List.head?_drop, hd]; rfl
    have g2 : (wl (ds s)).drop (i + 1) = l ++ rest := by rw [← List.drop_drop, hd]; rfl
    obtain ⟨x1, x2⟩ := hx i (Nat.le_refl _) (by simp)
    have hlen : (hh w).length ≤ 4 := hexL_len w (wl_lt _ w (List.mem_of_getElem? g1))
    have hst := st_col k hK hs F N hF hN i (j + l.length) w out g1 (by omega) x1 x2 h0 (by omega)
    have ih := st_cols k hK hs F N hF hN l rest (i + 1) j (out ++ 58 :: hh w) g2 (by omega) (by omega) (fun x a b => hx x (by omega) (by simp only [List.length_cons]; omega)) (by simp only [List.length_append, List.length_cons]; omega)
    rw [List.length_cons, show j + (l.length + 1) = j + l.length + 1 from rfl, hst, ih, show i + 1 + l.length = i + (l.length + 1) from by omega]
    simp [col]
theorem st_seg (k : Nat) (hK : 2097152 ≤ k) {s : ByteArray} (hs : s.size = 16) (F N : Nat) (hF : F ≤ 8) (hN : N ≤ 8) (l rest : List Nat) (i j : Nat) (out : List UInt8) (hd : (wl (ds s)).drop i = l ++ rest) (h0 : i = 0 ∨ i = F + N) (hi : i + l.length ≤ 8) (hx : ∀ x, i ≤ x → x < i + l.length → x ≠ F) (hx2 : ∀ x, i < x → x < i + l.length → x ≠ F + N) (ho : out.length ≤ 500) :
    f32.l6 k (j + l.length) s (F : Int) (N : Int) (mk8 out) (i : Int) = f32.l6 k j s (F : Int) (N : Int) (mk8 (out ++ jn 58 (l.map hh))) ((i + l.length : Nat) : Int) := by
  cases l with
  | nil => simp [jn]
  | cons w l =>
    simp only [List.length_cons] at hi hx hx2
    have g1 : (wl (ds s))[i]? = some w := by rw [← List.head?_drop, hd]; rfl
    have g2 : (wl (ds s)).drop (i + 1) = l ++ rest := by rw [← List.drop_drop, hd]; rfl
    have hlen : (hh w).length ≤ 4 := hexL_len w (wl_lt _ w (List.mem_of_getElem? g1))
    have hst := st_bare k hK hs F N hF hN i (j + l.length) w out g1 (by omega) (hx i (Nat.le_refl _) (by omega)) h0 (by omega)
    have ih := st_cols k hK hs F N hF hN l rest (i + 1) j (out ++ hh w) g2 (by omega) (by omega) (fun x a b => ⟨hx x (by omega) (by omega), hx2 x (by omega) (by omega)⟩) (by simp only [List.length_append]; omega)
    rw [List.length_cons, show j + (l.length + 1) = j + l.length + 1 from rfl, hst, ih, show i + 1 + l.length = i + (l.length + 1) from by omega, jn_col]
    simp
/-! ### sixteen bytes: the texts are the same -/
def gt (ws : List Nat) (F N : Nat) : List UInt8 := jn 58 ((ws.take F).map hh) ++ 58 :: 58 :: jn 58 ((ws.drop (F + N)).map hh)
theorem jn_hh_len (ws : List Nat) (h : ∀ w ∈ ws, w < 65536) : (jn 58 (ws.map hh)).length ≤ ws.length * 5 := by
  have := jn_len 58 4 (ws.map hh) (fun x hx => by
    obtain ⟨w, hw, rfl⟩ := List.mem_map.1 hx
    exact hexL_len w (h w hw))
  rw [List.length_map] at this; exact this
theorem jn_hh_len1 (ws : List Nat) (h : ∀ w ∈ ws, w < 65536) (hne : ws ≠ []) : (jn 58 (ws.map hh)).length + 1 ≤ ws.length * 5 := by
  have : ∀ (l : List Nat) (w : Nat), (∀ x ∈ w :: l, x < 65536) → (jn 58 ((w :: l).map hh)).length + 1 ≤ (w :: l).length * 5 := by
    intro l
    induction l with
    | nil => intro w hw; have : (hh w).length ≤ 4 := hexL_len w (hw w (by simp)); simp [jn]; omega
    | cons v l ih =>
      intro w hw
      have h1 : (hh w).length ≤ 4 := hexL_len w (hw w (by simp))
      have h2 := ih v (fun x hx => hw x (List.mem_cons_of_mem _ hx))
      have e : jn 58 ((w :: v :: l).map hh) = hh w ++ 58 :: jn 58 ((v :: l).map hh) := rfl
      rw [e, List.length_append, List.length_cons, List.length_cons]
      simp only [List.length_cons] at h2 ⊢
      omega
  cases ws with
  | nil => exact absurd rfl hne
  | cons w l => exact this l w h
theorem ws8 {s : ByteArray} (hs : s.size = 16) : (wl (ds s)).length = 8 := wl_len 8 _ (by rw [ds_len]; omega)
/-- The text of sixteen bytes: with no gap, or with one. -/
theorem text16 (k : Nat) (hK : 2097152 ≤ k) (s : ByteArray) (hs : s.size = 16) : ∃ t : List UInt8, f11 k s = some (mk8 t, 0) ∧ f12 k s = some (mk8 t, 0) ∧
    (t = jn 58 ((wl (ds s)).map hh) ∨ ∃ F N, 2 ≤ N ∧ F + N ≤ 8 ∧ (∀ w ∈ ((wl (ds s)).drop F).take N, w = 0) ∧ t = gt (wl (ds s)) F N) := by
  have hl := ws8 hs
  have hlt := wl_lt (ds s)
  have n1 : ¬ (s.size : Int) > 65536 := by omega
  have n4 : ¬ (s.size : Int) = 4 := by omega
  have n16 : (s.size : Int) = 16 := by omega
  have h27 : f27 k s = some true := by simp only [f27, f27.step, ff n4, tb n16]; rfl
  have h15 : f11.l15 k k s (((List.length (List.replicate 8 (0 : Int))) : Nat) : Int) 0 (List.replicate 8 0) = some (wi (wl (ds s))) := by
    have := l15_loop k s (((List.length (List.replicate 8 (0 : Int))) : Nat) : Int) (by simp) hs (wl (ds s)) 0 k [] rfl (by omega) (by omega) rfl
    rw [hl] at this
    exact this
  have hwl : (wi (wl (ds s))).length = 8 := by simp [wi, hl]
  have hsp : f12 k s = (f32 k s).bind fun t2 => some (t2, 0) := by
    have c1 : (s.size : Int) ≠ 4 := n4
    have c2 : ¬ (s.size : Int) ≠ 16 := fun h => h n16
    simp only [f12, f12.step, tb c1, ff c2, if_true, Bool.false_eq_true, if_false]
  rcases gap_eq k hK s hs with ⟨a, b, g1, g2, g3⟩ | ⟨F, N, g1, g3, g4, g5, g6⟩
  · refine ⟨jn 58 ((wl (ds s)).map hh), ?_, ?_, Or.inl rfl⟩
    · have h31 := f31_eq k hK (wl (ds s)) (by omega) hlt
      simp only [f11, f11.step, tooLong_eq k hK, ff n1, h27, ff n4, h15, g1, tb g2, h31, Option.bind_some, if_true, Bool.false_eq_true, if_false, Bool.not_true]
    · obtain ⟨j, hj⟩ : ∃ j, k = (j + 1) + (wl (ds s)).length := ⟨k - 1 - 8, by omega⟩
      have e1 := st_seg k hK hs 8 0 (by omega) (by omega) (wl (ds s)) [] 0 (j + 1) [] (by simp) (Or.inl rfl) (by omega) (fun x a b => by omega) (fun x a b => by omega) (by simp)
      rw [← hj, hl, Nat.zero_add, st_end k hK hs 8 0 (by omega) (by omega), List.nil_append] at e1
      have e1' : f32.l6 k k s 8 0 (⟨#[]⟩ : ByteArray) 0 = some (mk8 (jn 58 ((wl (ds s)).map hh))) := e1
      have h32 : f32 k s = some (mk8 (jn 58 ((wl (ds s)).map hh))) := by
        simp only [f32, f32.step, ff n4, Bool.false_eq_true, if_false, g3, Option.bind_some, e1']
      rw [hsp, h32]; rfl
  · refine ⟨gt (wl (ds s)) F N, ?_, ?_, Or.inr ⟨F, N, g4, g5, g6, rfl⟩⟩
    · have c2 : ¬ (N : Int) < 2 := by omega
      have c3 : (0 : Int) ≤ (F : Int) := by omega
      have c4 : (F : Int) ≤ ((wi (wl (ds s))).length : Int) := by omega
      have eW : IntKind.i64.wrap ((F : Int) + (N : Int)) = ((F + N : Nat) : Int) := by rw [w64 (by omega) (by omega)]; omega
      have c5 : (0 : Int) ≤ ((F + N : Nat) : Int) := by omega
      have c6 : ((F + N : Nat) : Int) ≤ ((wi (wl (ds s))).length : Int) := by omega
      have t1 : List.take (Int.toNat (F : Int) - 0) (List.drop 0 (wi (wl (ds s)))) = wi ((wl (ds s)).take F) := by
        rw [List.drop_zero, Int.toNat_natCast, Nat.sub_zero, wi, wi, List.map_take]
      have t2 : List.take (Int.toNat ((wi (wl (ds s))).length : Int) - Int.toNat ((F + N : Nat) : Int)) (List.drop (Int.toNat ((F + N : Nat) : Int)) (wi (wl (ds s)))) = wi ((wl (ds s)).drop (F + N)) := by
        rw [Int.toNat_natCast, Int.toNat_natCast, List.take_of_length_le (by rw [List.length_drop]; omega), wi, wi, List.map_drop]
      have l1 : ((wl (ds s)).take F).length ≤ 8 := by rw [List.length_take]; omega
      have l2 : ((wl (ds s)).drop (F + N)).length ≤ 8 := by rw [List.length_drop]; omega
      have m1 : ∀ w ∈ (wl (ds s)).take F, w < 65536 := fun w hw => hlt w (List.mem_of_mem_take hw)
      have m2 : ∀ w ∈ (wl (ds s)).drop (F + N), w < 65536 := fun w hw => hlt w (List.mem_of_mem_drop hw)
      have j1 := jn_hh_len _ m1
      have j2 := jn_hh_len _ m2
      have dot : (⟨#[58, 58]⟩ : ByteArray) = mk8 [58, 58] := rfl
      have z1 : ByteArray.size (mk8 (jn 58 (((wl (ds s)).take F).map hh))) + ByteArray.size (mk8 [58, 58]) ≤ maxN := by rw [mk8_size, mk8_size]; simp only [maxN, List.length_cons, List.length_nil]; omega
      have z2 : ByteArray.size (mk8 (jn 58 (((wl (ds s)).take F).map hh) ++ [58, 58])) + ByteArray.size (mk8 (jn 58 (((wl (ds s)).drop (F + N)).map hh))) ≤ maxN := by rw [mk8_size, mk8_size]; simp only [maxN, List.length_append, List.length_cons, List.length_nil]; omega
      simp only [f11, f11.step, tooLong_eq k hK, ff n1, h27, ff n4, h15, g1, ff c2, c3, c4, eW, c5, c6, t1, t2, f31_eq k hK _ l1 m1, f31_eq k hK _ l2 m2, dot, mk8_append, z1, z2, Int.le_refl, Option.bind_some, if_true, Bool.false_eq_true, if_false, Bool.not_true]
      unfold gt
      simp
    · have l1 : ((wl (ds s)).take F).length = F := by rw [List.length_take]; omega
      have l2 : ((wl (ds s)).drop (F + N)).length = 8 - (F + N) := by rw [List.length_drop, hl]
      have m1 : ∀ w ∈ (wl (ds s)).take F, w < 65536 := fun w hw => hlt w (List.mem_of_mem_take hw)
      have j1 := jn_hh_len _ m1
      obtain ⟨j, hj⟩ : ∃ j, k = (((j + 1) + (8 - (F + N))) + 1) + F := ⟨k - 2 - (8 - (F + N)) - F, by omega⟩
      have e1 := st_seg k hK hs F N (by omega) (by omega) ((wl (ds s)).take F) ((wl (ds s)).drop F) 0 (((j + 1) + (8 - (F + N))) + 1) [] (by simp) (Or.inl rfl) (by omega) (fun x a b => by omega) (fun x a b => by omega) (by simp)
      have e2 := st_gap k hK hs F N (by omega) (by omega) ((j + 1) + (8 - (F + N))) (jn 58 (((wl (ds s)).take F).map hh)) (by omega) (by omega) (by omega)
      have e3 := st_seg k hK hs F N (by omega) (by omega) ((wl (ds s)).drop (F + N)) [] (F + N) (j + 1) (jn 58 (((wl (ds s)).take F).map hh) ++ [58, 58]) (by simp) (Or.inr rfl) (by omega) (fun x a b => by omega) (fun x a b => by omega) (by rw [List.length_append]; simp only [List.length_cons, List.length_nil]; omega)
      have e4 := st_end k hK hs F N (by omega) (by omega) j (jn 58 (((wl (ds s)).take F).map hh) ++ [58, 58] ++ jn 58 (((wl (ds s)).drop (F + N)).map hh))
      rw [l1, ← hj, Nat.zero_add, List.nil_append] at e1
      rw [l2, show F + N + (8 - (F + N)) = 8 from by omega, e4] at e3
      rw [e2, e3] at e1
      have e1' : f32.l6 k k s (F : Int) (N : Int) (⟨#[]⟩ : ByteArray) 0 = some (mk8 (jn 58 (((wl (ds s)).take F).map hh) ++ [58, 58] ++ jn 58 (((wl (ds s)).drop (F + N)).map hh))) := e1
      have h32 : f32 k s = some (mk8 (gt (wl (ds s)) F N)) := by
        simp only [f32, f32.step, ff n4, Bool.false_eq_true, if_false, g3, Option.bind_some, e1']
        unfold gt; simp
      rw [hsp, h32]; rfl
/-! ### the text is read back -/
theorem jn_mem (c d : UInt8) (hcd : c ≠ d) : ∀ ls : List (List UInt8), (∀ x ∈ ls, ∀ b ∈ x, b ≠ d) → ∀ b ∈ jn c ls, b ≠ d
  | [], h, b, hb => by cases hb
  | [x], h, b, hb => h x (by simp) b hb
  | x :: y :: r, h, b, hb => by
    rw [jn, List.mem_append, List.mem_cons] at hb
    rcases hb with hb | hb | hb
    · exact h x (by simp) b hb
    · subst hb; exact hcd
    · exact jn_mem c d hcd (y :: r) (fun z hz => h z (List.mem_cons_of_mem _ hz)) b hb
theorem no_four (k : Nat) (t : List UInt8) (ht : t.length ≤ 60) (h : ∀ b ∈ t, b ≠ 46) : f16 k (mk8 t) = some ((⟨#[]⟩ : ByteArray), false) := by
  have hp : pcs 46 (mk8 t) = [mk8 t] := by
    apply map_ds_inj
    rw [pcs_ds]
    exact sp_one 46 t h
  have e2 := impl_cut k (mk8 t) 46 (by rw [mk8_size]; omega)
  rw [hp] at e2
  have c : (([mk8 t].length : Nat) : Int) ≠ 4 := by show ((1 : Nat) : Int) ≠ 4; decide
  simp only [f16, f16.step, e2, Option.bind_some, tb c, if_true]
def shf (n : Nat) (v : Int) : Int := if v = -1 then -1 else v + n
theorem ix_cons (b : UInt8) (l : List UInt8) (h : ([58, 58] : List UInt8).isPrefixOf (b :: l) = false) : Lib.index (b :: l) [58, 58] = shf 1 (Lib.index l [58, 58]) := by
  rw [Lib.index, h]
  unfold shf
  by_cases c : Lib.index l [58, 58] = -1
  · rw [if_pos c, if_neg (by simp), if_pos (beq_iff_eq.2 c)]
  · rw [if_neg c, if_neg (by simp), if_neg (fun e => c (beq_iff_eq.1 e))]; rfl
theorem shf_shf (n m : Nat) (v : Int) (hv : -1 ≤ v) : shf n (shf m v) = shf (n + m) v := by
  unfold shf
  by_cases c : v = -1
  · simp [c]
  · rw [if_neg c, if_neg (by omega), if_neg c]; omega
theorem ix_app (t : List UInt8) : ∀ x : List UInt8, (∀ b ∈ x, b ≠ 58) → Lib.index (x ++ t) [58, 58] = shf x.length (Lib.index t [58, 58])
  | [], h => by
    have := Lib.index_ge t [58, 58]
    unfold shf; simp
  | b :: x, h => by
    have hb := h b (by simp)
    have ih := ix_app t x (fun z hz => h z (List.mem_cons_of_mem _ hz))
    rw [List.cons_append, ix_cons b _ (by simp [List.isPrefixOf, Ne.symm hb]), ih, shf_shf _ _ _ (Lib.index_ge _ _), List.length_cons, Nat.add_comm]
theorem ix_jn (t : List UInt8) : ∀ ls : List (List UInt8), (∀ x ∈ ls, x ≠ [] ∧ ∀ b ∈ x, b ≠ 58) → Lib.index (jn 58 ls ++ t) [58, 58] = shf (jn 58 ls).length (Lib.index t [58, 58])
  | [], h => ix_app t [] (fun b hb => by cases hb)
  | [x], h => ix_app t x (h x (by simp)).2
  | x :: y :: r, h => by
    have ih := ix_jn t (y :: r) (fun z hz => h z (List.mem_cons_of_mem _ hz))
    have hy : ∃ b l, jn 58 (y :: r) = b :: l ∧ b ≠ 58 := by
      obtain ⟨hne, hb⟩ := h y (by simp)
      cases y with
      | nil => exact absurd rfl hne
      | cons b y' =>
        cases r with
        | nil => exact ⟨b, y', rfl, hb b (by simp)⟩
        | cons z r => exact ⟨b, _, rfl, hb b (by simp)⟩
    obtain ⟨b, l, e, hb⟩ := hy
    rw [jn, List.append_assoc, ix_app _ x (h x (by simp)).2, List.cons_append, ix_cons 58 _ (by rw [e]; simp [List.isPrefixOf, Ne.symm hb]), ih, shf_shf _ _ _ (Lib.index_ge _ _), shf_shf _ _ _ (Lib.index_ge _ _), List.length_append, List.length_cons]
    congr 1; omega
theorem hh_ok (ws : List Nat) : ∀ x ∈ ws.map hh, x ≠ [] ∧ ∀ b ∈ x, b ≠ 58 := fun x hx => by
  obtain ⟨w, _, rfl⟩ := List.mem_map.1 hx
  exact ⟨hexL_ne w, fun b hb => (hexL_mem w b hb).1⟩
theorem hh_46 (ws : List Nat) : ∀ x ∈ ws.map hh, ∀ b ∈ x, b ≠ (46 : UInt8) := fun x hx b hb => by
  obtain ⟨w, _, rfl⟩ := List.mem_map.1 hx
  exact (hexL_mem w b hb).2
theorem f37_of (k : Nat) (hK : 2097152 ≤ k) (s : ByteArray) (hs : s.size ≤ 100) {x : List Int} (h : wds s = some x) : f37 k s = some (.inl (x, true)) := by
  rcases wds_eq k hK s hs with ⟨y, h1, _, _, h4⟩ | ⟨h1, _⟩
  · rw [h] at h1; cases h1; exact h4
  · rw [h] at h1; cases h1
theorem f7_six (k : Nat) (hK : 2097152 ≤ k) (t : List UInt8) (ht : t.length ≤ 60) (h46 : ∀ b ∈ t, b ≠ 46) {a : ByteArray} (h : f17 k (mk8 t) = some (a, true)) : f7 k (mk8 t) = some (a, 0) := by
  have n1 : ¬ ((mk8 t).size : Int) > 65536 := by rw [mk8_size]; omega
  have n2 : ¬ ((mk8 t).size : Int) > 60 := by rw [mk8_size]; omega
  simp only [f7, f7.step, tooLong_eq k hK, ff n1, ff n2, no_four k t ht h46, h, Option.bind_some, if_true, Bool.false_eq_true, if_false]
theorem two_len (ws : List Nat) : (ws.flatMap two).length = 2 * ws.length := by
  induction ws with
  | nil => rfl
  | cons w l ih => rw [List.flatMap_cons, List.length_append, ih, List.length_cons]; simp [two]; omega
theorem two_zero : ∀ ws : List Nat, (∀ w ∈ ws, w = 0) → ws.flatMap two = List.replicate (2 * ws.length) 0
  | [], h => rfl
  | w :: l, h => by
    have hw := h w (by simp)
    subst hw
    rw [List.flatMap_cons, two_zero l (fun x hx => h x (List.mem_cons_of_mem _ hx)), List.length_cons, show 2 * (l.length + 1) = 2 * l.length + 1 + 1 from by omega, List.replicate_succ, List.replicate_succ]
    rfl
theorem read16a (k : Nat) (hK : 2097152 ≤ k) (s : ByteArray) (hs : s.size = 16) : f7 k (mk8 (jn 58 ((wl (ds s)).map hh))) = some (s, 0) := by
  have hl := ws8 hs
  have hlt := wl_lt (ds s)
  have hlen := jn_hh_len _ hlt
  rw [hl] at hlen
  apply f7_six k hK _ (by omega) (jn_mem 58 46 (by decide) _ (hh_46 _))
  have hix := ix_jn [] ((wl (ds s)).map hh) (hh_ok _)
  rw [List.append_nil] at hix
  have hix' : Lib.index (jn 58 ((wl (ds s)).map hh)) [58, 58] = -1 := hix.trans rfl
  have hcut : f19 k (mk8 (jn 58 ((wl (ds s)).map hh))) (⟨#[58, 58]⟩ : ByteArray) = some (mk8 (jn 58 ((wl (ds s)).map hh)), (⟨#[]⟩ : ByteArray), false) := by
    unfold f19
    have hc : Lib.cut (mk8 (jn 58 ((wl (ds s)).map hh))).data.toList (⟨#[58, 58]⟩ : ByteArray).data.toList = (jn 58 ((wl (ds s)).map hh), [], false) := by
      show Lib.cut (jn 58 ((wl (ds s)).map hh)) [58, 58] = _
      unfold Lib.cut; rw [hix', if_neg (by omega)]
    rw [hc, if_pos (by rw [mk8_size]; omega)]; rfl
  have hw := wds_jn (wl (ds s)) hlt
  have h37 := f37_of k hK (mk8 (jn 58 ((wl (ds s)).map hh))) (by rw [mk8_size]; omega) hw
  have e2 : (wl (ds s)).flatMap two = (ds s).map fun b => (b.toNat : Int) := wl_two 8 (ds s) (by rw [ds_len]; omega)
  have e3 : strOf ((wl (ds s)).flatMap two) = s := by rw [e2, strOf_nat]; exact ds_inj rfl
  have e4 : ((((wl (ds s)).flatMap two).length : Nat) : Int) = 16 := by rw [two_len, hl]; rfl
  simp only [f17, f17.step, hcut, h37, Option.bind_some, Sum.elim_inl, Bool.not_true, Bool.not_false, if_true, Bool.false_eq_true, if_false, e3, tb e4]
theorem read16b (k : Nat) (hK : 2097152 ≤ k) (s : ByteArray) (hs : s.size = 16) (F N : Nat) (h2 : 2 ≤ N) (h8 : F + N ≤ 8) (hz : ∀ w ∈ ((wl (ds s)).drop F).take N, w = 0) : f7 k (mk8 (gt (wl (ds s)) F N)) = some (s, 0) := by
  have hl := ws8 hs
  have hlt := wl_lt (ds s)
  have m1 : ∀ w ∈ (wl (ds s)).take F, w < 65536 := fun w hw => hlt w (List.mem_of_mem_take hw)
  have m2 : ∀ w ∈ (wl (ds s)).drop (F + N), w < 65536 := fun w hw => hlt w (List.mem_of_mem_drop hw)
  have l1 : ((wl (ds s)).take F).length = F := by rw [List.length_take]; omega
  have l2 : ((wl (ds s)).drop (F + N)).length = 8 - (F + N) := by rw [List.length_drop, hl]
  have j1 := jn_hh_len _ m1
  have j2 := jn_hh_len _ m2
  have hgl : (gt (wl (ds s)) F N).length = (jn 58 (((wl (ds s)).take F).map hh)).length + 2 + (jn 58 (((wl (ds s)).drop (F + N)).map hh)).length := by
    unfold gt; rw [List.length_append]; simp only [List.length_cons]; omega
  apply f7_six k hK _ (by omega) (fun b hb => by
    unfold gt at hb
    rw [List.mem_append, List.mem_cons, List.mem_cons] at hb
    rcases hb with hb | hb | hb | hb
    · exact jn_mem 58 46 (by decide) _ (hh_46 _) b hb
    · subst hb; decide
    · subst hb; decide
    · exact jn_mem 58 46 (by decide) _ (hh_46 _) b hb)
  have h0 : Lib.index (58 :: 58 :: jn 58 (((wl (ds s)).drop (F + N)).map hh)) [58, 58] = 0 := by rw [Lib.index]; simp [List.isPrefixOf]
  have hix : Lib.index (gt (wl (ds s)) F N) [58, 58] = ((jn 58 (((wl (ds s)).take F).map hh)).length : Int) := by
    unfold gt
    rw [ix_jn _ _ (hh_ok _), h0]
    unfold shf; rw [if_neg (by omega)]; omega
  have hcut : f19 k (mk8 (gt (wl (ds s)) F N)) (⟨#[58, 58]⟩ : ByteArray) = some (mk8 (jn 58 (((wl (ds s)).take F).map hh)), mk8 (jn 58 (((wl (ds s)).drop (F + N)).map hh)), true) := by
    unfold f19
    have hc : Lib.cut (mk8 (gt (wl (ds s)) F N)).data.toList (⟨#[58, 58]⟩ : ByteArray).data.toList = (jn 58 (((wl (ds s)).take F).map hh), jn 58 (((wl (ds s)).drop (F + N)).map hh), true) := by
      show Lib.cut (gt (wl (ds s)) F N) [58, 58] = _
      unfold Lib.cut
      rw [hix, if_pos (by omega), Int.toNat_natCast]
      unfold gt
      rw [List.take_left, show (jn 58 (((wl (ds s)).take F).map hh)).length + ([58, 58] : List UInt8).length = (jn 58 (((wl (ds s)).take F).map hh)).length + 2 from rfl, ← List.drop_drop, List.drop_left]
      rfl
    rw [hc, if_pos (by rw [mk8_size]; omega)]; rfl
  have h37a := f37_of k hK (mk8 (jn 58 (((wl (ds s)).take F).map hh))) (by rw [mk8_size]; omega) (wds_jn _ m1)
  have h37b := f37_of k hK (mk8 (jn 58 (((wl (ds s)).drop (F + N)).map hh))) (by rw [mk8_size]; omega) (wds_jn _ m2)
  have xl : (((wl (ds s)).take F).flatMap two).length = 2 * F := by rw [two_len, l1]
  have yl : (((wl (ds s)).drop (F + N)).flatMap two).length = 2 * (8 - (F + N)) := by rw [two_len, l2]
  have hall : ((wl (ds s)).take F).flatMap two ++ List.replicate (16 - (((wl (ds s)).take F).flatMap two).length - (((wl (ds s)).drop (F + N)).flatMap two).length) 0 ++ ((wl (ds s)).drop (F + N)).flatMap two = (wl (ds s)).flatMap two := by
    have hz2 := two_zero _ hz
    have hmid : (((wl (ds s)).drop F).take N).length = N := by rw [List.length_take, List.length_drop]; omega
    rw [hmid] at hz2
    rw [xl, yl, show 16 - 2 * F - 2 * (8 - (F + N)) = 2 * N from by omega, ← hz2, ← List.flatMap_append, ← List.flatMap_append]
    congr 1
    rw [← List.drop_drop, List.append_assoc, List.take_append_drop, List.take_append_drop]
  generalize ((wl (ds s)).take F).flatMap two = x at h37a xl hall
  generalize ((wl (ds s)).drop (F + N)).flatMap two = y at h37b yl hall
  have c14 : x.length + y.length ≤ 14 := by omega
  have e1 : IntKind.i64.wrap ((x.length : Int) + (y.length : Int)) = (x.length : Int) + (y.length : Int) := w64 (by omega) (by omega)
  have e2 : IntKind.i64.wrap (16 - (y.length : Int)) = 16 - (y.length : Int) := w64 (by omega) (by omega)
  have g1 : ¬ (x.length : Int) + (y.length : Int) > 14 := by omega
  have hlen : (copyL (List.replicate 16 (0 : Int)) 0 (List.length (List.replicate 16 (0 : Int))) x).length = 16 := by rw [copyL_len _ _ _ _ (by simp)]; simp
  have g2 : (0 : Int) ≤ 16 - (y.length : Int) := by omega
  have g3 : 16 - (y.length : Int) ≤ ((16 : Nat) : Int) := by omega
  have g4 : Int.toNat (16 - (y.length : Int)) = 16 - y.length := by omega
  simp only [f17, f17.step, hcut, Option.bind_some, Sum.elim_inl, h37a, h37b, Bool.not_true, Bool.false_eq_true, if_false, if_true, e1, e2]
  rw [if_neg (fb g1), if_pos g2, hlen, if_pos g3, if_pos (Int.le_refl _), g4, Int.toNat_natCast, List.length_replicate, copy_six x y c14, hall, wl_two 8 (ds s) (by rw [ds_len]; omega), strOf_nat]
  rfl
/-! ### texts as bytes -/
def Bytes (l : List Int) : Prop := ∀ x ∈ l, 0 ≤ x ∧ x ≤ 255
theorem strOf_bytesOf (s : ByteArray) : strOf (bytesOf s) = s := by
  rcases s with ⟨⟨l⟩⟩
  show ByteArray.mk (List.map (fun n : Int => UInt8.ofNat n.toNat) (List.map (fun b : UInt8 => (b.toNat : Int)) l)).toArray = _
  rw [List.map_map, show ((fun n : Int => UInt8.ofNat n.toNat) ∘ fun b : UInt8 => (b.toNat : Int)) = id from funext fun b => by simp, List.map_id]
theorem bytesOf_length (s : ByteArray) : (bytesOf s).length = s.size := by simp [bytesOf]
theorem bytesOf_bytes (s : ByteArray) : Bytes (bytesOf s) := fun x hx => by
  obtain ⟨b, _, rfl⟩ := List.mem_map.mp hx
  have := b.toNat_lt; omega
theorem bytesOf_strOf {xs : List Int} (h : Bytes xs) : bytesOf (strOf xs) = xs := by
  simp only [bytesOf, strOf, List.map_map]
  rw [List.map_congr_left (g := id) fun x hx => ?_, List.map_id]
  have := h x hx
  simp [UInt8.toNat_ofNat]; omega
theorem wu8 (x : Int) : 0 ≤ IntKind.u8.wrap x ∧ IntKind.u8.wrap x ≤ 255 := by rw [IntKind.wrap_u8]; omega
theorem wu8_eq {x : Int} (h : 0 ≤ x ∧ x ≤ 255) : IntKind.u8.wrap x = x := by rw [IntKind.wrap_u8]; omega
theorem Bytes.append {a b : List Int} (ha : Bytes a) (hb : Bytes b) : Bytes (a ++ b) := fun x hx => (List.mem_append.mp hx).elim (ha x) (hb x)
theorem Bytes.snoc {a : List Int} (ha : Bytes a) {x : Int} (hx : 0 ≤ x ∧ x ≤ 255) : Bytes (a ++ [x]) := ha.append fun y hy => by simp at hy; omega
theorem Bytes.cons {a : List Int} (ha : Bytes a) {x : Int} (hx : 0 ≤ x ∧ x ≤ 255) : Bytes (x :: a) := fun y hy => by
  rcases List.mem_cons.mp hy with rfl | h
  · exact hx
  · exact ha y h
theorem Bytes.set {a : List Int} (ha : Bytes a) (i : Nat) {x : Int} (hx : 0 ≤ x ∧ x ≤ 255) : Bytes (a.set i x) := fun y hy => by
  rcases List.mem_or_eq_of_mem_set hy with h | rfl
  · exact ha y h
  · exact hx
theorem getD_byte {l : List Int} (h : Bytes l) (i : Nat) : 0 ≤ l.getD i 0 ∧ l.getD i 0 ≤ 255 := by
  rw [List.getD_eq_getElem?_getD]
  cases e : l[i]? with
  | none => simp
  | some x => exact h x (List.mem_of_getElem? e)
/-! ### what is drawn -/
/-- A source's state: it has been asked at most n times. -/
structure GS (xs : List Int) (a s : Int) (n : Nat) : Prop where
  len : xs.length ≤ 1048576
  b : Bytes xs
  a0 : 0 ≤ a
  a1 : a ≤ n
  s0 : 0 ≤ s
  s1 : s < 2147483648
theorem GS.to {xs : List Int} {a s : Int} {n n' : Nat} (h : GS xs a s n) (hn : n ≤ n') : GS xs a s n' := ⟨h.len, h.b, h.a0, by have := h.a1; omega, h.s0, h.s1⟩
theorem byte_ok (k : Nat) {xs : List Int} {a s : Int} {n : Nat} (h : GS xs a s n) (hn : n ≤ 100000) : ∃ v a' s', f67 k xs a s = some (v, xs, a', s') ∧ (0 ≤ v ∧ v ≤ 255) ∧ GS xs a' s' (n + 1) := by
  obtain ⟨h0, h1, h2, h3, h4, h5⟩ := h
  have e1 : IntKind.i64.wrap (a + 1) = a + 1 := w64 (by omega) (by omega)
  simp only [f67, f67.step, e1]
  by_cases c : a + 1 ≤ (xs.length : Int)
  · have e2 : IntKind.i64.wrap (a + 1 - 1) = a := by rw [w64 (by omega) (by omega)]; omega
    have hb := getD_byte h1 a.toNat
    rw [if_pos (tb c), e2, if_pos (by omega), if_pos (by omega), if_pos (by omega), if_pos (by omega)]
    refine ⟨_, _, _, rfl, ?_, h0, h1, by omega, by omega, ?_, ?_⟩
    · rw [w64 (by omega) (by omega)]; exact hb
    · rw [w64 (n := xs.getD a.toNat 0) (by omega) (by omega), w64 (n := s * 31) (by omega) (by omega), w64 (n := s * 31 + _) (by omega) (by omega), w64 (by omega) (by omega), Int.tmod_eq_emod_of_nonneg (by omega)]
      omega
    · rw [w64 (n := xs.getD a.toNat 0) (by omega) (by omega), w64 (n := s * 31) (by omega) (by omega), w64 (n := s * 31 + _) (by omega) (by omega), w64 (by omega) (by omega), Int.tmod_eq_emod_of_nonneg (by omega)]
      omega
  · rw [if_neg (fb c)]
    by_cases c2 : a + 1 > 3000
    · rw [if_pos (tb c2)]
      exact ⟨_, _, _, rfl, by omega, h0, h1, by omega, by omega, h4, h5⟩
    · rw [if_neg (fb c2)]
      have e3 : IntKind.i64.wrap (s * 1103515245) = s * 1103515245 := w64 (by omega) (by omega)
      have e4 : IntKind.i64.wrap (s * 1103515245 + 12345) = s * 1103515245 + 12345 := w64 (by omega) (by omega)
      have e5 : Int.tmod (s * 1103515245 + 12345) 2147483648 = (s * 1103515245 + 12345) % 2147483648 := Int.tmod_eq_emod_of_nonneg (by omega)
      rw [e3, e4, e5]
      have h6 : 0 ≤ (s * 1103515245 + 12345) % 2147483648 ∧ (s * 1103515245 + 12345) % 2147483648 < 2147483648 := by omega
      generalize (s * 1103515245 + 12345) % 2147483648 = z at h6
      have e6 : Int.tdiv z 65536 = z / 65536 := Int.tdiv_eq_ediv_of_nonneg h6.1
      rw [e6, w64 (by omega) (by omega), Int.tmod_eq_emod_of_nonneg (by omega)]
      exact ⟨_, _, _, rfl, by omega, h0, h1, by omega, by omega, h6.1, h6.2⟩
theorem next_ok (k : Nat) {xs : List Int} {a s : Int} {n : Nat} (h : GS xs a s n) (hn : n ≤ 90000) {N : Int} (h1 : 1 ≤ N) (h2 : N ≤ 65536) : ∃ v a' s', f55 k xs a s N = some (v, xs, a', s') ∧ (0 ≤ v ∧ v < N) ∧ GS xs a' s' (n + 3) := by
  simp only [f55, f55.step]
  by_cases c : N ≤ 1
  · rw [if_pos (tb c)]
    exact ⟨_, _, _, rfl, by omega, h.to (by omega)⟩
  · rw [if_neg (fb c)]
    by_cases c2 : N ≤ 256
    · obtain ⟨v, a', s', e, hv, g⟩ := byte_ok k h (by omega)
      rw [if_pos (tb c2), e]
      simp only [Option.bind_some]
      rw [if_pos (by omega), Int.tmod_eq_emod_of_nonneg hv.1]
      exact ⟨_, _, _, rfl, ⟨Int.emod_nonneg _ (by omega), Int.emod_lt_of_pos _ (by omega)⟩, g.to (by omega)⟩
    · obtain ⟨v1, a1, s1, e1, hv1, g1⟩ := byte_ok k h (by omega)
      obtain ⟨v2, a2, s2, e2, hv2, g2⟩ := byte_ok k g1 (by omega)
      obtain ⟨v3, a3, s3, e3, hv3, g3⟩ := byte_ok k g2 (by omega)
      rw [if_neg (fb c2), e1]
      simp only [Option.bind_some, e2, e3]
      rw [if_pos (by omega), w64 (n := v1 * 65536) (by omega) (by omega), w64 (n := v2 * 256) (by omega) (by omega), w64 (n := v1 * 65536 + v2 * 256) (by omega) (by omega), w64 (by omega) (by omega), Int.tmod_eq_emod_of_nonneg (by omega)]
      exact ⟨_, _, _, rfl, ⟨Int.emod_nonneg _ (by omega), Int.emod_lt_of_pos _ (by omega)⟩, g3⟩
theorem six_loop (k : Nat) : ∀ (d j n : Nat) (i : Int) (xs : List Int) (a s : Int) (out : List Int), i ≤ d → 0 ≤ i → d < j → GS xs a s n → n + 6 * d ≤ 80000 → out.length = 16 → ∃ a' s' out', f45.l5 k j i xs a s out = some (xs, a', s', out') ∧ GS xs a' s' (n + 6 * d) ∧ out'.length = 16 := by
  intro d
  induction d with
  | zero =>
    intro j n i xs a s out hi h0 hj g hn ho
    obtain ⟨j, rfl⟩ : ∃ j', j = j' + 1 := ⟨j - 1, by omega⟩
    simp only [f45.l5, f45.l5.step]
    rw [if_neg (fb (by omega))]
    exact ⟨_, _, _, rfl, g.to (by omega), ho⟩
  | succ d ih =>
    intro j n i xs a s out hi h0 hj g hn ho
    obtain ⟨j, rfl⟩ : ∃ j', j = j' + 1 := ⟨j - 1, by omega⟩
    simp only [f45.l5, f45.l5.step]
    by_cases c : i > 0
    · obtain ⟨v1, a1, s1, e1, hv1, g1⟩ := next_ok k g (by omega) (N := 16) (by omega) (by omega)
      obtain ⟨v2, a2, s2, e2, hv2, g2⟩ := next_ok k g1 (by omega) (N := 256) (by omega) (by omega)
      rw [if_pos (tb c), e1]
      simp only [Option.bind_some, e2]
      rw [if_pos (by omega), if_pos (by omega), w64 (by omega) (by omega)]
      obtain ⟨a', s', out', e, g', ho'⟩ := ih j (n + 6) (i - 1) xs a2 s2 (out.set v1.toNat (IntKind.u8.wrap v2)) (by omega) (by omega) (by omega) (g2.to (by omega)) (by omega) (by simpa using ho)
      exact ⟨a', s', out', e, g'.to (by omega), ho'⟩
    · rw [if_neg (fb c)]
      exact ⟨_, _, _, rfl, g.to (by omega), ho⟩
theorem addr6_ok {k : Nat} (hK : 2097152 ≤ k) {xs : List Int} {a s : Int} {n : Nat} (g : GS xs a s n) (hn : n ≤ 70000) : ∃ t a' s', f45 k xs a s = some (t, xs, a', s') ∧ GS xs a' s' (n + 30) ∧ t.size = 16 := by
  obtain ⟨v1, a1, s1, e1, hv1, g1⟩ := next_ok k g (by omega) (N := 2) (by omega) (by omega)
  obtain ⟨v2, a2, s2, e2, hv2, g2⟩ := next_ok k g1 (by omega) (N := 4) (by omega) (by omega)
  obtain ⟨a', s', out', e, g', ho⟩ := six_loop k 4 k (n + 6) v2 xs a2 s2 (List.set (List.set (List.replicate 16 0) 0 32) 1 (IntKind.u8.wrap v1)) (by omega) hv2.1 (by omega) g2 (by omega) (by simp)
  simp only [f45, f45.step, e1, Option.bind_some, e2]
  rw [if_pos (by decide), if_pos (by decide), e]
  exact ⟨_, _, _, rfl, g'.to (by omega), by rw [strOf_size, ho]⟩
theorem chance_ok (k : Nat) {xs : List Int} {a s : Int} {n : Nat} (g : GS xs a s n) (hn : n ≤ 70000) {N : Int} (h1 : 1 ≤ N) (h2 : N ≤ 65536) : ∃ t a' s', f43 k xs a s N = some (t, xs, a', s') ∧ GS xs a' s' (n + 3) := by
  obtain ⟨v1, a1, s1, e1, hv1, g1⟩ := next_ok k g (by omega) h1 h2
  simp only [f43, f43.step, e1, Option.bind_some]
  exact ⟨_, _, _, rfl, g1⟩
theorem addr4_ok (k : Nat) {xs : List Int} {a s : Int} {n : Nat} (g : GS xs a s n) (hn : n ≤ 70000) : ∃ t a' s', f44 k xs a s = some (t, xs, a', s') ∧ GS xs a' s' (n + 9) ∧ t.size = 4 := by
  obtain ⟨v1, a1, s1, e1, hv1, g1⟩ := next_ok k g (by omega) (N := 3) (by omega) (by omega)
  obtain ⟨v2, a2, s2, e2, hv2, g2⟩ := next_ok k g1 (by omega) (N := 2) (by omega) (by omega)
  obtain ⟨v3, a3, s3, e3, hv3, g3⟩ := next_ok k g2 (by omega) (N := 4) (by omega) (by omega)
  simp only [f44, f44.step, e1, Option.bind_some, e2, e3]
  exact ⟨_, _, _, rfl, g3, rfl⟩
/-! ### the law -/
theorem text_ok (k : Nat) (hK : 2097152 ≤ k) (s : ByteArray) (hs : s.size = 4 ∨ s.size = 16) : ∃ t : ByteArray, f11 k s = some (t, 0) ∧ f12 k s = some (t, 0) ∧ f7 k t = some (s, 0) ∧ t.size ≤ 39 := by
  rcases hs with hs | hs
  · exact ⟨text4 s, impl4 k hK s hs, spec4 k hK s hs, read4 k hK s hs, by have := text4_size s hs; omega⟩
  · obtain ⟨t, h1, h2, h3⟩ := text16 k hK s hs
    have hl := ws8 hs
    have hlt := wl_lt (ds s)
    rcases h3 with rfl | ⟨F, N, q2, q8, qz, rfl⟩
    · refine ⟨_, h1, h2, read16a k hK s hs, ?_⟩
      have := jn_hh_len1 _ hlt (fun e => by rw [e] at hl; cases hl)
      rw [mk8_size]; omega
    · refine ⟨_, h1, h2, read16b k hK s hs F N q2 q8 qz, ?_⟩
      have j1 := jn_hh_len _ (fun w hw => hlt w (List.mem_of_mem_take hw) : ∀ w ∈ (wl (ds s)).take F, w < 65536)
      have j2 := jn_hh_len _ (fun w hw => hlt w (List.mem_of_mem_drop hw) : ∀ w ∈ (wl (ds s)).drop (F + N), w < 65536)
      rw [List.length_take] at j1
      rw [List.length_drop, hl] at j2
      rw [mk8_size]
      unfold gt
      rw [List.length_append]
      simp only [List.length_cons]
      omega
theorem spec_text (k : Nat) (hK : 2097152 ≤ k) (s : ByteArray) (hs : s.size = 4 ∨ s.size = 16) : ∃ t : ByteArray, f32 k s = some t ∧ t.size ≤ 39 := by
  obtain ⟨t, _, h, _, hl⟩ := text_ok k hK s hs
  have : f12 k s = (f32 k s).bind fun t2 => some (t2, 0) := by
    by_cases c : (s.size : Int) ≠ 4
    · have c2 : ¬ (s.size : Int) ≠ 16 := by omega
      simp only [f12, f12.step, tb c, ff c2, if_true, Bool.false_eq_true, if_false]
    · simp only [f12, f12.step, ff c, Bool.false_eq_true, if_false]
  rw [this] at h
  obtain ⟨u, h1, h2⟩ := Option.bind_eq_some_iff.1 h
  cases h2
  exact ⟨t, h1, hl⟩
theorem addr_ok {k : Nat} (hK : 2097152 ≤ k) {xs : List Int} {a s : Int} {n : Nat} (g : GS xs a s n) (hn : n ≤ 60000) : ∃ t a' s', f26 k xs a s = some (t, xs, a', s') ∧ GS xs a' s' (n + 40) ∧ (t.size = 4 ∨ t.size = 16) := by
  obtain ⟨b, a1, s1, e1, g1⟩ := chance_ok k g (by omega) (N := 2) (by omega) (by omega)
  cases b with
  | true =>
    obtain ⟨t, a2, s2, e2, g2, h⟩ := addr4_ok k g1 (by omega)
    exact ⟨t, a2, s2, by simp only [f26, f26.step, e1, Option.bind_some, if_true, e2], g2.to (by omega), Or.inl h⟩
  | false =>
    obtain ⟨t, a2, s2, e2, g2, h⟩ := addr6_ok hK g1 (by omega)
    exact ⟨t, a2, s2, by simp only [f26, f26.step, e1, Option.bind_some, Bool.false_eq_true, if_false, e2], g2.to (by omega), Or.inr h⟩
theorem src_ok (k : Nat) {xs : List Int} (hl : xs.length ≤ 1048576) (hb : Bytes xs) : ∃ s, f25 k xs = some (xs, 0, s) ∧ GS xs 0 s 0 := by
  refine ⟨Int.tmod (xs.length : Int) 1000, rfl, hl, hb, Int.le_refl _, Int.le_refl _, ?_, ?_⟩
  · rw [Int.tmod_eq_emod_of_nonneg (by omega)]; omega
  · rw [Int.tmod_eq_emod_of_nonneg (by omega)]; omega
def bits9 : List ByteArray := [(⟨#[58]⟩ : ByteArray), (⟨#[58, 58]⟩ : ByteArray), (⟨#[46]⟩ : ByteArray), (⟨#[48]⟩ : ByteArray), (⟨#[102]⟩ : ByteArray), (⟨#[70]⟩ : ByteArray), (⟨#[50, 53, 54]⟩ : ByteArray), (⟨#[103]⟩ : ByteArray), (⟨#[49, 50, 51, 52, 53]⟩ : ByteArray)]
theorem bits9_sz : ∀ i : Fin 9, (List.getD bits9 i.val ByteArray.empty).size ≤ 5 := by decide
theorem pick_ok (k : Nat) {xs : List Int} {a s : Int} {n : Nat} (g : GS xs a s n) (hn : n ≤ 70000) : ∃ t a' s', f56 k xs a s bits9 = some (t, xs, a', s') ∧ GS xs a' s' (n + 3) ∧ t.size ≤ 5 := by
  obtain ⟨v, a1, s1, e1, hv, g1⟩ := next_ok k g (by omega) (N := ((bits9.length : Nat) : Int)) (by decide) (by decide)
  have h9 : ((bits9.length : Nat) : Int) = 9 := rfl
  have c0 : ¬ ((bits9.length : Nat) : Int) = 0 := by omega
  have c1 : (0 : Int) ≤ v := hv.1
  have c2 : v < ((bits9.length : Nat) : Int) := hv.2
  refine ⟨List.getD bits9 v.toNat ByteArray.empty, a1, s1, ?_, g1, bits9_sz ⟨v.toNat, by omega⟩⟩
  simp only [f56, f56.step, ff c0, Bool.false_eq_true, if_false, e1, Option.bind_some, c1, c2, if_true]
theorem any_ok (k : Nat) (hK : 2097152 ≤ k) {xs : List Int} (hl : xs.length ≤ 1048576) (hb : Bytes xs) : ∃ x, f13 k xs = some x := by
  obtain ⟨s0, e0, g0⟩ := src_ok k hl hb
  obtain ⟨a, a1, s1, e1, g1, hsz⟩ := addr_ok hK g0 (by omega)
  obtain ⟨t, e2, ht⟩ := spec_text k hK a hsz
  obtain ⟨b, a3, s3, e3, g3⟩ := chance_ok k g1 (by omega) (N := 2) (by omega) (by omega)
  cases b with
  | false => exact ⟨t, by simp only [f13, f13.step, f33, f33.step, e0, e1, e2, e3, Option.bind_some, Bool.false_eq_true, if_false]⟩
  | true =>
    have hW : IntKind.i64.wrap ((t.size : Int) + 1) = (t.size : Int) + 1 := w64 (by omega) (by omega)
    obtain ⟨v, a4, s4, e4, hv, g4⟩ := next_ok k g3 (by omega) (N := (t.size : Int) + 1) (by omega) (by omega)
    obtain ⟨p, a5, s5, e5, g5, hp⟩ := pick_ok k g4 (by omega)
    obtain ⟨u, a6, s6, e6, hu, g6⟩ := next_ok k g5 (by omega) (N := 3) (by omega) (by omega)
    have e5' : f56 k xs a4 s4 ([(⟨#[58]⟩ : ByteArray), (⟨#[58, 58]⟩ : ByteArray), (⟨#[46]⟩ : ByteArray), (⟨#[48]⟩ : ByteArray), (⟨#[102]⟩ : ByteArray), (⟨#[70]⟩ : ByteArray), (⟨#[50, 53, 54]⟩ : ByteArray), (⟨#[103]⟩ : ByteArray), (⟨#[49, 50, 51, 52, 53]⟩ : ByteArray)] : List ByteArray) = some (p, xs, a5, s5) := e5
    have c1 : (0 : Int) ≤ v := hv.1
    have c2 : v ≤ (t.size : Int) := by omega
    have hW2 : IntKind.i64.wrap (v + u) = v + u := w64 (by omega) (by omega)
    have c3 : (0 : Int) ≤ (if v + u < (t.size : Int) then v + u else (t.size : Int)) := by split <;> omega
    have c4 : (if v + u < (t.size : Int) then v + u else (t.size : Int)) ≤ (t.size : Int) := by split <;> omega
    have z1 : ByteArray.size (ByteArray.extract t 0 (Int.toNat v)) + ByteArray.size p ≤ maxN := by rw [ByteArray.size_extract]; simp only [maxN]; omega
    have z2 : ∀ q : Nat, ByteArray.size ((ByteArray.extract t 0 (Int.toNat v)) ++ p) + ByteArray.size (ByteArray.extract t q (Int.toNat (t.size : Int))) ≤ maxN := fun q => by
      rw [ByteArray.size_append, ByteArray.size_extract, ByteArray.size_extract]; simp only [maxN]; omega
    refine ⟨(t.extract 0 v.toNat ++ p) ++ t.extract (Int.toNat (if v + u < (t.size : Int) then v + u else (t.size : Int))) (Int.toNat (t.size : Int)), ?_⟩
    simp only [f13, f13.step, f33, f33.step, e0, e1, e2, e3, e4, e5', e6, hW, hW2, Option.bind_some, c1, c2, c3, c4, z1, z2, Int.le_refl, if_true]
theorem FnAddrs : Says := by
  intro xs ⟨h0, hb0⟩
  obtain ⟨k, hK⟩ : ∃ k, 2097152 ≤ k := ⟨2097152, Nat.le_refl _⟩
  refine ⟨k, ?_⟩
  simp only [f5, f5.step]
  by_cases c : (xs.length : Int) > 1048576
  · rw [if_pos (tb c)]
  rw [if_neg (fb c)]
  have hb : Bytes xs := fun x hx => by
    have := hb0 x hx
    simp [Lit.wf, IntKind.min, IntKind.max, IntKind.signed, IntKind.bits] at this
    omega
  obtain ⟨s0, e0, g0⟩ := src_ok k (by omega) hb
  obtain ⟨a, a1, s1, e1, g1, hsz⟩ := addr_ok hK g0 (by omega)
  have e10 : f10 k xs = some a := by simp only [f10, f10.step, e0, e1, Option.bind_some]
  obtain ⟨t, i1, i2, i3, i4⟩ := text_ok k hK a hsz
  obtain ⟨x, e13⟩ := any_ok k hK (by omega) hb
  obtain ⟨r, r6, r7⟩ := addr_eq k hK x
  simp only [e10, i1, i2, i3, e13, r6, r7, Option.bind_some, ne_eq, not_true_eq_false, decide_false, Bool.false_eq_true, if_false, if_true]
  by_cases cr : r.2 = 0
  · have cr' : ¬ ¬ r.2 = 0 := fun h => h cr
    rw [if_neg (fb cr')]
    have hr : r.1.size = 4 ∨ r.1.size = 16 := by
      have hx60 : x.size ≤ 60 := by
        by_cases q1 : (x.size : Int) > 65536
        · have : f7 k x = some ((⟨#[]⟩ : ByteArray), 2) := by simp only [f7, f7.step, tooLong_eq k hK, tb q1, Option.bind_some, if_true]
          rw [this] at r7; cases r7; cases cr
        by_cases q2 : (x.size : Int) > 60
        · have : f7 k x = some ((⟨#[]⟩ : ByteArray), 3) := by simp only [f7, f7.step, tooLong_eq k hK, ff q1, tb q2, Option.bind_some, if_true, Bool.false_eq_true, if_false]
          rw [this] at r7; cases r7; cases cr
        omega
      obtain ⟨u, b, u1, u2, u3⟩ := read_eq k hK x (by omega)
      have u3 := u3 hx60
      rw [r7] at u3
      cases b with
      | true => cases u3; exact (got_small k hK (by omega) (u2 rfl)).2
      | false => cases u3; cases cr
    obtain ⟨u, v1, v2, v3, v4⟩ := text_ok k hK r.1 hr
    have v4' : (u.size : Int) ≤ 39 := by omega
    simp only [v1, v3, Option.bind_some, decide_true, if_true, tb v4']
  · rw [if_pos (tb cr)]
end Go.Proofs.YtebmblbfplmcaaaDoor.Pure

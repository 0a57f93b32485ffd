/- The Internet sum in plain Lean: words of bytes, added and folded. -/
import Derived.Test.YtjfpkfophfelmaaAid
namespace Go.Proofs.Ytjfpkfophfelmaa.Aid
open Go.RowKit Go.Proofs.YtjfpkfophfelmaaV.PrintWords Go.Proofs.YtjfpkfophfelmaaV.PrintMore

/-- The sum of 16-bit words; an odd last byte is a word's higher one. -/
def wsum : List Int → Int
  | [] => 0
  | [a] => a * 256
  | a :: b :: t => a * 256 + b + wsum t
/-- What folding a sum comes to. -/
def fold (n : Int) : Int := if n = 0 then 0 else (n - 1) % 65535 + 1
theorem fold_small {n : Int} (h0 : 0 ≤ n) (h1 : n ≤ 65535) : fold n = n := by
  unfold fold
  split <;> omega
theorem fold_step {n : Int} (_ : n > 65535) : fold (n % 65536 + n / 65536) = fold n := by
  unfold fold
  split <;> split <;> omega
theorem fold_range {n : Int} (_ : 0 ≤ n) : 0 ≤ fold n ∧ fold n ≤ 65535 := by
  unfold fold
  split <;> omega
theorem wsum_range (l : List Int) : Bytes l → 0 ≤ wsum l ∧ wsum l ≤ 65535 * ((l.length + 1) / 2 : Nat) := by
  induction l using wsum.induct with
  | case1 => intro _; simp [wsum]
  | case2 a =>
    intro h
    have := h a (by simp)
    simp [wsum]
    omega
  | case3 a b t ih =>
    intro h
    have h1 := h a (by simp)
    have h2 := h b (by simp)
    have h3 := ih (fun x hx => h x (by simp [hx]))
    simp only [wsum, List.length_cons]
    omega
theorem wsum_drop2 (l : List Int) (i : Nat) (h : i + 1 < l.length) : wsum (l.drop i) = rd l i * 256 + rd l ((i + 1 : Nat) : Int) + wsum (l.drop (i + 2)) := by
  rw [List.drop_eq_getElem_cons (by omega), List.drop_eq_getElem_cons (by omega)]
  rw [rd_at l rfl (by omega : i < l.length), rd_at l rfl h]
  rfl
theorem wsum_drop1 (l : List Int) (i : Nat) (h : i + 1 = l.length) : wsum (l.drop i) = rd l i * 256 := by
  rw [List.drop_eq_getElem_cons (by omega), List.drop_eq_nil_of_le (by omega)]
  rw [rd_at l rfl (by omega : i < l.length)]
  rfl
theorem wsum_drop0 (l : List Int) (i : Nat) (h : l.length ≤ i) : wsum (l.drop i) = 0 := by
  rw [List.drop_eq_nil_of_le h]
  rfl
theorem wsum_drop_range {l : List Int} (h : Bytes l) (i : Nat) : 0 ≤ wsum (l.drop i) ∧ wsum (l.drop i) ≤ 65535 * ((l.length + 1) / 2 : Nat) := by
  have := wsum_range _ (h.drop i)
  simp only [List.length_drop] at this
  have h2 : ((l.length - i + 1) / 2 : Nat) ≤ (l.length + 1) / 2 := Nat.div_le_div_right (by omega)
  omega
theorem wsum_drop_nonneg {l : List Int} (h : Bytes l) (i : Nat) : 0 ≤ wsum (l.drop i) := (wsum_drop_range h i).1
/-- The check sum. -/
def csum (l : List Int) : Int := 65535 - fold (wsum l)
theorem csum_range {l : List Int} (h : Bytes l) : 0 ≤ csum l ∧ csum l ≤ 65535 := by
  have := fold_range (wsum_range l h).1
  unfold csum
  omega
end Go.Proofs.Ytjfpkfophfelmaa.Aid

/- Small aids for the plain proofs over printed functions: eventual answers, bytes, wraps. -/
import Derived.Test.YthknoffionodmaaVMore
namespace Go.Proofs.Ythknoffionodmaa.Aid
open Go.RowKit Go.Proofs.YthknoffionodmaaV.PrintWords Go.Proofs.YthknoffionodmaaV.PrintMore

theorem ev_const {α : Type} {o : Option α} {r : α} (h : o = some r) : Ev (fun _ => o) r := ⟨0, fun _ _ => h⟩
theorem ev_succ {α : Type} {g : Nat → Option α} {r : α} (h : Ev (fun k => g (k + 1)) r) : Ev g r := Ev.step (fun _ => rfl) h
theorem ev_pos {α : Type} {c : Prop} [Decidable c] {A B : Nat → Option α} {r : α} (hc : c) (h : Ev A r) : Ev (fun k => if c then A k else B k) r := Ev.congr (fun _ => if_pos hc) h
theorem ev_neg {α : Type} {c : Prop} [Decidable c] {A B : Nat → Option α} {r : α} (hc : ¬ c) (h : Ev B r) : Ev (fun k => if c then A k else B k) r := Ev.congr (fun _ => if_neg hc) h
theorem ev_ite {α : Type} {c : Prop} [Decidable c] {A B : Nat → Option α} {r : α} (h1 : c → Ev A r) (h2 : ¬ c → Ev B r) : Ev (fun k => if c then A k else B k) r := by
  by_cases hc : c
  · exact ev_pos hc (h1 hc)
  · exact ev_neg hc (h2 hc)
theorem ev_some {α β : Type} {a : α} {f : Nat → α → Option β} {r : β} (h : Ev (fun k => f k a) r) : Ev (fun k => (some a).bind (f k)) r := h
theorem ev_bindc {α β : Type} {o : Option α} {a : α} {f : Nat → α → Option β} {r : β} (h0 : o = some a) (h : Ev (fun k => f k a) r) : Ev (fun k => o.bind (f k)) r := by
  subst h0
  exact h
theorem ev_eq {α : Type} {g : Nat → Option α} {r r' : α} (h : Ev g r) (e : r = r') : Ev g r' := e ▸ h

theorem ev_fin {α : Type} {r r' : α} (e : r = r') : Ev (fun _ => some r) r' := e ▸ Ev.now _
theorem wrap64_in {n : Int} (h0 : -9223372036854775808 ≤ n) (h1 : n ≤ 9223372036854775807) : wrap64 n = n := by
  unfold wrap64
  omega
theorem and_65535 {x : Int} (h0 : 0 ≤ x) (h1 : x < 4611686018427387904) : Go.bits .and .i64 x 65535 = x % 65536 :=
  bits_mask .i64 62 (by decide) (fun n h0 h1 => by rw [IntKind.wrap_i64]; omega) 16 (by decide) x h0 h1
theorem i64_small (n : Int) (h0 : 0 ≤ n) (h1 : n < 2 ^ 62) : IntKind.i64.wrap n = n := by
  rw [IntKind.wrap_i64]
  omega
theorem or_8 {x y : Int} (h0 : 0 ≤ x) (h1 : x < 1000000000000) (h2 : x % 256 = 0) (h3 : 0 ≤ y) (h4 : y < 256) : Go.bits .or .i64 x y = x + y :=
  bits_join .i64 62 (by decide) i64_small 8 x y h0 h2 (by omega) h3 h4 (by omega)
theorem or_16 {x y : Int} (h0 : 0 ≤ x) (h1 : x < 1000000000000) (h2 : x % 65536 = 0) (h3 : 0 ≤ y) (h4 : y < 65536) : Go.bits .or .i64 x y = x + y :=
  bits_join .i64 62 (by decide) i64_small 16 x y h0 h2 (by omega) h3 h4 (by omega)
theorem or_24 {x y : Int} (h0 : 0 ≤ x) (h1 : x < 1000000000000) (h2 : x % 16777216 = 0) (h3 : 0 ≤ y) (h4 : y < 16777216) : Go.bits .or .i64 x y = x + y :=
  bits_join .i64 62 (by decide) i64_small 24 x y h0 h2 (by omega) h3 h4 (by omega)
theorem wf_u8 {x : Int} (h : (Lit.int .u8 x).wf = true) : 0 ≤ x ∧ x ≤ 255 := by
  simp [Lit.wf, IntKind.min, IntKind.max, IntKind.bits, IntKind.signed] at h
  omega
theorem wf_i64 {x : Int} (h : (Lit.int .i64 x).wf = true) : -9223372036854775808 ≤ x ∧ x ≤ 9223372036854775807 := by
  simp [Lit.wf, IntKind.min, IntKind.max, IntKind.bits, IntKind.signed] at h
  omega
/-- A list of bytes. -/
def Bytes (l : List Int) : Prop := ∀ x ∈ l, 0 ≤ x ∧ x ≤ 255
theorem Bytes.of_wf {l : List Int} (h : ∀ x ∈ l, (Lit.int .u8 x).wf = true) : Bytes l := fun x hx => wf_u8 (h x hx)
theorem rd_at (l : List Int) {i : Int} {n : Nat} (h0 : i = n) (h : n < l.length) : rd l i = l[n] := by
  subst h0
  simp [rd, List.getD, h]
theorem rd_byte {l : List Int} (h : Bytes l) (i : Int) : 0 ≤ rd l i ∧ rd l i ≤ 255 := by
  unfold rd
  rw [List.getD_eq_getElem?_getD]
  cases e : l[i.toNat]? with
  | none => simp
  | some x => exact h x (List.mem_of_getElem? e)
theorem wrap_rd {l : List Int} (h : Bytes l) (i : Int) : wrap64 (rd l i) = rd l i := wrap64_in (by have := rd_byte h i; omega) (by have := rd_byte h i; omega)
theorem Bytes.append {l m : List Int} (h : Bytes l) (h2 : Bytes m) : Bytes (l ++ m) := fun x hx => by
  rcases List.mem_append.1 hx with h' | h'
  · exact h x h'
  · exact h2 x h'
theorem Bytes.take {l : List Int} (h : Bytes l) (n : Nat) : Bytes (l.take n) := fun x hx => h x (List.mem_of_mem_take hx)
theorem Bytes.drop {l : List Int} (h : Bytes l) (n : Nat) : Bytes (l.drop n) := fun x hx => h x (List.mem_of_mem_drop hx)
theorem Bytes.nil : Bytes [] := fun x hx => by simp at hx
theorem Bytes.cons {a : Int} {l : List Int} (h0 : 0 ≤ a ∧ a ≤ 255) (h : Bytes l) : Bytes (a :: l) := fun x hx => by
  rcases List.mem_cons.1 hx with rfl | h'
  · exact h0
  · exact h x h'
theorem bytesOf_bytes (s : ByteArray) : Bytes (bytesOf s) := fun x hx => by
  unfold bytesOf at hx
  obtain ⟨b, _, rfl⟩ := List.mem_map.1 hx
  have := b.toNat_lt
  omega
/-- What a mark leaves in a row of bytes: numbers from m on. -/
def markL (n : Nat) (m : Int) : List Int := (List.range n).map fun (i : Nat) => (m + (i : Int)) % 256
theorem markL_length (n : Nat) (m : Int) : (markL n m).length = n := by simp [markL]
theorem markL_succ (n : Nat) (m : Int) : markL (n + 1) m = markL n m ++ [(m + (n : Int)) % 256] := by simp [markL, List.range_succ]
theorem markL_rd (n : Nat) (m : Int) (i : Nat) (h : i < n) : rd (markL n m) i = (m + (i : Int)) % 256 := by
  rw [rd_at _ rfl (by rw [markL_length]; exact h)]
  simp [markL]
/-- The value of a hexadecimal digit, or -1. -/
def hexv (c : Int) : Int := if 48 ≤ c ∧ c ≤ 57 then c - 48 else if 97 ≤ c ∧ c ≤ 102 then c - 97 + 10 else if 65 ≤ c ∧ c ≤ 70 then c - 65 + 10 else -1
theorem hexv_range (c : Int) : -1 ≤ hexv c ∧ hexv c ≤ 15 := by
  unfold hexv
  repeat' split
  all_goals omega
end Go.Proofs.Ythknoffionodmaa.Aid

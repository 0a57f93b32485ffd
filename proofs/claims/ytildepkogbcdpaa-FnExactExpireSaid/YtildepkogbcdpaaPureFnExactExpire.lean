/- The plain law of FnExactExpire. -/
import Derived.Test.YtildepkogbcdpaaSaysFnExactExpire
namespace Go.Proofs.Ytildepkogbcdpaa.Pure
open Go Go.B Go.Proofs.Ytildepkogbcdpaa.B Go.Proofs.Ytildepkogbcdpaa.SaysFnExactExpire
set_option linter.unusedVariables false
set_option linter.unusedSimpArgs false
theorem w64 {n : Int} (h0 : -9223372036854775808 ≤ n) (h1 : n ≤ 9223372036854775807) : IntKind.i64.wrap n = n := by
  rw [IntKind.wrap_i64]; omega
theorem tb {c : Prop} [Decidable c] (h : c) : decide c = true := decide_eq_true h
theorem fb {c : Prop} [Decidable c] (h : ¬ c) : ¬ decide c = true := by simpa using h
theorem ff {c : Prop} [Decidable c] (h : ¬ c) : decide c = false := by simpa using h
theorem gm {α : Type} (pre rest : List α) (x d : α) : List.getD (pre ++ x :: rest) (Int.toNat (pre.length : Int)) d = x := by
  simp [List.getD_eq_getElem?_getD]
theorem lt_mid {α : Type} (pre rest : List α) (x : α) : (pre.length : Int) < ((pre ++ x :: rest).length : Int) := by simp; omega
theorem set_mid {α : Type} (pre rest : List α) (x y : α) : List.set (pre ++ x :: rest) (Int.toNat (pre.length : Int)) y = pre ++ y :: rest := by
  simp
theorem set_at {e : TypeId} (pre rest : List (env.T e)) (x y : env.T e) {off : Nat} {cs : List (Cell env.T)} (h : putCells (E := env) e x off cs = some y) : setE env e (pre ++ x :: rest) (Int.toNat (pre.length : Int)) off cs = pre ++ y :: rest := by
  have hg : List.getD (pre ++ x :: rest) (Int.toNat (pre.length : Int)) (env.dflt e) = x := gm pre rest x _
  simp only [setE, hg, h, Option.getD_some, set_mid]
theorem mid_next {α : Type} (pre rest : List α) (x : α) : pre ++ x :: rest = (pre ++ [x]) ++ rest := by simp
/-! ### rows of bytes -/
theorem copyB_loop (k : Nat) (xs : List Int) (hl : xs.length ≤ 1048576) : ∀ (rest pre : List Int) (j : Nat), xs = pre ++ rest → rest.length < j → f30.l3 k j xs (pre.length : Int) (pre ++ List.replicate rest.length 0) = some xs := by
  intro rest
  induction rest with
  | nil =>
    intro pre j hx hj
    obtain ⟨j, rfl⟩ : ∃ j', j = j' + 1 := ⟨j - 1, by omega⟩
    simp only [f30.l3, f30.l3.step]
    have : xs.length = pre.length := by rw [hx]; simp
    rw [if_neg (fb (by omega)), hx]; simp
  | cons x rest ih =>
    intro pre j hx hj
    obtain ⟨j, rfl⟩ : ∃ j', j = j' + 1 := ⟨j - 1, by omega⟩
    have hlt : (pre.length : Int) < (xs.length : Int) := by rw [hx]; exact lt_mid _ _ _
    have hg : xs.getD (Int.toNat (pre.length : Int)) 0 = x := by rw [hx]; exact gm _ _ _ _
    simp only [f30.l3, f30.l3.step, hg, List.length_cons, List.replicate_succ, set_mid]
    rw [if_pos (tb hlt), if_pos (by omega), if_pos hlt, if_pos (by omega), if_pos (lt_mid _ _ _), w64 (by omega) (by omega)]
    have := ih (pre ++ [x]) j (by rw [hx]; simp) (by simp at hj; omega)
    simp only [List.length_append, List.length_singleton, List.append_assoc, List.singleton_append] at this
    exact this
theorem copyB (k : Nat) (hK : 2097152 ≤ k) {xs : List Int} (hl : xs.length ≤ 1048576) : f30 k xs = some xs := by
  have := copyB_loop k xs hl xs [] k rfl (by omega)
  simp only [f30, f30.step]
  rw [if_pos (by omega), if_pos (by simp [maxN]; omega)]
  have h0 : f30.l3 k k xs 0 (List.replicate (Int.toNat (xs.length : Int)) 0) = some xs := this
  rw [h0]; rfl
theorem eqB_loop (k : Nat) (xs : List Int) (hl : xs.length ≤ 1048576) : ∀ (d i j : Nat), i + d = xs.length → d < j → f33.l4 k j xs xs (i : Int) = some (.inr ()) := by
  intro d
  induction d with
  | zero =>
    intro i j hi hj
    obtain ⟨j, rfl⟩ : ∃ j', j = j' + 1 := ⟨j - 1, by omega⟩
    simp only [f33.l4, f33.l4.step]
    rw [if_neg (fb (by omega))]
  | succ d ih =>
    intro i j hi hj
    obtain ⟨j, rfl⟩ : ∃ j', j = j' + 1 := ⟨j - 1, by omega⟩
    simp only [f33.l4, f33.l4.step]
    rw [if_pos (tb (by omega)), if_pos (by omega), if_pos (by omega), if_pos (by omega), if_pos (by omega), if_neg (by simp), w64 (by omega) (by omega)]
    exact ih (i + 1) j (by omega) (by omega)
theorem eqB (k : Nat) (hK : 2097152 ≤ k) {xs : List Int} (hl : xs.length ≤ 1048576) : f33 k xs xs = some true := by
  have h0 : f33.l4 k k xs xs 0 = some (.inr ()) := eqB_loop k xs hl xs.length 0 k (by omega) (by omega)
  simp only [f33, f33.step, h0]
  simp
def HeldB : Int → List Int → Prop
  | _, [] => True
  | a, y :: ys => y = IntKind.u8.wrap a ∧ HeldB (a + 1) ys
theorem markB_loop (k : Nat) : ∀ (rest pre : List Int) (j : Nat) (a : Int), rest.length < j → pre.length + rest.length ≤ 1048576 → 0 ≤ a → a + rest.length ≤ 1000000000000 →
    ∃ ys, f34.l2 k j a (pre.length : Int) (pre ++ rest) = some (a + (rest.length : Int), pre ++ ys) ∧ HeldB a ys ∧ ys.length = rest.length := by
  intro rest
  induction rest with
  | nil =>
    intro pre j a hj hl h0 h1
    obtain ⟨j, rfl⟩ : ∃ j', j = j' + 1 := ⟨j - 1, by omega⟩
    simp only [f34.l2, f34.l2.step]
    rw [if_neg (fb (by simp))]
    exact ⟨[], by simp, trivial, rfl⟩
  | cons x rest ih =>
    intro pre j a hj hl h0 h1
    obtain ⟨j, rfl⟩ : ∃ j', j = j' + 1 := ⟨j - 1, by omega⟩
    simp only [List.length_cons] at hj hl h1
    simp only [f34.l2, f34.l2.step, set_mid]
    rw [if_pos (tb (lt_mid _ _ _)), if_pos (by omega), if_pos (lt_mid _ _ _), w64 (by omega) (by omega), w64 (by omega) (by omega)]
    obtain ⟨ys, h, hh, hl2⟩ := ih (pre ++ [IntKind.u8.wrap a]) j (a + 1) (by omega) (by simp; omega) (by omega) (by omega)
    simp only [List.length_append, List.length_singleton, List.append_assoc, List.singleton_append] at h
    refine ⟨IntKind.u8.wrap a :: ys, Eq.trans h ?_, ⟨rfl, hh⟩, by simp [hl2]⟩
    simp only [List.length_cons]
    rw [show a + 1 + (rest.length : Int) = a + ((rest.length + 1 : Nat) : Int) by omega]
theorem markB (k : Nat) (hK : 2097152 ≤ k) {xs : List Int} (hl : xs.length ≤ 1048576) {a : Int} (h0 : 0 ≤ a) (h1 : a ≤ 100000000000) : ∃ ys, f34 k xs a = some (a + (xs.length : Int), ys) ∧ HeldB a ys ∧ ys.length = xs.length := by
  obtain ⟨ys, h, h2, h3⟩ := markB_loop k xs [] k a (by omega) (by simpa using hl) h0 (by omega)
  have h : f34.l2 k k a 0 xs = some (a + (xs.length : Int), ys) := h
  exact ⟨ys, by simp only [f34, f34.step, h]; rfl, h2, h3⟩
theorem heldB_loop (k : Nat) : ∀ (ys pre : List Int) (j : Nat) (a : Int), HeldB a ys → ys.length < j → pre.length + ys.length ≤ 1048576 → 0 ≤ a → a + ys.length ≤ 1000000000000 → f95.l2 k j (pre ++ ys) a (pre.length : Int) = some (.inr (a + (ys.length : Int))) := by
  intro ys
  induction ys with
  | nil =>
    intro pre j a hh hj hl h0 h1
    obtain ⟨j, rfl⟩ : ∃ j', j = j' + 1 := ⟨j - 1, by omega⟩
    simp only [f95.l2, f95.l2.step]
    rw [if_neg (fb (by simp))]
    simp
  | cons y ys ih =>
    intro pre j a hh hj hl h0 h1
    obtain ⟨j, rfl⟩ : ∃ j', j = j' + 1 := ⟨j - 1, by omega⟩
    simp only [List.length_cons] at hj hl h1
    obtain ⟨rfl, hh⟩ := hh
    simp only [f95.l2, f95.l2.step, gm]
    rw [if_pos (tb (lt_mid _ _ _)), if_pos (by omega), if_pos (lt_mid _ _ _), if_neg (by simp), w64 (by omega) (by omega), w64 (by omega) (by omega)]
    have := ih (pre ++ [IntKind.u8.wrap a]) j (a + 1) hh (by omega) (by simp; omega) (by omega) (by omega)
    simp only [List.length_append, List.length_singleton, List.append_assoc, List.singleton_append] at this
    refine Eq.trans this ?_
    simp only [List.length_cons]
    rw [show a + 1 + (ys.length : Int) = a + ((ys.length + 1 : Nat) : Int) by omega]
theorem heldB (k : Nat) (hK : 2097152 ≤ k) {ys : List Int} (hl : ys.length ≤ 1048576) {a : Int} (h0 : 0 ≤ a) (h1 : a ≤ 100000000000) (hh : HeldB a ys) : f95 k ys a = some (a + (ys.length : Int)) := by
  have := heldB_loop k ys [] k a hh (by omega) (by simpa using hl) h0 (by omega)
  have h : f95.l2 k k ys a 0 = some (.inr (a + (ys.length : Int))) := this
  simp only [f95, f95.step, h]; rfl
/-! ### a mark's text -/
theorem text_loop (k : Nat) : ∀ (d j : Nat) (a : Int) (s : ByteArray), d < j → 0 ≤ a → a < 10 ^ d → a < 1000000000000000 → s.size + d ≤ 1000 → ∃ t, f122.l4 k j a s = some t ∧ t.size ≤ s.size + d := by
  intro d
  induction d with
  | zero =>
    intro j a s hj h0 h1 hb hs
    obtain ⟨j, rfl⟩ : ∃ j', j = j' + 1 := ⟨j - 1, by omega⟩
    simp only [f122.l4, f122.l4.step]
    rw [if_neg (fb (by simp at h1; omega))]
    exact ⟨_, rfl, by omega⟩
  | succ d ih =>
    intro j a s hj h0 h1 hb hs
    obtain ⟨j, rfl⟩ : ∃ j', j = j' + 1 := ⟨j - 1, by omega⟩
    simp only [f122.l4, f122.l4.step]
    by_cases c : a > 0
    · have hd : Int.tdiv a 10 = a / 10 := Int.tdiv_eq_ediv_of_nonneg h0
      have hsz : ∀ x : Int, (strOf [x]).size = 1 := fun x => rfl
      rw [if_pos (tb c), if_pos (by rw [hsz]; simp [maxN]; omega)]
      rw [hd, w64 (by omega) (by omega)]
      have h2 : a / 10 < 10 ^ d := by
        rw [Int.pow_succ] at h1
        omega
      obtain ⟨t, e1, e2⟩ := ih j (a / 10) (strOf [IntKind.u8.wrap (IntKind.i64.wrap (48 + Int.tmod a 10))] ++ s) (by omega) (by omega) h2 (by omega) (by rw [ByteArray.size_append, hsz]; omega)
      exact ⟨t, e1, by rw [ByteArray.size_append, hsz] at e2; omega⟩
    · rw [if_neg (fb c)]
      exact ⟨_, rfl, by omega⟩
theorem markText (k : Nat) (hK : 2097152 ≤ k) {a : Int} (h0 : 0 ≤ a) (h1 : a < 1000000000000000) : ∃ t, f122 k a = some t := by
  simp only [f122, f122.step]
  by_cases c : a ≤ 0
  · rw [if_pos (tb c)]; exact ⟨_, rfl⟩
  · rw [if_neg (fb c)]
    obtain ⟨t, e1, e2⟩ := text_loop k 15 k a ⟨#[]⟩ (by omega) h0 (by simpa using h1) h1 (by rw [show (⟨#[]⟩ : ByteArray).size = 0 from rfl]; omega)
    rw [e1]
    simp only [Option.bind_some]
    have e0 : (⟨#[]⟩ : ByteArray).size = 0 := rfl
    have e4 : (⟨#[109]⟩ : ByteArray).size = 1 := rfl
    rw [if_pos (by rw [e4]; simp only [maxN]; omega)]
    exact ⟨_, rfl⟩
/-! ### pieces and boxes: told, compared, marked -/
theorem set_mid' {α : Type} (pre' : List α) {n : Nat} (h : n = pre'.length) (rest : List α) (x y : α) : List.set (pre' ++ x :: rest) (Int.toNat (n : Int)) y = pre' ++ y :: rest := by
  subst h; simp
theorem lt_mid' {α : Type} (pre' : List α) {n : Nat} (h : n = pre'.length) (rest : List α) (x : α) : (n : Int) < ((pre' ++ x :: rest).length : Int) := by subst h; exact lt_mid _ _ _
theorem wnext {α : Type} (pre : List α) (x : α) (h : pre.length ≤ 4611686018427387904) : IntKind.i64.wrap ((pre.length : Int) + 1) = ((pre ++ [x]).length : Int) := by rw [w64 (by omega) (by omega)]; simp
def cP (x : S238) : S211 := ⟨x.f0, x.f1, x.f2⟩
def cB (x : S176) : S104 := ⟨x.f0, x.f1, x.f2, x.f3, x.f4, x.f5.map cP⟩
def ShortPc (n : Nat) (l : List S211) : Prop := ∀ x ∈ l, x.f2.length ≤ n
theorem toPS_loop (k : Nat) (hK : 2097152 ≤ k) (xs : List S238) (hl : xs.length ≤ 1048576) (hs : ∀ x ∈ xs, x.f2.length ≤ 1048576) : ∀ (rest pre : List S238) (j : Nat), xs = pre ++ rest → rest.length < j →
    f180.l3 k j xs (pre.length : Int) (pre.map cP ++ List.replicate rest.length (⟨0, false, []⟩ : S211)) = some (xs.map cP) := by
  intro rest
  induction rest with
  | nil =>
    intro pre j hx hj
    obtain ⟨j, rfl⟩ : ∃ j', j = j' + 1 := ⟨j - 1, by omega⟩
    simp only [f180.l3, f180.l3.step]
    have : xs.length = pre.length := by rw [hx]; simp
    rw [if_neg (fb (by omega)), hx]; simp
  | cons x rest ih =>
    intro pre j hx hj
    obtain ⟨j, rfl⟩ : ∃ j', j = j' + 1 := ⟨j - 1, by omega⟩
    have hlt : (pre.length : Int) < (xs.length : Int) := by rw [hx]; exact lt_mid _ _ _
    have hg : xs.getD (Int.toNat (pre.length : Int)) ⟨0, false, []⟩ = x := by rw [hx]; exact gm _ _ _ _
    have hxl : x.f2.length ≤ 1048576 := hs x (by rw [hx]; simp)
    simp only [f180.l3, f180.l3.step, hg, f200, f200.step, copyB k hK hxl, Option.bind_some, List.length_cons, List.replicate_succ]
    rw [set_mid' (pre.map cP) (n := pre.length) (by simp)]
    have hw := wnext pre x (by omega)
    rw [if_pos (tb hlt), if_pos (by omega), if_pos hlt, if_pos (by omega), if_pos (lt_mid' _ (by simp) _ _), hw]
    have := ih (pre ++ [x]) j (by rw [hx]; simp) (by simp at hj; omega)
    simp only [List.map_append, List.map_cons, List.map_nil, List.append_assoc, List.singleton_append] at this
    exact this
theorem toPS (k : Nat) (hK : 2097152 ≤ k) {xs : List S238} (hl : xs.length ≤ 1048576) (hs : ∀ x ∈ xs, x.f2.length ≤ 1048576) : f180 k xs = some (xs.map cP) := by
  have := toPS_loop k hK xs hl hs xs [] k rfl (by omega)
  simp only [f180, f180.step]
  rw [if_pos (by omega), if_pos (by simp [maxN]; omega)]
  have h0 : f180.l3 k k xs 0 (List.replicate (Int.toNat (xs.length : Int)) (⟨0, false, []⟩ : S211)) = some (xs.map cP) := this
  rw [h0]; rfl
def ShortB (n : Nat) (l : List S176) : Prop := ∀ b ∈ l, b.f5.length ≤ n ∧ ∀ x ∈ b.f5, x.f2.length ≤ n
theorem toBS_loop (k : Nat) (hK : 2097152 ≤ k) (xs : List S176) (hl : xs.length ≤ 1048576) (hs : ShortB 1048576 xs) : ∀ (rest pre : List S176) (j : Nat), xs = pre ++ rest → rest.length < j →
    f77.l3 k j xs (pre.length : Int) (pre.map cB ++ List.replicate rest.length (⟨ByteArray.empty, ByteArray.empty, 0, 0, 0, []⟩ : S104)) = some (xs.map cB) := by
  intro rest
  induction rest with
  | nil =>
    intro pre j hx hj
    obtain ⟨j, rfl⟩ : ∃ j', j = j' + 1 := ⟨j - 1, by omega⟩
    simp only [f77.l3, f77.l3.step]
    have : xs.length = pre.length := by rw [hx]; simp
    rw [if_neg (fb (by omega)), hx]; simp
  | cons x rest ih =>
    intro pre j hx hj
    obtain ⟨j, rfl⟩ : ∃ j', j = j' + 1 := ⟨j - 1, by omega⟩
    have hlt : (pre.length : Int) < (xs.length : Int) := by rw [hx]; exact lt_mid _ _ _
    have hg : ∀ d, xs.getD (Int.toNat (pre.length : Int)) d = x := fun d => by rw [hx]; exact gm _ _ _ _
    have hxl := hs x (by rw [hx]; simp)
    simp only [f77.l3, f77.l3.step, hg, f140, f140.step, toPS k hK hxl.1 hxl.2, Option.bind_some, List.length_cons, List.replicate_succ]
    rw [set_mid' (pre.map cB) (n := pre.length) (by simp)]
    have hw := wnext pre x (by omega)
    rw [if_pos (tb hlt), if_pos (by omega), if_pos hlt, if_pos (by omega), if_pos (lt_mid' _ (by simp) _ _), hw]
    have := ih (pre ++ [x]) j (by rw [hx]; simp) (by simp at hj; omega)
    simp only [List.map_append, List.map_cons, List.map_nil, List.append_assoc, List.singleton_append] at this
    exact this
theorem toBS (k : Nat) (hK : 2097152 ≤ k) {xs : List S176} (hl : xs.length ≤ 1048576) (hs : ShortB 1048576 xs) : f77 k xs = some (xs.map cB) := by
  have := toBS_loop k hK xs hl hs xs [] k rfl (by omega)
  simp only [f77, f77.step]
  rw [if_pos (by omega), if_pos (by simp [maxN]; omega)]
  have h0 : f77.l3 k k xs 0 (List.replicate (Int.toNat (xs.length : Int)) (⟨ByteArray.empty, ByteArray.empty, 0, 0, 0, []⟩ : S104)) = some (xs.map cB) := this
  rw [h0]; rfl
/-! sizes -/
def datPc : List S238 → Nat
  | [] => 0
  | x :: l => x.f2.length + datPc l
def datB : List S176 → Nat
  | [] => 0
  | x :: l => x.f0.size + x.f1.size + x.f5.length + datPc x.f5 + datB l
theorem szPc_loop (k : Nat) (xs : List S238) (hl : xs.length ≤ 1048576) (hm : ∀ x ∈ xs, x.f2.length ≤ maxLen) : ∀ (rest pre : List S238) (j : Nat) (a : Int), xs = pre ++ rest → rest.length < j → 0 ≤ a → a ≤ 1048576 →
    (∃ n, f179.l5 k j xs a (pre.length : Int) = some (.inl (n, -1))) ∨ (f179.l5 k j xs a (pre.length : Int) = some (.inr (a - datPc rest)) ∧ (datPc rest : Int) ≤ a) := by
  have hq : maxLen = 9223372036854775807 := by decide
  intro rest
  induction rest with
  | nil =>
    intro pre j a hx hj h0 h1
    obtain ⟨j, rfl⟩ : ∃ j', j = j' + 1 := ⟨j - 1, by omega⟩
    simp only [f179.l5, f179.l5.step]
    have : xs.length = pre.length := by rw [hx]; simp
    rw [if_neg (fb (by omega))]
    exact .inr ⟨by simp [datPc], by simp [datPc]; omega⟩
  | cons x rest ih =>
    intro pre j a hx hj h0 h1
    obtain ⟨j, rfl⟩ : ∃ j', j = j' + 1 := ⟨j - 1, by omega⟩
    have hlt : (pre.length : Int) < (xs.length : Int) := by rw [hx]; exact lt_mid _ _ _
    have hg : ∀ d, xs.getD (Int.toNat (pre.length : Int)) d = x := fun d => by rw [hx]; exact gm _ _ _ _
    have hxl := hm x (by rw [hx]; simp)
    have hw := wnext pre x (by omega)
    have e1 : IntKind.i64.wrap (a - (x.f2.length : Int)) = a - (x.f2.length : Int) := w64 (by omega) (by omega)
    simp only [f179.l5, f179.l5.step, hg, f199, f199.step, f127, f127.step, e1, hw]
    rw [if_pos (tb hlt), if_pos (by omega), if_pos hlt]
    by_cases c : a - (x.f2.length : Int) < 0
    · rw [if_pos (tb c)]
      simp only [Option.bind_some]
      exact .inl ⟨-1, rfl⟩
    · rw [if_neg (fb c)]
      simp only [Option.bind_some]
      rw [if_neg (fb c)]
      simp only [Option.bind_some]
      rw [if_neg (fb c)]
      rcases ih (pre ++ [x]) j (a - x.f2.length) (by rw [hx]; simp) (by simp at hj; omega) (by omega) (by omega) with h | ⟨h, h2⟩
      · exact .inl h
      · refine .inr ⟨h.trans ?_, ?_⟩
        · simp only [datPc]; congr 2; omega
        · simp only [datPc]; omega
theorem szPc (k : Nat) (hK : 2097152 ≤ k) (xs : List S238) (hl : xs.length ≤ maxLen) (hm : ∀ x ∈ xs, x.f2.length ≤ maxLen) {a : Int} (h0 : 0 ≤ a) (h1 : a ≤ 1048576) :
    ∃ n, f179 k xs a = some n ∧ (n < 0 ∨ (n = a - (xs.length + datPc xs : Nat) ∧ 0 ≤ n)) := by
  have hq : maxLen = 9223372036854775807 := by decide
  simp only [f179, f179.step]
  have e1 : IntKind.i64.wrap (a - (xs.length : Int)) = a - (xs.length : Int) := w64 (by omega) (by omega)
  rw [e1]
  by_cases c : a - (xs.length : Int) < 0
  · rw [if_pos (tb c)]
    exact ⟨-1, rfl, .inl (by omega)⟩
  · rw [if_neg (fb c)]
    rcases szPc_loop k xs (by omega) hm xs [] k (a - xs.length) rfl (by omega) (by omega) (by omega) with ⟨n, h⟩ | ⟨h, h2⟩
    · have h : f179.l5 k k xs (a - xs.length) 0 = some (.inl (n, -1)) := h
      rw [h]
      exact ⟨-1, rfl, .inl (by omega)⟩
    · have h : f179.l5 k k xs (a - xs.length) 0 = some (.inr (a - xs.length - datPc xs)) := h
      rw [h]
      exact ⟨_, rfl, .inr ⟨by omega, by omega⟩⟩
def OKm (b : S176) : Prop := b.f0.size ≤ maxLen ∧ b.f1.size ≤ maxLen ∧ b.f5.length ≤ maxLen ∧ ∀ x ∈ b.f5, x.f2.length ≤ maxLen
theorem szB1 (k : Nat) (hK : 2097152 ≤ k) {b : S176} (hb : OKm b) {a : Int} (h0 : 0 ≤ a) (h1 : a ≤ 1048576) :
    ∃ n, f139 k b.f0 b.f1 b.f2 b.f3 b.f4 b.f5 a = some n ∧ (n < 0 ∨ (n = a - (b.f0.size + b.f1.size + b.f5.length + datPc b.f5 : Nat) ∧ 0 ≤ n)) := by
  have hq : maxLen = 9223372036854775807 := by decide
  obtain ⟨g0, g1, g2, g3⟩ := hb
  simp only [f139, f139.step]
  by_cases c1 : a - (b.f0.size : Int) < 0
  · rw [w64 (n := a - (b.f0.size : Int)) (by omega) (by omega), if_pos (tb c1)]
    exact ⟨_, rfl, .inl (by omega)⟩
  rw [w64 (n := a - (b.f0.size : Int)) (by omega) (by omega), if_neg (fb c1)]
  by_cases c2 : a - (b.f0.size : Int) - (b.f1.size : Int) < 0
  · rw [w64 (n := a - (b.f0.size : Int) - (b.f1.size : Int)) (by omega) (by omega), if_pos (tb c2)]
    exact ⟨_, rfl, .inl (by omega)⟩
  rw [w64 (n := a - (b.f0.size : Int) - (b.f1.size : Int)) (by omega) (by omega), if_neg (fb c2)]
  obtain ⟨n, e, h⟩ := szPc k hK b.f5 g2 g3 (a := a - (b.f0.size : Int) - (b.f1.size : Int)) (by omega) (by omega)
  rw [e]
  simp only [Option.bind_some]
  rcases h with h | ⟨h, h2⟩
  · rw [if_pos (tb h)]
    exact ⟨_, rfl, .inl (by omega)⟩
  · rw [if_neg (fb (by omega))]
    exact ⟨_, rfl, .inr ⟨by omega, h2⟩⟩
theorem szB_loop (k : Nat) (hK : 2097152 ≤ k) (xs : List S176) (hl : xs.length ≤ 1048576) (hm : ∀ x ∈ xs, OKm x) : ∀ (rest pre : List S176) (j : Nat) (a : Int), xs = pre ++ rest → rest.length < j → 0 ≤ a → a ≤ 1048576 →
    (∃ n, f76.l5 k j xs a (pre.length : Int) = some (.inl (n, -1))) ∨ (f76.l5 k j xs a (pre.length : Int) = some (.inr (a - datB rest)) ∧ (datB rest : Int) ≤ a) := by
  intro rest
  induction rest with
  | nil =>
    intro pre j a hx hj h0 h1
    obtain ⟨j, rfl⟩ : ∃ j', j = j' + 1 := ⟨j - 1, by omega⟩
    simp only [f76.l5, f76.l5.step]
    have : xs.length = pre.length := by rw [hx]; simp
    rw [if_neg (fb (by omega))]
    exact .inr ⟨by simp [datB], by simp [datB]; omega⟩
  | cons x rest ih =>
    intro pre j a hx hj h0 h1
    obtain ⟨j, rfl⟩ : ∃ j', j = j' + 1 := ⟨j - 1, by omega⟩
    have hlt : (pre.length : Int) < (xs.length : Int) := by rw [hx]; exact lt_mid _ _ _
    have hg : ∀ d, xs.getD (Int.toNat (pre.length : Int)) d = x := fun d => by rw [hx]; exact gm _ _ _ _
    have hw := wnext pre x (by omega)
    obtain ⟨n, e, h⟩ := szB1 k hK (hm x (by rw [hx]; simp)) h0 h1
    simp only [f76.l5, f76.l5.step, hg, e, hw, Option.bind_some]
    rw [if_pos (tb hlt), if_pos (by omega), if_pos hlt]
    rcases h with h | ⟨h, h2⟩
    · rw [if_pos (tb h)]
      exact .inl ⟨_, rfl⟩
    · rw [if_neg (fb (by omega))]
      rcases ih (pre ++ [x]) j n (by rw [hx]; simp) (by simp at hj; omega) (by omega) (by omega) with h3 | ⟨h3, h4⟩
      · exact .inl h3
      · refine .inr ⟨h3.trans ?_, ?_⟩
        · simp only [datB]; congr 2; omega
        · simp only [datB]; omega
theorem szB (k : Nat) (hK : 2097152 ≤ k) (xs : List S176) (hl : xs.length ≤ maxLen) (hm : ∀ x ∈ xs, OKm x) :
    ∃ n, f76 k xs 1048576 = some n ∧ (n < 0 ∨ (xs.length + datB xs ≤ 1048576 ∧ 0 ≤ n)) := by
  have hq : maxLen = 9223372036854775807 := by decide
  simp only [f76, f76.step]
  have e1 : IntKind.i64.wrap (1048576 - (xs.length : Int)) = 1048576 - (xs.length : Int) := w64 (by omega) (by omega)
  rw [e1]
  by_cases c : 1048576 - (xs.length : Int) < 0
  · rw [if_pos (tb c)]
    exact ⟨-1, rfl, .inl (by omega)⟩
  · rw [if_neg (fb c)]
    rcases szB_loop k hK xs (by omega) hm xs [] k (1048576 - xs.length) rfl (by omega) (by omega) (by omega) with ⟨n, h⟩ | ⟨h, h2⟩
    · have h : f76.l5 k k xs (1048576 - xs.length) 0 = some (.inl (n, -1)) := h
      rw [h]
      exact ⟨-1, rfl, .inl (by omega)⟩
    · have h : f76.l5 k k xs (1048576 - xs.length) 0 = some (.inr (1048576 - xs.length - datB xs)) := h
      rw [h]
      exact ⟨_, rfl, .inr ⟨by omega, by omega⟩⟩
theorem datPc_mem : ∀ {l : List S238} {x : S238}, x ∈ l → x.f2.length ≤ datPc l
  | [], _, h => by cases h
  | y :: l, x, h => by
    rcases List.mem_cons.mp h with rfl | h
    · simp [datPc]
    · have := datPc_mem h; simp only [datPc]; omega
theorem datB_mem : ∀ {l : List S176} {b : S176}, b ∈ l → b.f5.length + datPc b.f5 ≤ datB l
  | [], _, h => by cases h
  | y :: l, x, h => by
    rcases List.mem_cons.mp h with rfl | h
    · simp only [datB]; omega
    · have := datB_mem h; simp only [datB]; omega
theorem short_of_dat {xs : List S176} (h : datB xs ≤ 1048576) : ShortB 1048576 xs := fun b hb => ⟨by have := datB_mem hb; omega, fun x hx => by have := datB_mem hb; have := datPc_mem hx; omega⟩
theorem eqPc_loop (k : Nat) (hK : 2097152 ≤ k) (xs : List S211) (hs : ShortPc 1048576 xs) (hl : xs.length ≤ 1048576) : ∀ (rest pre : List S211) (j : Nat), xs = pre ++ rest → rest.length < j → f181.l4 k j xs xs (pre.length : Int) = some (.inr ()) := by
  intro rest
  induction rest with
  | nil =>
    intro pre j hx hj
    obtain ⟨j, rfl⟩ : ∃ j', j = j' + 1 := ⟨j - 1, by omega⟩
    simp only [f181.l4, f181.l4.step]
    have : xs.length = pre.length := by rw [hx]; simp
    rw [if_neg (fb (by omega))]
  | cons x rest ih =>
    intro pre j hx hj
    obtain ⟨j, rfl⟩ : ∃ j', j = j' + 1 := ⟨j - 1, by omega⟩
    have hlt : (pre.length : Int) < (xs.length : Int) := by rw [hx]; exact lt_mid _ _ _
    have hg : ∀ d, xs.getD (Int.toNat (pre.length : Int)) d = x := fun d => by rw [hx]; exact gm _ _ _ _
    have hxl : x.f2.length ≤ 1048576 := hs x (by rw [hx]; simp)
    have hw := wnext pre x (by omega)
    have e : f201 k x.f0 x.f1 x.f2 x.f0 x.f1 x.f2 = some true := by simp [f201, f201.step, eqB k hK hxl]
    have hp : (0 : Int) ≤ (pre.length : Int) := by omega
    simp only [f181.l4, f181.l4.step, hg, e, hw, Option.bind_some]
    simp only [hlt, hp, if_true, decide_true, Bool.not_true, Bool.false_eq_true, if_false]
    exact ih (pre ++ [x]) j (by rw [hx]; simp) (by simp at hj; omega)
theorem eqPcS (k : Nat) (hK : 2097152 ≤ k) {xs : List S211} (hs : ShortPc 1048576 xs) (hl : xs.length ≤ 1048576) : f181 k xs xs = some true := by
  have h0 : f181.l4 k k xs xs 0 = some (.inr ()) := eqPc_loop k hK xs hs hl xs [] k rfl (by omega)
  simp [f181, f181.step, h0]
def ShortX (n : Nat) (l : List S104) : Prop := ∀ b ∈ l, b.f5.length ≤ n ∧ ShortPc n b.f5
theorem eqBx_loop (k : Nat) (hK : 2097152 ≤ k) (xs : List S104) (hs : ShortX 1048576 xs) (hl : xs.length ≤ 1048576) : ∀ (rest pre : List S104) (j : Nat), xs = pre ++ rest → rest.length < j → f78.l4 k j xs xs (pre.length : Int) = some (.inr ()) := by
  intro rest
  induction rest with
  | nil =>
    intro pre j hx hj
    obtain ⟨j, rfl⟩ : ∃ j', j = j' + 1 := ⟨j - 1, by omega⟩
    simp only [f78.l4, f78.l4.step]
    have : xs.length = pre.length := by rw [hx]; simp
    rw [if_neg (fb (by omega))]
  | cons x rest ih =>
    intro pre j hx hj
    obtain ⟨j, rfl⟩ : ∃ j', j = j' + 1 := ⟨j - 1, by omega⟩
    have hlt : (pre.length : Int) < (xs.length : Int) := by rw [hx]; exact lt_mid _ _ _
    have hg : ∀ d, xs.getD (Int.toNat (pre.length : Int)) d = x := fun d => by rw [hx]; exact gm _ _ _ _
    have hxl := hs x (by rw [hx]; simp)
    have hw := wnext pre x (by omega)
    have e : f141 k x.f0 x.f1 x.f2 x.f3 x.f4 x.f5 x.f0 x.f1 x.f2 x.f3 x.f4 x.f5 = some true := by simp [f141, f141.step, eqPcS k hK hxl.2 hxl.1]
    have hp : (0 : Int) ≤ (pre.length : Int) := by omega
    simp only [f78.l4, f78.l4.step, hg, e, hw, Option.bind_some]
    simp only [hlt, hp, if_true, decide_true, Bool.not_true, Bool.false_eq_true, if_false]
    exact ih (pre ++ [x]) j (by rw [hx]; simp) (by simp at hj; omega)
theorem eqBxS (k : Nat) (hK : 2097152 ≤ k) {xs : List S104} (hs : ShortX 1048576 xs) (hl : xs.length ≤ 1048576) : f78 k xs xs = some true := by
  have h0 : f78.l4 k k xs xs 0 = some (.inr ()) := eqBx_loop k hK xs hs hl xs [] k rfl (by omega)
  simp [f78, f78.step, h0]
/-! marks -/
theorem s211_0 (pre rest : List S211) (p0 : Int) (p1 : Bool) (p2 : List Int) (a : Int) : set211 (pre ++ ⟨p0, p1, p2⟩ :: rest) (Int.toNat (pre.length : Int)) 0 [.s (.int .i64 a)] = pre ++ ⟨a, p1, p2⟩ :: rest := set_at (e := 211) pre rest _ _ rfl
theorem s211_1 (pre rest : List S211) (p0 : Int) (p1 : Bool) (p2 : List Int) (a : Bool) : set211 (pre ++ ⟨p0, p1, p2⟩ :: rest) (Int.toNat (pre.length : Int)) 1 [.s (.bool a)] = pre ++ ⟨p0, a, p2⟩ :: rest := set_at (e := 211) pre rest _ _ rfl
theorem s211_2 (pre rest : List S211) (p0 : Int) (p1 : Bool) (p2 : List Int) (a : List Int) : set211 (pre ++ ⟨p0, p1, p2⟩ :: rest) (Int.toNat (pre.length : Int)) 2 [.sl 5 a] = pre ++ ⟨p0, p1, a⟩ :: rest := set_at (e := 211) pre rest _ _ rfl
def HeldPc : Int → List S211 → Prop
  | _, [] => True
  | a, y :: ys => (∃ d, HeldB (a + 2) d ∧ d.length ≤ 1048576 ∧ y = ⟨a, decide (Int.tmod (a + 1) 3 = 0), d⟩) ∧ HeldPc (a + 2 + (y.f2.length : Int)) ys
def sizePc : List S211 → Nat
  | [] => 0
  | x :: l => 2 + x.f2.length + sizePc l
theorem markPc_loop (k : Nat) (hK : 2097152 ≤ k) : ∀ (rest pre : List S211) (j : Nat) (a : Int), ShortPc 1048576 rest → rest.length < j → pre.length + rest.length ≤ 1048576 → 0 ≤ a → a + sizePc rest ≤ 100000000000 →
    ∃ ys, f142.l2 k j a (pre.length : Int) (pre ++ rest) = some (a + (sizePc rest : Int), pre ++ ys) ∧ HeldPc a ys ∧ ys.length = rest.length ∧ sizePc ys = sizePc rest := by
  intro rest
  induction rest with
  | nil =>
    intro pre j a hb hj hl h0 h1
    obtain ⟨j, rfl⟩ : ∃ j', j = j' + 1 := ⟨j - 1, by omega⟩
    simp only [f142.l2, f142.l2.step]
    rw [if_neg (fb (by simp))]
    exact ⟨[], by simp [sizePc], trivial, rfl, rfl⟩
  | cons x rest ih =>
    intro pre j a hb hj hl h0 h1
    obtain ⟨j, rfl⟩ : ∃ j', j = j' + 1 := ⟨j - 1, by omega⟩
    simp only [List.length_cons, sizePc] at hj hl h1
    obtain ⟨p0, p1, d⟩ := x
    have hd : d.length ≤ 1048576 := hb _ (List.mem_cons_self)
    simp only at h1
    obtain ⟨d', e3, e4, e5⟩ := markB k hK hd (a := a + 2) (by omega) (by omega)
    have hp : (0 : Int) ≤ (pre.length : Int) := by omega
    have w1 : IntKind.i64.wrap (a + 1) = a + 1 := w64 (by omega) (by omega)
    have w2 : IntKind.i64.wrap (a + 1 + 1) = a + 2 := by rw [w64 (by omega) (by omega)]; omega
    have wl : IntKind.i64.wrap ((pre.length : Int) + 1) = ((pre.length + 1 : Nat) : Int) := by rw [w64 (by omega) (by omega)]; omega
    simp only [f142.l2, f142.l2.step, w1, w2, wl, Option.bind_some, s211_0, s211_1, s211_2, gm, e3]
    simp only [lt_mid, hp, if_true, decide_true]
    obtain ⟨ys, h, hh, hl2, hs⟩ := ih (pre ++ [⟨a, decide (Int.tmod (a + 1) 3 = 0), d'⟩]) j (a + 2 + (d.length : Int)) (fun y hy => hb y (List.mem_cons_of_mem _ hy)) (by omega) (by simp; omega) (by omega) (by omega)
    simp only [List.length_append, List.length_singleton, List.append_assoc, List.singleton_append] at h
    refine ⟨⟨a, decide (Int.tmod (a + 1) 3 = 0), d'⟩ :: ys, Eq.trans h ?_, ⟨⟨d', e4, by omega, rfl⟩, ?_⟩, by simp [hl2], by simp [sizePc, hs, e5]⟩
    · simp only [sizePc]
      rw [show a + 2 + (d.length : Int) + (sizePc rest : Int) = a + ((2 + d.length + sizePc rest : Nat) : Int) by omega]
    · rw [e5]; exact hh
theorem heldPc_loop (k : Nat) (hK : 2097152 ≤ k) : ∀ (ys pre : List S211) (j : Nat) (a : Int), HeldPc a ys → ys.length < j → pre.length + ys.length ≤ 1048576 → 0 ≤ a → a + sizePc ys ≤ 100000000000 → f143.l2 k j (pre ++ ys) a (pre.length : Int) = some (.inr (a + (sizePc ys : Int))) := by
  intro ys
  induction ys with
  | nil =>
    intro pre j a hh hj hl h0 h1
    obtain ⟨j, rfl⟩ : ∃ j', j = j' + 1 := ⟨j - 1, by omega⟩
    simp only [f143.l2, f143.l2.step]
    rw [if_neg (fb (by simp))]
    simp [sizePc]
  | cons y ys ih =>
    intro pre j a hh hj hl h0 h1
    obtain ⟨j, rfl⟩ : ∃ j', j = j' + 1 := ⟨j - 1, by omega⟩
    simp only [List.length_cons, sizePc] at hj hl h1
    obtain ⟨⟨d, e4, e5, rfl⟩, hh⟩ := hh
    simp only at hh h1
    have hp : (0 : Int) ≤ (pre.length : Int) := by omega
    have e3 := heldB k hK e5 (a := a + 2) (by omega) (by omega) e4
    have w1 : IntKind.i64.wrap (a + 1) = a + 1 := w64 (by omega) (by omega)
    have w2 : IntKind.i64.wrap (a + 1 + 1) = a + 2 := by rw [w64 (by omega) (by omega)]; omega
    have wl : IntKind.i64.wrap ((pre.length : Int) + 1) = ((pre.length + 1 : Nat) : Int) := by rw [w64 (by omega) (by omega)]; omega
    have hn : decide (a + 2 + (d.length : Int) < 0) = false := ff (by omega)
    simp only [f143.l2, f143.l2.step, w1, w2, wl, Option.bind_some, gm, e3]
    simp only [lt_mid, hp, if_true, decide_true, ne_eq, not_true_eq_false, decide_false, Bool.false_eq_true, if_false, beq_self_eq_true, Bool.not_true, hn]
    have := ih (pre ++ [⟨a, decide (Int.tmod (a + 1) 3 = 0), d⟩]) j (a + 2 + (d.length : Int)) hh (by omega) (by simp; omega) (by omega) (by omega)
    simp only [List.length_append, List.length_singleton, List.append_assoc, List.singleton_append] at this
    refine Eq.trans this ?_
    simp only [sizePc]
    rw [show a + 2 + (d.length : Int) + (sizePc ys : Int) = a + ((2 + d.length + sizePc ys : Nat) : Int) by omega]
theorem markPc (k : Nat) (hK : 2097152 ≤ k) {xs : List S211} (hb : ShortPc 1048576 xs) (hl : xs.length ≤ 1048576) {a : Int} (h0 : 0 ≤ a) (h1 : a + sizePc xs ≤ 100000000000) : ∃ ys, f142 k xs a = some (a + (sizePc xs : Int), ys) ∧ HeldPc a ys ∧ ys.length = xs.length ∧ sizePc ys = sizePc xs := by
  obtain ⟨ys, h, h2⟩ := markPc_loop k hK xs [] k a hb (by omega) (by simpa using hl) h0 h1
  have h : f142.l2 k k a 0 xs = some (a + (sizePc xs : Int), ys) := h
  exact ⟨ys, by simp only [f142, f142.step, h]; rfl, h2⟩
theorem heldPc (k : Nat) (hK : 2097152 ≤ k) {ys : List S211} (hl : ys.length ≤ 1048576) {a : Int} (h0 : 0 ≤ a) (h1 : a + sizePc ys ≤ 100000000000) (hh : HeldPc a ys) : f143 k ys a = some (a + (sizePc ys : Int)) := by
  have h : f143.l2 k k ys a 0 = some (.inr (a + (sizePc ys : Int))) := heldPc_loop k hK ys [] k a hh (by omega) (by simpa using hl) h0 h1
  simp only [f143, f143.step, h]; rfl
theorem s104_0 (pre rest : List S104) (p0 p1 : ByteArray) (p2 p3 p4 : Int) (p5 : List S211) (a : ByteArray) : set104 (pre ++ ⟨p0, p1, p2, p3, p4, p5⟩ :: rest) (Int.toNat (pre.length : Int)) 0 [.s (.string a)] = pre ++ ⟨a, p1, p2, p3, p4, p5⟩ :: rest := set_at (e := 104) pre rest _ _ rfl
theorem s104_1 (pre rest : List S104) (p0 p1 : ByteArray) (p2 p3 p4 : Int) (p5 : List S211) (a : ByteArray) : set104 (pre ++ ⟨p0, p1, p2, p3, p4, p5⟩ :: rest) (Int.toNat (pre.length : Int)) 1 [.s (.string a)] = pre ++ ⟨p0, a, p2, p3, p4, p5⟩ :: rest := set_at (e := 104) pre rest _ _ rfl
theorem s104_2 (pre rest : List S104) (p0 p1 : ByteArray) (p2 p3 p4 : Int) (p5 : List S211) (a : Int) : set104 (pre ++ ⟨p0, p1, p2, p3, p4, p5⟩ :: rest) (Int.toNat (pre.length : Int)) 2 [.s (.int .i64 a)] = pre ++ ⟨p0, p1, a, p3, p4, p5⟩ :: rest := set_at (e := 104) pre rest _ _ rfl
theorem s104_3 (pre rest : List S104) (p0 p1 : ByteArray) (p2 p3 p4 : Int) (p5 : List S211) (a : Int) : set104 (pre ++ ⟨p0, p1, p2, p3, p4, p5⟩ :: rest) (Int.toNat (pre.length : Int)) 3 [.s (.int .i64 a)] = pre ++ ⟨p0, p1, p2, a, p4, p5⟩ :: rest := set_at (e := 104) pre rest _ _ rfl
theorem s104_4 (pre rest : List S104) (p0 p1 : ByteArray) (p2 p3 p4 : Int) (p5 : List S211) (a : Int) : set104 (pre ++ ⟨p0, p1, p2, p3, p4, p5⟩ :: rest) (Int.toNat (pre.length : Int)) 4 [.s (.int .i64 a)] = pre ++ ⟨p0, p1, p2, p3, a, p5⟩ :: rest := set_at (e := 104) pre rest _ _ rfl
theorem s104_5 (pre rest : List S104) (p0 p1 : ByteArray) (p2 p3 p4 : Int) (p5 a : List S211) : set104 (pre ++ ⟨p0, p1, p2, p3, p4, p5⟩ :: rest) (Int.toNat (pre.length : Int)) 5 [.sl 211 a] = pre ++ ⟨p0, p1, p2, p3, p4, a⟩ :: rest := set_at (e := 104) pre rest _ _ rfl
def HeldX (k : Nat) : Int → List S104 → Prop
  | _, [] => True
  | a, y :: ys => (∃ t1 t2 d, f122 k a = some t1 ∧ f122 k (a + 1) = some t2 ∧ HeldPc (a + 5) d ∧ d.length ≤ 1048576 ∧ y = ⟨t1, t2, a + 2, a + 3, a + 4, d⟩) ∧ HeldX k (a + 5 + (sizePc y.f5 : Int)) ys
def sizeX : List S104 → Nat
  | [] => 0
  | x :: l => 5 + sizePc x.f5 + sizeX l
theorem markX_loop (k : Nat) (hK : 2097152 ≤ k) : ∀ (rest pre : List S104) (j : Nat) (a : Int), ShortX 1048576 rest → rest.length < j → pre.length + rest.length ≤ 1048576 → 0 ≤ a → a + sizeX rest ≤ 100000000000 →
    ∃ ys, f79.l2 k j a (pre.length : Int) (pre ++ rest) = some (a + (sizeX rest : Int), pre ++ ys) ∧ HeldX k a ys ∧ ys.length = rest.length ∧ sizeX ys = sizeX rest := by
  intro rest
  induction rest with
  | nil =>
    intro pre j a hb hj hl h0 h1
    obtain ⟨j, rfl⟩ : ∃ j', j = j' + 1 := ⟨j - 1, by omega⟩
    simp only [f79.l2, f79.l2.step]
    rw [if_neg (fb (by simp))]
    exact ⟨[], by simp [sizeX], trivial, rfl, rfl⟩
  | cons x rest ih =>
    intro pre j a hb hj hl h0 h1
    obtain ⟨j, rfl⟩ : ∃ j', j = j' + 1 := ⟨j - 1, by omega⟩
    simp only [List.length_cons, sizeX] at hj hl h1
    obtain ⟨p0, p1, p2, p3, p4, d⟩ := x
    have hd : d.length ≤ 1048576 ∧ ShortPc 1048576 d := hb _ (List.mem_cons_self)
    simp only at h1
    obtain ⟨t1, e1⟩ := markText k hK (a := a) (by omega) (by omega)
    obtain ⟨t2, e2⟩ := markText k hK (a := a + 1) (by omega) (by omega)
    obtain ⟨d', e3, e4, e5, e6⟩ := markPc k hK hd.2 hd.1 (a := a + 5) (by omega) (by omega)
    have hp : (0 : Int) ≤ (pre.length : Int) := by omega
    have w1 : IntKind.i64.wrap (a + 1) = a + 1 := w64 (by omega) (by omega)
    have w2 : IntKind.i64.wrap (a + 1 + 1) = a + 2 := by rw [w64 (by omega) (by omega)]; omega
    have w3 : IntKind.i64.wrap (a + 2 + 1) = a + 3 := by rw [w64 (by omega) (by omega)]; omega
    have w4 : IntKind.i64.wrap (a + 3 + 1) = a + 4 := by rw [w64 (by omega) (by omega)]; omega
    have w5 : IntKind.i64.wrap (a + 4 + 1) = a + 5 := by rw [w64 (by omega) (by omega)]; omega
    have wl : IntKind.i64.wrap ((pre.length : Int) + 1) = ((pre.length + 1 : Nat) : Int) := by rw [w64 (by omega) (by omega)]; omega
    simp only [f79.l2, f79.l2.step, w1, w2, w3, w4, w5, wl, e1, e2, Option.bind_some, s104_0, s104_1, s104_2, s104_3, s104_4, s104_5, gm, e3]
    simp only [lt_mid, hp, if_true, decide_true]
    obtain ⟨ys, h, hh, hl2, hs⟩ := ih (pre ++ [⟨t1, t2, a + 2, a + 3, a + 4, d'⟩]) j (a + 5 + (sizePc d : Int)) (fun y hy => hb y (List.mem_cons_of_mem _ hy)) (by omega) (by simp; omega) (by omega) (by omega)
    simp only [List.length_append, List.length_singleton, List.append_assoc, List.singleton_append] at h
    refine ⟨⟨t1, t2, a + 2, a + 3, a + 4, d'⟩ :: ys, Eq.trans h ?_, ⟨⟨t1, t2, d', e1, e2, e4, by omega, rfl⟩, ?_⟩, by simp [hl2], by simp [sizeX, hs, e6]⟩
    · simp only [sizeX]
      rw [show a + 5 + (sizePc d : Int) + (sizeX rest : Int) = a + ((5 + sizePc d + sizeX rest : Nat) : Int) by omega]
    · rw [e6]; exact hh
theorem heldX_loop (k : Nat) (hK : 2097152 ≤ k) : ∀ (ys pre : List S104) (j : Nat) (a : Int), HeldX k a ys → ys.length < j → pre.length + ys.length ≤ 1048576 → 0 ≤ a → a + sizeX ys ≤ 100000000000 → f80.l2 k j (pre ++ ys) a (pre.length : Int) = some (.inr (a + (sizeX ys : Int))) := by
  intro ys
  induction ys with
  | nil =>
    intro pre j a hh hj hl h0 h1
    obtain ⟨j, rfl⟩ : ∃ j', j = j' + 1 := ⟨j - 1, by omega⟩
    simp only [f80.l2, f80.l2.step]
    rw [if_neg (fb (by simp))]
    simp [sizeX]
  | cons y ys ih =>
    intro pre j a hh hj hl h0 h1
    obtain ⟨j, rfl⟩ : ∃ j', j = j' + 1 := ⟨j - 1, by omega⟩
    simp only [List.length_cons, sizeX] at hj hl h1
    obtain ⟨⟨t1, t2, d, e1, e2, e4, e5, rfl⟩, hh⟩ := hh
    simp only at hh h1
    have hp : (0 : Int) ≤ (pre.length : Int) := by omega
    have e3 := heldPc k hK e5 (a := a + 5) (by omega) (by omega) e4
    have w1 : IntKind.i64.wrap (a + 1) = a + 1 := w64 (by omega) (by omega)
    have w2 : IntKind.i64.wrap (a + 1 + 1) = a + 2 := by rw [w64 (by omega) (by omega)]; omega
    have w3 : IntKind.i64.wrap (a + 2 + 1) = a + 3 := by rw [w64 (by omega) (by omega)]; omega
    have w4 : IntKind.i64.wrap (a + 3 + 1) = a + 4 := by rw [w64 (by omega) (by omega)]; omega
    have w5 : IntKind.i64.wrap (a + 4 + 1) = a + 5 := by rw [w64 (by omega) (by omega)]; omega
    have wl : IntKind.i64.wrap ((pre.length : Int) + 1) = ((pre.length + 1 : Nat) : Int) := by rw [w64 (by omega) (by omega)]; omega
    have hn : decide (a + 5 + (sizePc d : Int) < 0) = false := ff (by omega)
    simp only [f80.l2, f80.l2.step, w1, w2, w3, w4, w5, wl, e1, e2, Option.bind_some, gm, e3]
    simp only [lt_mid, hp, if_true, decide_true, ne_eq, not_true_eq_false, decide_false, Bool.false_eq_true, if_false, beq_self_eq_true, Bool.not_true, hn]
    have := ih (pre ++ [⟨t1, t2, a + 2, a + 3, a + 4, d⟩]) j (a + 5 + (sizePc d : Int)) hh (by omega) (by simp; omega) (by omega) (by omega)
    simp only [List.length_append, List.length_singleton, List.append_assoc, List.singleton_append] at this
    refine Eq.trans this ?_
    simp only [sizeX]
    rw [show a + 5 + (sizePc d : Int) + (sizeX ys : Int) = a + ((5 + sizePc d + sizeX ys : Nat) : Int) by omega]
theorem markX (k : Nat) (hK : 2097152 ≤ k) {xs : List S104} (hb : ShortX 1048576 xs) (hl : xs.length ≤ 1048576) (h1 : sizeX xs ≤ 50000000000) : ∃ ys, f79 k xs 1 = some (1 + (sizeX xs : Int), ys) ∧ f80 k ys 1 = some (1 + (sizeX xs : Int)) := by
  obtain ⟨ys, h, h2, h3, h4⟩ := markX_loop k hK xs [] k 1 hb (by omega) (by simpa using hl) (by omega) (by omega)
  have h : f79.l2 k k 1 0 xs = some (1 + (sizeX xs : Int), ys) := h
  have h5 : f80.l2 k k ys 1 0 = some (.inr (1 + (sizeX ys : Int))) := heldX_loop k hK ys [] k 1 h2 (by omega) (by simp; omega) (by omega) (by omega)
  refine ⟨ys, by simp only [f79, f79.step, h]; rfl, by simp only [f80, f80.step, h5, h4]; rfl⟩
/-! ### right boxes -/
theorem in_spec (k : Nat) (a b c : Int) : f86 k a b c = some (decide (b ≤ a ∧ a ≤ c)) := by
  simp only [f86, f86.step]
  split <;> simp at * <;> omega
theorem in_impl (k : Nat) (a b c : Int) : f83 k a b c = some (decide (b ≤ a ∧ a ≤ c)) := by
  simp only [f83, f83.step]
  split <;> simp at * <;> omega
theorem tm8 (n : Nat) : Int.tmod (n : Int) 8 = ((n % 8 : Nat) : Int) := by rw [Int.tmod_eq_emod_of_nonneg (by omega)]; rfl
/-- A piece behind byte e; z: whether none follows. -/
def pcOK (e : Int) (x : S211) (z : Bool) : Prop := e ≤ x.f0 ∧ Int.tmod x.f0 8 = 0 ∧ x.f2.length ≤ 1500 ∧ x.f0 + x.f2.length ≤ 65515 ∧ (x.f1 = true → z = true) ∧ (x.f1 = false → x.f2.length % 8 = 0 ∧ 0 < x.f2.length)
instance (e : Int) (x : S211) (z : Bool) : Decidable (pcOK e x z) := by unfold pcOK; infer_instance
def chk : Int → List S211 → Bool
  | _, [] => true
  | e, x :: r => decide (pcOK e x r.isEmpty) && chk (x.f0 + x.f2.length) r
theorem isE {α : Type} (pre : List α) (x : α) (r : List α) (h : (pre ++ x :: r).length ≤ 100) : (¬ ((pre.length : Int) < IntKind.i64.wrap (((pre ++ x :: r).length : Int) - 1))) ↔ r.isEmpty = true := by
  rw [w64 (by omega) (by omega)]
  simp only [List.length_append, List.length_cons, List.isEmpty_iff, ← List.length_eq_zero_iff]
  omega
theorem spec_chk (k : Nat) (bs : List S104) (n : Int) (s1 s2 : ByteArray) (a1 a2 a3 : Int) : ∀ (rest pre : List S211) (j : Nat) (e : Int), rest.length < j → (pre ++ rest).length ≤ 100 → 0 ≤ e →
    f137.l11 k j bs n e (pre.length : Int) s1 s2 a1 a2 a3 (pre ++ rest) = some (if chk e rest = true then .inr (bs, n, s1, s2, a1, a2, a3, pre ++ rest) else .inl (bs, false, n, s1, s2, a1, a2, a3, pre ++ rest)) := by
  intro rest
  induction rest with
  | nil =>
    intro pre j e hj hl h0
    obtain ⟨j, rfl⟩ : ∃ j', j = j' + 1 := ⟨j - 1, by omega⟩
    simp only [f137.l11, f137.l11.step]
    rw [if_neg (fb (by simp))]
    simp [chk]
  | cons x rest ih =>
    intro pre j e hj hl h0
    obtain ⟨j, rfl⟩ : ∃ j', j = j' + 1 := ⟨j - 1, by omega⟩
    have hl2 : pre.length ≤ 100 := by simp at hl; omega
    have hp : (0 : Int) ≤ (pre.length : Int) := by omega
    have hw := wnext pre x (by omega)
    have hE := isE pre x rest hl
    simp only [f137.l11, f137.l11.step, gm, hw]
    rw [if_pos (tb (lt_mid _ _ _)), if_pos hp, if_pos (lt_mid _ _ _)]
    by_cases c1 : x.f0 < e
    · rw [if_neg (show ¬ decide (x.f0 < e) = false by rw [tb c1]; simp)]
      have : chk e (x :: rest) = false := by simp [chk, pcOK]; omega
      simp [this]
    rw [if_pos (ff c1)]
    by_cases c2 : Int.tmod x.f0 8 ≠ 0
    · rw [if_neg (show ¬ decide (Int.tmod x.f0 8 ≠ 0) = false by rw [tb c2]; simp)]
      have : chk e (x :: rest) = false := by simp [chk, pcOK, c2]
      simp [this]
    rw [if_pos (ff c2)]
    by_cases c3 : (x.f2.length : Int) > 1500
    · rw [if_neg (show ¬ decide ((x.f2.length : Int) > 1500) = false by rw [tb c3]; simp)]
      have : chk e (x :: rest) = false := by simp [chk, pcOK]; omega
      simp [this]
    rw [if_pos (ff c3), w64 (n := 65515 - (x.f2.length : Int)) (by omega) (by omega)]
    by_cases c4 : x.f0 > 65515 - (x.f2.length : Int)
    · rw [if_neg (show ¬ decide (x.f0 > 65515 - (x.f2.length : Int)) = false by rw [tb c4]; simp)]
      have : chk e (x :: rest) = false := by simp [chk, pcOK]; omega
      simp [this]
    rw [if_pos (ff c4)]
    have hih := ih (pre ++ [x]) j (x.f0 + x.f2.length) (by simp at hj; omega) (by simpa using hl) (by omega)
    simp only [List.append_assoc, List.singleton_append] at hih
    have e1 : IntKind.i64.wrap (x.f0 + (x.f2.length : Int)) = x.f0 + (x.f2.length : Int) := w64 (by omega) (by omega)
    simp only [e1, tm8]
    cases hf : x.f1
    · rw [if_neg (by simp), if_pos (by simp)]
      by_cases c5 : x.f2.length % 8 = 0
      case neg =>
        rw [if_neg (show ¬ decide (((x.f2.length % 8 : Nat) : Int) ≠ 0) = false by rw [tb (show ((x.f2.length % 8 : Nat) : Int) ≠ 0 by omega)]; simp)]
        have : chk e (x :: rest) = false := by simp [chk, pcOK, hf, c5]
        simp [this]
      rw [if_pos (ff (show ¬ ((x.f2.length % 8 : Nat) : Int) ≠ 0 by omega))]
      by_cases c6 : (x.f2.length : Int) = 0
      · rw [if_pos (tb c6)]
        have : chk e (x :: rest) = false := by
          have : ¬ 0 < x.f2.length := by omega
          simp [chk, pcOK, hf, this]
        simp [this]
      · rw [if_neg (fb c6), hih]
        have : decide (pcOK e x rest.isEmpty) = true := tb ⟨by omega, by simpa using c2, by omega, by omega, by simp [hf], fun _ => ⟨c5, by omega⟩⟩
        simp only [chk, this, Bool.true_and]
    · rw [if_pos rfl]
      by_cases c5 : (pre.length : Int) < IntKind.i64.wrap (((pre ++ x :: rest).length : Int) - 1)
      · rw [if_neg (show ¬ decide ((pre.length : Int) < IntKind.i64.wrap (((pre ++ x :: rest).length : Int) - 1)) = false by rw [tb c5]; simp)]
        have : chk e (x :: rest) = false := by
          have : ¬ rest.isEmpty = true := fun h => hE.mpr h c5
          simp only [chk, pcOK, hf]
          simp [this]
        simp [this]
      · rw [if_pos (ff c5), if_neg (by simp), hih]
        have : decide (pcOK e x rest.isEmpty) = true := tb ⟨by omega, by simpa using c2, by omega, by omega, fun _ => hE.mp c5, by simp [hf]⟩
        simp only [chk, this, Bool.true_and]
theorem piece_impl (k : Nat) (x : S211) : f196 k x.f0 x.f1 x.f2 = some (decide ((0 ≤ x.f0 ∧ x.f0 ≤ 65515) ∧ Int.tmod x.f0 8 = 0 ∧ x.f2.length ≤ 1500 ∧ x.f0 + x.f2.length ≤ 65515 ∧ (x.f1 = false → x.f2.length % 8 = 0 ∧ 0 < x.f2.length))) := by
  simp only [f196, f196.step, in_impl, Option.bind_some, tm8]
  by_cases c1 : 0 ≤ x.f0 ∧ x.f0 ≤ 65515
  case neg => simp [c1]
  by_cases c2 : Int.tmod x.f0 8 = 0
  case neg => simp [c1, c2]
  by_cases c3 : x.f2.length ≤ 1500
  case neg =>
    have : ((x.f2.length : Int) > 1500) := by omega
    simp [c1, c2, c3, this]
  have c3' : ¬ ((x.f2.length : Int) > 1500) := by omega
  have e1 : IntKind.i64.wrap (x.f0 + (x.f2.length : Int)) = x.f0 + (x.f2.length : Int) := w64 (by omega) (by omega)
  rw [e1]
  by_cases c4 : x.f0 + (x.f2.length : Int) ≤ 65515
  case neg =>
    have : x.f0 + (x.f2.length : Int) > 65515 := by omega
    simp [c1, c2, c3, c3', c4, this]
  have c4' : ¬ x.f0 + (x.f2.length : Int) > 65515 := by omega
  cases hf : x.f1
  · by_cases c5 : 0 < x.f2.length
    · have : (x.f2.length : Int) > 0 := by omega
      have q : (((x.f2.length % 8 : Nat) : Int) = 0) ↔ x.f2.length % 8 = 0 := by omega
      rw [if_pos (by simpa using c1), if_pos (by simp [c2]), if_pos (ff c3'), if_neg (fb c4'), if_pos rfl, if_pos (tb this)]
      simp only [q]
      simp [c1, c2, c3, c4, c5]
    · have : ¬ (x.f2.length : Int) > 0 := by omega
      rw [if_pos (by simpa using c1), if_pos (by simp [c2]), if_pos (ff c3'), if_neg (fb c4'), if_pos rfl, if_neg (fb this)]
      simp [c1, c2, c3, c4, c5]
  · rw [if_pos (by simpa using c1), if_pos (by simp [c2]), if_pos (ff c3'), if_neg (fb c4'), if_neg (by simp)]
    simp [c1, c2, c3, c4]
/-- Where the pieces before end. -/
def Prev (pre : List S211) (e : Int) (z : Bool) : Prop := (pre = [] ∧ e = 0) ∨ ∃ pre' p, pre = pre' ++ [p] ∧ e = p.f0 + p.f2.length ∧ 0 ≤ p.f0 ∧ p.f0 ≤ 65515 ∧ p.f2.length ≤ 1500 ∧ (z = false → 0 < p.f2.length)
theorem impl_chk (k : Nat) (s1 s2 : ByteArray) (a1 a2 a3 : Int) : ∀ (rest pre : List S211) (j : Nat) (e : Int), rest.length < j → (pre ++ rest).length ≤ 100 → Prev pre e rest.isEmpty →
    f175.l6 k j (pre ++ rest) ((pre ++ rest).length : Int) (pre.length : Int) s1 s2 a1 a2 a3 (pre ++ rest) = some (if chk e rest = true then .inr (s1, s2, a1, a2, a3, pre ++ rest) else .inl (false, s1, s2, a1, a2, a3, pre ++ rest)) := by
  intro rest
  induction rest with
  | nil =>
    intro pre j e hj hl h0
    obtain ⟨j, rfl⟩ : ∃ j', j = j' + 1 := ⟨j - 1, by omega⟩
    simp only [f175.l6, f175.l6.step]
    rw [if_neg (fb (by simp))]
    simp [chk]
  | cons x rest ih =>
    intro pre j e hj hl h0
    obtain ⟨j, rfl⟩ : ∃ j', j = j' + 1 := ⟨j - 1, by omega⟩
    have hl2 : pre.length ≤ 100 := by simp at hl; omega
    have hp : (0 : Int) ≤ (pre.length : Int) := by omega
    have hw := wnext pre x (by omega)
    have hE := isE pre x rest hl
    simp only [f175.l6, f175.l6.step, gm, hw, piece_impl, Option.bind_some]
    rw [if_pos (tb (lt_mid _ _ _)), if_pos hp, if_pos (lt_mid _ _ _)]
    by_cases c0 : (0 ≤ x.f0 ∧ x.f0 ≤ 65515) ∧ Int.tmod x.f0 8 = 0 ∧ x.f2.length ≤ 1500 ∧ x.f0 + x.f2.length ≤ 65515 ∧ (x.f1 = false → x.f2.length % 8 = 0 ∧ 0 < x.f2.length)
    case neg =>
      rw [if_neg (by rw [ff c0]; simp)]
      have h3 : 0 ≤ e := by rcases h0 with ⟨_, h⟩ | ⟨_, p, _, h, h2, _⟩ <;> omega
      have : ¬ pcOK e x rest.isEmpty := fun ⟨g1, g2, g3, g4, g5, g6⟩ => c0 ⟨⟨by omega, by omega⟩, g2, g3, g4, g6⟩
      have : chk e (x :: rest) = false := by simp [chk, this]
      simp [this]
    rw [if_pos (by rw [tb c0]; rfl)]
    obtain ⟨⟨q1, q2⟩, q3, q4, q5, q6⟩ := c0
    -- what is asked of a piece that is right and perhaps the last
    have main : (if decide ((pre.length : Int) > 0) = true then
        (if 0 ≤ IntKind.i64.wrap ((pre.length : Int) - 1) then
          (if IntKind.i64.wrap ((pre.length : Int) - 1) < ((pre ++ x :: rest).length : Int) then
            (if decide (x.f0 ≤ (List.getD (pre ++ x :: rest) (Int.toNat (IntKind.i64.wrap ((pre.length : Int) - 1))) (⟨0, false, []⟩ : S211)).f0) = false then
              (if 0 ≤ IntKind.i64.wrap ((pre.length : Int) - 1) then
                (if IntKind.i64.wrap ((pre.length : Int) - 1) < ((pre ++ x :: rest).length : Int) then
                  (f197 k (List.getD (pre ++ x :: rest) (Int.toNat (IntKind.i64.wrap ((pre.length : Int) - 1))) (⟨0, false, []⟩ : S211)).f0 (List.getD (pre ++ x :: rest) (Int.toNat (IntKind.i64.wrap ((pre.length : Int) - 1))) (⟨0, false, []⟩ : S211)).f1 (List.getD (pre ++ x :: rest) (Int.toNat (IntKind.i64.wrap ((pre.length : Int) - 1))) (⟨0, false, []⟩ : S211)).f2 x.f0 x.f1 x.f2).bind fun t21 => if t21 = true then
                    some (Sum.inl (false, s1, s2, a1, a2, a3, pre ++ x :: rest))
                  else
                    f175.l6 k j (pre ++ x :: rest) ((pre ++ x :: rest).length : Int) ((pre ++ [x]).length : Int) s1 s2 a1 a2 a3 (pre ++ x :: rest)
                else none)
              else none)
            else
              some (Sum.inl (false, s1, s2, a1, a2, a3, pre ++ x :: rest)))
          else none)
        else none)
      else
        f175.l6 k j (pre ++ x :: rest) ((pre ++ x :: rest).length : Int) ((pre ++ [x]).length : Int) s1 s2 a1 a2 a3 (pre ++ x :: rest)) =
        (if e ≤ x.f0 then f175.l6 k j (pre ++ x :: rest) ((pre ++ x :: rest).length : Int) ((pre ++ [x]).length : Int) s1 s2 a1 a2 a3 (pre ++ x :: rest) else some (Sum.inl (false, s1, s2, a1, a2, a3, pre ++ x :: rest))) := by
      rcases h0 with ⟨rfl, rfl⟩ | ⟨pre', p, rfl, rfl, p1, p2, p3, p4⟩
      · rw [if_neg (fb (by simp)), if_pos q1]
      · have hpl := p4 rfl
        have e1 : IntKind.i64.wrap (((pre' ++ [p]).length : Int) - 1) = (pre'.length : Int) := by rw [w64 (by omega) (by omega)]; simp
        have e2 : List.getD (pre' ++ [p] ++ x :: rest) (Int.toNat (pre'.length : Int)) (⟨0, false, []⟩ : S211) = p := by rw [List.append_assoc]; exact gm _ _ _ _
        have e3 : (pre'.length : Int) < ((pre' ++ [p] ++ x :: rest).length : Int) := by simp; omega
        have e4 : (0 : Int) ≤ (pre'.length : Int) := by omega
        simp only [e1, e2, if_pos e3, if_pos e4]
        rw [if_pos (tb (by simp only [List.length_append, List.length_singleton]; omega))]
        have o : f197 k p.f0 p.f1 p.f2 x.f0 x.f1 x.f2 = some (decide (p.f0 < x.f0 + x.f2.length ∧ x.f0 < p.f0 + p.f2.length)) := by
          simp only [f197, f197.step]
          rw [w64 (n := x.f0 + (x.f2.length : Int)) (by omega) (by omega), w64 (n := p.f0 + (p.f2.length : Int)) (by omega) (by omega)]
          by_cases c : p.f0 < x.f0 + (x.f2.length : Int)
          · rw [if_pos (tb c)]; simp [c]
          · rw [if_neg (fb c)]; simp [c]
        rw [o]
        simp only [Option.bind_some]
        by_cases c1 : x.f0 ≤ p.f0
        · rw [if_neg (show ¬ decide (x.f0 ≤ p.f0) = false by rw [tb c1]; simp), if_neg (by omega)]
        · rw [if_pos (ff c1)]
          by_cases c2 : p.f0 + p.f2.length ≤ x.f0
          · rw [if_neg (fb (by omega)), if_pos c2]
          · rw [if_pos (tb (by omega)), if_neg c2]
    have hih : pcOK e x rest.isEmpty → f175.l6 k j (pre ++ x :: rest) ((pre ++ x :: rest).length : Int) ((pre ++ [x]).length : Int) s1 s2 a1 a2 a3 (pre ++ x :: rest) = some (if chk (x.f0 + x.f2.length) rest = true then .inr (s1, s2, a1, a2, a3, pre ++ x :: rest) else .inl (false, s1, s2, a1, a2, a3, pre ++ x :: rest)) := by
      intro ⟨g1, g2, g3, g4, g5, g6⟩
      have hpv : Prev (pre ++ [x]) (x.f0 + x.f2.length) rest.isEmpty := .inr ⟨pre, x, rfl, rfl, q1, q2, q4, fun hz => by
        cases hf : x.f1
        · exact (g6 hf).2
        · have := g5 hf; rw [hz] at this; cases this⟩
      have := ih (pre ++ [x]) j (x.f0 + x.f2.length) (by simp at hj; omega) (by simpa using hl) hpv
      simp only [List.append_assoc, List.singleton_append] at this
      exact this
    have fin : (x.f1 = true → rest.isEmpty = true) → (if e ≤ x.f0 then f175.l6 k j (pre ++ x :: rest) ((pre ++ x :: rest).length : Int) ((pre ++ [x]).length : Int) s1 s2 a1 a2 a3 (pre ++ x :: rest) else some (Sum.inl (false, s1, s2, a1, a2, a3, pre ++ x :: rest))) = some (if chk e (x :: rest) = true then .inr (s1, s2, a1, a2, a3, pre ++ x :: rest) else .inl (false, s1, s2, a1, a2, a3, pre ++ x :: rest)) := by
      intro hz
      by_cases c : e ≤ x.f0
      · have ok : pcOK e x rest.isEmpty := ⟨c, q3, q4, q5, hz, q6⟩
        rw [if_pos c, hih ok]
        simp only [chk, tb ok, Bool.true_and]
      · rw [if_neg c]
        have : chk e (x :: rest) = false := by
          have : ¬ pcOK e x rest.isEmpty := fun h => c h.1
          simp [chk, this]
        simp [this]
    rw [main]
    cases hf : x.f1
    · rw [if_neg (by simp)]
      exact fin (by simp [hf])
    · rw [if_pos rfl]
      by_cases c5 : (pre.length : Int) < IntKind.i64.wrap (((pre ++ x :: rest).length : Int) - 1)
      · rw [if_pos (tb c5)]
        have : chk e (x :: rest) = false := by
          have : ¬ rest.isEmpty = true := fun h => hE.mpr h c5
          simp only [chk, pcOK, hf]
          simp [this]
        simp [this]
      · rw [if_neg (fb c5)]
        exact fin fun _ => hE.mp c5
/-- Whether pieces stand one behind the other from byte e on. -/
def whole : Int → List S211 → Bool
  | _, [] => true
  | e, x :: r => decide (x.f0 = e) && whole (e + x.f2.length) r
def lastF (l : List S211) : Bool := (l.getD (l.length - 1) (⟨0, false, []⟩ : S211)).f1
theorem spec_whole_loop (k : Nat) (s1 s2 : ByteArray) (a1 a2 a3 : Int) : ∀ (rest pre : List S211) (j : Nat) (e : Int), rest.length < j → (pre ++ rest).length ≤ 1000 → ShortPc 1500 rest → 0 ≤ e → e + 1500 * rest.length ≤ 1000000000 →
    f178.l3 k j e (pre.length : Int) s1 s2 a1 a2 a3 (pre ++ rest) = some (if whole e rest = true then .inr (s1, s2, a1, a2, a3, pre ++ rest) else .inl (false, s1, s2, a1, a2, a3, pre ++ rest)) := by
  intro rest
  induction rest with
  | nil =>
    intro pre j e hj hl hs h0 h1
    obtain ⟨j, rfl⟩ : ∃ j', j = j' + 1 := ⟨j - 1, by omega⟩
    simp only [f178.l3, f178.l3.step]
    rw [if_neg (fb (by simp))]
    simp [whole]
  | cons x rest ih =>
    intro pre j e hj hl hs h0 h1
    obtain ⟨j, rfl⟩ : ∃ j', j = j' + 1 := ⟨j - 1, by omega⟩
    have hp : (0 : Int) ≤ (pre.length : Int) := by omega
    have hw := wnext pre x (by simp at hl; omega)
    have hx := hs x List.mem_cons_self
    simp only [List.length_cons] at h1
    have e1 : IntKind.i64.wrap (e + (x.f2.length : Int)) = e + (x.f2.length : Int) := w64 (by omega) (by omega)
    simp only [f178.l3, f178.l3.step, gm, hw, e1]
    rw [if_pos (tb (lt_mid _ _ _)), if_pos hp, if_pos (lt_mid _ _ _)]
    by_cases c : x.f0 = e
    · rw [if_neg (fb (by simpa using c)), if_pos hp, if_pos (lt_mid _ _ _)]
      have := ih (pre ++ [x]) j (e + x.f2.length) (by simp at hj; omega) (by simpa using hl) (fun y hy => hs y (List.mem_cons_of_mem _ hy)) (by omega) (by omega)
      simp only [List.append_assoc, List.singleton_append] at this
      rw [this]
      simp only [whole, tb c, Bool.true_and]
    · rw [if_pos (tb c)]
      simp [whole, c]
theorem impl_whole_loop (k : Nat) (xs : List S211) : ∀ (rest pre : List S211) (j : Nat) (e : Int), rest.length < j → (pre ++ rest).length ≤ 1000 → ShortPc 1500 rest → 0 ≤ e → e + 1500 * rest.length ≤ 1000000000 →
    f198.l3 k j xs e (pre ++ rest) ((pre ++ rest).length : Int) (pre.length : Int) = some (if whole e rest = true then .inr xs else .inl (xs, false)) := by
  intro rest
  induction rest with
  | nil =>
    intro pre j e hj hl hs h0 h1
    obtain ⟨j, rfl⟩ : ∃ j', j = j' + 1 := ⟨j - 1, by omega⟩
    simp only [f198.l3, f198.l3.step]
    rw [if_neg (fb (by simp))]
    simp [whole]
  | cons x rest ih =>
    intro pre j e hj hl hs h0 h1
    obtain ⟨j, rfl⟩ : ∃ j', j = j' + 1 := ⟨j - 1, by omega⟩
    have hp : (0 : Int) ≤ (pre.length : Int) := by omega
    have hw := wnext pre x (by simp at hl; omega)
    have hx := hs x List.mem_cons_self
    simp only [List.length_cons] at h1
    have e1 : IntKind.i64.wrap (e + (x.f2.length : Int)) = e + (x.f2.length : Int) := w64 (by omega) (by omega)
    simp only [f198.l3, f198.l3.step, gm, hw, e1]
    rw [if_pos (tb (lt_mid _ _ _)), if_pos hp, if_pos (lt_mid _ _ _)]
    by_cases c : x.f0 = e
    · rw [if_neg (fb (by simpa using c))]
      have := ih (pre ++ [x]) j (e + x.f2.length) (by simp at hj; omega) (by simpa using hl) (fun y hy => hs y (List.mem_cons_of_mem _ hy)) (by omega) (by omega)
      simp only [List.append_assoc, List.singleton_append] at this
      rw [this]
      simp only [whole, tb c, Bool.true_and]
    · rw [if_pos (tb c)]
      simp [whole, c]
def wholeB (l : List S211) : Bool := whole 0 l && lastF l
theorem wlast {α : Type} (l : List α) (h0 : 0 < l.length) (h : l.length ≤ 1000) : IntKind.i64.wrap ((l.length : Int) - 1) = ((l.length - 1 : Nat) : Int) := by rw [w64 (by omega) (by omega)]; omega
theorem spec_whole (k : Nat) (hK : 2097152 ≤ k) (s1 s2 : ByteArray) (a1 a2 a3 : Int) {l : List S211} (h0 : 0 < l.length) (h : l.length ≤ 1000) (hs : ShortPc 1500 l) : f178 k s1 s2 a1 a2 a3 l = some (wholeB l) := by
  have e : f178.l3 k k 0 0 s1 s2 a1 a2 a3 l = _ := spec_whole_loop k s1 s2 a1 a2 a3 l [] k 0 (by omega) (by simpa using h) hs (by omega) (by omega)
  simp only [f178, f178.step, e, wholeB]
  cases whole 0 l
  · simp
  · simp only [if_true, Option.bind_some, Sum.elim_inr, List.nil_append, wlast l h0 h, Int.toNat_natCast]
    rw [if_pos (by omega), if_pos (by omega)]
    simp [lastF]
theorem impl_whole (k : Nat) (hK : 2097152 ≤ k) {l : List S211} (h0 : 0 < l.length) (h : l.length ≤ 1000) (hs : ShortPc 1500 l) : f198 k l = some (wholeB l) := by
  have e : f198.l3 k k l 0 l (l.length : Int) 0 = _ := impl_whole_loop k l l [] k 0 (by omega) (by simpa using h) hs (by omega) (by omega)
  simp only [f198, f198.step, e, wholeB]
  cases whole 0 l
  · simp
  · simp only [if_true, Option.bind_some, Sum.elim_inr, wlast l h0 h, Int.toNat_natCast]
    rw [if_pos (tb (by omega)), if_pos (by omega), if_pos (by omega)]
    simp [lastF]
theorem chk_short : ∀ {l : List S211} {e : Int}, chk e l = true → ShortPc 1500 l
  | [], _, _ => by intro x hx; cases hx
  | x :: l, e, h => by
    simp only [chk, Bool.and_eq_true, decide_eq_true_eq] at h
    intro y hy
    rcases List.mem_cons.mp hy with rfl | hy
    · exact h.1.2.2.1
    · exact chk_short h.2 y hy
def flow (a b : S104) : Bool := decide (a.f0.toList = b.f0.toList) && (decide (a.f1.toList = b.f1.toList) && (decide (a.f2 = b.f2) && decide (a.f3 = b.f3)))
theorem flow_impl (k : Nat) (a b : S104) : f176 k a.f0 a.f1 a.f2 a.f3 a.f4 a.f5 b.f0 b.f1 b.f2 b.f3 b.f4 b.f5 = some (flow a b) := by
  simp only [f176, f176.step, flow]
  by_cases c1 : a.f0.toList = b.f0.toList <;> by_cases c2 : a.f1.toList = b.f1.toList <;> by_cases c3 : a.f2 = b.f2 <;> simp [c1, c2, c3]
theorem any_split (p : S104 → Bool) (pre : List S104) (x : S104) (rest : List S104) : (x :: rest).any p = (p x || rest.any p) := rfl
theorem spec_find (k : Nat) (b : S104) : ∀ (rest pre : List S104) (j : Nat), rest.length < j → (pre ++ rest).length ≤ 100000 →
    (∃ v : Nat, f177.l2 k j (pre ++ rest) (pre.length : Int) b.f0 b.f1 b.f2 b.f3 b.f4 b.f5 = some (.inl (v : Int)) ∧ rest.any (flow b) = true) ∨ (f177.l2 k j (pre ++ rest) (pre.length : Int) b.f0 b.f1 b.f2 b.f3 b.f4 b.f5 = some (.inr ()) ∧ rest.any (flow b) = false) := by
  intro rest
  induction rest with
  | nil =>
    intro pre j hj hl
    obtain ⟨j, rfl⟩ : ∃ j', j = j' + 1 := ⟨j - 1, by omega⟩
    simp only [f177.l2, f177.l2.step]
    rw [if_neg (fb (by simp))]
    exact .inr ⟨rfl, rfl⟩
  | cons x rest ih =>
    intro pre j hj hl
    obtain ⟨j, rfl⟩ : ∃ j', j = j' + 1 := ⟨j - 1, by omega⟩
    have hp : (0 : Int) ≤ (pre.length : Int) := by omega
    have hw := wnext pre x (by simp at hl; omega)
    have := ih (pre ++ [x]) j (by simp at hj; omega) (by simpa using hl)
    simp only [List.append_assoc, List.singleton_append] at this
    simp only [f177.l2, f177.l2.step, gm, hw, any_split (flow b) pre]
    simp only [lt_mid, hp, if_true, decide_true]
    by_cases c1 : x.f0.toList = b.f0.toList
    case neg =>
      have c1' : ¬ b.f0.toList = x.f0.toList := fun h => c1 h.symm
      simp only [flow, c1, c1', decide_false, Bool.false_and, Bool.false_or, Bool.false_eq_true, if_false]
      exact this
    by_cases c2 : x.f1.toList = b.f1.toList
    case neg =>
      have c2' : ¬ b.f1.toList = x.f1.toList := fun h => c2 h.symm
      simp only [flow, c1, c2, c2', decide_true, if_true, decide_false, Bool.true_and, Bool.false_and, Bool.false_or, Bool.false_eq_true, if_false]
      exact this
    by_cases c3 : x.f2 = b.f2
    case neg =>
      have c3' : ¬ b.f2 = x.f2 := fun h => c3 h.symm
      simp only [flow, c1, c2, c3, c3', decide_true, if_true, decide_false, Bool.true_and, Bool.false_and, Bool.false_or, Bool.false_eq_true, if_false]
      exact this
    by_cases c4 : x.f3 = b.f3
    case neg =>
      have c4' : ¬ b.f3 = x.f3 := fun h => c4 h.symm
      simp only [flow, c1, c2, c3, c4, c4', decide_true, if_true, decide_false, Bool.true_and, Bool.false_and, Bool.false_or, Bool.false_eq_true, if_false]
      exact this
    · simp only [flow, c1, c2, c3, c4, decide_true, if_true, Bool.true_and, Bool.true_or]
      exact .inl ⟨pre.length, rfl, trivial⟩
theorem impl_find (k : Nat) (b : S104) (xs7 xs8 : List S104) (n i : Int) : ∀ (rest pre : List S104) (j : Nat), rest.length < j → (pre ++ rest).length ≤ 100000 →
    f135.l9 k j xs7 xs8 n i (pre ++ rest) ((pre ++ rest).length : Int) (pre.length : Int) b.f0 b.f1 b.f2 b.f3 b.f4 b.f5 = some (if rest.any (flow b) = true then .inl (xs7, false, xs8, n, i) else .inr (xs7, xs8, n, i)) := by
  intro rest
  induction rest with
  | nil =>
    intro pre j hj hl
    obtain ⟨j, rfl⟩ : ∃ j', j = j' + 1 := ⟨j - 1, by omega⟩
    simp only [f135.l9, f135.l9.step]
    rw [if_neg (fb (by simp))]
    simp
  | cons x rest ih =>
    intro pre j hj hl
    obtain ⟨j, rfl⟩ : ∃ j', j = j' + 1 := ⟨j - 1, by omega⟩
    have hp : (0 : Int) ≤ (pre.length : Int) := by omega
    have hw := wnext pre x (by simp at hl; omega)
    have := ih (pre ++ [x]) j (by simp at hj; omega) (by simpa using hl)
    simp only [List.append_assoc, List.singleton_append] at this
    simp only [f135.l9, f135.l9.step, gm, hw, any_split (flow b) pre, flow_impl, Option.bind_some]
    simp only [lt_mid, hp, if_true, decide_true]
    rcases Bool.eq_false_or_eq_true (flow b x) with h | h
    · simp [h]
    · simp only [h, Bool.false_eq_true, if_false, Bool.false_or]
      exact this
def hdr (b : S104) : Prop := b.f0.size = 4 ∧ b.f1.size = 4 ∧ (0 ≤ b.f2 ∧ b.f2 ≤ 65535) ∧ (0 ≤ b.f3 ∧ b.f3 ≤ 255) ∧ (0 ≤ b.f4 ∧ b.f4 ≤ 1000030) ∧ (1 ≤ b.f5.length ∧ b.f5.length ≤ 12)
instance (b : S104) : Decidable (hdr b) := by unfold hdr; infer_instance
def goodB (b : S104) : Bool := decide (hdr b) && (chk 0 b.f5 && !wholeB b.f5)
def goods : List S104 → List S104 → Bool
  | _, [] => true
  | pre, b :: r => goodB b && (!(pre.any (flow b)) && goods (pre ++ [b]) r)
theorem box_impl (k : Nat) (hK : 2097152 ≤ k) (b : S104) : f175 k b.f0 b.f1 b.f2 b.f3 b.f4 b.f5 = some (goodB b) := by
  simp only [f175, f175.step, in_impl, Option.bind_some, goodB]
  by_cases c1 : b.f0.size = 4
  case neg =>
    have : ¬ (b.f0.size : Int) = 4 := by omega
    simp [hdr, c1, this]
  by_cases c2 : b.f1.size = 4
  case neg =>
    have : ¬ (b.f1.size : Int) = 4 := by omega
    simp [hdr, c1, c2, this]
  by_cases c3 : 0 ≤ b.f2 ∧ b.f2 ≤ 65535
  case neg => simp [hdr, c1, c2, c3]
  by_cases c4 : 0 ≤ b.f3 ∧ b.f3 ≤ 255
  case neg => simp [hdr, c1, c2, c3, c4]
  by_cases c5 : 0 ≤ b.f4 ∧ b.f4 ≤ 1000030
  case neg => simp [hdr, c1, c2, c3, c4, c5]
  by_cases c6 : 1 ≤ b.f5.length ∧ b.f5.length ≤ 12
  case neg =>
    have : ¬ (1 ≤ (b.f5.length : Int) ∧ (b.f5.length : Int) ≤ 12) := by omega
    simp only [hdr, c1, c2, c3, c4, c5, c6, this, decide_true, decide_false]
    simp
  have c6' : 1 ≤ (b.f5.length : Int) ∧ (b.f5.length : Int) ≤ 12 := by omega
  have c1' : (b.f0.size : Int) = 4 := by omega
  have c2' : (b.f1.size : Int) = 4 := by omega
  have h : hdr b := ⟨c1, c2, c3, c4, c5, c6⟩
  have e : f175.l6 k k b.f5 (b.f5.length : Int) 0 b.f0 b.f1 b.f2 b.f3 b.f4 b.f5 = _ := impl_chk k b.f0 b.f1 b.f2 b.f3 b.f4 b.f5 [] k 0 (by omega) (by simp; omega) (.inl ⟨rfl, rfl⟩)
  simp only [c1', c2', tb c3, tb c4, tb c5, tb c6', tb h, e]
  cases hc : chk 0 b.f5
  · simp
  · simp [impl_whole k hK c6.1 (by omega) (chk_short hc)]
theorem take_mid (pre rest : List S104) : List.drop 0 (List.take (Int.toNat (pre.length : Int)) (pre ++ rest)) = pre := by simp
theorem impl_goods (k : Nat) (hK : 2097152 ≤ k) : ∀ (rest pre : List S104) (j : Nat), rest.length < j → (pre ++ rest).length ≤ 10 →
    f135.l4 k j (pre ++ rest) (pre ++ rest) ((pre ++ rest).length : Int) (pre.length : Int) = some (if goods pre rest = true then .inr () else .inl false) := by
  intro rest
  induction rest with
  | nil =>
    intro pre j hj hl
    obtain ⟨j, rfl⟩ : ∃ j', j = j' + 1 := ⟨j - 1, by omega⟩
    simp only [f135.l4, f135.l4.step]
    rw [if_neg (fb (by simp))]
    simp [goods]
  | cons x rest ih =>
    intro pre j hj hl
    obtain ⟨j, rfl⟩ : ∃ j', j = j' + 1 := ⟨j - 1, by omega⟩
    have hp : (0 : Int) ≤ (pre.length : Int) := by omega
    have hw := wnext pre x (by simp at hl; omega)
    have := ih (pre ++ [x]) j (by simp at hj; omega) (by simpa using hl)
    simp only [List.append_assoc, List.singleton_append] at this
    have e : ∀ n i, f135.l9 k k (pre ++ x :: rest) (pre ++ x :: rest) n i pre (pre.length : Int) 0 x.f0 x.f1 x.f2 x.f3 x.f4 x.f5 = _ := fun n i => impl_find k x (pre ++ x :: rest) (pre ++ x :: rest) n i pre [] k (by simp at hl; omega) (by simp at hl ⊢; omega)
    have hle : (pre.length : Int) ≤ ((pre ++ x :: rest).length : Int) := by simp; omega
    simp only [f135.l4, f135.l4.step, gm, box_impl k hK, Option.bind_some, take_mid]
    simp only [lt_mid, hp, hle, if_true, decide_true, e, goods]
    rcases Bool.eq_false_or_eq_true (goodB x) with hg | hg
    · simp only [hg, Bool.not_true, Bool.false_eq_true, if_false, Bool.true_and]
      rcases Bool.eq_false_or_eq_true (pre.any (flow x)) with hf | hf
      · simp [hf]
      · simp only [hf, Bool.false_eq_true, if_false, Option.bind_some, Sum.elim_inr, Bool.not_false, Bool.true_and, hw]
        exact this
    · simp [hg]
theorem boxes_impl (k : Nat) (hK : 2097152 ≤ k) (l : List S104) : f135 k l = some (decide (l.length ≤ 6) && goods [] l) := by
  simp only [f135, f135.step]
  by_cases c : l.length ≤ 6
  · rw [if_neg (fb (by omega))]
    have e : f135.l4 k k l l (l.length : Int) 0 = _ := impl_goods k hK l [] k (by omega) (by simp; omega)
    rw [e]
    cases goods [] l <;> simp [c]
  · rw [if_pos (tb (by omega))]
    simp [c]
theorem spec_goods (k : Nat) (hK : 2097152 ≤ k) : ∀ (rest pre : List S104) (j : Nat), rest.length < j → (pre ++ rest).length ≤ 10 →
    f137.l4 k j (pre ++ rest) (pre.length : Int) = some (if goods pre rest = true then .inr () else .inl false) := by
  intro rest
  induction rest with
  | nil =>
    intro pre j hj hl
    obtain ⟨j, rfl⟩ : ∃ j', j = j' + 1 := ⟨j - 1, by omega⟩
    simp only [f137.l4, f137.l4.step]
    rw [if_neg (fb (by simp))]
    simp [goods]
  | cons b rest ih =>
    intro pre j hj hl
    obtain ⟨j, rfl⟩ : ∃ j', j = j' + 1 := ⟨j - 1, by omega⟩
    have hp : (0 : Int) ≤ (pre.length : Int) := by omega
    have hw := wnext pre b (by simp at hl; omega)
    have := ih (pre ++ [b]) j (by simp at hj; omega) (by simpa using hl)
    simp only [List.append_assoc, List.singleton_append] at this
    have hle : (pre.length : Int) ≤ ((pre ++ b :: rest).length : Int) := by simp; omega
    simp only [f137.l4, f137.l4.step, gm, in_spec, Option.bind_some, take_mid, goods, goodB]
    simp only [lt_mid, hp, hle, if_true, decide_true]
    by_cases c1 : b.f0.size = 4
    case neg =>
      have : ¬ (b.f0.size : Int) = 4 := by omega
      simp [hdr, c1, this]
    by_cases c2 : b.f1.size = 4
    case neg =>
      have : ¬ (b.f1.size : Int) = 4 := by omega
      simp [hdr, c1, c2, this]
    by_cases c3 : 0 ≤ b.f2 ∧ b.f2 ≤ 65535
    case neg => simp [hdr, c1, c2, c3]
    by_cases c4 : 0 ≤ b.f3 ∧ b.f3 ≤ 255
    case neg => simp [hdr, c1, c2, c3, c4]
    by_cases c5 : 0 ≤ b.f4 ∧ b.f4 ≤ 1000030
    case neg => simp [hdr, c1, c2, c3, c4, c5]
    have c1' : (b.f0.size : Int) = 4 := by omega
    have c2' : (b.f1.size : Int) = 4 := by omega
    by_cases c6 : 1 ≤ b.f5.length
    case neg =>
      have q : (b.f5.length : Int) = 0 := by omega
      have : ¬ hdr b := fun h => c6 h.2.2.2.2.2.1
      simp only [c1', c2', tb c3, tb c4, tb c5, ff this, q]
      simp
    by_cases c7 : b.f5.length ≤ 12
    case neg =>
      have q : ¬ (b.f5.length : Int) = 0 := by omega
      have q2 : (b.f5.length : Int) > 12 := by omega
      have : ¬ hdr b := fun h => c7 h.2.2.2.2.2.2
      simp only [c1', c2', tb c3, tb c4, tb c5, ff this, ff q, tb q2]
      simp
    have q : ¬ (b.f5.length : Int) = 0 := by omega
    have q2 : ¬ (b.f5.length : Int) > 12 := by omega
    have h : hdr b := ⟨c1, c2, c3, c4, c5, c6, c7⟩
    have e : f137.l11 k k (pre ++ b :: rest) (pre.length : Int) 0 0 b.f0 b.f1 b.f2 b.f3 b.f4 b.f5 = _ := spec_chk k (pre ++ b :: rest) (pre.length : Int) b.f0 b.f1 b.f2 b.f3 b.f4 b.f5 [] k 0 (by omega) (by simp; omega) (by omega)
    simp only [c1', c2', tb c3, tb c4, tb c5, tb h, ff q, ff q2, e]
    simp only [ne_eq, not_true_eq_false, decide_false, if_true, Bool.not_true, Bool.true_and]
    have fnd : ∃ v : Int, f177 k pre b.f0 b.f1 b.f2 b.f3 b.f4 b.f5 = some v ∧ decide (v ≥ 0) = pre.any (flow b) := by
      rcases spec_find k b pre [] k (by simp at hl; omega) (by simp at hl ⊢; omega) with ⟨v, h1, h2⟩ | ⟨h1, h2⟩
      · have h1 : f177.l2 k k pre 0 b.f0 b.f1 b.f2 b.f3 b.f4 b.f5 = some (.inl (v : Int)) := h1
        exact ⟨v, by simp only [f177, f177.step, h1]; rfl, by rw [h2]; simp⟩
      · have h1 : f177.l2 k k pre 0 b.f0 b.f1 b.f2 b.f3 b.f4 b.f5 = some (.inr ()) := h1
        exact ⟨-1, by simp only [f177, f177.step, h1]; rfl, by rw [h2]; simp⟩
    obtain ⟨v, hv, hv2⟩ := fnd
    simp only [hv, Option.bind_some, hv2]
    cases hf : pre.any (flow b)
    · simp only [Bool.false_eq_true, if_false, Bool.not_false, Bool.true_and]
      cases hc : chk 0 b.f5
      · simp
      · simp only [List.nil_append, if_true, Option.bind_some, Sum.elim_inr, spec_whole k hK b.f0 b.f1 b.f2 b.f3 b.f4 c6 (by omega : b.f5.length ≤ 1000) (chk_short hc), Bool.true_and]
        cases wholeB b.f5
        · simp only [Bool.false_eq_true, if_false, Bool.not_false, Bool.true_and, hw]
          exact this
        · simp
    · simp
theorem boxes_spec (k : Nat) (hK : 2097152 ≤ k) (l : List S104) : f137 k l = some (decide (l.length ≤ 6) && goods [] l) := by
  simp only [f137, f137.step]
  by_cases c : l.length ≤ 6
  · rw [if_neg (fb (by omega))]
    have e : f137.l4 k k l 0 = _ := spec_goods k hK l [] k (by omega) (by simp; omega)
    rw [e]
    cases goods [] l <;> simp [c]
  · rw [if_pos (tb (by omega))]
    simp [c]
/-! ### boxes copied -/
theorem clone_loop (k : Nat) (s1 s2 t1 t2 : ByteArray) (a1 a2 a3 b1 b2 b3 : Int) (xs : List S211) (hl : xs.length ≤ 1048576) (hs : ShortPc 1048576 xs) : ∀ (rest pre : List S211) (j : Nat), xs = pre ++ rest → rest.length < j →
    f136.l3 k j xs (xs.length : Int) (pre.length : Int) s1 s2 a1 a2 a3 xs t1 t2 b1 b2 b3 (pre ++ List.replicate rest.length (⟨0, false, []⟩ : S211)) = some (s1, s2, a1, a2, a3, xs, t1, t2, b1, b2, b3, xs) := by
  intro rest
  induction rest with
  | nil =>
    intro pre j hx hj
    obtain ⟨j, rfl⟩ : ∃ j', j = j' + 1 := ⟨j - 1, by omega⟩
    simp only [f136.l3, f136.l3.step]
    have : xs.length = pre.length := by rw [hx]; simp
    rw [if_neg (fb (by omega)), hx]; simp
  | cons x rest ih =>
    intro pre j hx hj
    obtain ⟨j, rfl⟩ : ∃ j', j = j' + 1 := ⟨j - 1, by omega⟩
    have hlt : (pre.length : Int) < (xs.length : Int) := by rw [hx]; exact lt_mid _ _ _
    have hg : ∀ d, xs.getD (Int.toNat (pre.length : Int)) d = x := fun d => by rw [hx]; exact gm _ _ _ _
    have hxl : x.f2.length ≤ 1048576 := hs x (by rw [hx]; simp)
    have hw := wnext pre x (by omega)
    have hp : (0 : Int) ≤ (pre.length : Int) := by omega
    have hm : (([] : List Int).length + x.f2.length) * 1 ≤ maxN := by simp [maxN]; omega
    simp only [f136.l3, f136.l3.step, hg, hw, List.length_cons, List.replicate_succ, List.nil_append, set_mid]
    simp only [hlt, hp, hm, lt_mid, if_true, decide_true]
    have := ih (pre ++ [x]) j (by rw [hx]; simp) (by simp at hj; omega)
    simp only [List.append_assoc, List.singleton_append] at this
    exact this
theorem clone_ok (k : Nat) (hK : 2097152 ≤ k) (b : S104) (hl : b.f5.length ≤ 1048576) (hs : ShortPc 1048576 b.f5) : f136 k b.f0 b.f1 b.f2 b.f3 b.f4 b.f5 = some (b.f0, b.f1, b.f2, b.f3, b.f4, b.f5) := by
  have e : f136.l3 k k b.f5 (b.f5.length : Int) 0 b.f0 b.f1 b.f2 b.f3 b.f4 b.f5 ByteArray.empty ByteArray.empty 0 0 0 (List.replicate (Int.toNat (b.f5.length : Int)) (⟨0, false, []⟩ : S211)) = _ :=
    clone_loop k b.f0 b.f1 ByteArray.empty ByteArray.empty b.f2 b.f3 b.f4 0 0 0 b.f5 hl hs b.f5 [] k rfl (by omega)
  simp only [f136, f136.step, e, Option.bind_some]
  rw [if_pos (by omega), if_pos (by simp [maxN]; omega)]
theorem own_loop8 (k : Nat) (xs : List S104) (bpre brest : List S104) (b : S104) (hx : xs = bpre ++ b :: brest) (ys : List S104) (s1 s2 : ByteArray) (a1 a2 a3 : Int) (hl : b.f5.length ≤ 1048576) (hs : ShortPc 1048576 b.f5) : ∀ (rest pre : List S211) (j : Nat), b.f5 = pre ++ rest → rest.length < j →
    f133.l8 k j xs (bpre.length : Int) (pre.length : Int) ys s1 s2 a1 a2 a3 pre = some (xs, (bpre.length : Int), ys, s1, s2, a1, a2, a3, b.f5) := by
  intro rest
  have hg0 : ∀ d, xs.getD (Int.toNat (bpre.length : Int)) d = b := fun d => by rw [hx]; exact gm _ _ _ _
  have hlt0 : (bpre.length : Int) < (xs.length : Int) := by rw [hx]; exact lt_mid _ _ _
  have hp0 : (0 : Int) ≤ (bpre.length : Int) := by omega
  induction rest with
  | nil =>
    intro pre j he hj
    obtain ⟨j, rfl⟩ : ∃ j', j = j' + 1 := ⟨j - 1, by omega⟩
    have : b.f5.length = pre.length := by rw [he]; simp
    simp only [f133.l8, f133.l8.step, hg0]
    rw [if_pos hp0, if_pos hlt0, if_neg (fb (by omega)), he]; simp
  | cons x rest ih =>
    intro pre j he hj
    obtain ⟨j, rfl⟩ : ∃ j', j = j' + 1 := ⟨j - 1, by omega⟩
    have hlt : (pre.length : Int) < (b.f5.length : Int) := by rw [he]; exact lt_mid _ _ _
    have hg : ∀ d, b.f5.getD (Int.toNat (pre.length : Int)) d = x := fun d => by rw [he]; exact gm _ _ _ _
    have hxl : x.f2.length ≤ 1048576 := hs x (by rw [he]; simp)
    have hw := wnext pre x (by omega)
    have hp : (0 : Int) ≤ (pre.length : Int) := by omega
    have hm : (([] : List Int).length + x.f2.length) * 1 ≤ maxN := by simp [maxN]; omega
    have hm2 : ∀ y : S211, (pre.length + ([y] : List S211).length) * 40 ≤ maxN := fun y => by simp [maxN]; omega
    simp only [f133.l8, f133.l8.step, hg0, hg, hw, List.nil_append]
    simp only [hlt, hp, hm, hm2, hp0, hlt0, if_true, decide_true]
    exact ih (pre ++ [x]) j (by rw [he]; simp) (by simp at hj; omega)
theorem own_loop3 (k : Nat) (hK : 2097152 ≤ k) (xs : List S104) (hl : xs.length ≤ 1048576) (hs : ShortX 1048576 xs) : ∀ (rest pre : List S104) (j : Nat), xs = pre ++ rest → rest.length < j →
    f133.l3 k j xs (pre.length : Int) pre = some xs := by
  intro rest
  induction rest with
  | nil =>
    intro pre j hx hj
    obtain ⟨j, rfl⟩ : ∃ j', j = j' + 1 := ⟨j - 1, by omega⟩
    simp only [f133.l3, f133.l3.step]
    have : xs.length = pre.length := by rw [hx]; simp
    rw [if_neg (fb (by omega)), hx]; simp
  | cons x rest ih =>
    intro pre j hx hj
    obtain ⟨j, rfl⟩ : ∃ j', j = j' + 1 := ⟨j - 1, by omega⟩
    have hlt : (pre.length : Int) < (xs.length : Int) := by rw [hx]; exact lt_mid _ _ _
    have hg : ∀ d, xs.getD (Int.toNat (pre.length : Int)) d = x := fun d => by rw [hx]; exact gm _ _ _ _
    have hxl := hs x (by rw [hx]; simp)
    have hw := wnext pre x (by omega)
    have hp : (0 : Int) ≤ (pre.length : Int) := by omega
    have hm2 : ∀ y : S104, (pre.length + ([y] : List S104).length) * 80 ≤ maxN := fun y => by simp [maxN]; omega
    have e : f133.l8 k k xs (pre.length : Int) 0 pre x.f0 x.f1 x.f2 x.f3 x.f4 [] = _ := own_loop8 k xs pre rest x hx pre x.f0 x.f1 x.f2 x.f3 x.f4 hxl.1 hxl.2 x.f5 [] k rfl (by omega)
    simp only [f133.l3, f133.l3.step, hg, e, Option.bind_some, hw]
    simp only [hlt, hp, hm2, if_true, decide_true]
    exact ih (pre ++ [x]) j (by rw [hx]; simp) (by simp at hj; omega)
theorem own_ok (k : Nat) (hK : 2097152 ≤ k) {xs : List S104} (hl : xs.length ≤ 1048576) (hs : ShortX 1048576 xs) : f133 k xs = some xs := by
  have e : f133.l3 k k xs 0 [] = some xs := own_loop3 k hK xs hl hs xs [] k rfl (by omega)
  simp only [f133, f133.step, e, Option.bind_some]
/-! ### boxes whose time is over -/
def later (now : Int) (b : S104) : Bool := decide (b.f4 > now)
theorem impl_exp_loop (k : Nat) (hK : 2097152 ≤ k) (now : Int) (xs : List S104) (hl : xs.length ≤ 1048576) (hs : ShortX 1048576 xs) : ∀ (rest pre : List S104) (j : Nat) (out : List S104), xs = pre ++ rest → rest.length < j → out.length ≤ pre.length →
    f69.l9 k j xs now xs (xs.length : Int) (pre.length : Int) out = some (xs, out ++ rest.filter (later now)) := by
  intro rest
  induction rest with
  | nil =>
    intro pre j out hx hj ho
    obtain ⟨j, rfl⟩ : ∃ j', j = j' + 1 := ⟨j - 1, by omega⟩
    simp only [f69.l9, f69.l9.step]
    have : xs.length = pre.length := by rw [hx]; simp
    rw [if_neg (fb (by omega))]; simp
  | cons x rest ih =>
    intro pre j out hx hj ho
    obtain ⟨j, rfl⟩ : ∃ j', j = j' + 1 := ⟨j - 1, by omega⟩
    have hlt : (pre.length : Int) < (xs.length : Int) := by rw [hx]; exact lt_mid _ _ _
    have hg : ∀ d, xs.getD (Int.toNat (pre.length : Int)) d = x := fun d => by rw [hx]; exact gm _ _ _ _
    have hxl := hs x (by rw [hx]; simp)
    have hw := wnext pre x (by omega)
    have hp : (0 : Int) ≤ (pre.length : Int) := by omega
    have hm2 : ∀ y : S104, (out.length + ([y] : List S104).length) * 80 ≤ maxN := fun y => by simp [maxN]; omega
    simp only [f69.l9, f69.l9.step, hg, hw, clone_ok k hK x hxl.1 hxl.2, Option.bind_some]
    simp only [hlt, hp, hm2, if_true, decide_true]
    by_cases c : x.f4 > now
    · rw [if_pos (tb c)]
      have := ih (pre ++ [x]) j (out ++ [x]) (by rw [hx]; simp) (by simp at hj; omega) (by simp; omega)
      refine Eq.trans this ?_
      rw [List.filter_cons_of_pos (by simp [later, c])]
      simp
    · rw [if_neg (fb c)]
      have := ih (pre ++ [x]) j out (by rw [hx]; simp) (by simp at hj; omega) (by simp; omega)
      refine Eq.trans this ?_
      rw [List.filter_cons_of_neg (by simp [later]; omega)]
theorem spec_exp_loop (k : Nat) (now : Int) (xs : List S104) (hl : xs.length ≤ 1048576) : ∀ (rest pre : List S104) (j : Nat) (out : List S104), xs = pre ++ rest → rest.length < j → out.length ≤ pre.length →
    f70.l9 k j xs now (pre.length : Int) out = some (xs, out ++ rest.filter (later now)) := by
  intro rest
  induction rest with
  | nil =>
    intro pre j out hx hj ho
    obtain ⟨j, rfl⟩ : ∃ j', j = j' + 1 := ⟨j - 1, by omega⟩
    simp only [f70.l9, f70.l9.step]
    have : xs.length = pre.length := by rw [hx]; simp
    rw [if_neg (fb (by omega))]; simp
  | cons x rest ih =>
    intro pre j out hx hj ho
    obtain ⟨j, rfl⟩ : ∃ j', j = j' + 1 := ⟨j - 1, by omega⟩
    have hlt : (pre.length : Int) < (xs.length : Int) := by rw [hx]; exact lt_mid _ _ _
    have hg : ∀ d, xs.getD (Int.toNat (pre.length : Int)) d = x := fun d => by rw [hx]; exact gm _ _ _ _
    have hw := wnext pre x (by omega)
    have hp : (0 : Int) ≤ (pre.length : Int) := by omega
    have hm2 : ∀ y : S104, (out.length + ([y] : List S104).length) * 80 ≤ maxN := fun y => by simp [maxN]; omega
    simp only [f70.l9, f70.l9.step, hg, hw]
    simp only [hlt, hp, hm2, if_true, decide_true]
    by_cases c : x.f4 > now
    · rw [if_pos (tb c)]
      have := ih (pre ++ [x]) j (out ++ [x]) (by rw [hx]; simp) (by simp at hj; omega) (by simp; omega)
      refine Eq.trans this ?_
      rw [List.filter_cons_of_pos (by simp [later, c])]
      simp
    · rw [if_neg (fb c)]
      have := ih (pre ++ [x]) j out (by rw [hx]; simp) (by simp at hj; omega) (by simp; omega)
      refine Eq.trans this ?_
      rw [List.filter_cons_of_neg (by simp [later]; omega)]
theorem short_filter {n : Nat} {l : List S104} (p : S104 → Bool) (h : ShortX n l) : ShortX n (l.filter p) := fun b hb => h b (List.mem_filter.mp hb).1
theorem expire_ok (k : Nat) (hK : 2097152 ≤ k) (l : List S104) (hl : l.length ≤ 1048576) (hs : ShortX 1048576 l) (now : Int) :
    (∃ c, f69 k l now = some (.inl (0, c)) ∧ f70 k l now = some ([], 0, c) ∧ c ≠ 0) ∨
    (f69 k l now = some (.inr (l.filter (later now), (l.length : Int) - ((l.filter (later now)).length : Int), 0)) ∧ f70 k l now = some (l.filter (later now), (l.length : Int) - ((l.filter (later now)).length : Int), 0) ∧ goods [] l = true ∧ l.length ≤ 6) := by
  have hf : (l.filter (later now)).length ≤ l.length := List.length_filter_le _ _
  simp only [f69, f69.step, f70, f70.step, boxes_impl k hK, boxes_spec k hK, in_impl, in_spec, Option.bind_some]
  by_cases c1 : (l.length : Int) > 4096
  · rw [if_pos (tb c1), if_pos (tb c1)]
    exact .inl ⟨2, rfl, rfl, by decide⟩
  rw [if_neg (fb c1), if_neg (fb c1)]
  cases hg : (decide (l.length ≤ 6) && goods [] l)
  · exact .inl ⟨1, rfl, rfl, by decide⟩
  · simp only [Bool.not_true, Bool.false_eq_true, if_false]
    by_cases c2 : 0 ≤ now ∧ now ≤ 1000000
    case neg =>
      rw [if_pos (by rw [ff c2]; rfl), if_pos (by rw [ff c2]; rfl)]
      exact .inl ⟨4, rfl, rfl, by decide⟩
    rw [if_neg (by rw [tb c2]; simp), if_neg (by rw [tb c2]; simp)]
    have e1 : f69.l9 k k l now l (l.length : Int) 0 [] = _ := impl_exp_loop k hK now l hl hs l [] k [] rfl (by omega) (by simp)
    have e2 : f70.l9 k k l now 0 [] = _ := spec_exp_loop k now l hl l [] k [] rfl (by omega) (by simp)
    have e3 := own_ok k hK (xs := l.filter (later now)) (by omega) (short_filter _ hs)
    have e4 : IntKind.i64.wrap ((l.length : Int) - ((l.filter (later now)).length : Int)) = (l.length : Int) - ((l.filter (later now)).length : Int) := w64 (by omega) (by omega)
    simp only [Bool.and_eq_true, decide_eq_true_eq] at hg
    refine .inr ⟨?_, ?_, hg.2, hg.1⟩
    · rw [e1]; simp only [Option.bind_some, List.nil_append, e4]
    · rw [e2]; simp only [Option.bind_some, List.nil_append, e3, e4]
theorem wf_pc {x : S238} (h : OK238 x) : x.f2.length ≤ maxLen := h.2.2.1
theorem wf_box {b : S176} (h : OK176 b) : OKm b := ⟨h.1, h.2.1, h.2.2.2.2.2.1, fun x hx => wf_pc (h.2.2.2.2.2.2 x hx)⟩
theorem shortX_cB {l : List S176} (h : ShortB 1048576 l) : ShortX 1048576 (l.map cB) := by
  intro b hb
  obtain ⟨a, ha, rfl⟩ := List.mem_map.mp hb
  refine ⟨by simp [cB]; exact (h a ha).1, ?_⟩
  intro x hx
  obtain ⟨y, hy, rfl⟩ := List.mem_map.mp hx
  exact (h a ha).2 y hy
theorem sizePc_cP : ∀ l : List S238, sizePc (l.map cP) ≤ 2 * l.length + datPc l
  | [] => by simp [sizePc]
  | x :: l => by
    have := sizePc_cP l
    simp only [List.map_cons, sizePc, cP, datPc, List.length_cons]
    omega
theorem sizeX_cB : ∀ l : List S176, sizeX (l.map cB) ≤ 5 * l.length + 2 * datB l
  | [] => by simp [sizeX]
  | x :: l => by
    have := sizeX_cB l
    have h2 := sizePc_cP x.f5
    simp only [List.map_cons, sizeX, cB, datB, List.length_cons]
    omega
theorem sizeX_filter (p : S104 → Bool) : ∀ l : List S104, sizeX (l.filter p) ≤ sizeX l
  | [] => by simp [sizeX]
  | x :: l => by
    have := sizeX_filter p l
    simp only [List.filter_cons]
    split <;> simp only [sizeX] <;> omega
theorem FnExactExpire : Says := by
  intro xs now ⟨hl, hw⟩ _
  obtain ⟨k, hK⟩ : ∃ k : Nat, 2097152 ≤ k := ⟨_, Nat.le_refl _⟩
  refine ⟨k, ?_⟩
  simp only [f14, f14.step]
  obtain ⟨n, e, hn⟩ := szB k hK xs hl fun b hb => wf_box (hw b hb)
  rw [e]
  simp only [Option.bind_some]
  rcases hn with hn | ⟨hn, h0⟩
  · rw [if_pos (tb hn)]
  rw [if_neg (fb (by omega))]
  have hsh := short_of_dat (xs := xs) (by omega)
  have hsx := shortX_cB hsh
  have hxl : (xs.map cB).length ≤ 1048576 := by simp; omega
  have hsz := sizeX_cB xs
  obtain ⟨ys, m1, m2⟩ := markX k hK hsx hxl (by omega)
  have p0 : decide (1 + (sizeX (xs.map cB) : Int) < 0) = false := ff (by omega)
  simp only [toBS k hK (show xs.length ≤ 1048576 by omega) hsh, Option.bind_some, eqBxS k hK hsx hxl, m1, p0]
  rcases expire_ok k hK (xs.map cB) hxl hsx now with ⟨c, e1, e2, _⟩ | ⟨e1, e2, _, _⟩
  · obtain ⟨ys, g1, g2⟩ := markX k hK (xs := []) (by intro x hx; cases hx) (by simp) (by simp [sizeX])
    obtain ⟨j, rfl⟩ : ∃ j', k = j' + 1 := ⟨k - 1, by omega⟩
    have q1 : f79 (j + 1) [] 1 = some (1, []) := by simp only [f79, f79.step, f79.l2, f79.l2.step]; rfl
    have q2 : f80 (j + 1) [] 1 = some 1 := by simp only [f80, f80.step, f80.l2, f80.l2.step]; rfl
    simp only [e1, e2, Option.bind_some, Sum.elim_inl, eqBxS (j + 1) hK (xs := []) (by intro x hx; cases hx) (by simp), q1, q2]
    simp
  · have hf : ((xs.map cB).filter (later now)).length ≤ (xs.map cB).length := List.length_filter_le _ _
    have hz := sizeX_filter (later now) (xs.map cB)
    obtain ⟨ys, g1, g2⟩ := markX k hK (short_filter (later now) hsx) (by omega) (by omega)
    have p1 : ¬ (1 + (sizeX ((xs.map cB).filter (later now)) : Int) < 0) := by omega
    simp only [e1, e2, Option.bind_some, Sum.elim_inr, eqBxS k hK (short_filter (later now) hsx) (by omega), g1, g2]
    simp [p1]
end Go.Proofs.Ytildepkogbcdpaa.Pure

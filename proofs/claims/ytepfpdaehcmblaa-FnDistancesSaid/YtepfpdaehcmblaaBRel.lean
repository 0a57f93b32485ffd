/- What a plain state tells of a frame and a world (BDef's states), and how it stays true. -/
import Derived.Test.YtepfpdaehcmblaaBDef
import Derived.Test.YtepfpdaehcmblaaBGOwn
import Derived.DataElems
import Derived.Deep.Draws
namespace Go.B
open Go
set_option linter.unusedSimpArgs false
set_option linter.unusedVariables false
variable {E : Env}
section
variable {R : Type}
@[simp] theorem forceV_eq (v : Value) (k : Value → R) : forceV v k = k v := by cases v <;> rfl
@[simp] theorem forceA_eq (a : A1 E) (k : A1 E → R) : forceA a k = k a := by cases a <;> simp [forceA]
@[simp] theorem forceL_eq : ∀ (as : List (A1 E)) (k : List (A1 E) → R), forceL as k = k as
 | [], _ => rfl
 | a :: as, k => by simp [forceL, forceL_eq as]
@[simp] theorem forceA2_eq (a : A2 E) (k : A2 E → R) : forceA2 a k = k a := by cases a <;> simp [forceA2]
@[simp] theorem forceL2_eq : ∀ (as : List (A2 E)) (k : List (A2 E) → R), forceL2 as k = k as
 | [], _ => rfl
 | a :: as, k => by simp [forceL2, forceL2_eq as]
@[simp] theorem forceAV_eq (a : AV E) (k : AV E → R) : forceAV a k = k a := by cases a <;> simp [forceAV]
@[simp] theorem forceB_eq (b : Blk E) (k : Blk E → R) : forceB b k = k b := by cases b <;> simp [forceB]
@[simp] theorem forceT_eq : ∀ (as : List (AV E)) (k : List (AV E) → R), forceT as k = k as
 | [], _ => rfl
 | a :: as, k => by simp [forceT, forceT_eq as]
@[simp] theorem forceM_eq : ∀ (m : Mem E) (k : Mem E → R), forceM m k = k m
 | [], _ => rfl
 | (i, b) :: m, k => by simp [forceM, forceM_eq m]
@[simp] theorem forceN_eq (n : Nat) (k : Nat → R) : forceN n k = k n := by cases n <;> rfl
@[simp] theorem setmK_eq : ∀ (m : Mem E) (i : Nat) (b : Blk E) (k : Mem E → R), setmK m i b k = k (setm m i b)
 | [], _, _, _ => rfl
 | (j, c) :: m, i, b, k => by
  simp only [setmK, setm]
  cases decEq j i with
  | isTrue _ => rfl
  | isFalse _ => simp [setmK_eq m]
@[simp] theorem delmK_eq : ∀ (m : Mem E) (i : Nat) (k : Mem E → R), delmK m i k = k (delm m i)
 | [], _, _ => rfl
 | (j, c) :: m, i, k => by
  simp only [delmK, delm]
  cases decEq j i with
  | isTrue _ => simp [delmK_eq m]
  | isFalse _ => simp [delmK_eq m]
@[simp] theorem setlK_eq {α : Type} : ∀ (xs : List α) (n : Nat) (y : α) (k : List α → R), setlK xs n y k = k (setl xs n y)
 | [], _, _, _ => rfl
 | _ :: xs, 0, y, k => rfl
 | x :: xs, n + 1, y, k => by simp [setlK, setl, setlK_eq xs]
@[simp] theorem putK_eq (ts : List (AV E)) (d : Option Tmp) (v : AV E) (k : List (AV E) → R) : putK ts d v k = k (putT ts d v) := by cases d <;> simp [putK, putT]
end
theorem look_set : ∀ (m : Mem E) (i : Nat) (b : Blk E) (j : Nat), look (setm m i b) j = if i = j then some b else look m j
 | [], i, b, j => by
  simp only [setm, look]
  by_cases h : i = j
  ·cases decEq i j with
   | isTrue _ => simp [h]
   | isFalse h' => exact absurd h h'
  ·cases decEq i j with
   | isTrue h' => exact absurd h' h
   | isFalse _ => simp [h]
 | (l, c) :: m, i, b, j => by
  simp only [setm]
  cases h0 : decEq l i with
  | isTrue h =>
   subst h
   simp only [look]
   cases decEq l j with
   | isTrue h => simp [h]
   | isFalse h => simp [h]
  | isFalse h =>
   simp only [look, look_set m i b j]
   cases decEq l j with
   | isTrue h' => subst h'; simp [Ne.symm h]
   | isFalse h' => rfl
theorem look_del : ∀ (m : Mem E) (i j : Nat), look (delm m i) j = if i = j then none else look m j
 | [], i, j => by simp [delm, look]
 | (l, c) :: m, i, j => by
  simp only [delm]
  cases decEq l i with
  | isTrue h =>
   subst h
   simp only [look_del m l j, look]
   cases decEq l j with
   | isTrue h => simp [h]
   | isFalse h => simp [h]
  | isFalse h =>
   simp only [look, look_del m i j]
   cases decEq l j with
   | isTrue h' => subst h'; simp [Ne.symm h]
   | isFalse h' => rfl
theorem geta_eq {α : Type} : ∀ (xs : List α) (n : Nat), geta xs n = xs[n]?
 | [], _ => by simp [geta]
 | x :: xs, 0 => by simp [geta]
 | x :: xs, n + 1 => by simp [geta, geta_eq xs]
theorem setl_eq {α : Type} : ∀ (xs : List α) (n : Nat) (y : α), setl xs n y = xs.set n y
 | [], _, _ => by simp [setl]
 | x :: xs, 0, _ => by simp [setl]
 | x :: xs, n + 1, _ => by simp [setl, setl_eq xs]
def cellAt (E : Env) (e : TypeId) (x : E.T e) (j : Nat) : Cell E.T := (E.cells e x).getD j (.s undef)
def Env.sz (E : Env) (e : TypeId) : Nat := match E.info e with
 | some i => i.size
 | none => 0
inductive Rd (E : Env) (w : World) (I : Nat → Prop) : Value → Cell E.T → Prop
 | s {v : Value} (h : v.oneCell' = true) : Rd E w I v (.s v)
 | sl {A : Option Addr} {n cap : Nat} {e : TypeId} {xs : List (E.T e)} {val : Nat → Nat → Value} (hn : n = xs.length) (hc : n ≤ cap) (hm : n ≤ 9223372036854775807) (ha : 0 < n → A.isSome = true)
  (hw : ∀ i j, i < n → j < E.sz e → I (A.getD default).block ∧ w.cell? ((A.getD default).add (i * E.sz e + j)) = some (val i j))
  (hr : ∀ i j, i < n → j < E.sz e → Rd E w I (val i j) (cellAt E e (xs.getD i (E.dflt e)) j)) : Rd E w I (.slice A n cap) (.sl e xs)
theorem Rd.one {w : World} {I : Nat → Prop} {v : Value} {c : Cell E.T} (h : Rd E w I v c) : v.oneCell' = true := by
 cases h with
 | s h => exact h
 | sl => rfl
theorem cell_keeps {w w' : World} {a : Addr} (h : w'.heap[a.block]? = w.heap[a.block]?) : w'.cell? a = w.cell? a := by simp only [World.cell?, h]
theorem Addr.add_block (a : Addr) (n : Nat) : (a.add n).block = a.block := by unfold Addr.add; split <;> rfl
theorem Rd.keep {w w' : World} {I I' : Nat → Prop} {v : Value} {c : Cell E.T} (h : Rd E w I v c) (hi : ∀ k, I k → I' k ∧ w'.heap[k]? = w.heap[k]?) : Rd E w' I' v c := by
 induction h with
 | s h => exact .s h
 | sl hn hc hm ha hw hr ih =>
  exact .sl hn hc hm ha (fun i j h1 h2 => ⟨(hi _ (hw i j h1 h2).1).1, by
   rw [cell_keeps (w := w) (w' := w') (by rw [Addr.add_block]; exact (hi _ (hw i j h1 h2).1).2)]
   exact (hw i j h1 h2).2⟩) ih
inductive Ow (E : Env) (w : World) : (Nat → Prop) → Value → Cell E.T → Prop
 | s {fp : Nat → Prop} {v : Value} (h : v.oneCell' = true) : Ow E w fp v (.s v)
 | sl {fp : Nat → Prop} {v : Value} {e : TypeId} {xs : List (E.T e)} {inner : List Value} {F : Nat → Nat → Nat → Prop} (ho : w.ownsRowG 0 e (E.sz e) v xs.length inner)
  (hb : ∀ k, v.ownBlock = some k → fp k)
  (hf : ∀ i j k, i < xs.length → j < E.sz e → F i j k → fp k ∧ v.ownBlock ≠ some k)
  (hd : ∀ i j i' j' k, i < xs.length → j < E.sz e → i' < xs.length → j' < E.sz e → F i j k → F i' j' k → i = i' ∧ j = j')
  (hr : ∀ i j, i < xs.length → j < E.sz e → Ow E w (F i j) (inner.getD (i * E.sz e + j) undef) (cellAt E e (xs.getD i (E.dflt e)) j)) : Ow E w fp v (.sl e xs)
def In (E : Env) (w : World) (I : Nat → Prop) (d : Bool) (F : Nat → Prop) (v : Value) (c : Cell E.T) : Prop := if d = true then Ow E w F v c else Rd E w I v c
def Top (E : Env) (w : World) (I : Nat → Prop) (d : Bool) (fp : Nat → Prop) (v : Value) (e : TypeId) (xs : List (E.T e)) : Prop :=
 ∃ (inner : List Value) (F : Nat → Nat → Nat → Prop), w.ownsRowG 0 e (E.sz e) v xs.length inner ∧ (∀ k, v.ownBlock = some k → fp k) ∧
  (∀ i j k, i < xs.length → j < E.sz e → F i j k → fp k ∧ v.ownBlock ≠ some k) ∧
  (∀ i j i' j' k, i < xs.length → j < E.sz e → i' < xs.length → j' < E.sz e → F i j k → F i' j' k → i = i' ∧ j = j') ∧
  (∀ i j, i < xs.length → j < E.sz e → In E w I d (F i j) (inner.getD (i * E.sz e + j) undef) (cellAt E e (xs.getD i (E.dflt e)) j))
theorem Ow.one {w : World} {fp : Nat → Prop} {v : Value} {c : Cell E.T} (h : Ow E w fp v c) : v.oneCell' = true := by
 cases h with
 | s h => exact h
 | sl ho =>
  rcases ho.2 with ⟨rfl, _⟩ | ⟨g, cap, cur, rfl, _⟩ <;> rfl
theorem In.one {w : World} {I : Nat → Prop} {d : Bool} {F : Nat → Prop} {v : Value} {c : Cell E.T} (h : In E w I d F v c) : v.oneCell' = true := by
 unfold In at h
 split at h
 ·exact h.one
 ·exact h.one
theorem ownsG_move {w w' : World} {base : Nat} {e : TypeId} {size n : Nat} {v : Value} {xs : List Value} (h : w.ownsRowG base e size v n xs) (hm : ∀ k, v.ownBlock = some k → w'.heap[k]? = w.heap[k]?) : w'.ownsRowG base e size v n xs := by
 refine ⟨h.1, ?_⟩
 rcases h.2 with hn | ⟨g, cap, cur, rfl, hb, hg, r⟩
 ·exact .inl hn
 ·exact .inr ⟨g, cap, cur, rfl, hb, (hm g (by simp [Value.ownBlock])).trans hg, r⟩
theorem Ow.keep {w w' : World} {fp fp' : Nat → Prop} {v : Value} {c : Cell E.T} (h : Ow E w fp v c) (hm : ∀ k, fp k → fp' k ∧ w'.heap[k]? = w.heap[k]?) : Ow E w' fp' v c := by
 induction h generalizing fp' with
 | s h => exact .s h
 | sl ho hb hf hd hr ih =>
  exact .sl (F := _) (ownsG_move ho fun k hk => (hm k (hb k hk)).2) (fun k hk => (hm k (hb k hk)).1)
   (fun i j k h1 h2 hk => ⟨(hm k (hf i j k h1 h2 hk).1).1, (hf i j k h1 h2 hk).2⟩) hd
   (fun i j h1 h2 => ih i j h1 h2 (fun k hk => ⟨hk, (hm k (hf i j k h1 h2 hk).1).2⟩))
theorem In.keep {w w' : World} {I I' : Nat → Prop} {d : Bool} {F F' : Nat → Prop} {v : Value} {c : Cell E.T} (h : In E w I d F v c) (hi : ∀ k, I k → I' k ∧ w'.heap[k]? = w.heap[k]?)
  (hm : ∀ k, F k → F' k ∧ w'.heap[k]? = w.heap[k]?) : In E w' I' d F' v c := by
 unfold In at h ⊢
 split at h
 ·rw [if_pos ‹_›]; exact h.keep hm
 ·rw [if_neg ‹_›]; exact h.keep hi
theorem Top.keep {w w' : World} {I I' : Nat → Prop} {d : Bool} {fp fp' : Nat → Prop} {v : Value} {e : TypeId} {xs : List (E.T e)} (h : Top E w I d fp v e xs) (hi : ∀ k, I k → I' k ∧ w'.heap[k]? = w.heap[k]?)
  (hm : ∀ k, fp k → fp' k ∧ w'.heap[k]? = w.heap[k]?) : Top E w' I' d fp' v e xs := by
 obtain ⟨inner, F, ho, hb, hf, hd, hr⟩ := h
 exact ⟨inner, F, ownsG_move ho fun k hk => (hm k (hb k hk)).2, fun k hk => (hm k (hb k hk)).1,
  fun i j k h1 h2 hk => ⟨(hm k (hf i j k h1 h2 hk).1).1, (hf i j k h1 h2 hk).2⟩, hd,
  fun i j h1 h2 => (hr i j h1 h2).keep hi fun k hk => ⟨hk, (hm k (hf i j k h1 h2 hk).1).2⟩⟩
theorem Top.one {w : World} {I : Nat → Prop} {d : Bool} {fp : Nat → Prop} {v : Value} {e : TypeId} {xs : List (E.T e)} (h : Top E w I d fp v e xs) : v.oneCell' = true := by
 obtain ⟨_, _, ho, _⟩ := h
 rcases ho.2 with ⟨rfl, _⟩ | ⟨g, cap, cur, rfl, _⟩ <;> rfl
theorem Ow.top {w : World} {I : Nat → Prop} {fp : Nat → Prop} {v : Value} {e : TypeId} {xs : List (E.T e)} (h : Ow E w fp v (.sl e xs)) : Top E w I true fp v e xs := by
 cases h with
 | sl ho hb hf hd hr => exact ⟨_, _, ho, hb, hf, hd, fun i j h1 h2 => by unfold In; rw [if_pos rfl]; exact hr i j h1 h2⟩
theorem Top.ow {w : World} {I : Nat → Prop} {fp : Nat → Prop} {v : Value} {e : TypeId} {xs : List (E.T e)} (h : Top E w I true fp v e xs) : Ow E w fp v (.sl e xs) := by
 obtain ⟨inner, F, ho, hb, hf, hd, hr⟩ := h
 exact .sl ho hb hf hd fun i j h1 h2 => by have := hr i j h1 h2; unfold In at this; rwa [if_pos rfl] at this
theorem ownsG_cell {w : World} {base : Nat} {e : TypeId} {size n : Nat} {v : Value} {xs : List Value} (h : w.ownsRowG base e size v n xs) (j : Nat) (hj : j < n * size) :
  ∃ g cap, v = .slice (some ⟨g, 0, none⟩) n cap ∧ n ≤ cap ∧ w.cell? ((⟨g, 0, none⟩ : Addr).add j) = some (xs.getD j undef) := by
 have hl : j < xs.length := by rw [h.1]; exact hj
 rcases h.2 with ⟨rfl, h0⟩ | ⟨g, cap, cur, rfl, hb, hg, hnc, hcm, hcs, htake, hlo⟩
 ·subst h0; simp at hj
 ·exact ⟨g, cap, rfl, hnc, h.cells (g := g) (by simp [Value.ownBlock]) j _ (by simp [List.getD, List.getElem?_eq_getElem hl])⟩
theorem ownsG_form {w : World} {base : Nat} {e : TypeId} {size n : Nat} {v : Value} {xs : List Value} (h : w.ownsRowG base e size v n xs) : ∃ A cap, v = .slice A n cap ∧ n ≤ cap ∧ n ≤ 9223372036854775807 ∧ (0 < n → A.isSome = true) ∧ (∀ ad, A = some ad → v.ownBlock = some ad.block ∧ ad = ⟨ad.block, 0, none⟩) := by
 rcases h.2 with ⟨rfl, h0⟩ | ⟨g, cap, cur, rfl, hb, hg, hnc, hcm, hcs, htake, hlo⟩
 ·subst h0; exact ⟨none, 0, rfl, Nat.le_refl _, Nat.zero_le _, by simp, by simp⟩
 ·exact ⟨_, cap, rfl, hnc, Nat.le_trans hnc (Nat.le_trans hcm (by decide)), by simp, fun ad h => by cases h; exact ⟨by simp [Value.ownBlock], rfl⟩⟩
theorem lt_of_pair {i j n s : Nat} (h1 : i < n) (h2 : j < s) : i * s + j < n * s := by
 have : (i + 1) * s ≤ n * s := Nat.mul_le_mul_right _ h1
 rw [Nat.add_mul, Nat.one_mul] at this
 omega
theorem Ow.rd {w : World} {fp I : Nat → Prop} {v : Value} {c : Cell E.T} (h : Ow E w fp v c) (hi : ∀ k, fp k → I k) : Rd E w I v c := by
 induction h with
 | s h => exact .s h
 | @sl fp v e xs inner F ho hb hf hd hr ih =>
  obtain ⟨A, cap, rfl, hc, hm, ha, hA⟩ := ownsG_form ho
  refine .sl (val := fun i j => inner.getD (i * E.sz e + j) undef) rfl hc hm ha (fun i j h1 h2 => ?_) (fun i j h1 h2 => ih i j h1 h2 (fun k hk => hi k (hf i j k h1 h2 hk).1))
  obtain ⟨g, cap', hv, _, hcell⟩ := ownsG_cell ho (i * E.sz e + j) (lt_of_pair h1 h2)
  cases hv
  exact ⟨hi g (hb g (by simp [Value.ownBlock])), hcell⟩
theorem Top.rd {w : World} {I I' : Nat → Prop} {d : Bool} {fp : Nat → Prop} {v : Value} {e : TypeId} {xs : List (E.T e)} (h : Top E w I d fp v e xs) (hi : ∀ k, I k → I' k) (hf' : ∀ k, fp k → I' k) : Rd E w I' v (.sl e xs) := by
 obtain ⟨inner, F, ho, hb, hf, hd, hr⟩ := h
 obtain ⟨A, cap, rfl, hc, hm, ha, hA⟩ := ownsG_form ho
 refine .sl (val := fun i j => inner.getD (i * E.sz e + j) undef) rfl hc hm ha (fun i j h1 h2 => ?_) (fun i j h1 h2 => ?_)
 ·obtain ⟨g, cap', hv, _, hcell⟩ := ownsG_cell ho (i * E.sz e + j) (lt_of_pair h1 h2)
  cases hv
  exact ⟨hf' g (hb g (by simp [Value.ownBlock])), hcell⟩
 ·have := hr i j h1 h2
  unfold In at this
  split at this
  ·exact this.rd fun k hk => hf' k (hf i j k h1 h2 hk).1
  ·exact this.keep fun k hk => ⟨hi k hk, rfl⟩
end Go.B

/- EnvOK out of a table that reckoning checks. -/
import Derived.Test.YtepfpdaehcmblaaBEv
namespace Go.B
open Go
set_option linter.unusedVariables false
set_option linter.unusedSimpArgs false
def lookI : List (Nat × TI) → Nat → Option TI
 | [], _ => none
 | (j, b) :: m, i => match decEq j i with
  | isTrue _ => some b
  | isFalse _ => lookI m i
theorem lookI_mem : ∀ (l : List (Nat × TI)) (t : Nat) (i : TI), lookI l t = some i → (t, i) ∈ l
 | [], _, _, h => by simp [lookI] at h
 | (j, b) :: m, t, i, h => by
  unfold lookI at h
  split at h
  ·rename_i e _; subst e; cases h; exact List.mem_cons_self
  ·exact List.mem_cons_of_mem _ (lookI_mem m t i h)
def isNilS : Value → Bool
 | .slice none 0 0 => true
 | _ => false
theorem isNilS_eq {v : Value} (h : isNilS v = true) : v = .slice none 0 0 := by
 unfold isNilS at h
 split at h
 ·rfl
 ·cases h
def ckZ : List CK → List Value → Bool
 | [], [] => true
 | .sc :: ks, _ :: vs => ckZ ks vs
 | .sl _ :: ks, v :: vs => isNilS v && ckZ ks vs
 | _, _ => false
theorem ckZ_len : ∀ (ks : List CK) (vs : List Value), ckZ ks vs = true → ks.length = vs.length
 | [], [], _ => rfl
 | .sc :: ks, v :: vs, h => by simp only [ckZ] at h; simp [ckZ_len ks vs h]
 | .sl _ :: ks, v :: vs, h => by simp only [ckZ, Bool.and_eq_true] at h; simp [ckZ_len ks vs h.2]
 | [], _ :: _, h => by simp [ckZ] at h
 | .sc :: _, [], h => by simp [ckZ] at h
 | .sl _ :: _, [], h => by simp [ckZ] at h
theorem ckZ_get : ∀ (ks : List CK) (vs : List Value), ckZ ks vs = true → ∀ (j : Nat) (e : TypeId), ks[j]? = some (.sl e) → vs[j]? = some (.slice none 0 0)
 | [], [], _, j, e, h => by simp at h
 | .sc :: ks, v :: vs, h, 0, e, h' => by simp at h'
 | .sc :: ks, v :: vs, h, j + 1, e, h' => by simp only [ckZ] at h; simpa using ckZ_get ks vs h j e (by simpa using h')
 | .sl _ :: ks, v :: vs, h, 0, e, h' => by simp only [ckZ, Bool.and_eq_true] at h; simp [isNilS_eq h.1]
 | .sl _ :: ks, v :: vs, h, j + 1, e, h' => by simp only [ckZ, Bool.and_eq_true] at h; simpa using ckZ_get ks vs h.2 j e (by simpa using h')
 | [], _ :: _, h, _, _, _ => by simp [ckZ] at h
 | .sc :: _, [], h, _, _, _ => by simp [ckZ] at h
 | .sl _ :: _, [], h, _, _, _ => by simp [ckZ] at h
def isAggD : TypeDesc → Bool
 | .struct _ => true
 | .array _ _ => true
 | _ => false
def fieldsOK (info : TypeId → Option TI) (size : Nat) : List Field → Bool
 | [] => true
 | fd :: fs => (match info fd.type with
  | some j => Nat.ble (fd.offset + j.size) size && Nat.blt 0 j.size
  | none => false) && fieldsOK info size fs
theorem fieldsOK_get {info : TypeId → Option TI} {size : Nat} : ∀ (fs : List Field) (k : Nat) (fd : Field), fieldsOK info size fs = true → geta fs k = some fd → ∃ j, info fd.type = some j ∧ fd.offset + j.size ≤ size ∧ 0 < j.size
 | [], k, fd, _, h => by simp [geta] at h
 | f :: fs, 0, fd, hk, h => by
  simp only [geta] at h; cases h
  simp only [fieldsOK, Bool.and_eq_true] at hk
  cases hj : info f.type with
  | none => rw [hj] at hk; cases hk.1
  | some j => rw [hj] at hk; simp only [Bool.and_eq_true] at hk; exact ⟨j, rfl, Nat.le_of_ble_eq_true hk.1.1, Nat.le_of_ble_eq_true hk.1.2⟩
 | f :: fs, k + 1, fd, hk, h => by
  simp only [fieldsOK, Bool.and_eq_true] at hk
  exact fieldsOK_get fs k fd hk.2 (by simpa [geta] using h)
def boolEq : Bool → Bool → Bool
 | true, true => true
 | false, false => true
 | _, _ => false
theorem boolEq_eq {a b : Bool} (h : boolEq a b = true) : a = b := by cases a <;> cases b <;> first | rfl | cases h
def chk (info : TypeId → Option TI) (i : TI) : Bool :=
 boolEq i.agg (isAggD i.desc) && (i.agg || Nat.beq i.size 1) && Nat.blt 0 i.size && Nat.blt 0 i.bytes && (match i.zero with
  | some z => Nat.beq z.cells.size i.size && z.cells.toList.all (fun v => v.oneCell') && (i.agg || z.oneCell') && ckZ i.ck z.cells.toList
  | none => false) && (match i.desc with
  | .struct fs => fieldsOK info i.size fs.toList
  | _ => true)
structure Gd (P : Program) (info : TypeId → Option TI) (t : Nat) (i : TI) : Prop where
 u : P.underlying t = some i.desc
 j : (P.info? t).map (fun j => (j.size, j.bytes, j.zero)) = some (i.size, i.bytes, i.zero)
 c : chk info i = true
def GdL (P : Program) (info : TypeId → Option TI) : List (Nat × TI) → Prop
 | [] => True
 | (t, i) :: l => Gd P info t i ∧ GdL P info l
theorem GdL_mem {P : Program} {info : TypeId → Option TI} : ∀ (l : List (Nat × TI)) (t : Nat) (i : TI), GdL P info l → (t, i) ∈ l → Gd P info t i
 | [], _, _, _, h => by cases h
 | (s, k) :: l, t, i, h, hm => by
  cases hm with
  | head => exact h.1
  | tail _ hm => exact GdL_mem l t i h.2 hm
def isS {T : TypeId → Type} : Cell T → Bool
 | .s _ => true
 | _ => false
theorem envOK_of {P : Program} {E : Env} {infos : List (Nat × TI)} (hL : GdL P E.info infos) (hinfo : ∀ t, E.info t = lookI infos t) (hmake : ∀ e cs x, E.make e cs = some x → E.cells e x = cs)
  (hflat : ∀ e i x, E.info e = some i → flat i = true → (E.cells e x).all isS = true) (hlen : ∀ e x, (E.cells e x).length = 0 ∨ (E.cells e x).length = E.sz e)
  (hb : ∀ e xs ys i, E.bytes e xs = some ys → E.info e = some i → (i.size = 1 ∧ i.bytes = 1 ∧ i.zero = some (.int .u8 0)) ∧ ys.length = xs.length ∧ ∀ j, j < xs.length → E.cells e (ys.getD j (E.dflt e)) = [.s (.int .u8 (xs.getD j 0))])
  (hi : ∀ e ys xs, E.ints e ys = some xs → ys.length = xs.length ∧ ∀ j, j < xs.length → E.cells e (ys.getD j (E.dflt e)) = [.s (.int .u8 (xs.getD j 0))]) (hmix : P.follows .mixedOrders = true)
  (heq : ∀ t os, E.eqF t = some os → P.stoodInHeld t = false ∧ P.eqGuardType P.depth t = false ∧ ∃ fs : Array Field, P.underlying t = some (.struct fs) ∧ EqFs P fs.toList os)
  (hgl : ∀ (w w' : World) (I I' : Nat → Prop), E.glob w I → (∀ k, I k → I' k ∧ w'.heap[k]? = w.heap[k]?) → E.glob w' I' := by exact fun _ _ _ _ h _ => h) : EnvOK E P := by
 have gd : ∀ t i, E.info t = some i → Gd P E.info t i := fun t i h => GdL_mem infos t i hL (lookI_mem infos t i (by rw [← hinfo]; exact h))
 refine ⟨hgl, fun t i h => ?_, fun t i h => ?_, fun t i z h hz => ?_, fun t i h => ?_, hmake, fun e i x j c h hf hj => ?_, hb, hi, hlen, fun t i f k fd h hd hk => ?_, hmix, heq⟩
 ·have g := gd t i h
  have c := g.c
  simp only [chk, Bool.and_eq_true, Bool.or_eq_true] at c
  refine ⟨g.u, ?_, ?_, fun hf => ?_⟩
  ·have hj := g.j
   cases hq : P.info? t with
   | none => rw [hq] at hj; cases hj
   | some j =>
    rw [hq] at hj
    simp only [Option.map_some, Option.some.injEq, Prod.mk.injEq] at hj
    exact ⟨j, rfl, hj.1, hj.2.1, hj.2.2⟩
  ·rw [boolEq_eq c.1.1.1.1.1]; unfold isAggD; cases i.desc <;> rfl
  ·rcases c.1.1.1.1.2 with h1 | h1
   ·rw [hf] at h1; cases h1
   ·exact Nat.eq_of_beq_eq_true h1
 ·have c := (gd t i h).c
  simp only [chk, Bool.and_eq_true, Bool.or_eq_true] at c
  refine ⟨Nat.le_of_ble_eq_true c.1.1.1.2, Nat.le_of_ble_eq_true c.1.1.2, ?_⟩
  cases hz : i.zero with
  | none => rw [hz] at c; exact absurd c.1.2 (by simp)
  | some z => exact ⟨z, rfl⟩
 ·have c := (gd t i h).c
  simp only [chk, Bool.and_eq_true, Bool.or_eq_true, hz] at c
  refine ⟨Nat.eq_of_beq_eq_true c.1.2.1.1.1, c.1.2.1.1.2, fun hf => ?_⟩
  rcases c.1.2.1.2 with h1 | h1
  ·rw [hf] at h1; cases h1
  ·exact h1
 ·have c := (gd t i h).c
  simp only [chk, Bool.and_eq_true, Bool.or_eq_true] at c
  cases hz : i.zero with
  | none => rw [hz] at c; exact absurd c.1.2 (by simp)
  | some z =>
   rw [hz] at c
   simp only [Bool.and_eq_true, Bool.or_eq_true] at c
   refine ⟨?_, fun j e z' hj hz' => ?_⟩
   ·rw [ckZ_len _ _ c.1.2.2, ← Nat.eq_of_beq_eq_true c.1.2.1.1.1]; simp
   ·cases hz'; exact ckZ_get _ _ c.1.2.2 j e hj
 ·have ha := List.all_eq_true.1 (hflat e i x h hf) c (List.mem_of_getElem? hj)
  cases c with
  | s v => exact ⟨v, rfl⟩
  | sl _ _ => cases ha
  | wr _ _ => cases ha
 ·have c := (gd t i h).c
  simp only [chk, Bool.and_eq_true, Bool.or_eq_true] at c
  have c2 := c.2
  rw [hd] at c2
  exact fieldsOK_get _ k fd c2 hk
end Go.B

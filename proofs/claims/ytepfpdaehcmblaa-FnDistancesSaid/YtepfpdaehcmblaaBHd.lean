/- Handlers: the shape of a state, told bit by bit; what loops and functions must show. -/
import Derived.Test.YtepfpdaehcmblaaBEv
namespace Go.B
open Go Go.RowKit
set_option linter.unusedVariables false
set_option linter.unusedSimpArgs false
variable {E : Env} {P : Program}
def LCl.no : LCl E := { α := Unit, o := none, w := fun _ _ => none }
def junkT (keep : List Tmp) : Nat → List (AV E) → Option (List (AV E))
 | _, [] => some []
 | i, t :: ts => match keep.contains i with
  | true => match junkT keep (i + 1) ts with
   | some l => some (t :: l)
   | none => none
  | false => match t with
   | .v (.c .junk) => junkT keep (i + 1) ts
   | _ => none
def fullT (keep : List Tmp) : Nat → Nat → List (AV E) → List (AV E)
 | _, 0, _ => []
 | i, n + 1, l => match keep.contains i with
  | true => match l with
   | t :: l => t :: fullT keep (i + 1) n l
   | [] => []
  | false => .v (.c .junk) :: fullT keep (i + 1) n l
theorem junkT_full (keep : List Tmp) : ∀ (ts : List (AV E)) (i : Nat) (l : List (AV E)), junkT keep i ts = some l → ts = fullT keep i ts.length l
 | [], i, l, h => rfl
 | t :: ts, i, l, h => by
  unfold junkT at h
  simp only [List.length_cons]
  unfold fullT
  split at h
  ·rename_i hk
   split at h
   ·rename_i l' hl
    cases h
    simp only [hk]
    rw [← junkT_full keep ts (i + 1) l' hl]
   ·cases h
  ·rename_i hk
   split at h
   ·have := junkT_full keep ts (i + 1) l h
    first
     | (rw [hk]; exact congrArg _ this)
     | (rw [← this])
     | trace_state
   ·cases h
section
variable {α : Type 1} {z : α} {p : α → Prop}
def gTs (z : α) (keep : List Tmp) (n : Nat) (ts : List (AV E)) (k : List (AV E) → α) : α := match decEq ts.length n with
 | isTrue _ => match junkT keep 0 ts with
  | some l => k l
  | none => z
 | isFalse _ => z
theorem gTs_ok (hz : p z) {keep : List Tmp} {n : Nat} {ts : List (AV E)} {k : List (AV E) → α} (h : ∀ l, ts = fullT keep 0 n l → p (k l)) : p (gTs z keep n ts k) := by
 unfold gTs
 split
 ·rename_i e _
  split
  ·rename_i l hl; exact h l (by rw [← e]; exact junkT_full keep ts 0 l hl)
  ·exact hz
 ·exact hz
def gV (z : α) (l : List (AV E)) (k : A1 E → List (AV E) → α) : α := match l with
 | .v (.c a) :: l => k a l
 | _ => z
theorem gV_ok (hz : p z) {l : List (AV E)} {k : A1 E → List (AV E) → α} (h : ∀ a l', l = .v (.c a) :: l' → p (k a l')) : p (gV z l k) := by
 unfold gV
 split
 ·exact h _ _ rfl
 ·exact hz
def gG (z : α) (l : List (AV E)) (k : List (A1 E) → List (AV E) → α) : α := match l with
 | .v (.g cs) :: l => k cs l
 | _ => z
theorem gG_ok (hz : p z) {l : List (AV E)} {k : List (A1 E) → List (AV E) → α} (h : ∀ a l', l = .v (.g a) :: l' → p (k a l')) : p (gG z l k) := by
 unfold gG
 split
 ·exact h _ _ rfl
 ·exact hz
def gT (z : α) (l : List (AV E)) (k : List (AV E) → α) : α := match l with
 | .tup [] :: l => k l
 | _ => z
theorem gT_ok (hz : p z) {l : List (AV E)} {k : List (AV E) → α} (h : ∀ l', l = .tup [] :: l' → p (k l')) : p (gT z l k) := by
 unfold gT
 split
 ·exact h _ rfl
 ·exact hz
def gE {β : Type} (z : α) (l : List β) (k : α) : α := match l with
 | [] => k
 | _ :: _ => z
theorem gE_ok {β : Type} (hz : p z) {l : List β} {k : α} (h : l = [] → p k) : p (gE z l k) := by
 cases l with
 | nil => exact h rfl
 | cons _ _ => exact hz
def gC {β : Type} (z : α) (l : List β) (k : β → List β → α) : α := match l with
 | a :: l => k a l
 | [] => z
theorem gC_ok {β : Type} (hz : p z) {l : List β} {k : β → List β → α} (h : ∀ a l', l = a :: l' → p (k a l')) : p (gC z l k) := by
 cases l with
 | nil => exact hz
 | cons a l => exact h a l rfl
def gN (z : α) (n i : Nat) (k : α) : α := match decEq i n with
 | isTrue _ => k
 | isFalse _ => z
theorem gN_ok (hz : p z) {n i : Nat} {k : α} (h : i = n → p k) : p (gN z n i k) := by
 unfold gN
 split
 ·exact h ‹_›
 ·exact hz
def rJ (z : α) (a : A1 E) (k : α) : α := match a with
 | .junk => k
 | _ => z
theorem rJ_ok (hz : p z) {a : A1 E} {k : α} (h : a = .junk → p k) : p (rJ z a k) := by cases a <;> first | exact hz | exact h rfl
def rV (z : α) (a : A1 E) (k : Value → α) : α := match a with
 | .s v => k v
 | _ => z
theorem rV_ok (hz : p z) {a : A1 E} {k : Value → α} (h : ∀ v, a = .s v → p (k v)) : p (rV z a k) := by cases a <;> first | exact hz | exact h _ rfl
def vI (z : α) (q : IntKind) (v : Value) (k : Int → α) : α := match v with
 | .int q' n => match decEq q' q with
  | isTrue _ => k n
  | isFalse _ => z
 | _ => z
theorem vI_ok (hz : p z) {q : IntKind} {v : Value} {k : Int → α} (h : ∀ n, v = .int q n → p (k n)) : p (vI z q v k) := by
 cases v with
 | int q' n =>
  simp only [vI]
  cases decEq q' q with
  | isTrue e => subst e; exact h n rfl
  | isFalse _ => exact hz
 | _ => exact hz
def vB (z : α) (v : Value) (k : Bool → α) : α := match v with
 | .bool n => k n
 | _ => z
theorem vB_ok (hz : p z) {v : Value} {k : Bool → α} (h : ∀ n, v = .bool n → p (k n)) : p (vB z v k) := by cases v <;> first | exact hz | exact h _ rfl
def vS (z : α) (v : Value) (k : ByteArray → α) : α := match v with
 | .string n => k n
 | _ => z
theorem vS_ok (hz : p z) {v : Value} {k : ByteArray → α} (h : ∀ n, v = .string n → p (k n)) : p (vS z v k) := by cases v <;> first | exact hz | exact h _ rfl
def vNil (z : α) (v : Value) (k : α) : α := match v with
 | .slice none 0 0 => k
 | _ => z
theorem vNil_ok (hz : p z) {v : Value} {k : α} (h : v = .slice none 0 0 → p k) : p (vNil z v k) := by
 unfold vNil
 split
 ·exact h rfl
 ·exact hz
def rImm (z : α) (e : TypeId) (a : A1 E) (k : List (E.T e) → α) : α := match a with
 | .imm e' xs => if h : e' = e then k (h ▸ xs) else z
 | _ => z
theorem rImm_ok (hz : p z) {e : TypeId} {a : A1 E} {k : List (E.T e) → α} (h : ∀ xs, a = .imm e xs → p (k xs)) : p (rImm z e a k) := by
 cases a with
 | imm e' xs =>
  simp only [rImm]
  split
  ·rename_i he; subst he; exact h xs rfl
  ·exact hz
 | _ => exact hz
def rRow (z : α) (id : Nat) (a : A1 E) (k : α) : α := match a with
 | .row i => gN z id i k
 | _ => z
theorem rRow_ok (hz : p z) {id : Nat} {a : A1 E} {k : α} (h : a = .row id → p k) : p (rRow z id a k) := by
 cases a with
 | row i => exact gN_ok hz fun e => h (by rw [e])
 | _ => exact hz
def rWin (z : α) (id : Nat) (a : A1 E) (k : Nat → Nat → α) : α := match a with
 | .win i lo n => gN z id i (k lo n)
 | _ => z
theorem rWin_ok (hz : p z) {id : Nat} {a : A1 E} {k : Nat → Nat → α} (h : ∀ lo n, a = .win id lo n → p (k lo n)) : p (rWin z id a k) := by
 cases a with
 | win i lo n => exact gN_ok hz fun e => h lo n (by rw [e])
 | _ => exact hz
def rBp (z : α) (id off : Nat) (a : A1 E) (k : α) : α := match a with
 | .bp i o => gN z id i (gN z off o k)
 | _ => z
theorem rBp_ok (hz : p z) {id off : Nat} {a : A1 E} {k : α} (h : a = .bp id off → p k) : p (rBp z id off a k) := by
 cases a with
 | bp i o => exact gN_ok hz fun e => gN_ok hz fun e' => h (by rw [e, e'])
 | _ => exact hz
def rIp (z : α) (e : TypeId) (off : Nat) (a : A1 E) (k : E.T e → α) : α := match a with
 | .ip e' x o => gN z off o (if h : e' = e then k (h ▸ x) else z)
 | _ => z
theorem rIp_ok (hz : p z) {e : TypeId} {off : Nat} {a : A1 E} {k : E.T e → α} (h : ∀ x, a = .ip e x off → p (k x)) : p (rIp z e off a k) := by
 cases a with
 | ip e' x o =>
  refine gN_ok hz fun e1 => ?_
  split
  ·rename_i he; subst he; exact h x (by rw [e1])
  ·exact hz
 | _ => exact hz
def rRp (z : α) (id off : Nat) (a : A1 E) (k : Nat → α) : α := match a with
 | .rp i j o => gN z id i (gN z off o (k j))
 | _ => z
theorem rRp_ok (hz : p z) {id off : Nat} {a : A1 E} {k : Nat → α} (h : ∀ j, a = .rp id j off → p (k j)) : p (rRp z id off a k) := by
 cases a with
 | rp i j o => exact gN_ok hz fun e => gN_ok hz fun e' => h j (by rw [e, e'])
 | _ => exact hz
def mRow (z : α) (id : Nat) (d : Bool) (e : TypeId) (m : Mem E) (k : List (E.T e) → Mem E → α) : α := match m with
 | (i, .row d' e' xs) :: m => gN z id i (match decEq d' d with
  | isTrue _ => if h : e' = e then k (h ▸ xs) m else z
  | isFalse _ => z)
 | _ => z
theorem mRow_ok (hz : p z) {id : Nat} {d : Bool} {e : TypeId} {m : Mem E} {k : List (E.T e) → Mem E → α} (h : ∀ xs m', m = (id, .row d e xs) :: m' → p (k xs m')) : p (mRow z id d e m k) := by
 unfold mRow
 split
 ·rename_i i d' e' xs m'
  refine gN_ok hz fun e1 => ?_
  split
  ·rename_i e2 _
   split
   ·rename_i he; subst he; subst e1; subst e2; exact h xs m' rfl
   ·exact hz
  ·exact hz
 ·exact hz
def mBox (z : α) (id : Nat) (m : Mem E) (k : List (A1 E) → Mem E → α) : α := match m with
 | (i, .box cs) :: m => gN z id i (k cs m)
 | _ => z
theorem mBox_ok (hz : p z) {id : Nat} {m : Mem E} {k : List (A1 E) → Mem E → α} (h : ∀ cs m', m = (id, .box cs) :: m' → p (k cs m')) : p (mBox z id m k) := by
 unfold mBox
 split
 ·rename_i i cs m'; exact gN_ok hz fun e1 => h cs m' (by rw [e1])
 ·exact hz
def qSl (z : α) (e : TypeId) (c : Cell E.T) (k : List (E.T e) → α) : α := match c with
 | .sl e' xs => if h : e' = e then k (h ▸ xs) else z
 | _ => z
theorem qSl_ok (hz : p z) {e : TypeId} {c : Cell E.T} {k : List (E.T e) → α} (h : ∀ xs, c = .sl e xs → p (k xs)) : p (qSl z e c k) := by
 cases c with
 | sl e' xs =>
  simp only [qSl]
  split
  ·rename_i he; subst he; exact h xs rfl
  ·exact hz
 | s v => exact hz
 | wr _ _ => exact hz
def qWr (z : α) (e : TypeId) (c : Cell E.T) (k : List (E.T e) → α) : α := match c with
 | .wr e' xs => if h : e' = e then k (h ▸ xs) else z
 | _ => z
theorem qWr_ok (hz : p z) {e : TypeId} {c : Cell E.T} {k : List (E.T e) → α} (h : ∀ xs, c = .wr e xs → p (k xs)) : p (qWr z e c k) := by
 cases c with
 | wr e' xs =>
  simp only [qWr]
  split
  ·rename_i he; subst he; exact h xs rfl
  ·exact hz
 | s v => exact hz
 | sl _ _ => exact hz
def qS (z : α) (c : Cell E.T) (k : Value → α) : α := match c with
 | .s v => k v
 | _ => z
theorem qS_ok (hz : p z) {c : Cell E.T} {k : Value → α} (h : ∀ v, c = .s v → p (k v)) : p (qS z c k) := by cases c <;> first | exact hz | exact h _ rfl
def qC (z : α) (x : P2 E) (k : Cell E.T → α) : α := match x with
 | .v (.c c) => k c
 | _ => z
theorem qC_ok (hz : p z) {x : P2 E} {k : Cell E.T → α} (h : ∀ c, x = .v (.c c) → p (k c)) : p (qC z x k) := by
 unfold qC
 split
 ·exact h _ rfl
 ·exact hz
def qP (z : α) (x : P2 E) (k : List (Cell E.T) → α) : α := match x with
 | .v (.ptr cs) => k cs
 | _ => z
theorem qP_ok (hz : p z) {x : P2 E} {k : List (Cell E.T) → α} (h : ∀ c, x = .v (.ptr c) → p (k c)) : p (qP z x k) := by
 unfold qP
 split
 ·exact h _ rfl
 ·exact hz
def qG (z : α) (x : P2 E) (k : List (Cell E.T) → α) : α := match x with
 | .g cs => k cs
 | _ => z
theorem qG_ok (hz : p z) {x : P2 E} {k : List (Cell E.T) → α} (h : ∀ c, x = .g c → p (k c)) : p (qG z x k) := by
 unfold qG
 split
 ·exact h _ rfl
 ·exact hz
def sigL (z : α) (e : TypeId) (xs : List (Sigma E.T)) (k : E.T e → List (Sigma E.T) → α) : α := match xs with
 | ⟨e', x⟩ :: xs => if h : e' = e then k (h ▸ x) xs else z
 | [] => z
theorem sigL_ok (hz : p z) {e : TypeId} {xs : List (Sigma E.T)} {k : E.T e → List (Sigma E.T) → α} (h : ∀ x xs', xs = ⟨e, x⟩ :: xs' → p (k x xs')) : p (sigL z e xs k) := by
 cases xs with
 | nil => exact hz
 | cons q xs =>
  obtain ⟨e', x⟩ := q
  simp only [sigL]
  split
  ·rename_i he; subst he; exact h x xs rfl
  ·exact hz
def qRo (z : α) (e : TypeId) (x : P2 E) (k : E.T e → α) : α := match x with
 | .v (.ro e' x) => if h : e' = e then k (h ▸ x) else z
 | _ => z
theorem qRo_ok (hz : p z) {e : TypeId} {x : P2 E} {k : E.T e → α} (h : ∀ y, x = .v (.ro e y) → p (k y)) : p (qRo z e x k) := by
 unfold qRo
 split
 ·split
  ·rename_i he; subst he; exact h _ rfl
  ·exact hz
 ·exact hz
def qFn (z : α) (g : FuncId) (x : P2 E) (k : List (Sigma E.T) → α) : α := match x with
 | .v (.fn g' xs) => match decEq g' g with
  | isTrue _ => k xs
  | isFalse _ => z
 | _ => z
theorem qFn_ok (hz : p z) {g : FuncId} {x : P2 E} {k : List (Sigma E.T) → α} (h : ∀ xs, x = .v (.fn g xs) → p (k xs)) : p (qFn z g x k) := by
 unfold qFn
 split
 ·split
  ·rename_i he _; subst he; exact h _ rfl
  ·exact hz
 ·exact hz
def rFnp (z : α) (g : FuncId) (a : A1 E) (k : List (Sigma E.T) → α) : α := match a with
 | .fnp g' xs => match decEq g' g with
  | isTrue _ => k xs
  | isFalse _ => z
 | _ => z
theorem rFnp_ok (hz : p z) {g : FuncId} {a : A1 E} {k : List (Sigma E.T) → α} (h : ∀ xs, a = .fnp g xs → p (k xs)) : p (rFnp z g a k) := by
 unfold rFnp
 split
 ·split
  ·rename_i he _; subst he; exact h _ rfl
  ·exact hz
 ·exact hz
def rFn (z : α) (g : FuncId) (ids : List (Nat × TypeId)) (a : A1 E) (k : α) : α := match a with
 | .fn g' ids' => match decEq g' g, decEq ids' ids with
  | isTrue _, isTrue _ => k
  | _, _ => z
 | _ => z
theorem rFn_ok (hz : p z) {g : FuncId} {ids : List (Nat × TypeId)} {a : A1 E} {k : α} (h : a = .fn g ids → p k) : p (rFn z g ids a k) := by
 unfold rFn
 split
 ·split
  ·rename_i he he' _ _; subst he; subst he'; exact h rfl
  ·exact hz
 ·exact hz
end
structure GoodL (X : Ctx E) (a : Code) (S : St E) (c : LCl E) : Prop where
 go : ∀ (x : c.α), c.o = some x → ∀ {R : Type} (K : Exit → St E → Option R) (r : R), c.w x K = some r → ∃ k, evL X a S K k S = some r
structure GoodJ (X : Ctx E) (q : Operand × Code × Code) (S : St E) (c : LCl E) : Prop where
 go : ∀ (x : c.α), c.o = some x → ∀ {R : Type} (K : Exit → St E → Option R) (r : R), c.w x K = some r → evJ X q.1 q.2.1 q.2.2 S K = some r
structure GoodQ (X : Ctx E) (q : Code × Code) (S : St E) (c : LCl E) : Prop where
 go : ∀ (x : c.α), c.o = some x → ∀ {R : Type} (K : Exit → St E → Option R) (r : R), c.w x K = some r → evQ X q.1 q.2 S K = some r
theorem goodQ_no {X : Ctx E} {q : Code × Code} {S : St E} : GoodQ X q S LCl.no := ⟨fun x h => by cases h⟩
theorem goodL_no {X : Ctx E} {a : Code} {S : St E} : GoodL X a S LCl.no := ⟨fun x h => by cases h⟩
theorem goodJ_no {X : Ctx E} {q : Operand × Code × Code} {S : St E} : GoodJ X q S LCl.no := ⟨fun x h => by cases h⟩
theorem loop_good {X : Ctx E} {a : Code} {ι α : Type} (S : ι → St E) (L : Nat → ι → Option α) (w : {R : Type} → α → (Exit → St E → Option R) → Option R) (step : {R : Type} → (ι → Option R) → (α → Option R) → ι → Option R)
  (h0 : ∀ i, L 0 i = none) (hs : ∀ k i, L (k + 1) i = step (L k) some i)
  (hn : ∀ {R : Type} (rec_ : ι → Option α) (g : α → Option R) (i : ι), (step rec_ some i).bind g = step (fun i => (rec_ i).bind g) g i)
  (he : ∀ {R : Type} (i0 i : ι) (rec_ : St E → Option R) (K : Exit → St E → Option R), iterStep (fun S K => evC X a S K) (backS X (codeNo a) (S i0)) (fun e S' => canonX X.np (X.keepX (codeNo a)) (S i0).ts (S i0).m ((S i0).n + X.span (codeNo a)) S' (K e)) rec_ (S i) = step (fun i => rec_ (S i)) (fun x => w x K) i)
  (k : Nat) (i : ι) : GoodL X a (S i) { α := α, o := L k i, w := w } := by
 have key : ∀ {R : Type} (i0 : ι) (K : Exit → St E → Option R) (k : Nat) (i : ι), evL X a (S i0) K k (S i) = (L k i).bind fun x => w x K := fun {R} i0 K k => by
  induction k with
  | zero => intro i; rw [h0]; rfl
  | succ k ih =>
   intro i
   rw [hs, hn]
   have : evL X a (S i0) K (k + 1) (S i) = _ := he i0 i (evL X a (S i0) K k) K
   rw [this]
   congr 1
   funext i
   exact ih i
 refine ⟨fun x hx R K r hr => ?_⟩
 refine ⟨k, ?_⟩
 rw [key i K k i]
 simp only at hx hr
 rw [hx]
 exact hr
theorem branch_good {X : Ctx E} {q : Operand × Code × Code} {α : Type} {S : St E} {o : Option α} (w : {R : Type} → α → (Exit → St E → Option R) → Option R)
  (he : ∀ {R : Type} (K : Exit → St E → Option R), evJ X q.1 q.2.1 q.2.2 S K = o.bind fun x => w x K) : GoodJ X q S { α := α, o := o, w := w } := by
 refine ⟨fun x hx R K r hr => ?_⟩
 simp only at hx hr
 rw [he, hx]
 exact hr
theorem seq_good {X : Ctx E} {q : Code × Code} {α : Type} {S : St E} {o : Option α} (w : {R : Type} → α → (Exit → St E → Option R) → Option R)
  (he : ∀ {R : Type} (K : Exit → St E → Option R), evQ X q.1 q.2 S K = o.bind fun x => w x K) : GoodQ X q S { α := α, o := o, w := w } := by
 refine ⟨fun x hx R K r hr => ?_⟩
 simp only at hx hr
 rw [he, hx]
 exact hr
def Cl.no : Cl E := { α := Unit, o := none, w := fun _ _ => none, nat := fun _ h => by cases h }
def GoodC (E : Env) (P : Program) (f : FuncId) (ps : List (P2 E)) (c : Cl E) : Prop := ∀ (a : c.α), c.o = some a → ∃ res, (∀ {R : Type} (K : Res E → Option R), c.w a K = K res) ∧ SoundAt E P f ps res
theorem goodC_no {f : FuncId} {ps : List (P2 E)} : GoodC E P f ps Cl.no := fun x h => by cases h
theorem fun_good {f : FuncId} {F : List (P2 E) → Option (Res E)} (hF : SoundF E P f F) {ps : List (P2 E)} {c : Cl E} (he : F ps = c.o.bind fun x => c.w x some) : GoodC E P f ps c := fun a ha => by
 obtain ⟨res, hw⟩ := c.nat a ha
 refine ⟨res, hw, hF ps res ?_⟩
 rw [he, ha]
 exact hw some
abbrev Ln : LCl E := LCl.no
section
variable {α : Type _} {z : α} {p : α → Prop}
def cI (z : α) (l : List (A1 E)) (k : Int → List (A1 E) → α) : α := gC z l fun a l => rV z a fun v => vI z .i64 v fun n => k n l
theorem cI_ok (hz : p z) {l : List (A1 E)} {k : Int → List (A1 E) → α} (h : ∀ n l', l = .s (.int .i64 n) :: l' → p (k n l')) : p (cI z l k) := gC_ok hz fun a l' e => rV_ok hz fun v e1 => vI_ok hz fun n e2 => h n l' (by subst e2; subst e1; exact e)
def cB (z : α) (l : List (A1 E)) (k : Bool → List (A1 E) → α) : α := gC z l fun a l => rV z a fun v => vB z v fun n => k n l
theorem cB_ok (hz : p z) {l : List (A1 E)} {k : Bool → List (A1 E) → α} (h : ∀ n l', l = .s (.bool n) :: l' → p (k n l')) : p (cB z l k) := gC_ok hz fun a l' e => rV_ok hz fun v e1 => vB_ok hz fun n e2 => h n l' (by subst e2; subst e1; exact e)
def cS (z : α) (l : List (A1 E)) (k : ByteArray → List (A1 E) → α) : α := gC z l fun a l => rV z a fun v => vS z v fun n => k n l
theorem cS_ok (hz : p z) {l : List (A1 E)} {k : ByteArray → List (A1 E) → α} (h : ∀ n l', l = .s (.string n) :: l' → p (k n l')) : p (cS z l k) := gC_ok hz fun a l' e => rV_ok hz fun v e1 => vS_ok hz fun n e2 => h n l' (by subst e2; subst e1; exact e)
def tI (z : α) (l : List (AV E)) (k : Int → List (AV E) → α) : α := gV z l fun a l => rV z a fun v => vI z .i64 v fun n => k n l
theorem tI_ok (hz : p z) {l : List (AV E)} {k : Int → List (AV E) → α} (h : ∀ n l', l = .v (.c (.s (.int .i64 n))) :: l' → p (k n l')) : p (tI z l k) := gV_ok hz fun a l' e => rV_ok hz fun v e1 => vI_ok hz fun n e2 => h n l' (by subst e2; subst e1; exact e)
def tB (z : α) (l : List (AV E)) (k : Bool → List (AV E) → α) : α := gV z l fun a l => rV z a fun v => vB z v fun n => k n l
theorem tB_ok (hz : p z) {l : List (AV E)} {k : Bool → List (AV E) → α} (h : ∀ n l', l = .v (.c (.s (.bool n))) :: l' → p (k n l')) : p (tB z l k) := gV_ok hz fun a l' e => rV_ok hz fun v e1 => vB_ok hz fun n e2 => h n l' (by subst e2; subst e1; exact e)
def tS (z : α) (l : List (AV E)) (k : ByteArray → List (AV E) → α) : α := gV z l fun a l => rV z a fun v => vS z v fun n => k n l
theorem tS_ok (hz : p z) {l : List (AV E)} {k : ByteArray → List (AV E) → α} (h : ∀ n l', l = .v (.c (.s (.string n))) :: l' → p (k n l')) : p (tS z l k) := gV_ok hz fun a l' e => rV_ok hz fun v e1 => vS_ok hz fun n e2 => h n l' (by subst e2; subst e1; exact e)
def dI (z : α) (l : List (Cell E.T)) (k : Int → List (Cell E.T) → α) : α := gC z l fun a l => qS z a fun v => vI z .i64 v fun n => k n l
theorem dI_ok (hz : p z) {l : List (Cell E.T)} {k : Int → List (Cell E.T) → α} (h : ∀ n l', l = .s (.int .i64 n) :: l' → p (k n l')) : p (dI z l k) := gC_ok hz fun a l' e => qS_ok hz fun v e1 => vI_ok hz fun n e2 => h n l' (by subst e2; subst e1; exact e)
def dB (z : α) (l : List (Cell E.T)) (k : Bool → List (Cell E.T) → α) : α := gC z l fun a l => qS z a fun v => vB z v fun n => k n l
theorem dB_ok (hz : p z) {l : List (Cell E.T)} {k : Bool → List (Cell E.T) → α} (h : ∀ n l', l = .s (.bool n) :: l' → p (k n l')) : p (dB z l k) := gC_ok hz fun a l' e => qS_ok hz fun v e1 => vB_ok hz fun n e2 => h n l' (by subst e2; subst e1; exact e)
def dS (z : α) (l : List (Cell E.T)) (k : ByteArray → List (Cell E.T) → α) : α := gC z l fun a l => qS z a fun v => vS z v fun n => k n l
theorem dS_ok (hz : p z) {l : List (Cell E.T)} {k : ByteArray → List (Cell E.T) → α} (h : ∀ n l', l = .s (.string n) :: l' → p (k n l')) : p (dS z l k) := gC_ok hz fun a l' e => qS_ok hz fun v e1 => vS_ok hz fun n e2 => h n l' (by subst e2; subst e1; exact e)
def pI (z : α) (l : List (P2 E)) (k : Int → List (P2 E) → α) : α := gC z l fun x l => qC z x fun a => qS z a fun v => vI z .i64 v fun n => k n l
theorem pI_ok (hz : p z) {l : List (P2 E)} {k : Int → List (P2 E) → α} (h : ∀ n l', l = .v (.c (.s (.int .i64 n))) :: l' → p (k n l')) : p (pI z l k) := gC_ok hz fun x l' e => qC_ok hz fun a e0 => qS_ok hz fun v e1 => vI_ok hz fun n e2 => h n l' (by subst e2; subst e1; subst e0; exact e)
def pB (z : α) (l : List (P2 E)) (k : Bool → List (P2 E) → α) : α := gC z l fun x l => qC z x fun a => qS z a fun v => vB z v fun n => k n l
theorem pB_ok (hz : p z) {l : List (P2 E)} {k : Bool → List (P2 E) → α} (h : ∀ n l', l = .v (.c (.s (.bool n))) :: l' → p (k n l')) : p (pB z l k) := gC_ok hz fun x l' e => qC_ok hz fun a e0 => qS_ok hz fun v e1 => vB_ok hz fun n e2 => h n l' (by subst e2; subst e1; subst e0; exact e)
def pS (z : α) (l : List (P2 E)) (k : ByteArray → List (P2 E) → α) : α := gC z l fun x l => qC z x fun a => qS z a fun v => vS z v fun n => k n l
theorem pS_ok (hz : p z) {l : List (P2 E)} {k : ByteArray → List (P2 E) → α} (h : ∀ n l', l = .v (.c (.s (.string n))) :: l' → p (k n l')) : p (pS z l k) := gC_ok hz fun x l' e => qC_ok hz fun a e0 => qS_ok hz fun v e1 => vS_ok hz fun n e2 => h n l' (by subst e2; subst e1; subst e0; exact e)
def cM (z : α) (e : TypeId) (l : List (A1 E)) (k : List (E.T e) → List (A1 E) → α) : α := gC z l fun a l => rImm z e a fun n => k n l
theorem cM_ok (hz : p z) {e : TypeId} {l : List (A1 E)} {k : List (E.T e) → List (A1 E) → α} (h : ∀ n l', l = .imm e n :: l' → p (k n l')) : p (cM z e l k) := gC_ok hz fun a l' q => rImm_ok hz fun n e1 => h n l' (by subst e1; exact q)
def tM (z : α) (e : TypeId) (l : List (AV E)) (k : List (E.T e) → List (AV E) → α) : α := gV z l fun a l => rImm z e a fun n => k n l
theorem tM_ok (hz : p z) {e : TypeId} {l : List (AV E)} {k : List (E.T e) → List (AV E) → α} (h : ∀ n l', l = .v (.c (.imm e n)) :: l' → p (k n l')) : p (tM z e l k) := gV_ok hz fun a l' q => rImm_ok hz fun n e1 => h n l' (by subst e1; exact q)
def dM (z : α) (e : TypeId) (l : List (Cell E.T)) (k : List (E.T e) → List (Cell E.T) → α) : α := gC z l fun a l => qSl z e a fun n => k n l
theorem dM_ok (hz : p z) {e : TypeId} {l : List (Cell E.T)} {k : List (E.T e) → List (Cell E.T) → α} (h : ∀ n l', l = .sl e n :: l' → p (k n l')) : p (dM z e l k) := gC_ok hz fun a l' q => qSl_ok hz fun n e1 => h n l' (by subst e1; exact q)
def pM (z : α) (e : TypeId) (l : List (P2 E)) (k : List (E.T e) → List (P2 E) → α) : α := gC z l fun x l => qC z x fun a => qSl z e a fun n => k n l
theorem pM_ok (hz : p z) {e : TypeId} {l : List (P2 E)} {k : List (E.T e) → List (P2 E) → α} (h : ∀ n l', l = .v (.c (.sl e n)) :: l' → p (k n l')) : p (pM z e l k) := gC_ok hz fun x l' q => qC_ok hz fun a e0 => qSl_ok hz fun n e1 => h n l' (by subst e1; subst e0; exact q)
def cR (z : α) (i : Nat) (l : List (A1 E)) (k : List (A1 E) → α) : α := gC z l fun a l => rRow z i a <| k l
theorem cR_ok (hz : p z) {i : Nat} {l : List (A1 E)} {k : List (A1 E) → α} (h : ∀ l', l = .row i :: l' → p (k l')) : p (cR z i l k) := gC_ok hz fun a l' q => rRow_ok hz fun e1 => h l' (by subst e1; exact q)
def tR (z : α) (i : Nat) (l : List (AV E)) (k : List (AV E) → α) : α := gV z l fun a l => rRow z i a <| k l
theorem tR_ok (hz : p z) {i : Nat} {l : List (AV E)} {k : List (AV E) → α} (h : ∀ l', l = .v (.c (.row i)) :: l' → p (k l')) : p (tR z i l k) := gV_ok hz fun a l' q => rRow_ok hz fun e1 => h l' (by subst e1; exact q)
def tP (z : α) (i : Nat) (l : List (AV E)) (k : List (AV E) → α) : α := gV z l fun a l => rBp z i 0 a <| k l
theorem tP_ok (hz : p z) {i : Nat} {l : List (AV E)} {k : List (AV E) → α} (h : ∀ l', l = .v (.c (.bp i 0)) :: l' → p (k l')) : p (tP z i l k) := gV_ok hz fun a l' q => rBp_ok hz fun e1 => h l' (by subst e1; exact q)
def cN (z : α) (l : List (A1 E)) (k : List (A1 E) → α) : α := gC z l fun a l => rV z a fun v => vNil z v <| k l
theorem cN_ok (hz : p z) {l : List (A1 E)} {k : List (A1 E) → α} (h : ∀ l', l = .s (.slice none 0 0) :: l' → p (k l')) : p (cN z l k) := gC_ok hz fun a l' q => rV_ok hz fun v e1 => vNil_ok hz fun e2 => h l' (by subst e2; subst e1; exact q)
end
theorem rdL {p : Prop} (h : p := by
 repeat (first
  | (with_reducible refine cI_ok (p := GoodL _ _ _) (by first | exact hN_ | exact goodL_no) fun _ _ h => ?_; subst h)
  | (with_reducible refine cB_ok (p := GoodL _ _ _) (by first | exact hN_ | exact goodL_no) fun _ _ h => ?_; subst h)
  | (with_reducible refine cS_ok (p := GoodL _ _ _) (by first | exact hN_ | exact goodL_no) fun _ _ h => ?_; subst h)
  | (with_reducible refine cM_ok (p := GoodL _ _ _) (by first | exact hN_ | exact goodL_no) fun _ _ h => ?_; subst h)
  | (with_reducible refine tI_ok (p := GoodL _ _ _) (by first | exact hN_ | exact goodL_no) fun _ _ h => ?_; subst h)
  | (with_reducible refine tB_ok (p := GoodL _ _ _) (by first | exact hN_ | exact goodL_no) fun _ _ h => ?_; subst h)
  | (with_reducible refine tS_ok (p := GoodL _ _ _) (by first | exact hN_ | exact goodL_no) fun _ _ h => ?_; subst h)
  | (with_reducible refine tM_ok (p := GoodL _ _ _) (by first | exact hN_ | exact goodL_no) fun _ _ h => ?_; subst h)
  | (with_reducible refine cR_ok (p := GoodL _ _ _) (by first | exact hN_ | exact goodL_no) fun _ h => ?_; subst h)
  | (with_reducible refine tR_ok (p := GoodL _ _ _) (by first | exact hN_ | exact goodL_no) fun _ h => ?_; subst h)
  | (with_reducible refine tP_ok (p := GoodL _ _ _) (by first | exact hN_ | exact goodL_no) fun _ h => ?_; subst h)
  | (with_reducible refine cN_ok (p := GoodL _ _ _) (by first | exact hN_ | exact goodL_no) fun _ h => ?_; subst h)
  | (with_reducible refine gV_ok (p := GoodL _ _ _) (by first | exact hN_ | exact goodL_no) fun _ _ h => ?_; subst h)
  | (with_reducible refine rV_ok (p := GoodL _ _ _) (by first | exact hN_ | exact goodL_no) fun _ h => ?_; subst h)
  | (with_reducible refine vI_ok (p := GoodL _ _ _) (by first | exact hN_ | exact goodL_no) fun _ h => ?_; subst h)
  | (with_reducible refine gC_ok (p := GoodL _ _ _) (by first | exact hN_ | exact goodL_no) fun _ _ h => ?_; subst h)
  | (with_reducible refine gE_ok (p := GoodL _ _ _) (by first | exact hN_ | exact goodL_no) fun h => ?_; subst h)
  | (with_reducible refine vB_ok (p := GoodL _ _ _) (by first | exact hN_ | exact goodL_no) fun _ h => ?_; subst h)
  | (with_reducible refine vS_ok (p := GoodL _ _ _) (by first | exact hN_ | exact goodL_no) fun _ h => ?_; subst h)
  | (with_reducible refine rImm_ok (p := GoodL _ _ _) (by first | exact hN_ | exact goodL_no) fun _ h => ?_; subst h)
  | (with_reducible refine rBp_ok (p := GoodL _ _ _) (by first | exact hN_ | exact goodL_no) fun h => ?_; subst h)
  | (with_reducible refine rRow_ok (p := GoodL _ _ _) (by first | exact hN_ | exact goodL_no) fun h => ?_; subst h)
  | (with_reducible refine mBox_ok (p := GoodL _ _ _) (by first | exact hN_ | exact goodL_no) fun _ _ h => ?_; subst h)
  | (with_reducible refine mRow_ok (p := GoodL _ _ _) (by first | exact hN_ | exact goodL_no) fun _ _ h => ?_; subst h)
  | (with_reducible refine gTs_ok (p := GoodL _ _ _) (by first | exact hN_ | exact goodL_no) fun _ h => ?_; subst h)
  | (with_reducible refine gN_ok (p := GoodL _ _ _) (by first | exact hN_ | exact goodL_no) fun h => ?_; subst h)
  | (with_reducible refine gT_ok (p := GoodL _ _ _) (by first | exact hN_ | exact goodL_no) fun _ h => ?_; subst h)
  | (with_reducible refine gG_ok (p := GoodL _ _ _) (by first | exact hN_ | exact goodL_no) fun _ _ h => ?_; subst h)
  | (with_reducible refine vNil_ok (p := GoodL _ _ _) (by first | exact hN_ | exact goodL_no) fun h => ?_; subst h)
  | (with_reducible refine rJ_ok (p := GoodL _ _ _) (by first | exact hN_ | exact goodL_no) fun h => ?_; subst h)
  | (with_reducible refine rWin_ok (p := GoodL _ _ _) (by first | exact hN_ | exact goodL_no) fun _ _ h => ?_; subst h)
  | (with_reducible refine rIp_ok (p := GoodL _ _ _) (by first | exact hN_ | exact goodL_no) fun _ h => ?_; subst h)
  | (with_reducible refine rRp_ok (p := GoodL _ _ _) (by first | exact hN_ | exact goodL_no) fun _ h => ?_; subst h)
  | (with_reducible refine rFn_ok (p := GoodL _ _ _) (by first | exact hN_ | exact goodL_no) fun h => ?_; subst h)
  | (with_reducible refine rFnp_ok (p := GoodL _ _ _) (by first | exact hN_ | exact goodL_no) fun _ h => ?_; subst h)
  | (with_reducible refine sigL_ok (p := GoodL _ _ _) (by first | exact hN_ | exact goodL_no) fun _ _ h => ?_; subst h))
 exact hg_ ..) : p := h
theorem rdJ {p : Prop} (h : p := by
 repeat (first
  | (with_reducible refine cI_ok (p := GoodJ _ _ _) (by first | exact hN_ | exact goodJ_no) fun _ _ h => ?_; subst h)
  | (with_reducible refine cB_ok (p := GoodJ _ _ _) (by first | exact hN_ | exact goodJ_no) fun _ _ h => ?_; subst h)
  | (with_reducible refine cS_ok (p := GoodJ _ _ _) (by first | exact hN_ | exact goodJ_no) fun _ _ h => ?_; subst h)
  | (with_reducible refine cM_ok (p := GoodJ _ _ _) (by first | exact hN_ | exact goodJ_no) fun _ _ h => ?_; subst h)
  | (with_reducible refine tI_ok (p := GoodJ _ _ _) (by first | exact hN_ | exact goodJ_no) fun _ _ h => ?_; subst h)
  | (with_reducible refine tB_ok (p := GoodJ _ _ _) (by first | exact hN_ | exact goodJ_no) fun _ _ h => ?_; subst h)
  | (with_reducible refine tS_ok (p := GoodJ _ _ _) (by first | exact hN_ | exact goodJ_no) fun _ _ h => ?_; subst h)
  | (with_reducible refine tM_ok (p := GoodJ _ _ _) (by first | exact hN_ | exact goodJ_no) fun _ _ h => ?_; subst h)
  | (with_reducible refine cR_ok (p := GoodJ _ _ _) (by first | exact hN_ | exact goodJ_no) fun _ h => ?_; subst h)
  | (with_reducible refine tR_ok (p := GoodJ _ _ _) (by first | exact hN_ | exact goodJ_no) fun _ h => ?_; subst h)
  | (with_reducible refine tP_ok (p := GoodJ _ _ _) (by first | exact hN_ | exact goodJ_no) fun _ h => ?_; subst h)
  | (with_reducible refine cN_ok (p := GoodJ _ _ _) (by first | exact hN_ | exact goodJ_no) fun _ h => ?_; subst h)
  | (with_reducible refine gV_ok (p := GoodJ _ _ _) (by first | exact hN_ | exact goodJ_no) fun _ _ h => ?_; subst h)
  | (with_reducible refine rV_ok (p := GoodJ _ _ _) (by first | exact hN_ | exact goodJ_no) fun _ h => ?_; subst h)
  | (with_reducible refine vI_ok (p := GoodJ _ _ _) (by first | exact hN_ | exact goodJ_no) fun _ h => ?_; subst h)
  | (with_reducible refine gC_ok (p := GoodJ _ _ _) (by first | exact hN_ | exact goodJ_no) fun _ _ h => ?_; subst h)
  | (with_reducible refine gE_ok (p := GoodJ _ _ _) (by first | exact hN_ | exact goodJ_no) fun h => ?_; subst h)
  | (with_reducible refine vB_ok (p := GoodJ _ _ _) (by first | exact hN_ | exact goodJ_no) fun _ h => ?_; subst h)
  | (with_reducible refine vS_ok (p := GoodJ _ _ _) (by first | exact hN_ | exact goodJ_no) fun _ h => ?_; subst h)
  | (with_reducible refine rImm_ok (p := GoodJ _ _ _) (by first | exact hN_ | exact goodJ_no) fun _ h => ?_; subst h)
  | (with_reducible refine rBp_ok (p := GoodJ _ _ _) (by first | exact hN_ | exact goodJ_no) fun h => ?_; subst h)
  | (with_reducible refine rRow_ok (p := GoodJ _ _ _) (by first | exact hN_ | exact goodJ_no) fun h => ?_; subst h)
  | (with_reducible refine mBox_ok (p := GoodJ _ _ _) (by first | exact hN_ | exact goodJ_no) fun _ _ h => ?_; subst h)
  | (with_reducible refine mRow_ok (p := GoodJ _ _ _) (by first | exact hN_ | exact goodJ_no) fun _ _ h => ?_; subst h)
  | (with_reducible refine gTs_ok (p := GoodJ _ _ _) (by first | exact hN_ | exact goodJ_no) fun _ h => ?_; subst h)
  | (with_reducible refine gN_ok (p := GoodJ _ _ _) (by first | exact hN_ | exact goodJ_no) fun h => ?_; subst h)
  | (with_reducible refine gT_ok (p := GoodJ _ _ _) (by first | exact hN_ | exact goodJ_no) fun _ h => ?_; subst h)
  | (with_reducible refine gG_ok (p := GoodJ _ _ _) (by first | exact hN_ | exact goodJ_no) fun _ _ h => ?_; subst h)
  | (with_reducible refine vNil_ok (p := GoodJ _ _ _) (by first | exact hN_ | exact goodJ_no) fun h => ?_; subst h)
  | (with_reducible refine rJ_ok (p := GoodJ _ _ _) (by first | exact hN_ | exact goodJ_no) fun h => ?_; subst h)
  | (with_reducible refine rWin_ok (p := GoodJ _ _ _) (by first | exact hN_ | exact goodJ_no) fun _ _ h => ?_; subst h)
  | (with_reducible refine rIp_ok (p := GoodJ _ _ _) (by first | exact hN_ | exact goodJ_no) fun _ h => ?_; subst h)
  | (with_reducible refine rRp_ok (p := GoodJ _ _ _) (by first | exact hN_ | exact goodJ_no) fun _ h => ?_; subst h)
  | (with_reducible refine rFn_ok (p := GoodJ _ _ _) (by first | exact hN_ | exact goodJ_no) fun h => ?_; subst h)
  | (with_reducible refine rFnp_ok (p := GoodJ _ _ _) (by first | exact hN_ | exact goodJ_no) fun _ h => ?_; subst h)
  | (with_reducible refine sigL_ok (p := GoodJ _ _ _) (by first | exact hN_ | exact goodJ_no) fun _ _ h => ?_; subst h))
 exact hg_ ..) : p := h
theorem rdQ {p : Prop} (h : p := by
 repeat (first
  | (with_reducible refine cI_ok (p := GoodQ _ _ _) (by first | exact hN_ | exact goodQ_no) fun _ _ h => ?_; subst h)
  | (with_reducible refine cB_ok (p := GoodQ _ _ _) (by first | exact hN_ | exact goodQ_no) fun _ _ h => ?_; subst h)
  | (with_reducible refine cS_ok (p := GoodQ _ _ _) (by first | exact hN_ | exact goodQ_no) fun _ _ h => ?_; subst h)
  | (with_reducible refine cM_ok (p := GoodQ _ _ _) (by first | exact hN_ | exact goodQ_no) fun _ _ h => ?_; subst h)
  | (with_reducible refine tI_ok (p := GoodQ _ _ _) (by first | exact hN_ | exact goodQ_no) fun _ _ h => ?_; subst h)
  | (with_reducible refine tB_ok (p := GoodQ _ _ _) (by first | exact hN_ | exact goodQ_no) fun _ _ h => ?_; subst h)
  | (with_reducible refine tS_ok (p := GoodQ _ _ _) (by first | exact hN_ | exact goodQ_no) fun _ _ h => ?_; subst h)
  | (with_reducible refine tM_ok (p := GoodQ _ _ _) (by first | exact hN_ | exact goodQ_no) fun _ _ h => ?_; subst h)
  | (with_reducible refine cR_ok (p := GoodQ _ _ _) (by first | exact hN_ | exact goodQ_no) fun _ h => ?_; subst h)
  | (with_reducible refine tR_ok (p := GoodQ _ _ _) (by first | exact hN_ | exact goodQ_no) fun _ h => ?_; subst h)
  | (with_reducible refine tP_ok (p := GoodQ _ _ _) (by first | exact hN_ | exact goodQ_no) fun _ h => ?_; subst h)
  | (with_reducible refine cN_ok (p := GoodQ _ _ _) (by first | exact hN_ | exact goodQ_no) fun _ h => ?_; subst h)
  | (with_reducible refine gV_ok (p := GoodQ _ _ _) (by first | exact hN_ | exact goodQ_no) fun _ _ h => ?_; subst h)
  | (with_reducible refine rV_ok (p := GoodQ _ _ _) (by first | exact hN_ | exact goodQ_no) fun _ h => ?_; subst h)
  | (with_reducible refine vI_ok (p := GoodQ _ _ _) (by first | exact hN_ | exact goodQ_no) fun _ h => ?_; subst h)
  | (with_reducible refine gC_ok (p := GoodQ _ _ _) (by first | exact hN_ | exact goodQ_no) fun _ _ h => ?_; subst h)
  | (with_reducible refine gE_ok (p := GoodQ _ _ _) (by first | exact hN_ | exact goodQ_no) fun h => ?_; subst h)
  | (with_reducible refine vB_ok (p := GoodQ _ _ _) (by first | exact hN_ | exact goodQ_no) fun _ h => ?_; subst h)
  | (with_reducible refine vS_ok (p := GoodQ _ _ _) (by first | exact hN_ | exact goodQ_no) fun _ h => ?_; subst h)
  | (with_reducible refine rImm_ok (p := GoodQ _ _ _) (by first | exact hN_ | exact goodQ_no) fun _ h => ?_; subst h)
  | (with_reducible refine rBp_ok (p := GoodQ _ _ _) (by first | exact hN_ | exact goodQ_no) fun h => ?_; subst h)
  | (with_reducible refine rRow_ok (p := GoodQ _ _ _) (by first | exact hN_ | exact goodQ_no) fun h => ?_; subst h)
  | (with_reducible refine mBox_ok (p := GoodQ _ _ _) (by first | exact hN_ | exact goodQ_no) fun _ _ h => ?_; subst h)
  | (with_reducible refine mRow_ok (p := GoodQ _ _ _) (by first | exact hN_ | exact goodQ_no) fun _ _ h => ?_; subst h)
  | (with_reducible refine gTs_ok (p := GoodQ _ _ _) (by first | exact hN_ | exact goodQ_no) fun _ h => ?_; subst h)
  | (with_reducible refine gN_ok (p := GoodQ _ _ _) (by first | exact hN_ | exact goodQ_no) fun h => ?_; subst h)
  | (with_reducible refine gT_ok (p := GoodQ _ _ _) (by first | exact hN_ | exact goodQ_no) fun _ h => ?_; subst h)
  | (with_reducible refine gG_ok (p := GoodQ _ _ _) (by first | exact hN_ | exact goodQ_no) fun _ _ h => ?_; subst h)
  | (with_reducible refine vNil_ok (p := GoodQ _ _ _) (by first | exact hN_ | exact goodQ_no) fun h => ?_; subst h)
  | (with_reducible refine rJ_ok (p := GoodQ _ _ _) (by first | exact hN_ | exact goodQ_no) fun h => ?_; subst h)
  | (with_reducible refine rWin_ok (p := GoodQ _ _ _) (by first | exact hN_ | exact goodQ_no) fun _ _ h => ?_; subst h)
  | (with_reducible refine rIp_ok (p := GoodQ _ _ _) (by first | exact hN_ | exact goodQ_no) fun _ h => ?_; subst h)
  | (with_reducible refine rRp_ok (p := GoodQ _ _ _) (by first | exact hN_ | exact goodQ_no) fun _ h => ?_; subst h)
  | (with_reducible refine rFn_ok (p := GoodQ _ _ _) (by first | exact hN_ | exact goodQ_no) fun h => ?_; subst h)
  | (with_reducible refine rFnp_ok (p := GoodQ _ _ _) (by first | exact hN_ | exact goodQ_no) fun _ h => ?_; subst h)
  | (with_reducible refine sigL_ok (p := GoodQ _ _ _) (by first | exact hN_ | exact goodQ_no) fun _ _ h => ?_; subst h))
 exact hg_ ..) : p := h
theorem rdC {p : Prop} (h : p := by
 repeat (first
  | (with_reducible refine pI_ok (p := GoodC _ _ _ _) (by exact goodC_no) fun _ _ h => ?_; subst h)
  | (with_reducible refine pB_ok (p := GoodC _ _ _ _) (by exact goodC_no) fun _ _ h => ?_; subst h)
  | (with_reducible refine pS_ok (p := GoodC _ _ _ _) (by exact goodC_no) fun _ _ h => ?_; subst h)
  | (with_reducible refine pM_ok (p := GoodC _ _ _ _) (by exact goodC_no) fun _ _ h => ?_; subst h)
  | (with_reducible refine dI_ok (p := GoodC _ _ _ _) (by exact goodC_no) fun _ _ h => ?_; subst h)
  | (with_reducible refine dB_ok (p := GoodC _ _ _ _) (by exact goodC_no) fun _ _ h => ?_; subst h)
  | (with_reducible refine dS_ok (p := GoodC _ _ _ _) (by exact goodC_no) fun _ _ h => ?_; subst h)
  | (with_reducible refine dM_ok (p := GoodC _ _ _ _) (by exact goodC_no) fun _ _ h => ?_; subst h)
  | (with_reducible refine gC_ok (p := GoodC _ _ _ _) (by exact goodC_no) fun _ _ h => ?_; subst h)
  | (with_reducible refine qC_ok (p := GoodC _ _ _ _) (by exact goodC_no) fun _ h => ?_; subst h)
  | (with_reducible refine qS_ok (p := GoodC _ _ _ _) (by exact goodC_no) fun _ h => ?_; subst h)
  | (with_reducible refine vI_ok (p := GoodC _ _ _ _) (by exact goodC_no) fun _ h => ?_; subst h)
  | (with_reducible refine vB_ok (p := GoodC _ _ _ _) (by exact goodC_no) fun _ h => ?_; subst h)
  | (with_reducible refine vS_ok (p := GoodC _ _ _ _) (by exact goodC_no) fun _ h => ?_; subst h)
  | (with_reducible refine qSl_ok (p := GoodC _ _ _ _) (by exact goodC_no) fun _ h => ?_; subst h)
  | (with_reducible refine qG_ok (p := GoodC _ _ _ _) (by exact goodC_no) fun _ h => ?_; subst h)
  | (with_reducible refine gE_ok (p := GoodC _ _ _ _) (by exact goodC_no) fun h => ?_; subst h)
  | (with_reducible refine qP_ok (p := GoodC _ _ _ _) (by exact goodC_no) fun _ h => ?_; subst h)
  | (with_reducible refine qWr_ok (p := GoodC _ _ _ _) (by exact goodC_no) fun _ h => ?_; subst h)
  | (with_reducible refine qRo_ok (p := GoodC _ _ _ _) (by exact goodC_no) fun _ h => ?_; subst h)
  | (with_reducible refine qFn_ok (p := GoodC _ _ _ _) (by exact goodC_no) fun _ h => ?_; subst h)
  | (with_reducible refine sigL_ok (p := GoodC _ _ _ _) (by exact goodC_no) fun _ _ h => ?_; subst h))
 first
  | exact fun_good hF_ ((hev_ ..).trans (hnat_ _ ..))
  | (intro x h; cases h)) : p := h
def lookE {β : Type 1} : List (Nat × β) → Nat → Option β
 | [], _ => none
 | (j, b) :: m, i => match decEq j i with
  | isTrue _ => some b
  | isFalse _ => lookE m i
def nthC : Nat → List Code → Code
 | _, [] => .skip
 | 0, a :: _ => a
 | n + 1, _ :: l => nthC n l
def nthJ : Nat → List (Operand × Code × Code) → Operand × Code × Code
 | _, [] => (.tmp 0, .skip, .skip)
 | 0, a :: _ => a
 | n + 1, _ :: l => nthJ n l
def nthQ : Nat → List (Code × Code) → Code × Code
 | _, [] => (.skip, .skip)
 | 0, a :: _ => a
 | n + 1, _ :: l => nthQ n l
def bodyOf (fn : Func) : Code := match fn.body with
 | some c => c
 | none => .skip
def AllP {β : Type} (p : β → Prop) : List β → Prop
 | [] => True
 | a :: l => p a ∧ AllP p l
theorem allP_mem {β : Type} {p : β → Prop} : ∀ {l : List β}, AllP p l → ∀ a ∈ l, p a
 | [], _, a, h => by cases h
 | b :: l, hp, a, h => by
  cases h with
  | head => exact hp.1
  | tail _ h => exact allP_mem hp.2 a h
theorem ls_of {X : Ctx E} {a : Code} {h0 : St E → LCl E} (he : X.L (codeNo a) = some h0) (hg : ∀ S, GoodL X a S (h0 S)) : ∀ h, X.L (codeNo a) = some h → LS X a h := fun h hh => by
 rw [he] at hh; cases hh
 exact fun S x hx => (hg S).go x hx
theorem js_of {X : Ctx E} {q : Operand × Code × Code} {h0 : St E → LCl E} (he : X.J (condNo q.2.1 q.2.2) = some h0) (hg : ∀ S, GoodJ X q S (h0 S)) : ∀ h, X.J (condNo q.2.1 q.2.2) = some h → JS X q h := fun h hh => by
 rw [he] at hh; cases hh
 exact fun S x hx => (hg S).go x hx
theorem qs_of {X : Ctx E} {q : Code × Code} {h0 : St E → LCl E} (he : X.Q (seqNo q.1 q.2) = some h0) (hg : ∀ S, GoodQ X q S (h0 S)) : ∀ h, X.Q (seqNo q.1 q.2) = some h → QS X q h := fun h hh => by
 rw [he] at hh; cases hh
 exact fun S x hx => (hg S).go x hx
theorem fn_ok {f : FuncId} {fn : Func} (hf : P.funcs[f]? = some fn) (h1 : (fn.name == "runtime.NumGoroutine") = false) (h2 : fn.body.isNone = false) : FnOK P f := ⟨fn, hf, h1, h2⟩
theorem fun_sound (hE : EnvOK E P) {X : Ctx E} (hC : CSound E P X.C) {f : FuncId} {fn : Func} (hH : HOK X (bodyOf fn)) (hf : P.funcs[f]? = some fn) (h2 : fn.body.isNone = false) : SoundF E P f (evF X (bodyOf fn) fn.ntmps fn.results.toList) := by
 have hb : fn.body = some (bodyOf fn) := by
  unfold bodyOf
  cases hq : fn.body with
  | none => rw [hq] at h2; cases h2
  | some c => rfl
 exact evF_sound hE hC hH hf hb (by simp)
def CS (E : Env) (P : Program) : List (Nat × Entry E) → Prop
 | [] => True
 | (f, en) :: l => (SoundC E P f en.F ∧ FnOK P f) ∧ CS E P l
theorem cs_sound : ∀ (l : List (Nat × Entry E)), CS E P l → CSound E P (lookE l)
 | [], _, f, en, h => by simp [lookE] at h
 | (j, b) :: l, hc, f, en, h => by
  unfold lookE at h
  split at h
  ·rename_i e _; subst e; cases h; exact hc.1
  ·exact cs_sound l hc.2 f en h
def lookD (l : List (Nat × List Tmp)) (n : Nat) : List Tmp := match l with
 | [] => []
 | (j, b) :: m => match decEq j n with
  | isTrue _ => b
  | isFalse _ => lookD m n
def lookN (l : List (Nat × Nat)) (n : Nat) : Nat := match l with
 | [] => 0
 | (j, b) :: m => match decEq j n with
  | isTrue _ => b
  | isFalse _ => lookN m n
def lookP (l : List (Nat × List Prep)) (n : Nat) : List Prep := match l with
 | [] => []
 | (j, b) :: m => match decEq j n with
  | isTrue _ => b
  | isFalse _ => lookP m n
inductive Co | no | rd (e : TypeId) | wr (e : TypeId)
def coC (w : Co) (c : Cell E.T) : Cell E.T := match w, c with
 | .rd e, .s (.slice none 0 0) => .sl e []
 | .wr e, .s (.slice none 0 0) => .wr e []
 | _, c => c
def coL : List Co → List (Cell E.T) → List (Cell E.T)
 | w :: ws, c :: cs => coC w c :: coL ws cs
 | _, cs => cs
def coCr (w : Co) (c : Cell E.T) : Cell E.T := match w, c with
 | .rd e, .s (.slice none 0 0) => .sl e []
 | _, c => c
def coLr : List Co → List (Cell E.T) → List (Cell E.T)
 | w :: ws, c :: cs => coCr w c :: coLr ws cs
 | _, cs => cs
def coP (w : List Co) : P2 E → P2 E
 | .v (.c c) => match w with
  | w :: _ => .v (.c (coC w c))
  | [] => .v (.c c)
 | .v (.ptr cs) => .v (.ptr (coLr w cs))
 | .v (.ro e x) => .v (.ro e x)
 | .v (.fn g xs) => .v (.fn g xs)
 | .g cs => .g (coL w cs)
def coer : List (List Co) → List (P2 E) → List (P2 E)
 | w :: ws, p :: ps => coP w p :: coer ws ps
 | _, ps => ps
theorem coC_wr (q : Co) (e : TypeId) (xs : List (E.T e)) : coC q (.wr e xs) = .wr e xs := by cases q <;> rfl
theorem coC_rel {w : World} {I F : Nat → Prop} {u : Value} {c : Cell E.T} (q : Co) (h : CellR E w I F c u) : CellR E w I F (coC q c) u := by
 unfold coC
 split
 ·have hu : u = .slice none 0 0 := by cases h; rfl
  subst hu
  exact Rd.sl (val := fun _ _ => undef) rfl (Nat.le_refl _) (Nat.zero_le _) (fun h => absurd h (Nat.lt_irrefl _)) (fun i j h => absurd h (Nat.not_lt_zero _)) (fun i j h => absurd h (Nat.not_lt_zero _))
 ·rename_i e
  have hu : u = .slice none 0 0 := by cases h; rfl
  subst hu
  exact Ow.sl (inner := []) (F := fun _ _ _ => False) ⟨by simp, .inl ⟨rfl, rfl⟩⟩ (fun k hk => by simp [Value.ownBlock] at hk) (fun i j k h => absurd h (Nat.not_lt_zero _)) (fun i j i' j' k h => absurd h (Nat.not_lt_zero _)) (fun i j h => absurd h (Nat.not_lt_zero _))
 ·exact h
theorem coCr_rd {w : World} {I : Nat → Prop} {u : Value} {c : Cell E.T} (q : Co) (h : Rd E w I u c) : Rd E w I u (coCr q c) := by
 unfold coCr
 split
 ·have hu : u = .slice none 0 0 := by cases h; rfl
  subst hu
  exact Rd.sl (val := fun _ _ => undef) rfl (Nat.le_refl _) (Nat.zero_le _) (fun h => absurd h (Nat.lt_irrefl _)) (fun i j h => absurd h (Nat.not_lt_zero _)) (fun i j h => absurd h (Nat.not_lt_zero _))
 ·exact h
theorem coLr_get : ∀ (ws : List Co) (cs : List (Cell E.T)), (coLr ws cs).length = cs.length ∧ ∀ (j : Nat) (c : Cell E.T), (coLr ws cs)[j]? = some c → ∃ q c', cs[j]? = some c' ∧ c = coCr q c'
 | [], cs => ⟨rfl, fun j c h => ⟨.no, c, h, by cases c <;> rfl⟩⟩
 | _ :: _, [] => ⟨rfl, fun j c h => by simp [coLr] at h⟩
 | w :: ws, c :: cs => by
  obtain ⟨h1, h2⟩ := coLr_get ws cs
  refine ⟨by simp [coLr, h1], fun j d h => ?_⟩
  cases j with
  | zero => exact ⟨w, c, rfl, by simpa [coLr] using h.symm⟩
  | succ j => exact h2 j d (by simpa [coLr] using h)
theorem coL_get : ∀ (ws : List Co) (cs : List (Cell E.T)), (coL ws cs).length = cs.length ∧ (∀ (j : Nat) (c : Cell E.T), (coL ws cs)[j]? = some c → ∃ q c', cs[j]? = some c' ∧ c = coC q c') ∧ ∀ (j : Nat) (e : TypeId) (xs : List (E.T e)), cs[j]? = some (.wr e xs) → (coL ws cs)[j]? = some (.wr e xs)
 | [], cs => ⟨rfl, fun j c h => ⟨.no, c, h, by cases c <;> rfl⟩, fun j e xs h => h⟩
 | _ :: _, [] => ⟨rfl, fun j c h => by simp [coL] at h, fun j e xs h => by simp at h⟩
 | w :: ws, c :: cs => by
  obtain ⟨h1, h2, h3⟩ := coL_get ws cs
  refine ⟨by simp [coL, h1], fun j d h => ?_, fun j e xs h => ?_⟩
  ·cases j with
   | zero => exact ⟨w, c, rfl, by simpa [coL] using h.symm⟩
   | succ j => exact h2 j d (by simpa [coL] using h)
  ·cases j with
   | zero => simp at h; subst h; simp [coL, coC_wr]
   | succ j => simpa [coL] using h3 j e xs (by simpa using h)
theorem coer_get : ∀ (ws : List (List Co)) (ps : List (P2 E)), (coer ws ps).length = ps.length ∧ (∀ (j : Nat) (p : P2 E), (coer ws ps)[j]? = some p → ∃ p', ps[j]? = some p' ∧ (p = p' ∨ ∃ q, p = coP q p')) ∧ ∀ (j : Nat) (p : P2 E), ps[j]? = some p → ∃ p', (coer ws ps)[j]? = some p' ∧ (p' = p ∨ ∃ q, p' = coP q p)
 | [], ps => ⟨rfl, fun j p h => ⟨p, h, .inl rfl⟩, fun j p h => ⟨p, h, .inl rfl⟩⟩
 | _ :: _, [] => ⟨rfl, fun j p h => by simp [coer] at h, fun j p h => by simp at h⟩
 | w :: ws, p :: ps => by
  obtain ⟨h1, h2, h3⟩ := coer_get ws ps
  refine ⟨by simp [coer, h1], fun j d h => ?_, fun j d h => ?_⟩
  ·cases j with
   | zero => exact ⟨p, rfl, .inr ⟨w, by simpa [coer] using h.symm⟩⟩
   | succ j => exact h2 j d (by simpa [coer] using h)
  ·cases j with
   | zero => simp at h; subst h; exact ⟨coP w p, by simp [coer], .inr ⟨w, rfl⟩⟩
   | succ j =>
    obtain ⟨p', h4, h5⟩ := h3 j d (by simpa using h)
    exact ⟨p', by simpa [coer] using h4, h5⟩
theorem coP_wr {p : P2 E} {q : List Co} {l : Nat} {e : TypeId} {xs : List (E.T e)} (h : (pcells p)[l]? = some (.wr e xs)) : (pcells (coP q p))[l]? = some (.wr e xs) ∧ ∀ (u : Value), cellV (coP q p) u l = cellV p u l := by
 cases p with
 | v x =>
  cases x with
  | ptr cs => simp [pcells] at h
  | ro e x => simp [pcells] at h
  | fn f xs => simp [pcells] at h
  | c c =>
   cases l with
   | zero =>
    simp [pcells] at h; subst h
    cases q with
    | nil => exact ⟨rfl, fun u => rfl⟩
    | cons w ws => exact ⟨by simp [coP, pcells, coC_wr], fun u => rfl⟩
   | succ l => simp [pcells] at h
 | g cs => exact ⟨(coL_get q cs).2.2 l e xs h, fun u => rfl⟩
theorem SoundAt.coer {P : Program} {f : FuncId} {ps : List (P2 E)} {res : Res E} {sig : List (List Co)} (h : SoundAt E P f (coer sig ps) res) : SoundAt E P f ps res := fun vals w I Φ g F hI hgl hΦ hA => by
 obtain ⟨hlen, hget, hback⟩ := coer_get sig ps
 have hptr : ∀ (j : Nat) (cs : List (Cell E.T)), (B.coer sig ps)[j]? = some (.v (.ptr cs)) → ∃ cs', ps[j]? = some (.v (.ptr cs')) ∧ (cs = cs' ∨ ∃ q, cs = coLr q cs') := fun j cs hj => by
  obtain ⟨p', h1, h2⟩ := hget j _ hj
  rcases h2 with h2 | ⟨q, h2⟩
  ·subst h2; exact ⟨cs, h1, .inl rfl⟩
  ·cases p' with
   | g l => simp [coP] at h2
   | v p' =>
    cases p' with
    | c c => simp only [coP] at h2; split at h2 <;> simp at h2
    | ro e x => simp [coP] at h2
    | fn f xs => simp [coP] at h2
    | ptr l => simp only [coP] at h2; injection h2 with h2; injection h2 with h2; exact ⟨l, h1, .inr ⟨q, h2⟩⟩
 have hptb : ∀ (j : Nat) (cs : List (Cell E.T)), ps[j]? = some (.v (.ptr cs)) → ∃ cs', (B.coer sig ps)[j]? = some (.v (.ptr cs')) := fun j cs hj => by
  obtain ⟨p', h1, h2⟩ := hback j _ hj
  rcases h2 with h2 | ⟨q, h2⟩
  ·subst h2; exact ⟨cs, h1⟩
  ·exact ⟨_, by rw [h1, h2]; rfl⟩
 have hwr : ∀ {j l : Nat} {p : P2 E} {e : TypeId} {xs : List (E.T e)}, ps[j]? = some p → (pcells p)[l]? = some (.wr e xs) → ∃ p', (B.coer sig ps)[j]? = some p' ∧ (pcells p')[l]? = some (.wr e xs) ∧ ∀ u, cellV p' u l = cellV p u l := fun {j l p e xs} hj hl => by
  obtain ⟨p', h1, h2⟩ := hback j _ hj
  rcases h2 with h2 | ⟨q, h2⟩
  ·subst h2; exact ⟨p', h1, hl, fun u => rfl⟩
  ·obtain ⟨q1, q2⟩ := coP_wr (q := q) hl
   exact ⟨p', h1, by rw [h2]; exact q1, fun u => by rw [h2]; exact q2 u⟩
 refine (h vals w I Φ g F hI hgl (fun k hk => ?_) ⟨by rw [hlen]; exact hA.len, fun j c hj => ?_, fun j cs hj => ?_, fun j cs hj => ?_, fun j e x hj => ?_, fun j f xs hj => ?_, fun j j' cs cs' hj hj' => by
  obtain ⟨c1, h1, _⟩ := hptr j cs hj
  obtain ⟨c2, h2, _⟩ := hptr j' cs' hj'
  exact hA.inj j j' c1 c2 h1 h2, hA.wr, hA.wd, fun j cs hj => by
  obtain ⟨c1, h1, _⟩ := hptr j cs hj
  exact hA.wg j c1 h1⟩).mono
  fun e w' ⟨v, I', fp, F', he, hP⟩ => ⟨v, I', fp, F', he, hP.fr, hP.hI, hP.hI', hP.rv, hP.fps, hP.dis, by rw [← hlen]; exact hP.up, fun j cs u hj hu => by
  obtain ⟨cs', h4⟩ := hptb j cs hj
  exact hP.ups j cs' u h4 hu, fun j p l e xs hj hl => ?_, hP.wf, hP.wd'⟩
 ·obtain ⟨h1, h2⟩ := hΦ k hk
  refine ⟨h1, ?_⟩
  rcases h2 with ⟨j, cs, h2, h3⟩ | ⟨j, l, e, xs, ⟨p, h2, h3⟩, h4⟩
  ·obtain ⟨cs', h4⟩ := hptb j cs h2
   exact .inl ⟨j, cs', h4, h3⟩
  ·obtain ⟨p', q1, q2, _⟩ := hwr h2 h3
   exact .inr ⟨j, l, e, xs, ⟨p', q1, q2⟩, h4⟩
 ·obtain ⟨p', h1, h2⟩ := hget j _ hj
  rcases h2 with h2 | ⟨q, h2⟩
  ·subst h2; exact hA.c j c h1
  ·cases p' with
   | g l => simp [coP] at h2
   | v p' =>
    cases p' with
    | ptr l => simp [coP] at h2
    | ro e x => simp [coP] at h2
    | fn f xs => simp [coP] at h2
    | c c' =>
     simp only [coP] at h2
     split at h2
     ·injection h2 with h2; injection h2 with h2; rw [h2]; exact coC_rel _ (hA.c j c' h1)
     ·injection h2 with h2; injection h2 with h2; rw [h2]; exact hA.c j c' h1
 ·obtain ⟨cs', h1, h2⟩ := hptr j cs hj
  obtain ⟨h3, ⟨arr, ty, h4, h5, h6⟩, h7⟩ := hA.ptr j cs' h1
  rcases h2 with h2 | ⟨q, h2⟩
  ·subst h2; exact ⟨h3, ⟨arr, ty, h4, h5, h6⟩, h7⟩
  ·obtain ⟨g1, g2⟩ := coLr_get q cs'
   refine ⟨h3, ⟨arr, ty, h4, by rw [h2, g1]; exact h5, fun k c hk => ?_⟩, h7⟩
   rw [h2] at hk
   obtain ⟨q', c', g3, g4⟩ := g2 k c hk
   rw [g4]
   exact coCr_rd _ (h6 k c' g3)
 ·obtain ⟨p', h1, h2⟩ := hget j _ hj
  rcases h2 with h2 | ⟨q, h2⟩
  ·subst h2; exact hA.gg j cs h1
  ·cases p' with
   | v p' =>
    cases p' with
    | ptr l => simp [coP] at h2
    | ro e x => simp [coP] at h2
    | fn f xs => simp [coP] at h2
    | c c' => simp only [coP] at h2; split at h2 <;> simp at h2
   | g l =>
    simp only [coP] at h2
    injection h2 with h2
    obtain ⟨arr, h3, h4, h5⟩ := hA.gg j l h1
    obtain ⟨g1, g2, _⟩ := coL_get q l
    refine ⟨arr, h3, by rw [h2, g1]; exact h4, fun k c hk => ?_⟩
    rw [h2] at hk
    obtain ⟨q', c', g3, g4⟩ := g2 k c hk
    rw [g4]
    exact coC_rel _ (h5 k c' g3)
 ·obtain ⟨p', h1, h2⟩ := hget j _ hj
  rcases h2 with h2 | ⟨q, h2⟩
  ·subst h2; exact hA.ro j e x h1
  ·cases p' with
   | g l => simp [coP] at h2
   | v p' =>
    cases p' with
    | c c => simp only [coP] at h2; split at h2 <;> simp at h2
    | ptr l => simp [coP] at h2
    | ro e' x' => simp only [coP] at h2; rw [h2] at hj; rw [← h2] at h1; exact hA.ro j e x h1
    | fn f xs => simp [coP] at h2
 ·obtain ⟨p', h1, h2⟩ := hget j _ hj
  rcases h2 with h2 | ⟨q, h2⟩
  ·subst h2; exact hA.fn j f xs h1
  ·cases p' with
   | g l => simp [coP] at h2
   | v p' =>
    cases p' with
    | c c => simp only [coP] at h2; split at h2 <;> simp at h2
    | ptr l => simp [coP] at h2
    | ro e' x' => simp [coP] at h2
    | fn f' xs' => simp only [coP] at h2; rw [← h2] at h1; exact hA.fn j f xs h1
 ·obtain ⟨p', q1, q2, q3⟩ := hwr hj hl
  obtain ⟨u, r1, r2⟩ := hP.wu j p' l e xs q1 q2
  refine ⟨u, r1, r2.imp_left fun ⟨e', xs', r2, r3⟩ => ⟨e', xs', r2, by rw [← q3]; exact r3⟩⟩
theorem soundC_coer {P : Program} {f : FuncId} {F : List (P2 E) → Cl E} (h : SoundC E P f F) (sig : List (List Co)) : SoundC E P f (fun ps => F (coer sig ps)) := fun ps a ha => by
 obtain ⟨res, hw, hs⟩ := h (coer sig ps) a ha
 exact ⟨res, hw, hs.coer⟩
theorem bind_ite {α β : Type} {c : Prop} [Decidable c] (a b : Option α) (g : α → Option β) : (if c then a else b).bind g = if c then a.bind g else b.bind g := by split <;> rfl
theorem bind_sum {α β γ δ : Type} (f : α → Option γ) (h : β → Option γ) (x : α ⊕ β) (g : γ → Option δ) : (Sum.elim f h x).bind g = Sum.elim (fun a => (f a).bind g) (fun b => (h b).bind g) x := by cases x <;> rfl
end Go.B

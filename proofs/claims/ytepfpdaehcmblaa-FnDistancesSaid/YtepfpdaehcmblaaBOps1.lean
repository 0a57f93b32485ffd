/- What the reckoner's plain operations say of the program's: scalars, reading, addresses. -/
import Derived.Test.YtepfpdaehcmblaaBPut
import Derived.Laws.Entries
import Derived.ChangeKeysEq
namespace Go.B
open Go Go.RowKit
set_option linter.unusedVariables false
set_option linter.unusedSimpArgs false
variable {E : Env} {P : Program}
def EqFs (P : Program) : List Field → List (Nat × Nat) → Prop
 | [], [] => True
 | f :: fs, (o, q) :: os => f.name ≠ "_" ∧ o = f.offset ∧ ((q = 0 ∧ ∃ k, P.underlying f.type = some (.int k)) ∨ (q = 1 ∧ P.underlying f.type = some .bool) ∨ (q = 2 ∧ P.underlying f.type = some .string)) ∧ EqFs P fs os
 | _, _ => False
structure EnvOK (E : Env) (P : Program) : Prop where
 glob : ∀ (w w' : World) (I I' : Nat → Prop), E.glob w I → (∀ k, I k → I' k ∧ w'.heap[k]? = w.heap[k]?) → E.glob w' I'
 info : ∀ t i, E.info t = some i → P.underlying t = some i.desc ∧ (∃ j, P.info? t = some j ∧ j.size = i.size ∧ j.bytes = i.bytes ∧ j.zero = i.zero) ∧
  i.agg = (match i.desc with | .struct _ | .array _ _ => true | _ => false) ∧ (i.agg = false → i.size = 1)
 pos : ∀ t i, E.info t = some i → 0 < i.size ∧ 0 < i.bytes ∧ ∃ z, i.zero = some z
 zero : ∀ t i z, E.info t = some i → i.zero = some z → z.cells.size = i.size ∧ z.cells.toList.all (fun v => v.oneCell') = true ∧ (i.agg = false → z.oneCell' = true)
 ck : ∀ t i, E.info t = some i → i.ck.length = i.size ∧ ∀ (j : Nat) (e : TypeId) z, i.ck[j]? = some (.sl e) → i.zero = some z → z.cells.toList[j]? = some (.slice none 0 0)
 make : ∀ e cs x, E.make e cs = some x → E.cells e x = cs
 flatOK : ∀ e i x (j : Nat) c, E.info e = some i → flat i = true → (E.cells e x)[j]? = some c → ∃ v, c = .s v
 bytesOK : ∀ e xs ys i, E.bytes e xs = some ys → E.info e = some i → (i.size = 1 ∧ i.bytes = 1 ∧ i.zero = some (.int .u8 0)) ∧ ys.length = xs.length ∧ ∀ j, j < xs.length → E.cells e (ys.getD j (E.dflt e)) = [.s (.int .u8 (xs.getD j 0))]
 intsOK : ∀ e ys xs, E.ints e ys = some xs → ys.length = xs.length ∧ ∀ j, j < xs.length → E.cells e (ys.getD j (E.dflt e)) = [.s (.int .u8 (xs.getD j 0))]
 len : ∀ e x, (E.cells e x).length = 0 ∨ (E.cells e x).length = E.sz e
 field : ∀ t i (f : Array Field) (k : Nat) (fd : Field), E.info t = some i → i.desc = .struct f → geta f.toList k = some fd → ∃ j, E.info fd.type = some j ∧ fd.offset + j.size ≤ i.size ∧ 0 < j.size
 mixed : P.follows .mixedOrders = true
 eqOK : ∀ t os, E.eqF t = some os → P.stoodInHeld t = false ∧ P.eqGuardType P.depth t = false ∧ ∃ fs : Array Field, P.underlying t = some (.struct fs) ∧ EqFs P fs.toList os
class GlobOK (E : Env) (w0 : World) (Φ : Nat → Prop) (I0 : Ent) : Prop where
 gl : E.glob w0 I0.I
 hi : ∀ k, I0.I k → k < w0.heap.size ∧ ¬ Φ k
theorem Mr.glob {E : Env} {P : Program} {w0 w : World} {Φ : Nat → Prop} {I0 : Ent} {G : Gh} {m : Mem E} {n : Nat} [h : GlobOK E w0 Φ I0] (hE : EnvOK E P) (hM : Mr E w0 Φ I0 G m n w) {I : Nat → Prop} (hI : ∀ k, G.I k → I k) : E.glob w I :=
 hE.glob w0 w I0.I I h.gl fun k hk => ⟨hI k (hM.ip k hk), hM.fr.block k (h.hi k hk).1 (h.hi k hk).2⟩
section
variable (w : World)
theorem EnvOK.isAgg (h : EnvOK E P) {t : TypeId} {i : TI} (ht : E.info t = some i) : (isAgg t).run P w = .ok i.agg w := by
 obtain ⟨h1, _, h3, _⟩ := h.info t i ht
 simp only [Go.isAgg, Sem.run_bind, run_underlying h1, Result.andThen_ok, h3]
 split <;> simp_all
theorem EnvOK.sizeOf (h : EnvOK E P) {t : TypeId} {i : TI} (ht : E.info t = some i) : (sizeOf t).run P w = .ok i.size w := by
 obtain ⟨_, ⟨j, hj, h2, _⟩, _⟩ := h.info t i ht
 simp [Go.sizeOf, typeInfo, hj, h2]
theorem EnvOK.under (h : EnvOK E P) {t : TypeId} {i : TI} (ht : E.info t = some i) : (underlying t).run P w = .ok i.desc w := run_underlying (h.info t i ht).1 w
theorem EnvOK.zeroValue (h : EnvOK E P) {t : TypeId} {i : TI} {z : Value} (ht : E.info t = some i) (hz : i.zero = some z) : (zeroValue t).run P w = .ok z w := by
 obtain ⟨_, ⟨j, hj, _, _, h4⟩, _⟩ := h.info t i ht
 simp [Go.zeroValue, typeInfo, hj, h4, hz]
theorem EnvOK.bytes (h : EnvOK E P) {t : TypeId} {i : TI} (ht : E.info t = some i) : ∃ j, (typeInfo t).run P w = .ok j w ∧ j.bytes = i.bytes ∧ j.size = i.size := by
 obtain ⟨_, ⟨j, hj, h2, h3, _⟩, _⟩ := h.info t i ht
 exact ⟨j, by simp [typeInfo, hj], h3, h2⟩
end
section
variable {R : Type} {m : Mem E} {K : AV E → Mem E → Option R} {r : R}
theorem equalIn_bool {t : TypeId} (ht : P.underlying t = some .bool) (a b : Bool) (d : Nat) (w : World) : (Op.equalIn (d + 1) t (.bool a) (.bool b)).run P w = .ok (a == b) w := by
 simp only [Op.equalIn, Sem.run_bind, run_underlying ht, Result.andThen_ok, Sem.run_pure]
theorem eqBool_run {t : TypeId} (ht : P.underlying t = some .bool) (a b : Bool) (xo yo : Operand) (w : World) (op : BinOp) (hop : op = .eql ∨ op = .neq) :
  (do eqGuard op t xo yo (.bool a) (.bool b); binOp op t (.bool a) (.bool b)).run P w = .ok (.bool (if op = .eql then (a == b) else !(a == b))) w := by
 have h1 : (Op.equal t (.bool a) (.bool b)).run P w = .ok (a == b) w := equalIn_bool ht a b 9999 w
 have h2 : (eqGuard op t xo yo (.bool a) (.bool b)).run P w = .ok () w := by rcases hop with rfl | rfl <;> rfl
 rw [Sem.run_bind, h2, Result.andThen_ok]
 rcases hop with rfl | rfl
 ·show (do pure (.bool (← Op.equal t (.bool a) (.bool b)) : Value) : Sem Value).run P w = _
  rw [Sem.run_bind, h1]; rfl
 ·show (do pure (.bool (!(← Op.equal t (.bool a) (.bool b))) : Value) : Sem Value).run P w = _
  rw [Sem.run_bind, h1]; rfl
theorem binV_sound (hE : EnvOK E P) {op : BinOp} {v u : Value} {t : TypeId} {k : Value → Mp E} (h : (binV op t v u k).run m K = some r) (xo yo : Operand) :
  ∃ z, (k z).run m K = some r ∧ z.oneCell' = true ∧ ∀ w, (do eqGuard op t xo yo v u; binOp op t v u).run P w = .ok z w := by
 unfold binV at h
 split at h
 ·rename_i kx a ky b
  split at h
  ·obtain ⟨h1, h⟩ := run_need h
   exact ⟨_, h, rfl, fun w => by simp [eqGuard, binOp, Op.shift, Int.not_lt.2 h1]⟩
  ·obtain ⟨h1, h⟩ := run_need h
   exact ⟨_, h, rfl, fun w => by simp [eqGuard, binOp, Op.shift, Int.not_lt.2 h1]⟩
  ·obtain ⟨h1, h⟩ := run_need h
   exact ⟨_, h, rfl, fun w => by simp [eqGuard, binOp, Op.intArith, h1]⟩
  ·obtain ⟨h1, h⟩ := run_need h
   exact ⟨_, h, rfl, fun w => by simp [eqGuard, binOp, Op.intArith, h1]⟩
  ·obtain ⟨h1, h⟩ := run_need h
   exact ⟨_, h, rfl, fun w => by simp [eqGuard, binOp, Op.intArith, h1]⟩
  ·obtain ⟨h1, h⟩ := run_need h
   obtain ⟨h2, h⟩ := run_need h
   exact ⟨_, h, rfl, fun w => by simp [eqGuard, binOp, Op.intDiv, h1, h2]⟩
  ·obtain ⟨h1, h⟩ := run_need h
   obtain ⟨h2, h⟩ := run_need h
   exact ⟨_, h, rfl, fun w => by simp [eqGuard, binOp, Op.intDiv, h1, h2]⟩
  all_goals
   obtain ⟨h1, h⟩ := run_need h
   refine ⟨_, h, rfl, fun w => ?_⟩
   subst h1
   simp [eqGuard, binOp, Op.intBits, Op.intCmp, bitsV, cmpV]
   try simp [bne, BEq.beq]
 ·rename_i a b
  split at h
  ·obtain ⟨h1, h⟩ := run_need h
   refine ⟨_, h, rfl, fun w => ?_⟩
   have : ¬ ((a.size : Int) + (b.size : Int) > IntKind.i64.max) := by
    have : IntKind.i64.max = 9223372036854775807 := by decide
    simp only [maxN] at h1
    omega
   simp only [maxN] at h1
   simp [eqGuard, binOp, Op.stringOp]
   omega
  ·exact ⟨_, h, rfl, fun w => by simp [eqGuard, binOp, Op.stringOp]; rw [Bool.eq_iff_iff]; simp⟩
  ·exact ⟨_, h, rfl, fun w => by simp [eqGuard, binOp, Op.stringOp]; rw [Bool.eq_iff_iff]; simp⟩
  ·exact ⟨_, h, rfl, fun w => by simp [eqGuard, binOp, Op.stringOp]⟩
  ·exact ⟨_, h, rfl, fun w => by simp [eqGuard, binOp, Op.stringOp]⟩
  ·cases h
 ·rename_i a b
  obtain ⟨i, hi, h⟩ := run_info h
  split at h
  ·rename_i hd
   have ht : P.underlying t = some .bool := by rw [← hd]; exact (hE.info t i hi).1
   split at h
   ·exact ⟨_, h, rfl, fun w => by rw [eqBool_run ht a b xo yo w .eql (.inl rfl)]; rfl⟩
   ·exact ⟨_, h, rfl, fun w => by rw [eqBool_run ht a b xo yo w .neq (.inr rfl)]; rfl⟩
   ·cases h
  ·cases h
 ·cases h
theorem unV_sound {op : UnOp} {v : Value} {k : Value → Mp E} (h : (unV op v k).run m K = some r) :
  ∃ z, (k z).run m K = some r ∧ z.oneCell' = true ∧ ∀ w, (Op.unary op v).run P w = .ok z w := by
 unfold unV at h
 split at h
 ·exact ⟨_, h, rfl, fun w => by simp [Op.unary, Op.intArith]⟩
 ·exact ⟨_, h, rfl, fun w => by simp [Op.unary]⟩
 ·cases h
theorem minV_sound {v u : Value} {k : Value → Mp E} (h : (minV v u k).run m K = some r) (ats : Array TypeId) (t : TypeId) :
  ∃ z, (k z).run m K = some r ∧ z.oneCell' = true ∧ ∀ w, (Builtin.min_ ats t #[v, u]).run P w = .ok z w := by
 unfold minV at h
 split at h
 ·obtain ⟨h1, h⟩ := run_need h
  exact ⟨_, h, rfl, fun w => by simp [Builtin.min_, Builtin.min2]⟩
 ·cases h
theorem maxV_sound {v u : Value} {k : Value → Mp E} (h : (maxV v u k).run m K = some r) (ats : Array TypeId) (t : TypeId) :
  ∃ z, (k z).run m K = some r ∧ z.oneCell' = true ∧ ∀ w, (Builtin.max_ ats t #[v, u]).run P w = .ok z w := by
 unfold maxV at h
 split at h
 ·obtain ⟨h1, h⟩ := run_need h
  exact ⟨_, h, rfl, fun w => by simp [Builtin.max_, Builtin.max2]⟩
 ·cases h
end
end Go.B

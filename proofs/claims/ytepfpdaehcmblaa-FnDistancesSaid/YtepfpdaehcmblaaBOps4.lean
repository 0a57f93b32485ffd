/- What the reckoner's plain operations say of the program's: slices, lengths, bytes of texts, conversions. -/
import Derived.Test.YtepfpdaehcmblaaBOps3
namespace Go.B
open Go Go.RowKit
set_option linter.unusedVariables false
set_option linter.unusedSimpArgs false
variable {E : Env} {P : Program}
section
variable {R : Type} {G : Gh} {w w0 : World} {m : Mem E} {n : Nat} {K : AV E → Mem E → Option R} {r : R} {Φ : Nat → Prop} {I0 : Ent} {ts : List (AV E)} {a : Act}
theorem optInt_sound (hT : Tr E G ts m n a w) {x : Option Operand} {d : Int} {k : Int → Mp E} (h : (optInt ts x d k).run m K = some r) :
  ∃ j, (k j).run m K = some r ∧ ((x.map a.eval = none ∧ j = d) ∨ ∃ q, x.map a.eval = some (.int q j)) := by
 unfold optInt at h
 split at h
 ·rename_i o
  obtain ⟨q, v, he, h⟩ := run_intA h
  have := Aeval_rel hT o
  rw [he] at this
  exact ⟨v, h, .inr ⟨q, by simp [this.1]⟩⟩
 ·exact ⟨d, h, .inl ⟨rfl, rfl⟩⟩
theorem bounds_sound (hT : Tr E G ts m n a w) {lo hi : Option Operand} {len : Nat} {k : Nat → Nat → Mp E} (h : (bounds ts lo hi len k).run m K = some r) :
  ∃ l u, (k l u).run m K = some r ∧ l ≤ u ∧ u ≤ len ∧ ∀ (b : Bool) (cap : Nat), len ≤ cap → (b = false → cap = len) → (Instr.sliceBounds b len cap (lo.map a.eval) (hi.map a.eval) none).run P w = .ok (l, u, cap) w := by
 unfold bounds at h
 obtain ⟨l, h, hl⟩ := optInt_sound hT h
 obtain ⟨u, h, hu⟩ := optInt_sound hT h
 obtain ⟨h1, h⟩ := run_need h
 obtain ⟨h2, h⟩ := run_need h
 obtain ⟨h3, h⟩ := run_need h
 refine ⟨l.toNat, u.toNat, h, by omega, by omega, fun b cap hc hb => ?_⟩
 have e1 : (if 0 ≤ l ∧ l ≤ ((u.toNat : Nat) : Int) then True else False) := by rw [if_pos ⟨h1, by omega⟩]; trivial
 have g1 : 0 ≤ l ∧ l ≤ ((u.toNat : Nat) : Int) := ⟨h1, by omega⟩
 have g2 : 0 ≤ u ∧ u ≤ (cap : Int) := ⟨by omega, by omega⟩
 have g3 : l ≤ ((u.toNat : Nat) : Int) := by omega
 have g4 : u ≤ (cap : Int) := by omega
 rcases hl with ⟨hl, rfl⟩ | ⟨q, hl⟩ <;> rcases hu with ⟨hu, rfl⟩ | ⟨q', hu⟩ <;> rw [hl, hu] <;>
  simp_all [Instr.sliceBounds, Instr.sliceBound, asIntOf]
theorem sliceA_sound (hE : EnvOK E P) (hM : Mr E w0 Φ I0 G m n w) (hT : Tr E G ts m n a w) {t : TypeId} {i : TI} (hi : E.info t = some i) {lo hi' : Option Operand} {p : A1 E} {u : Value} (hp : A1r E G w m n p u)
  (h : (sliceA ts i p lo hi').run m K = some r) : ∃ v u', K v m = some r ∧ (Instr.sliceAt t u (lo.map a.eval) (hi'.map a.eval) none).run P w = .ok u' w ∧ AVr E G w m n v u' := by
 unfold sliceA at h
 split at h
 ·rename_i hd
  have hu : (underlying t).run P w = .ok .string w := by rw [hE.under w hi, hd]
  split at h
  ·rename_i s
   obtain ⟨rfl, _⟩ := hp
   obtain ⟨l, k, h, h1, h2, h3⟩ := bounds_sound (P := P) hT h
   refine ⟨_, _, h, ?_, rfl, rfl⟩
   have := h3 false s.size (Nat.le_refl _) (fun _ => rfl)
   simp [Instr.sliceAt, Instr.slice, hu, this]
  ·cases h
 ·rename_i e0 hd
  have hu : (underlying t).run P w = .ok (.slice e0) w := by rw [hE.under w hi, hd]
  obtain ⟨i0, h0, h⟩ := run_info h
  have hsz := hE.szOf h0 w
  split at h
  ·rename_i e xs _
   obtain ⟨he, h'⟩ := run_need h
   clear h; subst he
   obtain ⟨l, k, h, h1, h2, h3⟩ := bounds_sound (P := P) hT h'
   cases hp with
   | @sl A nn cap _ _ val hn hc hm ha hw hr =>
    subst hn
    refine ⟨_, .slice (if cap = l then A else A.map (·.add (l * E.sz e))) (k - l) (cap - l), h, ?_, ?_⟩
    ·have := h3 true cap hc (by simp)
     simp [Instr.sliceAt, Instr.slice, hu, this, hsz]
    ·have hlen : ((xs.take k).drop l).length = k - l := by simp; omega
     refine .sl (val := fun x y => val (l + x) y) hlen.symm (by omega) (by omega) (fun hk => ?_) (fun x y hx hy => ?_) (fun x y hx hy => ?_)
     ·rw [if_neg (by omega)]
      have := ha (by omega)
      cases A <;> simp_all
     ·rw [if_neg (by omega)]
      have hA := ha (by omega)
      obtain ⟨ad, rfl⟩ := Option.isSome_iff_exists.1 hA
      obtain ⟨g1, g2⟩ := hw (l + x) y (by omega) hy
      refine ⟨by simpa [Addr.add_block] using g1, ?_⟩
      simp only [Option.map_some, Option.getD_some] at g2 ⊢
      rw [Addr.add_add, ← Nat.add_assoc, ← Nat.add_mul]
      exact g2
     ·have hg : ((xs.take k).drop l).getD x (E.dflt e) = xs.getD (l + x) (E.dflt e) := by
       simp only [List.getD_eq_getElem?_getD, List.getElem?_drop, List.getElem?_take]
       rw [if_pos (by omega)]
      rw [hg]
      exact hr (l + x) y (by omega) hy
  ·rename_i id _
   obtain ⟨b, hb, h⟩ := run_get h
   split at h
   ·rename_i d e xs
    obtain ⟨he, h'⟩ := run_need h
    clear h; subst he
    obtain ⟨l, k, h, h1, h2, h3⟩ := bounds_sound (P := P) hT h'
    obtain rfl := hp.2.2 _ _ _ hb
    obtain ⟨inner, F, ho, hbk, hf, hdj, hin⟩ := hM.bl id _ hb
    obtain ⟨A, cap, hv, hle, _⟩ := ownsG_form ho
    refine ⟨_, winV (E.sz e) l (k - l) (G.hd id), h, ?_, hp.1, by rw [hv]; rfl, fun d' e' xs' hl' => ?_⟩
    ·have := h3 true cap hle (by simp)
     rw [hv]
     simp [Instr.sliceAt, Instr.slice, hu, this, hsz, winV]
    ·rw [hb] at hl'
     cases hl'
     exact ⟨by omega, rfl⟩
   ·cases h
  ·cases h
 ·cases h
theorem lenA_sound (hE : EnvOK E P) (hM : Mr E w0 Φ I0 G m n w) {t : TypeId} {i : TI} (hi : E.info t = some i) {p : A1 E} {u : Value} (hp : A1r E G w m n p u) {k : Nat → Mp E}
  (h : (lenA i p k).run m K = some r) : ∃ l, (k l).run m K = some r ∧ ∀ (ats : Array TypeId) (ty : TypeId), ats[0]? = some t → (Builtin.len_ ats ty #[u]).run P w = .ok (.int .i64 l) w := by
 unfold lenA at h
 split at h
 ·rename_i hd
  have hu : (underlying t).run P w = .ok .string w := by rw [hE.under w hi, hd]
  split at h
  ·rename_i s
   obtain ⟨rfl, _⟩ := hp
   exact ⟨_, h, fun ats ty ha => by simp [Builtin.len_, ha, hu, goInt]⟩
  ·cases h
 ·rename_i e0 hd
  have hu : (underlying t).run P w = .ok (.slice e0) w := by rw [hE.under w hi, hd]
  have key : ∀ (A : Option Addr) (l c : Nat) (ats : Array TypeId) (ty : TypeId), ats[0]? = some t → (Builtin.len_ ats ty #[.slice A l c]).run P w = .ok (.int .i64 l) w := fun A l c ats ty ha => by
   simp [Builtin.len_, ha, hu, goInt]
  split at h
  ·obtain ⟨rfl, _⟩ := hp
   exact ⟨_, h, fun ats ty ha => key _ _ _ ats ty ha⟩
  ·cases hp with
   | sl hn => subst hn; exact ⟨_, h, fun ats ty ha => key _ _ _ ats ty ha⟩
  ·rename_i id
   obtain ⟨b, hb, h⟩ := run_get h
   split at h
   ·obtain rfl := hp.2.2 _ _ _ hb
    obtain ⟨inner, F, ho, _⟩ := hM.bl id _ hb
    obtain ⟨A, cap, hv, hle, _⟩ := ownsG_form ho
    exact ⟨_, h, fun ats ty ha => by rw [hv]; exact key _ _ _ ats ty ha⟩
   ·cases h
  ·rename_i id _ _
   obtain ⟨b, hb, h⟩ := run_get h
   split at h
   ·obtain ⟨_, rfl⟩ := hp.2.2 _ _ _ hb
    obtain ⟨inner, F, ho, _⟩ := hM.bl id _ hb
    obtain ⟨A, cap, hv, hle, _⟩ := ownsG_form ho
    exact ⟨_, h, fun ats ty ha => by rw [hv]; exact key _ _ _ ats ty ha⟩
   ·cases h
  ·rename_i id
   obtain ⟨b, hb, h⟩ := run_get h
   split at h
   ·obtain rfl := hp.2.2 _ _ hb
    obtain ⟨⟨inner, F, ho, _⟩, _⟩ := hM.bl id _ hb
    obtain ⟨A, cap, hv, hle, _⟩ := ownsG_form ho
    exact ⟨_, h, fun ats ty ha => by rw [hv]; exact key _ _ _ ats ty ha⟩
   ·cases h
  ·rename_i id j0 off
   obtain ⟨b, hb, h⟩ := run_get h
   split at h
   ·split at h
    ·rename_i hc
     obtain ⟨h1, h2, rfl⟩ := hp.2.2 _ _ hb
     obtain ⟨F', how⟩ := head_ow hM hb h1 h2 (cell_of hc)
     obtain ⟨inner, F, ho, _⟩ := how.top (I := G.I)
     obtain ⟨A, cap, hv, hle, _⟩ := ownsG_form ho
     exact ⟨_, h, fun ats ty ha => by rw [hv]; exact key _ _ _ ats ty ha⟩
    ·cases h
   ·cases h
  ·cases h
 ·cases h
theorem byteAt (s : ByteArray) (j : Int) (h0 : 0 ≤ j) (h1 : j < (s.size : Int)) : ∃ h : j.toNat < s.size, (((s[j.toNat]'h).toNat : Nat) : Int) = bt s j := ⟨by omega, by rw [bt, dif_pos (by omega)]⟩
theorem index_sound (hE : EnvOK E P) {t : TypeId} {i : TI} (hi : E.info t = some i) (hd : i.desc = .string) {s : ByteArray} {j : Int} (q : IntKind) (h0 : 0 ≤ j) (h1 : j < (s.size : Int)) :
  (Instr.index t (.string s) (.int q j)).run P w = .ok (.int .u8 (bt s j)) w := by
 have hu : (underlying t).run P w = .ok .string w := by rw [hE.under w hi, hd]
 obtain ⟨h2, h3⟩ := byteAt s j h0 h1
 simp [Instr.index, asIntOf, hu, h0, h2, ← h3]
end
end Go.B

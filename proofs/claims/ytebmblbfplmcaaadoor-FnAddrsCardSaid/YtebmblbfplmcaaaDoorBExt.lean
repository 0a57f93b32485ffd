/- Functions of the library, by contracts of their own. -/
import Derived.Test.YtebmblbfplmcaaaDoorBHd
namespace Go.B
open Go Go.RowKit
set_option linter.unusedVariables false
set_option linter.unusedSimpArgs false
variable {E : Env} {P : Program}
/-- What a function of plain arguments says that changes nothing. -/
def ExtOK (E : Env) (P : Program) (f : FuncId) (args : List Value) (rv : RV E) : Prop :=
  ∀ (w : World) (I : Nat → Prop), (∀ k, I k → k < w.heap.size) → E.glob w I → Calls P f args.toArray w fun e w' => ∃ v fp, e = .returned v ∧ Frame (fun _ => False) w w' ∧ RVr E w' I fp rv v ∧
    (∀ i j k, fp i j k → w.heap.size ≤ k ∧ k < w'.heap.size) ∧ (∀ i j i' j' k, fp i j k → fp i' j' k → i = i' ∧ j = j')
theorem ext_sound {f : FuncId} {args : List Value} {rv : RV E} (h : ExtOK E P f args rv) : SoundAt E P f (args.map fun v => .v (.c (.s v))) ⟨rv, args.map fun _ => []⟩ := by
  intro vals w I Φ g F hI hgl hΦ hA
  have hv : vals = args.toArray := by
    apply Array.ext (by rw [hA.len]; simp)
    intro j h1 h2
    have hj : j < args.length := by simpa using h2
    have := hA.c j (.s args[j]) (by rw [List.getElem?_map, List.getElem?_eq_getElem hj]; rfl)
    have h3 : vals.getD j undef = vals[j] := by rw [Array.getD_eq_getD_getElem?, Array.getElem?_eq_getElem h1]; rfl
    rw [h3] at this
    have h4 : Rd E w I vals[j] (.s args[j]) := this
    generalize hq : args[j] = y at h4
    generalize hz : vals[j] = z at h4
    cases h4 with | s _ => rw [List.getElem_toArray, hq]
  subst hv
  have plain : ∀ (j : Nat) (p : P2 E), (args.map fun v => (P2.v (P1.c (Cell.s v)) : P2 E))[j]? = some p → ∃ v, p = .v (.c (.s v)) := fun j p hp => by
    rw [List.getElem?_map] at hp
    obtain ⟨v, _, rfl⟩ := Option.map_eq_some_iff.1 hp
    exact ⟨v, rfl⟩
  refine (h w I (fun k hk => (hI k hk).1) hgl).mono fun e w' ⟨v, fp, h1, h2, h3, h4, h5⟩ => ⟨v, I, fp, fun _ _ _ => False, h1, ⟨h2.os, h2.tape, h2.output, h2.size, fun k hk _ => h2.block k hk fun h => h⟩, fun k hk => hk, fun k hk => .inl hk, h3,
    fun i j k hk => ⟨.inl (h4 i j k hk).1, (h4 i j k hk).2, fun hIk => absurd (hI k hIk).1 (Nat.not_lt.2 (h4 i j k hk).1)⟩, h5, by simp, fun j cs u hj => ?_, fun j p l e xs hj hl => ?_, fun j l k hk => hk.elim, fun j l j' l' k hk => hk.elim⟩
  · obtain ⟨v, hv⟩ := plain j _ hj; cases hv
  · obtain ⟨v, rfl⟩ := plain j _ hj
    cases l with
    | zero => simp [pcells] at hl
    | succ l => simp [pcells] at hl
theorem frame_same (w : World) : Frame (fun _ => False) w w := Frame.refl _ _
theorem frame_drewN (w : World) (n : Nat) : Frame (fun _ => False) w (w.drewN n) := ⟨rfl, rfl, rfl, Nat.le_refl _, fun k _ _ => rfl⟩
theorem frame_alloc (w : World) (o : Obj) : Frame (fun _ => False) w (w.alloc o) := ⟨rfl, rfl, rfl, by simp, fun k hk _ => Below.heap_alloc w _ k hk⟩
/-- A new row of plain values. -/
theorem new_row {w : World} {I : Nat → Prop} {e : TypeId} {xs : List (E.T e)} {vs : List Value} {fp : Nat → Prop} (hsz : E.sz e = 1) (hl : vs.length = xs.length) (hm : xs.length ≤ maxLen) (hfp : fp w.heap.size)
    (hx : ∀ i, i < xs.length → cellAt E e (xs.getD i (E.dflt e)) 0 = .s (vs.getD i undef) ∧ (vs.getD i undef).oneCell' = true) :
    Top E (w.alloc (.cells vs.toArray e)) I true fp (.slice (some ⟨w.heap.size, 0, none⟩) xs.length xs.length) e xs := by
  refine ⟨vs, fun _ _ _ => False, ⟨by rw [hsz, hl, Nat.mul_one], .inr ⟨w.heap.size, xs.length, (vs.toArray, (0, 0)), rfl, Nat.zero_le _, by show (w.heap.push _)[w.heap.size]? = _; simp, Nat.le_refl _, hm, by simp [hsz, hl], by simp [hsz, ← hl], Loose.of _⟩⟩, fun k hk => by simp [Value.ownBlock] at hk; rw [← hk]; exact hfp, fun i j k _ _ hk => hk.elim, fun i j i' j' k _ _ _ _ hk => hk.elim, fun i j hi hj => ?_⟩
  rw [hsz] at hj
  obtain rfl : j = 0 := by omega
  obtain ⟨h1, h2⟩ := hx i hi
  unfold In
  rw [if_pos rfl, h1, hsz, Nat.mul_one, Nat.add_zero]
  exact .s h2
end Go.B

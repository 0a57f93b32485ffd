/- From what a call's argument reads as to plain values: type by type, structs and slices of any depth; and how a call is then made. -/
import Derived.Test.YtepfpdaehcmblaaBHd
import Derived.ProofKit
import Derived.WalkKit
import Derived.Deep.Slices
import Derived.Deep.Fields
import Derived.ChangeSame
import Derived.ChangeMaps
import Derived.WideShapes
namespace Go.B
open Go Go.RowKit Go.ChangeShapes Go.WideShapes Go.Deep
set_option linter.unusedSimpArgs false
set_option linter.unusedVariables false
variable {E : Env} {P : Program}
def RdL (E : Env) (w : World) (cs : List Value) (l : List (Cell E.T)) : Prop := cs.length = l.length ∧ ∀ (j : Nat) (v : Value) (c : Cell E.T), cs[j]? = some v → l[j]? = some c → Rd E w (fun k => k < w.heap.size) v c
theorem RdL.one {w : World} {v : Value} {c : Cell E.T} (h : Rd E w (fun k => k < w.heap.size) v c) : RdL E w [v] [c] :=
 ⟨rfl, fun j u d h1 h2 => by
  cases j with
  | zero => simp at h1 h2; subst h1; subst h2; exact h
  | succ j => simp at h1⟩
theorem RdL.append {w : World} {cs cs' : List Value} {l l' : List (Cell E.T)} (h : RdL E w cs l) (h' : RdL E w cs' l') : RdL E w (cs ++ cs') (l ++ l') :=
 ⟨by simp [h.1, h'.1], fun j v c h1 h2 => by
  rcases Nat.lt_or_ge j cs.length with hj | hj
  ·rw [List.getElem?_append_left hj] at h1
   rw [List.getElem?_append_left (h.1 ▸ hj)] at h2
   exact h.2 j v c h1 h2
  ·rw [List.getElem?_append_right hj] at h1
   rw [List.getElem?_append_right (h.1 ▸ hj), ← h.1] at h2
   exact h'.2 _ v c h1 h2⟩
structure OpB (E : Env) (P : Program) (t : TypeId) {α : Type} (cf : α → List (Cell E.T)) (ok : α → Prop) : Prop where
 out : ∀ {H : Type} (enc : TypeId × Value → H) (w : World) (base : Nat) (spare : Nat → Bool) (held : Bool) (fuel : Nat) (cs : List Value) (x : DataW H × List MemPlace),
  DataW.trod enc P w base spare held fuel t cs = some x → ∃ a : α, RdL E w cs (cf a) ∧ ok a
structure OpBF (E : Env) (P : Program) (fs : List Field) (off : Nat) {α : Type} (cf : α → List (Cell E.T)) (ok : α → Prop) : Prop where
 out : ∀ {H : Type} (enc : TypeId × Value → H) (w : World) (base : Nat) (spare : Nat → Bool) (held : Bool) (n : Nat) (cs : List Value) (sz : Nat),
  cs.length = off + sz → (∀ a, (cf a).length = sz) → (∀ f ∈ fs, ∃ y, DataW.trod enc P w base spare held n f.type ((cs.drop f.offset).take (P.cellsOf f.type)) = some y) → ∃ a : α, RdL E w (cs.drop off) (cf a) ∧ ok a
theorem opB_int {t : TypeId} {k : IntKind} (ht : P.underlying t = some (.int k)) : OpB E P t (fun n : Int => [.s (.int k n)]) (fun n => (Lit.int k n).wf = true) := by
 constructor
 intro H enc w base spare held fuel cs x h
 obtain ⟨n, rfl, _, hw⟩ := DataW.trod_int ht h
 exact ⟨n, RdL.one (.s rfl), hw⟩
theorem opB_list {α : Type} (Q : Nat → α → Prop) (n : Nat) (h : ∀ i, i < n → ∃ a, Q i a) : ∃ xs : List α, xs.length = n ∧ ∀ j p, xs[j]? = some p → Q j p := by
 induction n with
 | zero => exact ⟨[], rfl, fun j p hj => by simp at hj⟩
 | succ n ih =>
  obtain ⟨xs, hl, hx⟩ := ih (fun i hi => h i (by omega))
  obtain ⟨a, ha⟩ := h n (by omega)
  refine ⟨xs ++ [a], by simp [hl], fun j p hj => ?_⟩
  by_cases hjn : j < n
  ·rw [List.getElem?_append_left (by omega)] at hj
   exact hx j p hj
  ·rw [List.getElem?_append_right (by omega)] at hj
   have e : j - xs.length = 0 := by
    have := (List.getElem?_eq_some_iff.1 hj).1
    simp at this
    omega
   rw [e] at hj
   simp at hj
   subst hj
   rw [show j = n from by omega]
   exact ha
theorem cell_lt {w : World} {a : Addr} {v : Value} (h : w.cell? a = some v) : a.block < w.heap.size := by
 unfold World.cell? at h
 cases hb : w.heap[a.block]? with
 | none => simp [hb] at h
 | some b => exact (Array.getElem?_eq_some_iff.1 hb).1
theorem opB_slice {t e : TypeId} {ok : E.T e → Prop} (ht : P.underlying t = some (.slice e)) (hc : P.cellsOf e = E.sz e) (hl : ∀ x, (E.cells e x).length = E.sz e) (he : OpB E P e (E.cells e) ok) :
  OpB E P t (fun xs : List (E.T e) => [.sl e xs]) (fun l => l.length ≤ maxLen ∧ ∀ x ∈ l, ok x) := by
 constructor
 intro H enc w base spare held fuel cs x h
 rcases open_slice ht h with ⟨hcs, _⟩ | ⟨a, len, cap, m, n, D, Pl, hcs, _, hll, hm, hmm, _, hi⟩
 ·subst hcs
  exact ⟨[], RdL.one (.sl (val := fun _ _ => undef) rfl (Nat.le_refl _) (Nat.zero_le _) (fun h => absurd h (Nat.lt_irrefl _)) (fun i j h => absurd h (Nat.not_lt_zero _)) (fun i j h => absurd h (Nat.not_lt_zero _))), by simp, by simp⟩
 ·have hlm : len ≤ m := by rw [hmm]; split <;> omega
  obtain ⟨xs, hxl, hx⟩ := opB_list (fun i p => (∀ j, j < E.sz e → ∃ u, w.cell? (a.add (i * E.sz e + j)) = some u ∧ Rd E w (fun k => k < w.heap.size) u (cellAt E e p j)) ∧ ok p) len (fun i hil => by
   obtain ⟨cs', hcc, htr⟩ := hi i (by omega)
   obtain ⟨p, hK, hok⟩ := he.out enc w base spare held n cs' _ htr
   obtain ⟨_, hcl, hat⟩ := World.cells?_some hcc
   refine ⟨p, fun j hj => ?_, hok⟩
   have hjl : j < cs'.length := by rw [hK.1, hl]; exact hj
   have h1 := hat j (by omega)
   rw [List.getElem?_eq_getElem hjl, Deep.add_add, hc] at h1
   refine ⟨_, h1, ?_⟩
   have hjc : j < (E.cells e p).length := by rw [hl]; exact hj
   refine hK.2 j _ _ (List.getElem?_eq_getElem hjl) ?_
   simp only [cellAt, List.getD_eq_getElem?_getD, List.getElem?_eq_getElem hjc, Option.getD_some])
  subst hxl
  subst hcs
  have hg : ∀ i, i < xs.length → xs[i]? = some (xs.getD i (E.dflt e)) := fun i hi => by
   simp only [List.getD_eq_getElem?_getD, List.getElem?_eq_getElem hi, Option.getD_some]
  refine ⟨xs, RdL.one (.sl (val := fun i j => (w.cell? (a.add (i * E.sz e + j))).getD undef) rfl hll (by unfold maxLen at hm; omega) (fun _ => rfl) (fun i j h1 h2 => ?_) (fun i j h1 h2 => ?_)), by omega, fun p hp => ?_⟩
  ·obtain ⟨u, hu, _⟩ := (hx i _ (hg i h1)).1 j h2
   have hlt := cell_lt hu
   simp only [Option.getD_some]
   rw [hu]
   exact ⟨by simpa [Addr.add_block] using hlt, rfl⟩
  ·obtain ⟨u, hu, hr⟩ := (hx i _ (hg i h1)).1 j h2
   rw [hu]
   exact hr
  ·obtain ⟨j, hj⟩ := List.mem_iff_getElem?.1 hp
   exact (hx j p hj).2
theorem opB_fields {t : TypeId} {fs : Array Field} {α : Type} {cf : α → List (Cell E.T)} {ok : α → Prop} (ht : P.underlying t = some (.struct fs)) (hc : ∀ a, (cf a).length = P.cellsOf t) (h : OpBF E P fs.toList 0 cf ok) : OpB E P t cf ok := by
 constructor
 intro H enc w base spare held fuel cs x hx
 obtain ⟨ys, n, _, _, hlen, hyl, hf⟩ := DataW.trod_struct ht hx
 obtain ⟨a, hK, hok⟩ := h.out enc w base spare held n cs (P.cellsOf t) (by omega) hc (fun f hfm => by
  obtain ⟨i, hi⟩ := List.mem_iff_getElem?.1 hfm
  have h1 := hf i f (by simpa using hi)
  have hil : i < fs.size := by have := (List.getElem?_eq_some_iff.1 hi).1; simpa using this
  rw [List.getElem?_eq_getElem (by omega)] at h1
  exact ⟨_, h1⟩)
 exact ⟨a, by simpa using hK, hok⟩
theorem opB_iso {t : TypeId} {α β : Type} {cf : α → List (Cell E.T)} {cf' : β → List (Cell E.T)} {ok : α → Prop} (f : β → α) (g : α → β) (hg : ∀ a, f (g a) = a) (hcf : ∀ b, cf (f b) = cf' b) (h : OpB E P t cf ok) : OpB E P t cf' (fun x => ok (f x)) := by
 constructor
 intro H enc w base spare held fuel cs x hx
 obtain ⟨a, hK, hok⟩ := h.out enc w base spare held fuel cs x hx
 exact ⟨g a, by rw [← hcf, hg]; exact hK, by rw [hg]; exact hok⟩
section
variable {t : TypeId} {α : Type} {cf : α → List (Cell E.T)} {ok : α → Prop} {H : Type} {enc : TypeId × Value → H} {w : World} {base b0 : Nat} {spare : Nat → Bool} {held : Bool} {r : Reach} {v : Value} {x : DataW H} {p : List MemPlace}
theorem opB_row {e : TypeId} {ok : List (E.T e) → Prop} (ht : P.underlying t = some (.slice e)) (h : OpB E P t (fun xs : List (E.T e) => [.sl e xs]) ok)
  (hv : Value.okWide P w r b0 t v) (hx : DataW.Trod enc P w base spare held t v x p) : ∃ l : List (E.T e), Rd E w (fun k => k < w.heap.size) v (.sl e l) ∧ ok l := by
 obtain ⟨A, n, c, rfl⟩ := okWide_slice ht hv
 obtain ⟨fuel, hf⟩ := hx
 obtain ⟨l, hK, hok⟩ := h.out enc w base spare held fuel _ _ hf
 exact ⟨l, hK.2 0 _ _ rfl rfl, hok⟩
end
def ArgL (E : Env) (w : World) : List (P2 E) → List Value → Prop
 | [], [] => True
 | .v (.c c) :: ps, v :: vs => Rd E w (fun k => k < w.heap.size) v c ∧ ArgL E w ps vs
 | .g l :: ps, v :: vs => (∃ cs : List Value, v = .agg cs.toArray ∧ RdL E w cs l) ∧ ArgL E w ps vs
 | _, _ => False
theorem argL_get {w : World} : ∀ {ps : List (P2 E)} {vs : List Value}, ArgL E w ps vs → vs.length = ps.length ∧ ∀ (j : Nat) (p : P2 E), ps[j]? = some p → (∃ c, p = .v (.c c) ∧ Rd E w (fun k => k < w.heap.size) (vs.getD j undef) c) ∨ (∃ l cs, p = .g l ∧ vs.getD j undef = .agg cs.toArray ∧ RdL E w cs l)
 | [], [], h => ⟨rfl, fun j p hp => by simp at hp⟩
 | .v (.c c) :: ps, v :: vs, h => by
  obtain ⟨h1, h2⟩ := argL_get h.2
  refine ⟨by simp [h1], fun j p hp => ?_⟩
  cases j with
  | zero => simp at hp; subst hp; exact .inl ⟨c, rfl, h.1⟩
  | succ j => simpa using h2 j p (by simpa using hp)
 | .g l :: ps, v :: vs, h => by
  obtain ⟨h1, h2⟩ := argL_get h.2
  refine ⟨by simp [h1], fun j p hp => ?_⟩
  cases j with
  | zero => simp at hp; subst hp; obtain ⟨cs, h3, h4⟩ := h.1; exact .inr ⟨l, cs, rfl, by simpa using h3, h4⟩
  | succ j => simpa using h2 j p (by simpa using hp)
 | [], _ :: _, h => h.elim
 | .v (.ptr _) :: _, _ :: _, h => h.elim
 | .v (.ptr _) :: _, [], h => h.elim
 | .v (.c _) :: _, [], h => h.elim
 | .g _ :: _, [], h => h.elim
theorem call_plain {f : FuncId} {ps : List (P2 E)} {u : Value} {upd : List (List (Cell E.T))} (hs : SoundAt E P f ps ⟨.v (.c (.s u)), upd⟩) {w : World} {vs : List Value} (ha : ArgL E w ps vs) (hgl : E.glob w (fun k => k < w.heap.size) := by exact trivial) :
  Calls P f vs.toArray w fun e w' => e = .returned u ∧ Below w.heap.size w w' := by
 obtain ⟨h1, h2⟩ := argL_get ha
 have hg : ∀ j, vs.toArray.getD j undef = vs.getD j undef := fun j => by simp [Array.getD_eq_getD_getElem?, List.getD_eq_getElem?_getD]
 refine (hs vs.toArray w (fun k => k < w.heap.size) (fun _ => False) (fun _ => 0) (fun _ _ _ => False) (fun k hk => ⟨hk, fun h => h⟩) hgl (fun k hk => hk.elim) ⟨by simp [h1], fun j c hj => ?_, fun j cs hj => ?_, fun j cs hj => ?_, fun j e x hj => ?_, fun j f xs hj => ?_, fun j j' cs cs' hj => ?_, fun _ _ _ h => h.elim, fun _ _ _ _ _ h => h.elim, fun _ _ _ _ _ h => h⟩).mono fun e w' ⟨v, I', fp, F', he, hp⟩ => ?_
 ·rw [hg]
  rcases h2 j _ hj with ⟨c', he, hr⟩ | ⟨l, cs, he, _⟩
  ·cases he; exact CellR.of hr
  ·cases he
 ·rcases h2 j _ hj with ⟨c', he, hr⟩ | ⟨l, cs, he, _⟩ <;> cases he
 ·rw [hg]
  rcases h2 j _ hj with ⟨c', he, hr⟩ | ⟨l, cs', he, hv, hr⟩
  ·cases he
  ·cases he
   refine ⟨cs'.toArray, hv, by simpa using hr.1, fun k c hk => ?_⟩
   have hkl : k < cs'.length := by rw [hr.1]; exact (List.getElem?_eq_some_iff.1 hk).1
   have := hr.2 k _ c (List.getElem?_eq_getElem hkl) hk
   exact CellR.of (by simpa [Array.getD_eq_getD_getElem?, hkl] using this)
 ·rcases h2 j _ hj with ⟨c', he, hr⟩ | ⟨l, cs, he, _⟩ <;> cases he
 ·rcases h2 j _ hj with ⟨c', he, hr⟩ | ⟨l, cs, he, _⟩ <;> cases he
 ·rcases h2 j _ hj with ⟨c', he, hr⟩ | ⟨l, cs, he, _⟩ <;> cases he
 ·subst he
  have hv := hp.rv
  simp only [RVr, R2r, R1r] at hv
  exact ⟨by rw [hv.1], hp.fr.below⟩
end Go.B

/- Arguments of a struct type that is nested in itself: by the reading's rounds. -/
import Derived.Test.YtildepkogbcdpaaBOpen
namespace Go.B
open Go Go.RowKit Go.ChangeShapes Go.WideShapes Go.Deep
set_option linter.unusedSimpArgs false
set_option linter.unusedVariables false
variable {E : Env} {P : Program}
structure OpBT (m : Nat) (E : Env) (P : Program) (t : TypeId) {α : Type} (cf : α → List (Cell E.T)) (ok : α → Prop) : Prop where
  out : ∀ {H : Type} (enc : TypeId × Value → H) (w : World) (base : Nat) (spare : Nat → Bool) (held : Bool) (fuel : Nat) (cs : List Value) (x : DataW H × List MemPlace),
    fuel ≤ m → DataW.trod enc P w base spare held fuel t cs = some x → ∃ a : α, RdL E w cs (cf a) ∧ ok a
structure OpBFT (m : Nat) (E : Env) (P : Program) (fs : List Field) (off : Nat) {α : Type} (cf : α → List (Cell E.T)) (ok : α → Prop) : Prop where
  out : ∀ {H : Type} (enc : TypeId × Value → H) (w : World) (base : Nat) (spare : Nat → Bool) (held : Bool) (n : Nat) (cs : List Value) (sz : Nat),
    n ≤ m → cs.length = off + sz → (∀ a, (cf a).length = sz) → (∀ f ∈ fs, ∃ y, DataW.trod enc P w base spare held n f.type ((cs.drop f.offset).take (P.cellsOf f.type)) = some y) → ∃ a : α, RdL E w (cs.drop off) (cf a) ∧ ok a
theorem opBT_of {m : Nat} {t : TypeId} {α : Type} {cf : α → List (Cell E.T)} {ok : α → Prop} (h : OpB E P t cf ok) : OpBT m E P t cf ok := ⟨fun enc w base spare held fuel cs x _ hx => h.out enc w base spare held fuel cs x hx⟩
theorem opB_ofT {t : TypeId} {α : Type} {cf : α → List (Cell E.T)} {ok : α → Prop} (h : ∀ m, OpBT m E P t cf ok) : OpB E P t cf ok := ⟨fun enc w base spare held fuel cs x hx => (h fuel).out enc w base spare held fuel cs x (Nat.le_refl _) hx⟩
theorem opBT_zero {t : TypeId} {fs : Array Field} {α : Type} {cf : α → List (Cell E.T)} {ok : α → Prop} (ht : P.underlying t = some (.struct fs)) : OpBT 0 E P t cf ok := by
  constructor
  intro H enc w base spare held fuel cs x hm hx
  obtain ⟨ys, n, hn, _⟩ := DataW.trod_struct ht hx
  omega
theorem opBT_map {m : Nat} {t : TypeId} {α : Type} {cf : α → List (Cell E.T)} {ok ok' : α → Prop} (ho : ∀ a, ok a → ok' a) (h : OpBT m E P t cf ok) : OpBT m E P t cf ok' := by
  constructor
  intro H enc w base spare held fuel cs x hm hx
  obtain ⟨a, hK, hok⟩ := h.out enc w base spare held fuel cs x hm hx
  exact ⟨a, hK, ho a hok⟩
theorem opBT_slice {m : Nat} {t e : TypeId} {ok : E.T e → Prop} (ht : P.underlying t = some (.slice e)) (hc : P.cellsOf e = E.sz e) (hl : ∀ x, (E.cells e x).length = E.sz e) (he : OpBT m E P e (E.cells e) ok) :
    OpBT m E P t (fun xs : List (E.T e) => [.sl e xs]) (fun l => l.length ≤ maxLen ∧ ∀ x ∈ l, ok x) := by
  constructor
  intro H enc w base spare held fuel cs x hfm h
  rcases DataW.trod_slice ht h with ⟨hcs, _⟩ | ⟨a, len, cap, elems, rest, n, hn, hcs, _, _, hll, hm, hel, hi, _⟩
  · subst hcs
    exact ⟨[], RdL.one (.sl (val := fun _ _ => undef) rfl (Nat.le_refl _) (Nat.zero_le _) (fun h => absurd h (Nat.lt_irrefl _)) (fun i j h => absurd h (Nat.not_lt_zero _)) (fun i j h => absurd h (Nat.not_lt_zero _))), by simp, by simp⟩
  · skip
    obtain ⟨xs, hxl, hx⟩ := opB_list (fun i p => (∀ j, j < E.sz e → ∃ u, w.cell? (a.add (i * E.sz e + j)) = some u ∧ Rd E w (fun k => k < w.heap.size) u (cellAt E e p j)) ∧ ok p) len (fun i hil => by
      have hb := hi i hil
      rw [List.getElem?_eq_getElem (by omega)] at hb
      obtain ⟨cs', hcc, htr⟩ := Option.bind_eq_some_iff.mp hb
      obtain ⟨p, hK, hok⟩ := he.out enc w base spare held n cs' _ (by omega) htr
      obtain ⟨_, hcl, hat⟩ := World.cells?_some hcc
      refine ⟨p, fun j hj => ?_, hok⟩
      have hjl : j < cs'.length := by rw [hK.1, hl]; exact hj
      have h1 := hat j (by omega)
      rw [List.getElem?_eq_getElem hjl, Deep.add_add, hc] at h1
      refine ⟨_, h1, ?_⟩
      have hjc : j < (E.cells e p).length := by rw [hl]; exact hj
      refine hK.2 j _ _ (List.getElem?_eq_getElem hjl) ?_
      simp only [cellAt, List.getD_eq_getElem?_getD, List.getElem?_eq_getElem hjc, Option.getD_some])
    subst hxl
    subst hcs
    have hg : ∀ i, i < xs.length → xs[i]? = some (xs.getD i (E.dflt e)) := fun i hi => by
      simp only [List.getD_eq_getElem?_getD, List.getElem?_eq_getElem hi, Option.getD_some]
    refine ⟨xs, RdL.one (.sl (val := fun i j => (w.cell? (a.add (i * E.sz e + j))).getD undef) rfl hll (by unfold maxLen at hm; omega) (fun _ => rfl) (fun i j h1 h2 => ?_) (fun i j h1 h2 => ?_)), by omega, fun p hp => ?_⟩
    · obtain ⟨u, hu, _⟩ := (hx i _ (hg i h1)).1 j h2
      have hlt := cell_lt hu
      simp only [Option.getD_some]
      rw [hu]
      exact ⟨by simpa [Addr.add_block] using hlt, rfl⟩
    · obtain ⟨u, hu, hr⟩ := (hx i _ (hg i h1)).1 j h2
      rw [hu]
      exact hr
    · obtain ⟨j, hj⟩ := List.mem_iff_getElem?.1 hp
      exact (hx j p hj).2
theorem opBFT_last {m : Nat} {f : Field} {off : Nat} {α : Type} {cf : α → List (Cell E.T)} {ok : α → Prop} (ho : f.offset = off) (hc : ∀ a, (cf a).length = P.cellsOf f.type) (h : OpBT m E P f.type cf ok) : OpBFT m E P [f] off cf ok := by
  constructor
  intro H enc w base spare held n cs sz hm hl hs hf
  obtain ⟨y, hy⟩ := hf f (by simp)
  obtain ⟨a, hK, hok⟩ := h.out enc w base spare held n _ _ hm hy
  refine ⟨a, ?_, hok⟩
  rwa [ho, ← hc a, hs a, List.take_of_length_le (by simp; omega)] at hK
theorem opBFT_cons {m : Nat} {f : Field} {fs : List Field} {off k : Nat} {α β : Type} {cf : α → List (Cell E.T)} {cf' : β → List (Cell E.T)} {ok : α → Prop} {ok' : β → Prop} (ho : f.offset = off) (hk : P.cellsOf f.type = k) (hc : ∀ a, (cf a).length = k) (h : OpBT m E P f.type cf ok) (h' : OpBFT m E P fs (off + k) cf' ok') :
    OpBFT m E P (f :: fs) off (fun x : α × β => cf x.1 ++ cf' x.2) (fun x => ok x.1 ∧ ok' x.2) := by
  constructor
  intro H enc w base spare held n cs sz hm hl hs hf
  obtain ⟨y, hy⟩ := hf f (by simp)
  obtain ⟨a, hK, hok⟩ := h.out enc w base spare held n _ _ hm hy
  have hs' : ∀ b, (cf' b).length = sz - k := fun b => by
    have := hs (a, b)
    simp only [List.length_append, hc a] at this
    omega
  have hle : ∀ b : β, k ≤ sz := fun b => by
    have := hs (a, b)
    simp only [List.length_append, hc a] at this
    omega
  by_cases hb : Nonempty β
  · obtain ⟨b0⟩ := hb
    have := hle b0
    obtain ⟨b, hK', hok'⟩ := h'.out enc w base spare held n cs (sz - k) hm (by omega) hs' (fun g hg => hf g (by simp [hg]))
    rw [ho, hk] at hK
    refine ⟨(a, b), ?_, hok, hok'⟩
    have := hK.append hK'
    rwa [← List.drop_drop, List.take_append_drop] at this
  · exfalso
    by_cases hlen : off + k ≤ cs.length
    · obtain ⟨b, _⟩ := h'.out enc w base spare held n cs (cs.length - (off + k)) hm (by omega) (fun b => absurd ⟨b⟩ hb) (fun g hg => hf g (by simp [hg]))
      exact hb ⟨b⟩
    · have h1 := hK.1
      rw [hc a, List.length_take, List.length_drop, ho, hk] at h1
      omega
theorem opBT_fields {m : Nat} {t : TypeId} {fs : Array Field} {α : Type} {cf : α → List (Cell E.T)} {ok : α → Prop} (ht : P.underlying t = some (.struct fs)) (hc : ∀ a, (cf a).length = P.cellsOf t) (h : OpBFT m E P fs.toList 0 cf ok) : OpBT (m + 1) E P t cf ok := by
  constructor
  intro H enc w base spare held fuel cs x hfm hx
  obtain ⟨ys, n, hn, _, hlen, hyl, hf⟩ := DataW.trod_struct ht hx
  obtain ⟨a, hK, hok⟩ := h.out enc w base spare held n cs (P.cellsOf t) (by omega) (by omega) hc (fun f hfmem => by
    obtain ⟨i, hi⟩ := List.mem_iff_getElem?.1 hfmem
    have h1 := hf i f (by simpa using hi)
    have hil : i < fs.size := by have := (List.getElem?_eq_some_iff.1 hi).1; simpa using this
    rw [List.getElem?_eq_getElem (by omega)] at h1
    exact ⟨_, h1⟩)
  exact ⟨a, by simpa using hK, hok⟩
theorem opBT_iso {m : Nat} {t : TypeId} {α β : Type} {cf : α → List (Cell E.T)} {cf' : β → List (Cell E.T)} {ok : α → Prop} (f : β → α) (g : α → β) (hg : ∀ a, f (g a) = a) (hcf : ∀ b, cf (f b) = cf' b) (h : OpBT m E P t cf ok) : OpBT m E P t cf' (fun x => ok (f x)) := by
  constructor
  intro H enc w base spare held fuel cs x hfm hx
  obtain ⟨a, hK, hok⟩ := h.out enc w base spare held fuel cs x hfm hx
  exact ⟨g a, by rw [← hcf, hg]; exact hK, by rw [hg]; exact hok⟩
end Go.B

/- From what a call's argument reads as to the printed kinds, for a struct type that is nested in itself: by the reading's rounds. -/
import Derived.Test.YthknoffionodmaaOpen
namespace Go.Proofs.Ythknoffionodmaa.Open
open Go.RowKit Go.ChangeShapes Go.WideShapes Go.Deep Go.Proofs.YthknoffionodmaaV.PrintWords Go.Proofs.YthknoffionodmaaV.PrintMore

/-- What reads as type t in at most m rounds is of kind d, and its content is right. -/
structure OpensTo (m : Nat) (P : Program) (t : TypeId) {α : Type} (d : Kd α) (ok : α → Prop) : Prop where
  out : ∀ {H : Type} (enc : TypeId × Value → H) (w : World) (base : Nat) (spare : Nat → Bool) (held : Bool) (fuel : Nat) (cs : List Value) (x : DataW H × List MemPlace),
    fuel ≤ m → DataW.trod enc P w base spare held fuel t cs = some x → ∃ a : α, d.K w a cs ∧ ok a
structure OpensFTo (m : Nat) (P : Program) (fs : List Field) (off : Nat) {α : Type} (d : Kd α) (ok : α → Prop) : Prop where
  out : ∀ {H : Type} (enc : TypeId × Value → H) (w : World) (base : Nat) (spare : Nat → Bool) (held : Bool) (n : Nat) (cs : List Value),
    n ≤ m → cs.length = off + d.sz → (∀ f ∈ fs, ∃ y, DataW.trod enc P w base spare held n f.type ((cs.drop f.offset).take (P.cellsOf f.type)) = some y) → ∃ a : α, d.K w a (cs.drop off) ∧ ok a
theorem to_of {m : Nat} {P : Program} {t : TypeId} {α : Type} {d : Kd α} {ok : α → Prop} (h : Opens P t d ok) : OpensTo m P t d ok := ⟨fun enc w base spare held fuel cs x _ hx => h.out enc w base spare held fuel cs x hx⟩
theorem of_to {P : Program} {t : TypeId} {α : Type} {d : Kd α} {ok : α → Prop} (h : ∀ m, OpensTo m P t d ok) : Opens P t d ok := ⟨fun enc w base spare held fuel cs x hx => (h fuel).out enc w base spare held fuel cs x (Nat.le_refl _) hx⟩
theorem opensTo_zero {P : Program} {t : TypeId} {fs : Array Field} {α : Type} {d : Kd α} {ok : α → Prop} (ht : P.underlying t = some (.struct fs)) : OpensTo 0 P t d ok := by
  constructor
  intro H enc w base spare held fuel cs x hm hx
  obtain ⟨ys, n, hn, _⟩ := DataW.trod_struct ht hx
  omega
theorem opensTo_slice {m : Nat} {P : Program} {t e : TypeId} {α : Type} {d : Kd α} {ok : α → Prop} (ht : P.underlying t = some (.slice e)) (hc : P.cellsOf e = d.sz) (he : OpensTo m P e d ok) : OpensTo m P t (Kd.slice e d) (fun l => l.length ≤ maxLen ∧ ∀ x ∈ l, ok x) := by
  constructor
  intro H enc w base spare held fuel cs x hfm h
  have hq : ∀ n, fuel = n + 1 → ∀ (cs' : List Value) (y : DataW H × List MemPlace), DataW.trod enc P w base spare held n e cs' = some y → ∃ a : α, d.K w a cs' ∧ ok a := fun n hn cs' y hy => he.out enc w base spare held n cs' y (by omega) hy
  rcases DataW.trod_slice ht h with ⟨hcs, _⟩ | ⟨a, len, cap, elems, rest, n, hn, hcs, _, _, hl, hm, hel, hi, _⟩
  · exact ⟨[], ⟨none, 0, hcs, Nat.le_refl _, rfl, by simp, fun h => absurd h (by simp)⟩, by simp, by simp⟩
  · obtain ⟨xs, hxl, hx⟩ := list_of (fun i p => (∃ c, c.length = d.sz ∧ d.K w p c ∧ ∀ j u, c[j]? = some u → w.cell? (a.add (i * d.sz + j)) = some u) ∧ ok p) len (fun i hil => by
      have hb := hi i hil
      rw [List.getElem?_eq_getElem (by omega)] at hb
      obtain ⟨cs', hcc, htr⟩ := Option.bind_eq_some_iff.mp hb
      obtain ⟨p, hK, hok⟩ := hq n hn cs' _ htr
      obtain ⟨_, hcl, hat⟩ := World.cells?_some hcc
      refine ⟨p, ⟨cs', by rw [hcl, hc], hK, fun j u hj => ?_⟩, hok⟩
      have hjl : j < cs'.length := (List.getElem?_eq_some_iff.1 hj).1
      have := hat j (by omega)
      rw [hj, Deep.add_add, hc] at this
      exact this)
    subst hxl
    refine ⟨xs, ⟨some a, cap, hcs, hl, rfl, by unfold maxLen at hm; omega, fun _ => ⟨a, rfl, fun j p hj => (hx j p hj).1⟩⟩, by omega, fun p hp => ?_⟩
    obtain ⟨j, hj⟩ := List.mem_iff_getElem?.1 hp
    exact (hx j p hj).2
theorem opensFTo_last {m : Nat} {P : Program} {f : Field} {off : Nat} {α : Type} {d : Kd α} {ok : α → Prop} (ho : f.offset = off) (hc : P.cellsOf f.type = d.sz) (h : OpensTo m P f.type d ok) : OpensFTo m P [f] off d ok := by
  constructor
  intro H enc w base spare held n cs hm hl hf
  obtain ⟨y, hy⟩ := hf f (by simp)
  obtain ⟨a, hK, hok⟩ := h.out enc w base spare held n _ _ hm hy
  refine ⟨a, ?_, hok⟩
  rwa [ho, hc, List.take_of_length_le (by simp; omega)] at hK
theorem opensFTo_cons {m : Nat} {P : Program} {f : Field} {fs : List Field} {off : Nat} {α β : Type} {d : Kd α} {d' : Kd β} {ok : α → Prop} {ok' : β → Prop} (ho : f.offset = off) (hc : P.cellsOf f.type = d.sz) (h : OpensTo m P f.type d ok) (h' : OpensFTo m P fs (off + d.sz) d' ok') :
    OpensFTo m P (f :: fs) off (Kd.pair d d') (fun x => ok x.1 ∧ ok' x.2) := by
  constructor
  intro H enc w base spare held n cs hm hl hf
  have hsz : (Kd.pair d d').sz = d.sz + d'.sz := rfl
  obtain ⟨y, hy⟩ := hf f (by simp)
  obtain ⟨a, hK, hok⟩ := h.out enc w base spare held n _ _ hm hy
  obtain ⟨b, hK', hok'⟩ := h'.out enc w base spare held n cs hm (by omega) (fun g hg => hf g (by simp [hg]))
  rw [ho, hc] at hK
  refine ⟨(a, b), ⟨(cs.drop off).take d.sz, cs.drop (off + d.sz), ?_, hK, hK'⟩, hok, hok'⟩
  rw [← List.drop_drop, List.take_append_drop]
theorem opensTo_fields {m : Nat} {P : Program} {t : TypeId} {fs : Array Field} {α : Type} {d : Kd α} {ok : α → Prop} (ht : P.underlying t = some (.struct fs)) (hc : P.cellsOf t = d.sz) (h : OpensFTo m P fs.toList 0 d ok) : OpensTo (m + 1) P t d ok := by
  constructor
  intro H enc w base spare held fuel cs x hfm hx
  obtain ⟨ys, n, hn, _, hlen, hyl, hf⟩ := DataW.trod_struct ht hx
  obtain ⟨a, hK, hok⟩ := h.out enc w base spare held n cs (by omega) (by omega) (fun f hfm => by
    obtain ⟨i, hi⟩ := List.mem_iff_getElem?.1 hfm
    have h1 := hf i f (by simpa using hi)
    have hil : i < fs.size := by have := (List.getElem?_eq_some_iff.1 hi).1; simpa using this
    rw [List.getElem?_eq_getElem (by omega)] at h1
    exact ⟨_, h1⟩)
  exact ⟨a, by simpa using hK, hok⟩
theorem opensTo_map {m : Nat} {P : Program} {t : TypeId} {α β : Type} {d : Kd α} {d' : Kd β} {ok : α → Prop} {ok' : β → Prop} (g : α → β) (hg : ∀ (w : World) (a : α) (cs : List Value), d.K w a cs → d'.K w (g a) cs) (ho : ∀ a, ok a → ok' (g a)) (h : OpensTo m P t d ok) : OpensTo m P t d' ok' := by
  constructor
  intro H enc w base spare held fuel cs x hm hx
  obtain ⟨a, hK, hok⟩ := h.out enc w base spare held fuel cs x hm hx
  exact ⟨g a, hg w a cs hK, ho a hok⟩
end Go.Proofs.Ythknoffionodmaa.Open

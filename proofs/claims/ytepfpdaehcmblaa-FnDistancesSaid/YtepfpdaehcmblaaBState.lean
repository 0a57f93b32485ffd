/- A plain state, told of a frame and a world: what stays true when the world grows, a variable or a row is written, a new one is made. -/
import Derived.Test.YtepfpdaehcmblaaBRel
import Derived.Below
namespace Go.B
open Go Go.RowKit
set_option linter.unusedSimpArgs false
set_option linter.unusedVariables false
variable {E : Env}
structure Frame (Φ : Nat → Prop) (w w' : World) : Prop where
 os : w'.os = w.os
 tape : w'.tape = w.tape
 output : w'.output = w.output
 size : w.heap.size ≤ w'.heap.size
 block : ∀ k, k < w.heap.size → ¬ Φ k → w'.heap[k]? = w.heap[k]?
theorem Frame.refl (Φ : Nat → Prop) (w : World) : Frame Φ w w := ⟨rfl, rfl, rfl, Nat.le_refl _, fun _ _ _ => rfl⟩
theorem Frame.step {Φ Ψ : Nat → Prop} {w0 w w' : World} (h : Frame Φ w0 w) (k : Frame Ψ w w') (hΨ : ∀ i, Ψ i → w0.heap.size ≤ i ∨ Φ i) : Frame Φ w0 w' :=
 ⟨k.os.trans h.os, k.tape.trans h.tape, k.output.trans h.output, Nat.le_trans h.size k.size, fun i hi hn =>
  (k.block i (Nat.lt_of_lt_of_le hi h.size) (fun hp => by rcases hΨ i hp with h1 | h1; exact absurd hi (Nat.not_lt.2 h1); exact hn h1)).trans (h.block i hi hn)⟩
theorem Frame.drew {Φ : Nat → Prop} {w0 w : World} (h : Frame Φ w0 w) : Frame Φ w0 w.drew := ⟨h.os, h.tape, h.output, h.size, h.block⟩
theorem Frame.below {w w' : World} (h : Frame (fun _ => False) w w') : Below w.heap.size w w' := ⟨h.os, h.tape, h.output, h.size, fun k hk => h.block k hk (fun h => h)⟩
structure Gh where
 hd : Nat → Value
 bk : Nat → Nat
 fp : Nat → Nat → Prop
 I : Nat → Prop
 ih : Nat → Nat → Nat → Value := fun _ _ _ => undef
def ElemAt (E : Env) (w : World) (I : Nat → Prop) (ad : Addr) (e : TypeId) (x : E.T e) : Prop :=
 ∀ j, j < E.sz e → I ad.block ∧ ∃ v, w.cell? (ad.add j) = some v ∧ Rd E w I v (cellAt E e x j)
def winV (sz lo k : Nat) : Value → Value
 | .slice A n cap => .slice (if cap = lo then A else A.map (·.add (lo * sz))) k (cap - lo)
 | v => v
def FnR (E : Env) (G : Gh) (m : Mem E) (n : Nat) (g : FuncId) (ids : List (Nat × TypeId)) (u : Value) : Prop :=
 u.oneCell' = true ∧ (∀ p : Nat × TypeId, p ∈ ids → p.1 < n) ∧ ∃ lb : Array Value, u = .func (.func g) #[] lb ∧ lb.size = ids.length ∧
  ∀ (j : Nat) (p : Nat × TypeId) (cs : List (A1 E)), ids[j]? = some p → look m p.1 = some (.box cs) → lb.getD j undef = .pointer (some ⟨G.bk p.1, 0, none⟩)
def FnpR (E : Env) (w : World) (I : Nat → Prop) (g : FuncId) (xs : List (Sigma E.T)) (u : Value) : Prop :=
 ∃ lb : Array Value, u = .func (.func g) #[] lb ∧ lb.size = xs.length ∧ ∀ (j : Nat) (q : Sigma E.T), xs[j]? = some q → ∃ ad : Addr, lb.getD j undef = .pointer (some (ad.add 0)) ∧ ElemAt E w I ad q.1 q.2
def A1r (E : Env) (G : Gh) (w : World) (m : Mem E) (n : Nat) : A1 E → Value → Prop
 | .s v, u => u = v ∧ v.oneCell' = true
 | .imm e xs, u => Rd E w G.I u (.sl e xs)
 | .row id, u => id < n ∧ u.oneCell' = true ∧ ∀ d e xs, look m id = some (.row d e xs) → u = G.hd id
 | .win id lo k, u => id < n ∧ u.oneCell' = true ∧ ∀ d e xs, look m id = some (.row d e xs) → lo + k ≤ xs.length ∧ u = winV (E.sz e) lo k (G.hd id)
 | .bp id off, u => id < n ∧ (∃ ad : Addr, u = .pointer (some ad)) ∧ ∀ cs, look m id = some (.box cs) → u = .pointer (some ⟨G.bk id, off, none⟩)
 | .ip e x off, u => ∃ ad, u = .pointer (some (ad.add off)) ∧ ElemAt E w G.I ad e x
 | .rp id i off, u => id < n ∧ u.oneCell' = true ∧ ∀ d e xs, look m id = some (.row d e xs) → i < xs.length ∧ ∃ g L cap, G.hd id = .slice (some ⟨g, 0, none⟩) L cap ∧ u = .pointer (some ⟨g, i * E.sz e + off, none⟩)
 | .ap id lo _ x, u => id < n ∧ (∃ ad : Addr, u = .pointer (some ad)) ∧ ∀ cs, look m id = some (.box cs) → u = .pointer (some ⟨G.bk id, lo + x, none⟩)
 | .rv id, u => id < n ∧ u.oneCell' = true ∧ ∀ e xs, look m id = some (.rowV e xs) → u = G.hd id
 | .vp id i off, u => id < n ∧ u.oneCell' = true ∧ ∀ e xs, look m id = some (.rowV e xs) → i < xs.length ∧ ∃ g L cap, G.hd id = .slice (some ⟨g, 0, none⟩) L cap ∧ u = .pointer (some ⟨g, i * E.sz e + off, none⟩)
 | .hd id i off, u => id < n ∧ u.oneCell' = true ∧ ∀ e xs, look m id = some (.rowV e xs) → i < xs.length ∧ off < E.sz e ∧ u = G.ih id i off
 | .hp id i off j o, u => id < n ∧ u.oneCell' = true ∧ ∀ e xs, look m id = some (.rowV e xs) → i < xs.length ∧ off < E.sz e ∧ ∀ e' ys, cellAt E e (xs.getD i (E.dflt e)) off = .sl e' ys → ∃ g L cap, G.ih id i off = .slice (some ⟨g, 0, none⟩) L cap ∧ u = .pointer (some ⟨g, j * E.sz e' + o, none⟩)
 | .fn g ids, u => FnR E G m n g ids u
 | .fnp g xs, u => FnpR E w G.I g xs u
 | .junk, _ => True
def A1l (E : Env) (G : Gh) (w : World) (m : Mem E) (n : Nat) (cs : List (A1 E)) (arr : Array Value) : Prop :=
 arr.size = cs.length ∧ ∀ j a, cs[j]? = some a → A1r E G w m n a (arr.getD j undef) ∧ (arr.getD j undef).oneCell' = true
def A2r (E : Env) (G : Gh) (w : World) (m : Mem E) (n : Nat) : A2 E → Value → Prop
 | .c a, u => A1r E G w m n a u
 | .g cs, u => ∃ arr, u = .agg arr ∧ A1l E G w m n cs arr
def AVr (E : Env) (G : Gh) (w : World) (m : Mem E) (n : Nat) : AV E → Value → Prop
 | .v a, u => A2r E G w m n a u
 | .tup vs, u => ∃ arr, u = .tuple arr ∧ arr.size = vs.length ∧ ∀ j a, vs[j]? = some a → A2r E G w m n a (arr.getD j undef)
def Hds (E : Env) (w : World) (v : Value) (ih : Nat → Nat → Value) (e : TypeId) (xs : List (E.T e)) : Prop :=
 ∀ i j e' (ys : List (E.T e')) g L cap, i < xs.length → j < E.sz e → cellAt E e (xs.getD i (E.dflt e)) j = .sl e' ys → v = .slice (some ⟨g, 0, none⟩) L cap → w.cell? ⟨g, i * E.sz e + j, none⟩ = some (ih i j)
def Blkr (E : Env) (G : Gh) (w : World) (m : Mem E) (n id : Nat) : Blk E → Prop
 | .box cs => (∃ arr ty, w.heap[G.bk id]? = some (.cells arr ty (0, 0)) ∧ A1l E G w m n cs arr) ∧ G.fp id (G.bk id)
 | .row d e xs => Top E w G.I d (G.fp id) (G.hd id) e xs
 | .rowV e xs => Top E w G.I true (G.fp id) (G.hd id) e xs ∧ Hds E w (G.hd id) (G.ih id) e xs
structure Ent where
 I : Nat → Prop
 g : Nat → Nat
 N : Nat
 h : Nat → Value
 M : Nat
 mn : M ≤ N
structure Mr (E : Env) (w0 : World) (Φ : Nat → Prop) (I0 : Ent) (G : Gh) (m : Mem E) (n : Nat) (w : World) : Prop where
 fr : Frame Φ w0 w
 lt : ∀ id b, look m id = some b → id < n
 bl : ∀ id b, look m id = some b → Blkr E G w m n id b
 lo : ∀ id b, look m id = some b → ∀ k, G.fp id k → (w0.heap.size ≤ k ∨ Φ k) ∧ k < w.heap.size ∧ ¬ G.I k
 dj : ∀ id id' b b', look m id = some b → look m id' = some b' → id ≠ id' → ∀ k, G.fp id k → ¬ G.fp id' k
 il : ∀ k, G.I k → k < w.heap.size
 ii : ∀ k, G.I k → I0.I k ∨ w0.heap.size ≤ k ∨ Φ k
 ip : ∀ k, I0.I k → G.I k
 nn : I0.N ≤ n
 an : ∀ j cs, j < I0.N → look m j = some (.box cs) → G.bk j = I0.g j
 ar : ∀ j d e xs, j < I0.M → look m j = some (.row d e xs) → G.hd j = I0.h j
structure Tr (E : Env) (G : Gh) (ts : List (AV E)) (m : Mem E) (n : Nat) (a : Act) (w : World) : Prop where
 df : a.defers = []
 sz : a.tmps.size = ts.length
 tm : ∀ t x, ts[t]? = some x → AVr E G w m n x (a.tmps.getD t undef)
def Mle (G : Gh) (m : Mem E) (n : Nat) (G' : Gh) (m' : Mem E) : Prop :=
 ∀ id, id < n → (∀ d' e xs', look m' id = some (.row d' e xs') → G'.hd id = G.hd id ∧ ∃ d xs, look m id = some (.row d e xs) ∧ xs'.length = xs.length) ∧
  (∀ cs', look m' id = some (.box cs') → G'.bk id = G.bk id ∧ ∃ cs, look m id = some (.box cs)) ∧
  (∀ e xs', look m' id = some (.rowV e xs') → G'.hd id = G.hd id ∧ G'.ih id = G.ih id ∧ ∃ xs, look m id = some (.rowV e xs) ∧ xs'.length = xs.length ∧
   ∀ i j e' ys', i < xs.length → cellAt E e (xs'.getD i (E.dflt e)) j = .sl e' ys' → ∃ ys, cellAt E e (xs.getD i (E.dflt e)) j = .sl e' ys)
theorem Mle.refl (G : Gh) (m : Mem E) (n : Nat) : Mle G m n G m := fun _ _ => ⟨fun d' _ xs' h => ⟨rfl, d', xs', h, rfl⟩, fun cs' h => ⟨rfl, cs', h⟩, fun e xs' h => ⟨rfl, rfl, xs', h, rfl, fun i j e' ys' _ h => ⟨ys', h⟩⟩⟩
theorem Mle.of {G G' : Gh} {m m' : Mem E} {n : Nat} (h1 : G'.hd = G.hd) (h2 : G'.bk = G.bk) (h3 : G'.ih = G.ih) (hs : ∀ id b, look m' id = some b → look m id = some b) : Mle G m n G' m' := fun id _ =>
 ⟨fun d e xs hx => ⟨by rw [h1], d, xs, hs _ _ hx, rfl⟩, fun cs hx => ⟨by rw [h2], cs, hs _ _ hx⟩, fun e xs hx => ⟨by rw [h1], by rw [h3], xs, hs _ _ hx, rfl, fun i j e' ys' _ h => ⟨ys', h⟩⟩⟩
theorem Mle.trans {G G1 G2 : Gh} {m m1 m2 : Mem E} {n : Nat} (h : Mle G m n G1 m1) (h' : Mle G1 m1 n G2 m2) : Mle G m n G2 m2 := fun j hj => by
 refine ⟨fun d e xs hx => ?_, fun cs hx => ?_, fun e xs hx => ?_⟩
 ·obtain ⟨e1, d', xs', q1, q2⟩ := (h' j hj).1 d e xs hx
  obtain ⟨e2, d'', xs'', q3, q4⟩ := (h j hj).1 d' e xs' q1
  exact ⟨e1.trans e2, d'', xs'', q3, q2.trans q4⟩
 ·obtain ⟨e1, cs', q1⟩ := (h' j hj).2.1 cs hx
  obtain ⟨e2, cs'', q2⟩ := (h j hj).2.1 cs' q1
  exact ⟨e1.trans e2, cs'', q2⟩
 ·obtain ⟨e1, i1, xs', q1, q2, q3⟩ := (h' j hj).2.2 e xs hx
  obtain ⟨e2, i2, xs'', q4, q5, q6⟩ := (h j hj).2.2 e xs' q1
  refine ⟨e1.trans e2, i1.trans i2, xs'', q4, q2.trans q5, fun i j e' ys' hi hc => ?_⟩
  obtain ⟨ys, hc⟩ := q3 i j e' ys' (by rw [q5]; exact hi) hc
  exact q6 i j e' ys hi hc
theorem Mle.less {G G1 : Gh} {m m1 : Mem E} {n n' : Nat} (h : Mle G m n' G1 m1) (hn : n ≤ n') : Mle G m n G1 m1 := fun j hj => h j (Nat.lt_of_lt_of_le hj hn)
theorem Hds.keep {w w' : World} {I : Nat → Prop} {fp : Nat → Prop} {v : Value} {ih : Nat → Nat → Value} {e : TypeId} {xs : List (E.T e)} (h : Hds E w v ih e xs) (ht : Top E w I true fp v e xs) (hm : ∀ k, fp k → w'.heap[k]? = w.heap[k]?) : Hds E w' v ih e xs := by
 intro i j e' ys g L cap h1 h2 h3 h4
 obtain ⟨inner, F, ho, hb, _⟩ := ht
 rw [cell_keeps (w := w) (w' := w') (hm g (hb g (by rw [h4]; rfl)))]
 exact h i j e' ys g L cap h1 h2 h3 h4
theorem ElemAt.keep {w w' : World} {I I' : Nat → Prop} {ad : Addr} {e : TypeId} {x : E.T e} (h : ElemAt E w I ad e x) (hi : ∀ k, I k → I' k ∧ w'.heap[k]? = w.heap[k]?) : ElemAt E w' I' ad e x := by
 intro j hj
 obtain ⟨h1, v, h2, h3⟩ := h j hj
 refine ⟨(hi _ h1).1, v, ?_, h3.keep hi⟩
 rw [cell_keeps (w := w) (w' := w') (by rw [Addr.add_block]; exact (hi _ h1).2)]
 exact h2
section
variable {G G' : Gh} {w w' : World} {m m' : Mem E} {n n' : Nat}
theorem FnpR.keep {I I' : Nat → Prop} {g : FuncId} {xs : List (Sigma E.T)} {u : Value} (h : FnpR E w I g xs u) (hi : ∀ k, I k → I' k ∧ w'.heap[k]? = w.heap[k]?) : FnpR E w' I' g xs u := by
 obtain ⟨lb, h1, h2, h3⟩ := h
 exact ⟨lb, h1, h2, fun j q hj => by obtain ⟨ad, h4, h5⟩ := h3 j q hj; exact ⟨ad, h4, h5.keep hi⟩⟩
theorem FnR.keep' {g : FuncId} {ids : List (Nat × TypeId)} {u : Value} (h : FnR E G m n g ids u) (hn : n ≤ n') (hm : ∀ (p : Nat × TypeId) (cs : List (A1 E)), p ∈ ids → look m' p.1 = some (.box cs) → G'.bk p.1 = G.bk p.1 ∧ ∃ cs0, look m p.1 = some (.box cs0)) : FnR E G' m' n' g ids u := by
 obtain ⟨h1, h2, lb, h3, h4, h5⟩ := h
 refine ⟨h1, fun p hp => Nat.lt_of_lt_of_le (h2 p hp) hn, lb, h3, h4, fun j p cs hj hl => ?_⟩
 obtain ⟨e1, cs0, e2⟩ := hm p cs (List.mem_of_getElem? hj) hl
 rw [e1]; exact h5 j p cs0 hj e2
theorem FnR.keep {g : FuncId} {ids : List (Nat × TypeId)} {u : Value} (h : FnR E G m n g ids u) (hm : Mle G m n G' m') (hn : n ≤ n') : FnR E G' m' n' g ids u :=
 h.keep' hn fun p cs hp hl => (hm p.1 (h.2.1 p hp)).2.1 cs hl
theorem A1r.keep {a : A1 E} {u : Value} (h : A1r E G w m n a u) (hm : Mle G m n G' m') (hn : n ≤ n') (hi : ∀ k, G.I k → G'.I k ∧ w'.heap[k]? = w.heap[k]?) : A1r E G' w' m' n' a u := by
 cases a with
 | s v => exact h
 | imm e xs => exact Rd.keep (c := .sl e xs) h hi
 | row id =>
  refine ⟨Nat.lt_of_lt_of_le h.1 hn, h.2.1, fun d e xs hl => ?_⟩
  obtain ⟨h1, d0, xs0, h2, _⟩ := (hm id h.1).1 d e xs hl
  rw [h1]; exact h.2.2 _ _ _ h2
 | win id lo k =>
  refine ⟨Nat.lt_of_lt_of_le h.1 hn, h.2.1, fun d e xs hl => ?_⟩
  obtain ⟨h1, d0, xs0, h2, h3⟩ := (hm id h.1).1 d e xs hl
  rw [h1, h3]; exact h.2.2 _ _ _ h2
 | bp id off =>
  refine ⟨Nat.lt_of_lt_of_le h.1 hn, h.2.1, fun cs hl => ?_⟩
  obtain ⟨h1, cs0, h2⟩ := (hm id h.1).2.1 cs hl
  rw [h1]; exact h.2.2 _ h2
 | ip e x off =>
  obtain ⟨ad, h1, h2⟩ := h
  exact ⟨ad, h1, h2.keep hi⟩
 | rp id i off =>
  refine ⟨Nat.lt_of_lt_of_le h.1 hn, h.2.1, fun d e xs hl => ?_⟩
  obtain ⟨h1, d0, xs0, h2, h3⟩ := (hm id h.1).1 d e xs hl
  rw [h1, h3]; exact h.2.2 _ _ _ h2
 | ap id lo k x =>
  refine ⟨Nat.lt_of_lt_of_le h.1 hn, h.2.1, fun cs hl => ?_⟩
  obtain ⟨h1, cs0, h2⟩ := (hm id h.1).2.1 cs hl
  rw [h1]; exact h.2.2 _ h2
 | rv id =>
  refine ⟨Nat.lt_of_lt_of_le h.1 hn, h.2.1, fun e xs hl => ?_⟩
  obtain ⟨h1, _, xs0, h2, _⟩ := (hm id h.1).2.2 e xs hl
  rw [h1]; exact h.2.2 _ _ h2
 | vp id i off =>
  refine ⟨Nat.lt_of_lt_of_le h.1 hn, h.2.1, fun e xs hl => ?_⟩
  obtain ⟨h1, _, xs0, h2, h3, _⟩ := (hm id h.1).2.2 e xs hl
  rw [h1, h3]; exact h.2.2 _ _ h2
 | hd id i off =>
  refine ⟨Nat.lt_of_lt_of_le h.1 hn, h.2.1, fun e xs hl => ?_⟩
  obtain ⟨_, h1, xs0, h2, h3, _⟩ := (hm id h.1).2.2 e xs hl
  rw [h1, h3]; exact h.2.2 _ _ h2
 | hp id i off j o =>
  refine ⟨Nat.lt_of_lt_of_le h.1 hn, h.2.1, fun e xs hl => ?_⟩
  obtain ⟨_, h1, xs0, h2, h3, h4⟩ := (hm id h.1).2.2 e xs hl
  obtain ⟨q1, q2, q3⟩ := h.2.2 _ _ h2
  refine ⟨by rw [h3]; exact q1, q2, fun e' ys' hc => ?_⟩
  obtain ⟨ys, hc⟩ := h4 i off e' ys' q1 hc
  rw [h1]; exact q3 e' ys hc
 | fn g ids => exact FnR.keep h hm hn
 | fnp g xs => exact FnpR.keep h hi
 | junk => trivial
theorem A1r.one {a : A1 E} {u : Value} (h : A1r E G w m n a u) (ha : a ≠ .junk) : u.oneCell' = true := by
 cases a with
 | s v => obtain ⟨rfl, h⟩ := h; exact h
 | imm e xs => exact Rd.one (c := .sl e xs) h
 | row id => exact h.2.1
 | win id lo k => exact h.2.1
 | bp id off => obtain ⟨ad, rfl⟩ := h.2.1; rfl
 | ip e x off => obtain ⟨ad, rfl, _⟩ := h; rfl
 | rp id i off => exact h.2.1
 | ap id lo k x => obtain ⟨ad, rfl⟩ := h.2.1; rfl
 | rv id => exact h.2.1
 | vp id i off => exact h.2.1
 | hd id i off => exact h.2.1
 | hp id i off j o => exact h.2.1
 | fn g ids => exact h.1
 | fnp g xs => obtain ⟨lb, rfl, _⟩ := h; rfl
 | junk => exact absurd rfl ha
theorem A1l.keep {cs : List (A1 E)} {arr : Array Value} (h : A1l E G w m n cs arr) (hm : Mle G m n G' m') (hn : n ≤ n') (hi : ∀ k, G.I k → G'.I k ∧ w'.heap[k]? = w.heap[k]?) : A1l E G' w' m' n' cs arr :=
 ⟨h.1, fun j a hj => ⟨(h.2 j a hj).1.keep hm hn hi, (h.2 j a hj).2⟩⟩
theorem A2r.keep {a : A2 E} {u : Value} (h : A2r E G w m n a u) (hm : Mle G m n G' m') (hn : n ≤ n') (hi : ∀ k, G.I k → G'.I k ∧ w'.heap[k]? = w.heap[k]?) : A2r E G' w' m' n' a u := by
 cases a with
 | c a => exact A1r.keep (a := a) h hm hn hi
 | g cs => obtain ⟨arr, h1, h2⟩ := h; exact ⟨arr, h1, h2.keep hm hn hi⟩
theorem AVr.keep {a : AV E} {u : Value} (h : AVr E G w m n a u) (hm : Mle G m n G' m') (hn : n ≤ n') (hi : ∀ k, G.I k → G'.I k ∧ w'.heap[k]? = w.heap[k]?) : AVr E G' w' m' n' a u := by
 cases a with
 | v a => exact A2r.keep (a := a) h hm hn hi
 | tup vs => obtain ⟨arr, h1, h2, h3⟩ := h; exact ⟨arr, h1, h2, fun j a hj => (h3 j a hj).keep hm hn hi⟩
theorem Tr.keep {ts : List (AV E)} {a : Act} (h : Tr E G ts m n a w) (hm : Mle G m n G' m') (hn : n ≤ n') (hi : ∀ k, G.I k → G'.I k ∧ w'.heap[k]? = w.heap[k]?) : Tr E G' ts m' n' a w' :=
 ⟨h.df, h.sz, fun t x ht => (h.tm t x ht).keep hm hn hi⟩
theorem Tr.put {ts : List (AV E)} {a : Act} (h : Tr E G ts m n a w) (d : Option Tmp) {v : AV E} {u : Value} (hv : AVr E G w m n v u) : Tr E G (putT ts d v) m n (a.put d u) w := by
 cases d with
 | none => exact h
 | some d =>
  refine ⟨h.df, ?_, ?_⟩
  ·simp [putT, Act.put, setl_eq, h.sz]
  ·intro t x ht
   simp only [putT, setl_eq] at ht
   simp only [Act.put]
   rw [List.getElem?_set] at ht
   split at ht
   ·rename_i hdt
    subst hdt
    split at ht
    ·rename_i hl
     cases ht
     rw [Array.getD_eq_getD_getElem?, Array.getElem?_setIfInBounds]
     have hl' : d < a.tmps.size := by rw [h.sz]; exact hl
     simp only [↓reduceIte, hl', Option.getD_some]
     exact hv
    ·cases ht
   ·rename_i hdt
    rw [Array.getD_eq_getD_getElem?, Array.getElem?_setIfInBounds, if_neg hdt, ← Array.getD_eq_getD_getElem?]
    exact h.tm t x ht
theorem Aeval_rel {ts : List (AV E)} {a : Act} (h : Tr E G ts m n a w) (x : Operand) : AVr E G w m n (Aeval ts x) (a.eval x) := by
 cases x with
 | tmp t =>
  simp only [Aeval, Act.eval, geta_eq]
  split
  ·rename_i v hv; exact h.tm t v hv
  ·exact trivial
 | const v =>
  cases v with
  | agg cs =>
   simp only [Aeval, Act.eval]
   split
   ·rename_i hall
    refine ⟨cs, rfl, by simp, fun j a hj => ?_⟩
    rw [List.getElem?_map] at hj
    obtain ⟨v, hv, rfl⟩ := Option.map_eq_some_iff.1 hj
    have hg : cs.getD j undef = v := by rw [Array.getD_eq_getD_getElem?, ← Array.getElem?_toList, hv]; rfl
    have h1 := List.all_eq_true.1 hall v (List.mem_of_getElem? hv)
    rw [hg]
    exact ⟨⟨rfl, h1⟩, h1⟩
   ·exact trivial
  | tuple _ => exact trivial
  | _ => exact ⟨rfl, rfl⟩
 | global g => exact trivial
 | func f => exact ⟨rfl, rfl⟩
theorem Mr.grow {w0 : World} {Φ Ψ : Nat → Prop} {I0 : Ent} (h : Mr E w0 Φ I0 G m n w) (hf : Frame Ψ w w') (hΨ : ∀ k, Ψ k → (w0.heap.size ≤ k ∨ Φ k) ∧ ¬ G.I k ∧ ∀ id b, look m id = some b → ¬ G.fp id k) : Mr E w0 Φ I0 G m n w' := by
 have hi : ∀ k, G.I k → G.I k ∧ w'.heap[k]? = w.heap[k]? := fun k hk => ⟨hk, hf.block k (h.il k hk) fun hp => (hΨ k hp).2.1 hk⟩
 refine ⟨h.fr.step hf fun k hk => (hΨ k hk).1, h.lt, fun id b hb => ?_, fun id b hb k hk => ⟨(h.lo id b hb k hk).1, Nat.lt_of_lt_of_le (h.lo id b hb k hk).2.1 hf.size, (h.lo id b hb k hk).2.2⟩, h.dj, fun k hk => Nat.lt_of_lt_of_le (h.il k hk) hf.size, h.ii, h.ip, h.nn, h.an, h.ar⟩
 have hb' := h.bl id b hb
 have hk' : ∀ k, G.fp id k → w'.heap[k]? = w.heap[k]? := fun k hk => hf.block k (h.lo id b hb k hk).2.1 fun hp => (hΨ k hp).2.2 id b hb hk
 cases b with
 | box cs =>
  obtain ⟨⟨arr, ty, h1, h2⟩, h3⟩ := hb'
  exact ⟨⟨arr, ty, (hk' _ h3).trans h1, h2.keep (Mle.refl _ _ _) (Nat.le_refl _) hi⟩, h3⟩
 | row d e xs => exact hb'.keep hi fun k hk => ⟨hk, hk' k hk⟩
 | rowV e xs => exact ⟨hb'.1.keep hi fun k hk => ⟨hk, hk' k hk⟩, hb'.2.keep hb'.1 hk'⟩
theorem Mr.del {w0 : World} {Φ : Nat → Prop} {I0 : Ent} (h : Mr E w0 Φ I0 G m n w) (id : Nat) : Mr E w0 Φ I0 G (delm m id) n w := by
 have hl : ∀ j b, look (delm m id) j = some b → look m j = some b := fun j b hb => by rw [look_del] at hb; split at hb; cases hb; exact hb
 have hm : Mle G m n G (delm m id) := fun j hj => ⟨fun d e xs hx => ⟨rfl, d, xs, hl _ _ hx, rfl⟩, fun cs hx => ⟨rfl, cs, hl _ _ hx⟩, fun e xs hx => ⟨rfl, rfl, xs, hl _ _ hx, rfl, fun i j e' ys' _ h => ⟨ys', h⟩⟩⟩
 refine ⟨h.fr, fun j b hb => h.lt j b (hl j b hb), fun j b hb => ?_, fun j b hb => h.lo j b (hl j b hb), fun i j b b' hb hb' => h.dj i j b b' (hl _ _ hb) (hl _ _ hb'), h.il, h.ii, h.ip, h.nn, fun j cs hj hc => h.an j cs hj (hl _ _ hc), fun j d e xs hj hc => h.ar j d e xs hj (hl _ _ hc)⟩
 have hb' := h.bl j b (hl j b hb)
 cases b with
 | box cs =>
  obtain ⟨⟨arr, ty, h1, h2⟩, h3⟩ := hb'
  exact ⟨⟨arr, ty, h1, h2.keep hm (Nat.le_refl _) fun k hk => ⟨hk, rfl⟩⟩, h3⟩
 | row d e xs => exact hb'
 | rowV e xs => exact hb'
theorem Mle.del (id : Nat) : Mle G m n G (delm m id) := fun j hj =>
 ⟨fun d e xs hx => ⟨rfl, d, xs, by rw [look_del] at hx; split at hx; cases hx; exact hx, rfl⟩, fun cs hx => ⟨rfl, cs, by rw [look_del] at hx; split at hx; cases hx; exact hx⟩, fun e xs hx => ⟨rfl, rfl, xs, by rw [look_del] at hx; split at hx; cases hx; exact hx, rfl, fun i j e' ys' _ h => ⟨ys', h⟩⟩⟩
end
end Go.B

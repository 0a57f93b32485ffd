/- What the reckoner's plain operations say of the program's: append. -/
import Derived.Test.YtepfpdaehcmblaaBOps9
namespace Go.B
open Go Go.RowKit
set_option linter.unusedVariables false
set_option linter.unusedSimpArgs false
variable {E : Env} {P : Program}
section
variable {R : Type} {G : Gh} {w w0 w1 : World} {m m' m1 m2 : Mem E} {n : Nat} {K : AV E → Mem E → Option R} {r : R} {Φ Ψ : Nat → Prop} {I0 : Ent} {ts : List (AV E)} {a : Act}
def Free (E : Env) (w0 : World) (Φ : Nat → Prop) (G : Gh) (m : Mem E) (w : World) (k : Nat) : Prop := (w0.heap.size ≤ k ∨ Φ k) ∧ k < w.heap.size ∧ ¬ G.I k ∧ ∀ j b, look m j = some b → ¬ G.fp j k
theorem Free.sub {k : Nat} (h : Free E w0 Φ G m w k) (hs : Sub m m') : Free E w0 Φ G m' w k := ⟨h.1, h.2.1, h.2.2.1, fun j b hj => h.2.2.2 j b (hs j b hj)⟩
structure Dst (E : Env) (w0 : World) (Φ : Nat → Prop) (G : Gh) (m : Mem E) (w : World) (e : TypeId) (v : Value) (xs : List (E.T e)) (d : Bool) (inner : List Value) (F : Nat → Nat → Nat → Prop) : Prop where
 own : w.ownsRowG 0 e (E.sz e) v xs.length inner
 blk : ∀ k, v.ownBlock = some k → Free E w0 Φ G m w k
 sub : ∀ x y k, x < xs.length → y < E.sz e → F x y k → Free E w0 Φ G m w k ∧ v.ownBlock ≠ some k
 dis : ∀ x y x' y' k, x < xs.length → y < E.sz e → x' < xs.length → y' < E.sz e → F x y k → F x' y' k → x = x' ∧ y = y'
 inn : ∀ x y, x < xs.length → y < E.sz e → Give E w G.I (F x y) d (inner.getD (x * E.sz e + y) undef) (cellAt E e (xs.getD x (E.dflt e)) y)
structure Src (E : Env) (w0 : World) (Φ : Nat → Prop) (G : Gh) (m : Mem E) (w : World) (e : TypeId) (v : Value) (ys : List (E.T e)) (d : Bool) (news : List Value) (F : Nat → Nat → Nat → Prop) : Prop where
 len : news.length = ys.length * E.sz e
 sub : ∀ x y k, x < ys.length → y < E.sz e → F x y k → Free E w0 Φ G m w k ∧ v.ownBlock ≠ some k
 dis : ∀ x y x' y' k, x < ys.length → y < E.sz e → x' < ys.length → y' < E.sz e → F x y k → F x' y' k → x = x' ∧ y = y'
 inn : ∀ x y, x < ys.length → y < E.sz e → Give E w G.I (F x y) d (news.getD (x * E.sz e + y) undef) (cellAt E e (ys.getD x (E.dflt e)) y)
theorem append_fin (hM2 : Mr E w0 Φ I0 G m2 n w) (hT2 : Tr E G ts m2 n a w) {e : TypeId} {v v' : Value} {xs ys : List (E.T e)} {d d1 D : Bool} {inner news : List Value} {F0 F1 : Nat → Nat → Nat → Prop}
  (h0 : Dst E w0 Φ G m2 w e v xs d inner F0) (h1 : Src E w0 Φ G m2 w e v ys d1 news F1) (hx : ∀ x y x' y' k, x < xs.length → y < E.sz e → x' < ys.length → y' < E.sz e → F0 x y k → ¬ F1 x' y' k) (hD : D = true → d = true ∧ d1 = true)
  {w' : World} (hg : w.grownBy w' v.ownBlock) (ho : w'.ownsRowG 0 e (E.sz e) v' (xs.length + ys.length) (inner ++ news)) (hb : v'.ownBlock = v.ownBlock ∨ ∃ b, v'.ownBlock = some b ∧ w.heap.size ≤ b) :
  ∃ G', Mr E w0 Φ I0 G' (setm m2 n (.row D e (xs ++ ys))) (n + wide) w' ∧ Tr E G' ts (setm m2 n (.row D e (xs ++ ys))) (n + wide) a w' ∧ AVr E G' w' (setm m2 n (.row D e (xs ++ ys))) (n + wide) (.v (.c (.row n))) v' := by
 have hl : (xs ++ ys).length = xs.length + ys.length := List.length_append
 let F : Nat → Nat → Nat → Prop := fun x y k => (x < xs.length ∧ F0 x y k) ∨ (xs.length ≤ x ∧ F1 (x - xs.length) y k)
 have hkeep : ∀ k, k < w.heap.size → v.ownBlock ≠ some k → w'.heap[k]? = w.heap[k]? := fun k h1 h2 => hg.block k h1 (fun e => h2 e.symm)
 have hI : ∀ k, G.I k → w'.heap[k]? = w.heap[k]? := fun k hk => hkeep k (hM2.il k hk) fun e => (h0.blk k e).2.2.1 hk
 have hF : ∀ x y k, x < (xs ++ ys).length → y < E.sz e → F x y k → Free E w0 Φ G m2 w k ∧ v.ownBlock ≠ some k := fun x y k hx' hy hk => by
  rcases hk with ⟨q, hk⟩ | ⟨q, hk⟩
  ·exact h0.sub x y k q hy hk
  ·exact h1.sub _ y k (by omega) hy hk
 have hrow := row_put (Ψ := fun k => v.ownBlock = some k) (d := D) (F := F) (xs := xs ++ ys) (inner := inner ++ news) (v := v') hM2 hT2
  ⟨hg.os, hg.tape, hg.output, hg.size, fun k hk hn => hkeep k hk hn⟩ (fun k hk => ⟨(h0.blk k hk).1, (h0.blk k hk).2.2.1, (h0.blk k hk).2.2.2⟩) (by rw [hl]; exact ho)
  (fun k hk => by
   rcases hb with hb | ⟨b, hb, hlt⟩
   ·exact .inr (hb ▸ hk)
   ·rw [hb] at hk; cases hk; exact .inl hlt)
  (fun x y hx' hy => ?_) (fun x y k hx' hy hk => by
   obtain ⟨⟨q1, q2, q3, q4⟩, q5⟩ := hF x y k hx' hy hk
   exact ⟨q1, q2, q3, q5, q4⟩) (fun x y x' y' k h2 h3 h4 h5 hk hk' => ?_)
 ·exact hrow
 ·rw [hl] at hx'
  by_cases hxl : x < xs.length
  ·have e1 : (xs ++ ys).getD x (E.dflt e) = xs.getD x (E.dflt e) := by simp only [List.getD_eq_getElem?_getD]; rw [List.getElem?_append_left hxl]
   have e2 : (inner ++ news).getD (x * E.sz e + y) undef = inner.getD (x * E.sz e + y) undef := by
    simp only [List.getD_eq_getElem?_getD]
    rw [List.getElem?_append_left (by rw [h0.own.1]; exact lt_of_pair hxl hy)]
   rw [e1, e2]
   have hgv := h0.inn x y hxl hy
   have hk : ∀ k, F0 x y k → w'.heap[k]? = w.heap[k]? := fun k hk => hkeep k (h0.sub x y k hxl hy hk).1.2.1 (h0.sub x y k hxl hy hk).2
   exact ⟨hgv.1.keep fun k h => h.elim (fun h => ⟨.inl h, hI k h⟩) fun h => ⟨.inr (.inl ⟨hxl, h⟩), hk k h⟩, fun hd => (hgv.2 (hD hd).1).keep fun k h => ⟨.inl ⟨hxl, h⟩, hk k h⟩⟩
  ·have hxl' : xs.length ≤ x := Nat.not_lt.1 hxl
   have hx2 : x - xs.length < ys.length := by omega
   have e1 : (xs ++ ys).getD x (E.dflt e) = ys.getD (x - xs.length) (E.dflt e) := by simp only [List.getD_eq_getElem?_getD]; rw [List.getElem?_append_right hxl']
   have e2 : (inner ++ news).getD (x * E.sz e + y) undef = news.getD ((x - xs.length) * E.sz e + y) undef := by
    simp only [List.getD_eq_getElem?_getD]
    have hm : xs.length * E.sz e ≤ x * E.sz e := Nat.mul_le_mul_right _ hxl'
    rw [List.getElem?_append_right (by rw [h0.own.1]; omega), h0.own.1]
    congr 2
    rw [Nat.sub_mul]; omega
   rw [e1, e2]
   have hgv := h1.inn (x - xs.length) y hx2 hy
   have hk : ∀ k, F1 (x - xs.length) y k → w'.heap[k]? = w.heap[k]? := fun k hk => hkeep k (h1.sub _ y k hx2 hy hk).1.2.1 (h1.sub _ y k hx2 hy hk).2
   exact ⟨hgv.1.keep fun k h => h.elim (fun h => ⟨.inl h, hI k h⟩) fun h => ⟨.inr (.inr ⟨hxl', h⟩), hk k h⟩, fun hd => (hgv.2 (hD hd).2).keep fun k h => ⟨.inr ⟨hxl', h⟩, hk k h⟩⟩
 ·rw [hl] at h2 h4
  rcases hk with ⟨q, hk⟩ | ⟨q, hk⟩ <;> rcases hk' with ⟨q', hk'⟩ | ⟨q', hk'⟩
  ·exact h0.dis x y x' y' k q h3 q' h5 hk hk'
  ·exact (hx x y _ y' k q h3 (by omega) h5 hk hk').elim
  ·exact (hx x' y' _ y k q' h5 (by omega) h3 hk' hk).elim
  ·obtain ⟨g1, g2⟩ := h1.dis _ y _ y' k (by omega) h3 (by omega) h5 hk hk'
   exact ⟨by omega, g2⟩
theorem append_run (hE : EnvOK E P) {t e : TypeId} {i j : TI} (hi : E.info t = some i) (hd : i.desc = .slice e) (hj : E.info e = some j) {v : Value} {l : Nat} {inner : List Value} (ho : w.ownsRowG 0 e (E.sz e) v l inner)
  {A : Option Addr} {k c : Nat} {news : List Value} (hl : news.length = k * E.sz e) (hA : 0 < k → A.isSome = true) (hn : ∀ q u, news[q]? = some u → w.cell? ((A.getD default).add q) = some u) (h1 : ∀ u ∈ news, u.oneCell' = true)
  (hb : (l + k) * j.bytes ≤ maxN) (ty : TypeId) :
  ∃ v' w', (Builtin.append_ #[t, t] ty #[v, .slice A k c]).run P w = .ok v' w' ∧ w'.ownsRowG 0 e (E.sz e) v' (l + k) (inner ++ news) ∧ w.grownBy w' v.ownBlock ∧ (v'.ownBlock = v.ownBlock ∨ ∃ b, v'.ownBlock = some b ∧ w.heap.size ≤ b) := by
 obtain ⟨hu, ⟨ij, hij, hsz, hby, hz⟩, _, _⟩ := hE.info e j hj
 have hut : P.underlying t = some (.slice e) := by rw [← hd]; exact (hE.info t i hi).1
 obtain ⟨hp1, hp2, z, hzz⟩ := hE.pos e j hj
 obtain ⟨hz1, hz2, _⟩ := hE.zero e j z hj hzz
 have hlk : l + k ≤ maxN := Nat.le_trans (Nat.le_mul_of_pos_right _ hp2) hb
 cases A with
 | some ad =>
  obtain ⟨v', w', r1, r2, r3, _, r5⟩ := run_append_own_atG (P := P) w 0 t ty e ij z (E.sz e) j.bytes hut hij (by rw [hz, hzz]) (by rw [hE.szEq hj, hsz]) hby (by rw [hz1, hE.szEq hj]) (by rw [hE.szEq hj]; exact hp1) v l inner ho ad k c news hl hn h1
   (by simp only [maxN, Go.maxLen] at hlk ⊢; omega) (by simp only [maxN] at hb; omega) (Nat.zero_le _)
  exact ⟨v', w', r1, r2, r3, r5.imp _root_.id fun h => ⟨_, h, Nat.le_refl _⟩⟩
 | none =>
  have hk0 : k = 0 := by
   rcases Nat.eq_zero_or_pos k with h | h
   ·exact h
   ·simp at hA; omega
  subst hk0
  have hnn : news = [] := by simpa using hl
  subst hnn
  obtain ⟨A', cap, hv, hle, _⟩ := ownsG_form ho
  refine ⟨v, w, ?_, by simpa using ho, ⟨rfl, rfl, rfl, Nat.le_refl _, fun _ _ _ => rfl⟩, .inl rfl⟩
  rw [hv]
  have hfc : (Builtin.firstCells (P.cellsOf e) 0 (.slice none 0 c)).run P w = .ok #[] w := rfl
  have : (sizeOf e).run P w = .ok j.size w := hE.sizeOf w hj
  cases A' with
  | none => simp [Builtin.append_, run_underlying hut, this, Builtin.lenOf, hle, Builtin.firstCells]
  | some ad => simp [Builtin.append_, run_underlying hut, this, Builtin.lenOf, hle, Builtin.firstCells, storeCells]
end
end Go.B

/- Rows that a call owns, whose mark may lie behind their last cell (what '[]byte(s)' leaves): the kit's laws on owned rows once more for them. -/
import Derived.Laws.OwnMore
import Derived.Maps.AppendAt
import Derived.Lib.AppendStr
import Derived.Lib.ConvBytes
import Derived.ArgAppend
import Derived.Deep.AppendLies
import Derived.OwnWalk
import Derived.Lib.FrozenHead
import Derived.Below
namespace Go
abbrev Row : Type := Array Value × (Nat × Nat)
def Loose (c : Row) : Prop := c.2 = (0, 0) ∨ c.1.size ≤ c.2.1
theorem Loose.of (c : Array Value) : Loose (c, (0, 0)) := .inl rfl
theorem Loose.sized {c c' : Row} (h : Loose c) (h1 : c'.1.size = c.1.size) (h2 : c'.2 = c.2) : Loose c' := by
 rcases h with h | h
 ·exact .inl (h2.trans h)
 ·exact .inr (by rw [h1, h2]; exact h)
theorem loose_frozen {w : World} {g : Nat} {e : TypeId} {c : Row} (hg : w.heap[g]? = some (.cells c.1 e c.2)) (hl : Loose c) (j : Nat) (hj : j < c.1.size) : w.frozen? ⟨g, j, none⟩ = false := by
 obtain ⟨cur, lo, hi⟩ := c
 rcases hl with hl | hl
 ·simp only [Prod.mk.injEq] at hl
  obtain ⟨rfl, rfl⟩ := hl
  exact frozen_of_row w g j cur e hg
 ·simp only [World.frozen?, hg, Bool.and_eq_false_iff, decide_eq_false_iff_not]
  left
  simp only at hl hj
  omega
def World.ownsRowG (w : World) (base : Nat) (e : TypeId) (size : Nat) (v : Value) (n : Nat) (xs : List Value) : Prop :=
 xs.length = n * size ∧
 ((v = .slice none 0 0 ∧ n = 0) ∨
  ∃ g cap, ∃ cur : Row, v = .slice (some ⟨g, 0, none⟩) n cap ∧ base ≤ g ∧ w.heap[g]? = some (.cells cur.1 e cur.2) ∧ n ≤ cap ∧ cap ≤ maxLen ∧ cur.1.size = cap * size ∧ cur.1.toList.take (n * size) = xs ∧ Loose cur)
section
variable {w : World} {base : Nat} {e : TypeId} {size : Nat} {v : Value} {n : Nat} {xs : List Value}
theorem World.ownsRowG_of (h : w.ownsRow base e size v n xs) : w.ownsRowG base e size v n xs := by
 refine ⟨h.1, ?_⟩
 rcases h.2 with hn | ⟨g, cap, cur, hv, hb, hg, h1, h2, h3, h4⟩
 ·exact .inl hn
 ·exact .inr ⟨g, cap, (cur, (0, 0)), hv, hb, hg, h1, h2, h3, h4, Loose.of cur⟩
theorem World.ownsRowG_nil (w : World) (base : Nat) (e : TypeId) (size : Nat) : w.ownsRowG base e size (.slice none 0 0) 0 [] := ⟨by simp, .inl ⟨rfl, rfl⟩⟩
theorem World.ownsRowG.lt (h : w.ownsRowG base e size v n xs) : ∀ k, v.ownBlock = some k → base ≤ k ∧ k < w.heap.size := by
 intro k hk
 rcases h.2 with ⟨rfl, _⟩ | ⟨g, cap, cur, rfl, hb, hg, _⟩
 ·simp [Value.ownBlock] at hk
 ·simp [Value.ownBlock] at hk
  subst hk
  exact ⟨hb, (Array.getElem?_eq_some_iff.1 hg).1⟩
theorem World.ownsRowG.kept {w' : World} {row : Option Nat} (h : w.ownsRowG base e size v n xs) (hg : w.grownBy w' row) (hne : v.ownBlock = none ∨ v.ownBlock ≠ row) : w'.ownsRowG base e size v n xs := by
 refine ⟨h.1, ?_⟩
 rcases h.2 with hn | ⟨g, cap, cur, rfl, hb, hgg, rest⟩
 ·exact .inl hn
 ·refine .inr ⟨g, cap, cur, rfl, hb, ?_, rest⟩
  rw [hg.block g (Array.getElem?_eq_some_iff.1 hgg).1 (by simpa [Value.ownBlock] using hne)]
  exact hgg
theorem World.ownsRowG.alloc (h : w.ownsRowG base e size v n xs) (o : Obj) : (w.alloc o).ownsRowG base e size v n xs :=
 h.kept (World.grownBy_alloc w o none) (by cases hv : v.ownBlock <;> simp)
theorem World.ownsRowG.drew (h : w.ownsRowG base e size v n xs) : w.drew.ownsRowG base e size v n xs := h
theorem World.ownsRowG.mono {base' : Nat} (h : w.ownsRowG base e size v n xs) (hb : base' ≤ base) : w.ownsRowG base' e size v n xs :=
 ⟨h.1, h.2.imp id fun ⟨g, cap, cur, h1, h2, h3⟩ => ⟨g, cap, cur, h1, Nat.le_trans hb h2, h3⟩⟩
theorem World.ownsRowG.form (h : w.ownsRowG base e size v n xs) (hn : 0 < n) :
  ∃ g cap, v = .slice (some ⟨g, 0, none⟩) n cap ∧ base ≤ g ∧ g < w.heap.size := by
 rcases h.2 with ⟨_, h0⟩ | ⟨g, cap, cur, hv, hb, hg, _⟩
 ·omega
 ·exact ⟨g, cap, hv, hb, (Array.getElem?_eq_some_iff.1 hg).1⟩
theorem World.ownsRowG.cells (h : w.ownsRowG base e size v n xs) {g : Nat} (hg : v.ownBlock = some g) : ∀ j u, xs[j]? = some u → w.cell? ((⟨g, 0, none⟩ : Addr).add j) = some u := by
 intro j u hu
 rcases h.2 with ⟨rfl, _⟩ | ⟨g', cap, cur, rfl, _, hgg, _, _, _, htake, _⟩
 ·simp [Value.ownBlock] at hg
 ·simp [Value.ownBlock] at hg
  subst hg
  have hadd : (⟨g', 0, none⟩ : Addr).add j = ⟨g', j, none⟩ := by unfold Addr.add; split <;> simp_all
  rw [hadd, cell_of_row w g' j cur.1 e cur.2 hgg]
  rw [← htake, List.getElem?_take] at hu
  split at hu
  ·simpa using hu
  ·cases hu
end
section
variable {w : World} {base : Nat} {e : TypeId} {size : Nat} {g n cap : Nat} {xs : List Value}
theorem World.ownsRowG.cellAt (h : w.ownsRowG base e size (.slice (some ⟨g, 0, none⟩) n cap) n xs) (j : Nat) (hj : j < n * size) : w.cell? ⟨g, j, none⟩ = xs[j]? := by
 rcases h.2 with ⟨h', _⟩ | ⟨g', cap', cur, h', _, hg, _, _, _, htake, _⟩
 ·simp at h'
 ·simp only [Value.slice.injEq, Option.some.injEq, Addr.mk.injEq, and_true, true_and] at h'
  obtain ⟨rfl, rfl⟩ := h'
  rw [cell_of_row w g j cur.1 e cur.2 hg, ← htake, List.getElem?_take, if_pos hj]
  simp
end
theorem run_storeCells_atL (P : Program) (g o : Nat) (t : TypeId) (fz : Nat × Nat) : ∀ (vs : List Value) (i : Nat) (cur : Array Value) (w : World), w.heap[g]? = some (.cells cur t fz) → Loose (cur, fz) → o + i + vs.length ≤ cur.size → (∀ v ∈ vs, v.oneCell' = true) →
  (storeCells ⟨g, o, none⟩ vs i).run P w = .ok () (w.setRow g (cur.toList.take (o + i) ++ vs ++ cur.toList.drop (o + i + vs.length)).toArray)
 | [], i, cur, w, hg, _, _, _ => by
  simp only [storeCells, List.append_nil, List.length_nil, Nat.add_zero, List.take_append_drop, Array.toArray_toList]
  rw [setRow_self w g cur t fz hg]
  rfl
 | v :: rest, i, cur, w, hg, hfz, hl, h1 => by
  have hi : o + i < cur.size := by simp at hl; omega
  have hadd : (⟨g, o, none⟩ : Addr).add i = ⟨g, o + i, none⟩ := by unfold Addr.add; split <;> simp_all
  have hcell : w.cell? ⟨g, o + i, none⟩ = some cur[o + i] := by simp [World.cell?, hg, hi]
  have hfro : w.frozen? ⟨g, o + i, none⟩ = false := loose_frozen (c := (cur, fz)) hg hfz _ hi
  have hst : (store ((⟨g, o, none⟩ : Addr).add i) v).run P w = .ok () (w.setRow g (cur.setIfInBounds (o + i) v)) := by
   rw [hadd, run_store P w _ v _ (h1 v (by simp)), hcell]
   simp [hfro, setCell_eq_setRow w g (o + i) cur t fz v hg]
  have ih := run_storeCells_atL P g o t fz rest (i + 1) (cur.setIfInBounds (o + i) v) (w.setRow g (cur.setIfInBounds (o + i) v)) (setRow_heap w g cur _ t _ hg) (hfz.sized (by simp) rfl) (by simp at hl ⊢; omega) (fun x hx => h1 x (by simp [hx]))
  simp only [storeCells, Sem.run_bind, hst, Result.andThen_ok, ih, setRow_setRow]
  congr 3
  have e := list_seg_step cur.toList (o + i) v rest (by simp at hl ⊢; omega)
  simpa [Array.toList_setIfInBounds, Nat.add_assoc] using e
section
variable {P : Program} (w : World)
theorem run_append_roomL (t ty e : TypeId) (i : TypeInfo) (ht : P.underlying t = some (.slice e)) (hi : P.info? e = some i)
  (g sLen sCap : Nat) (cur : Array Value) (fz : Nat × Nat) (hg : w.heap[g]? = some (.cells cur e fz)) (hfz : Loose (cur, fz))
  (a : Addr) (m c : Nat) (news : List Value) (hl : news.length = m * i.size) (hnews : ∀ j u, news[j]? = some u → w.cell? (a.add j) = some u) (h1 : ∀ u ∈ news, u.oneCell' = true)
  (hroom : sLen + m ≤ sCap) (hfit : sLen * i.size + news.length ≤ cur.size) :
  (Builtin.append_ #[t, t] ty #[.slice (some ⟨g, 0, none⟩) sLen sCap, .slice (some a) m c]).run P w =
   .ok (.slice (some ⟨g, 0, none⟩) (sLen + m) sCap) (w.setRow g (cur.toList.take (sLen * i.size) ++ news ++ cur.toList.drop (sLen * i.size + news.length)).toArray) := by
 have hf := run_firstCells_some (P := P) w i.size m a m c news hl hnews
 have hst := run_storeCells_atL P g (sLen * i.size) e fz news 0 cur w hg hfz (by simpa using hfit) h1
 simp only [Nat.add_zero] at hst
 simp [Builtin.append_, run_underlying ht, sizeOf, typeInfo, hi, Builtin.lenOf, hroom, hf, Addr.add_lit, hst]
theorem run_append_own_atG (base : Nat) (t ty e : TypeId) (i : TypeInfo) (z : Value) (size bytes : Nat) (ht : P.underlying t = some (.slice e)) (hi : P.info? e = some i) (hz : i.zero = some z)
  (hsize : i.size = size) (hby : i.bytes = bytes) (hzs : z.cells.size = size) (hsz : 0 < size)
  (v : Value) (n : Nat) (xs : List Value) (hown : w.ownsRowG base e size v n xs)
  (a : Addr) (m c : Nat) (news : List Value) (hl : news.length = m * size) (hnews : ∀ j u, news[j]? = some u → w.cell? (a.add j) = some u) (h1 : ∀ u ∈ news, u.oneCell' = true)
  (h63 : n + m ≤ maxLen) (hbytes : (n + m) * bytes ≤ 140737488355328) (hbase : base ≤ w.heap.size) :
  ∃ v' w', (Builtin.append_ #[t, t] ty #[v, .slice (some a) m c]).run P w = .ok v' w' ∧ w'.ownsRowG base e size v' (n + m) (xs ++ news) ∧ w.grownBy w' v.ownBlock ∧
   (v' = .slice none 0 0 ↔ v = .slice none 0 0 ∧ m = 0) ∧ (v'.ownBlock = v.ownBlock ∨ v'.ownBlock = some w.heap.size) := by
 rcases hown.2 with ⟨rfl, rfl⟩ | ⟨g, cap, cur, rfl, hbg, hg, hnc, hcm, hcs, htake, hlo⟩
 ·obtain ⟨v', w', r1, r2, r3⟩ := run_append_own_at (P := P) w base t ty e i z size bytes ht hi hz hsize hby hzs hsz (.slice none 0 0) 0 xs ⟨hown.1, .inl ⟨rfl, rfl⟩⟩ a m c news hl hnews h1 h63 hbytes hbase
  exact ⟨v', w', r1, World.ownsRowG_of r2, r3⟩
 ·subst hsize
  subst hby
  have hsmall : n + m ≤ 9223372036854775807 := by simp only [maxLen] at h63; omega
  have hlen : (xs ++ news).length = (n + m) * i.size := by rw [List.length_append, hown.1, hl, Nat.add_mul]
  by_cases hroom : n + m ≤ cap
  ·have hfit : n * i.size + news.length ≤ cur.1.size := by rw [hl, hcs, ← Nat.add_mul]; exact Nat.mul_le_mul_right _ hroom
   have hr := run_append_roomL (P := P) w t ty e i ht hi g n cap cur.1 cur.2 hg hlo a m c news hl hnews h1 hroom hfit
   have hsz2 : (cur.1.toList.take (n * i.size) ++ news ++ cur.1.toList.drop (n * i.size + news.length)).toArray.size = cur.1.size := by
    simp only [List.size_toArray, List.length_append, List.length_take, List.length_drop, Array.length_toList]
    omega
   refine ⟨_, _, hr, ⟨hlen, .inr ⟨g, cap, (_, cur.2), rfl, hbg, setRow_heap w g cur.1 _ e _ hg, hroom, hcm, ?_, ?_, hlo.sized hsz2 rfl⟩⟩, ⟨rfl, rfl, rfl, by simp, fun k _ hk => setRow_other w g k _ (fun e => hk (by simp [Value.ownBlock, e]))⟩, by simp, Or.inl rfl⟩
   ·exact hsz2.trans hcs
   ·show List.take ((n + m) * i.size) _ = _
    rw [htake, ← hlen]
    exact List.take_left
  ·have holds : ∀ j u, xs[j]? = some u → w.cell? ((⟨g, 0, none⟩ : Addr).add j) = some u := hown.cells (g := g) rfl
   have hr := run_append_grow (P := P) w t ty e i z ht hi hz ⟨g, 0, none⟩ n cap xs hown.1 holds a m c news hl hnews (by omega) (by omega) (growslice_fits (by omega) hbytes)
   have hge := grownCap_ge w (n + m) cap e
   have hcm2 : grownCap w (n + m) cap e ≤ maxLen := grownCap_le_maxLen w (n + m) cap e h63
   refine ⟨_, _, hr, ⟨hlen, .inr ⟨w.heap.size, _, (_, (0, 0)), rfl, hbase, heap_alloc_new w.drew _, hge, hcm2, ?_, ?_, Loose.of _⟩⟩, ⟨rfl, rfl, rfl, by simp, fun k hk _ => heap_alloc_old w.drew _ k hk⟩, by simp, Or.inr rfl⟩
   ·simp only [Array.size_append, List.size_toArray, size_zeroCells, hzs, hown.1, hl, ← Nat.add_mul]
    congr 1
    omega
   ·simp only [Array.toList_append, List.append_assoc]
    rw [← List.append_assoc, ← hlen]
    exact List.take_left
namespace Lib
theorem run_append_room_stringL (t u ty e : TypeId) (i : TypeInfo) (ht : P.underlying t = some (.slice e)) (hu : P.underlying u = some .string) (hi : P.info? e = some i) (hs1 : i.size = 1)
  (g sLen sCap : Nat) (cur : Array Value) (fz : Nat × Nat) (hg : w.heap[g]? = some (.cells cur e fz)) (hfz : Loose (cur, fz)) (s : ByteArray)
  (hroom : sLen + s.size ≤ sCap) (hfit : sLen + s.size ≤ cur.size) :
  (Builtin.append_ #[t, u] ty #[.slice (some ⟨g, 0, none⟩) sLen sCap, .string s]).run P w =
   .ok (.slice (some ⟨g, 0, none⟩) (sLen + s.size) sCap) (w.setRow g (cur.toList.take sLen ++ strCells s ++ cur.toList.drop (sLen + s.size)).toArray) := by
 have hf := run_firstCells_string (P := P) w 1 s
 have hst := run_storeCells_atL P g sLen e fz (strCells s) 0 cur w hg hfz (by simpa [strCells_length] using hfit) (strCells_oneCell s)
 simp only [Nat.add_zero, strCells_length] at hst
 simp [Builtin.append_, run_underlying ht, run_underlying hu, sizeOf, typeInfo, hi, hs1, Builtin.lenOf, hroom, hf, Addr.add_lit, hst]
theorem run_append_own_stringG (base : Nat) (t u ty e : TypeId) (i : TypeInfo) (ht : P.underlying t = some (.slice e)) (hu : P.underlying u = some .string) (hi : P.info? e = some i) (hz : i.zero = some (.int .u8 0))
  (hsize : i.size = 1) (hby : i.bytes = 1)
  (v : Value) (n : Nat) (xs : List Value) (hown : w.ownsRowG base e 1 v n xs) (s : ByteArray)
  (h63 : n + s.size ≤ maxLen) (hbytes : n + s.size ≤ 140737488355328) (hbase : base ≤ w.heap.size) :
  ∃ v' w', (Builtin.append_ #[t, u] ty #[v, .string s]).run P w = .ok v' w' ∧ w'.ownsRowG base e 1 v' (n + s.size) (xs ++ strCells s) ∧ w.grownBy w' v.ownBlock ∧
   (v' = .slice none 0 0 ↔ v = .slice none 0 0 ∧ s.size = 0) ∧ (v'.ownBlock = v.ownBlock ∨ ∃ b, v'.ownBlock = some b ∧ w.heap.size ≤ b) := by
 rcases hown.2 with ⟨rfl, rfl⟩ | ⟨g, cap, cur, rfl, hbg, hg, hnc, hcm, hcs, htake, hlo⟩
 ·obtain ⟨v', w', h1, h2, h3, h4⟩ := run_append_own_string (P := P) w w.heap.size t u ty e i ht hu hi hz hsize hby (.slice none 0 0) 0 xs ⟨hown.1, .inl ⟨rfl, rfl⟩⟩ s h63 hbytes (Nat.le_refl _)
  refine ⟨v', w', h1, (World.ownsRowG_of h2).mono hbase, h3, h4, ?_⟩
  rcases hv : v'.ownBlock with _ | b
  ·exact .inl rfl
  ·exact .inr ⟨b, rfl, ((World.ownsRowG_of h2).lt b hv).1⟩
 ·have hsmall : n + s.size ≤ 9223372036854775807 := by simp only [maxLen] at h63; omega
  have hxl : xs.length = n := by simpa using hown.1
  have hlen : (xs ++ strCells s).length = (n + s.size) * 1 := by rw [List.length_append, hxl, strCells_length, Nat.mul_one]
  by_cases hroom : n + s.size ≤ cap
  ·have hcs' : cur.1.size = cap := by simpa using hcs
   have hr := run_append_room_stringL (P := P) w t u ty e i ht hu hi hsize g n cap cur.1 cur.2 hg hlo s hroom (by omega)
   have hsz2 : (cur.1.toList.take n ++ strCells s ++ cur.1.toList.drop (n + s.size)).toArray.size = cur.1.size := by
    simp only [List.size_toArray, List.length_append, List.length_take, List.length_drop, Array.length_toList, strCells_length]
    omega
   refine ⟨_, _, hr, ⟨hlen, .inr ⟨g, cap, (_, cur.2), rfl, hbg, setRow_heap w g cur.1 _ e _ hg, hroom, hcm, hsz2.trans hcs, ?_, hlo.sized hsz2 rfl⟩⟩, ⟨rfl, rfl, rfl, by simp, fun k _ hk => setRow_other w g k _ (fun e => hk (by simp [Value.ownBlock, e]))⟩, by simp, .inl rfl⟩
   have ht' : cur.1.toList.take n = xs := by simpa using htake
   show List.take ((n + s.size) * 1) _ = _
   rw [ht', ← hlen]
   exact List.take_left
  ·have holds : ∀ j u, xs[j]? = some u → w.cell? ((⟨g, 0, none⟩ : Addr).add j) = some u := hown.cells (g := g) rfl
   have hr := run_append_grow_string (P := P) w t u ty e i (.int .u8 0) ht hu hi hz ⟨g, 0, none⟩ n cap xs (by rw [hsize]; simpa using hxl) holds s (by omega) (by omega) (by rw [hby]; exact growslice_fits (by omega) (by omega))
   have hge := grownCap_ge w (n + s.size) cap e
   have hcm2 : grownCap w (n + s.size) cap e ≤ maxLen := grownCap_le_maxLen w (n + s.size) cap e h63
   refine ⟨_, _, hr, ⟨hlen, .inr ⟨w.heap.size, _, (_, (0, 0)), rfl, hbase, heap_alloc_new w.drew _, hge, hcm2, ?_, ?_, Loose.of _⟩⟩, ⟨rfl, rfl, rfl, by simp, fun k hk _ => heap_alloc_old w.drew _ k hk⟩, by simp, .inr ⟨_, rfl, Nat.le_refl _⟩⟩
   ·have hz1 : (Value.int IntKind.u8 0).cells.size = 1 := rfl
    simp only [Array.size_append, List.size_toArray, size_zeroCells, hz1, hxl, strCells_length]
    omega
   ·simp only [Array.toList_append, List.append_assoc]
    rw [← List.append_assoc, ← hlen]
    exact List.take_left
theorem run_convert_own_bytes (base : Nat) (t e : TypeId) (ht : P.underlying t = some (.slice e)) (he : P.underlying e = some (.int .u8))
  (v : Value) (n : Nat) (xs : List Value) (hn : 0 < n) (hown : w.ownsRowG base e 1 v n xs) :
  ∃ w', (convert t t v).run P w = .ok v w' ∧ w'.ownsRowG base e 1 v n xs ∧ w.grownBy w' v.ownBlock := by
 rcases hown.2 with ⟨rfl, h0⟩ | ⟨g, cap, cur, rfl, hbg, hg, hnc, hcm, hcs, htake, hlo⟩
 ·omega
 ·have hsh : w.shape? g = some (e, cur.1.size) := by simp [World.shape?, hg]
  have hf : ∃ fz : Nat × Nat, Loose (cur.1, fz) ∧ (w.freeze ⟨g, cur.1.size, none⟩ 1).heap[g]? = some (.cells cur.1 e fz) := by
   obtain ⟨cs, lo, hi⟩ := cur
   simp only [Loose] at hlo
   unfold World.freeze
   rw [if_neg (by decide)]
   refine ⟨(if lo == hi then (cs.size, cs.size + 1) else (min lo cs.size, max hi (cs.size + 1))), ?_, ?_⟩
   ·right
    show cs.size ≤ (if lo == hi then (cs.size, cs.size + 1) else (min lo cs.size, max hi (cs.size + 1)) : Nat × Nat).1
    split
    ·exact Nat.le_refl _
    ·rename_i hne
     rcases hlo with h | h
     ·simp only [Prod.mk.injEq] at h
      obtain ⟨rfl, rfl⟩ := h
      simp at hne
     ·simp only at h ⊢
      omega
   ·simp [Array.getElem?_modify, hg]
  obtain ⟨fz, hl2, hh2⟩ := hf
  refine ⟨w.freeze ⟨g, cur.1.size, none⟩ 1, ?_, ⟨hown.1, .inr ⟨g, cap, (cur.1, fz), rfl, hbg, hh2, hnc, hcm, hcs, htake, hl2⟩⟩, ?_⟩
  ·simp [convert, run_underlying ht, run_underlying he, markStringish, hsh, Result.andThen]
  ·unfold World.freeze
   rw [if_neg (by decide)]
   refine ⟨rfl, rfl, rfl, by simp, fun k _ hk => ?_⟩
   have hkg : g ≠ k := fun e => hk (by simp [Value.ownBlock, e])
   simp [Array.getElem?_modify, hkg]
theorem bytesWorld_ownsG (e : TypeId) (s : ByteArray) (hm : s.size ≤ maxLen) :
  (bytesWorld w e s).ownsRowG w.heap.size e 1 (.slice (some ⟨w.heap.size, 0, none⟩) s.size (grownCap w s.size 0 e)) s.size (strCells s) ∧ w.grownBy (bytesWorld w e s) none := by
 have hge := grownCap_ge w s.size 0 e
 have hcm2 : grownCap w s.size 0 e ≤ maxLen := grownCap_le_maxLen w s.size 0 e hm
 have hsz : s.data.size = s.size := rfl
 have hc : (bytesCells w e s).size = grownCap w s.size 0 e := by
  simp only [bytesCells, Array.size_append, Array.size_map, Array.size_replicate, hsz]
  omega
 refine ⟨⟨by rw [strCells_length, Nat.mul_one], .inr ⟨w.heap.size, _, (bytesCells w e s, ((bytesCells w e s).size, (bytesCells w e s).size + 1)), rfl, Nat.le_refl _, bytesWorld_at_new w e s, hge, hcm2, by rw [hc, Nat.mul_one], ?_, .inr (Nat.le_refl _)⟩⟩, ⟨?_, ?_, ?_, ?_, fun k hk _ => bytesWorld_at_old w e s k hk⟩⟩
 ·simp only [bytesCells, Array.toList_append, Array.toList_map, Nat.mul_one]
  have hl : (List.map (fun b => Value.int IntKind.u8 (b.toNat : Int)) s.data.toList).length = s.size := by rw [List.length_map, Array.length_toList]; rfl
  rw [← hl]
  exact List.take_left
 ·simp [bytesWorld, World.freeze, World.alloc, World.drew, -World.alloc_eq, -World.drew_eq]
 ·simp [bytesWorld, World.freeze, World.alloc, World.drew, -World.alloc_eq, -World.drew_eq]
 ·simp [bytesWorld, World.freeze, World.alloc, World.drew, -World.alloc_eq, -World.drew_eq]
 ·rw [bytesWorld_size]; omega
end Lib
end
end Go

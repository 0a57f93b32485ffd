/- What the reckoner's plain operations say of the program's: literals of slices and structs, stores. -/
import Derived.Test.YtepfpdaehcmblaaBOps8
namespace Go.B
open Go Go.RowKit
set_option linter.unusedVariables false
set_option linter.unusedSimpArgs false
variable {E : Env} {P : Program}
section
variable {R : Type} {G : Gh} {w w0 w1 : World} {m m' : Mem E} {n : Nat} {K : AV E → Mem E → Option R} {r : R} {Φ Ψ : Nat → Prop} {I0 : Ent} {ts : List (AV E)} {a : Act}
theorem flat_get {α : Type} : ∀ (mm : Nat) (l : List α) (k : Nat), k < mm * l.length → (List.flatten (List.replicate mm l))[k]? = l[k % l.length]?
 | 0, l, k, h => by simp at h
 | mm + 1, l, k, h => by
  rw [List.replicate_succ, List.flatten_cons, List.getElem?_append]
  split
  ·rename_i hk; rw [Nat.mod_eq_of_lt hk]
  ·rename_i hk
   rw [flat_get mm l (k - l.length) (by rw [Nat.add_mul, Nat.one_mul] at h; omega)]
   congr 1
   have hk' : l.length ≤ k := Nat.not_lt.1 hk
   have hlen : 0 < l.length := by
    rcases Nat.eq_zero_or_pos l.length with h0 | h0
    ·rw [h0] at h; simp at h
    ·exact h0
   have e : k = (k - l.length) + l.length := by omega
   have e2 : ((k - l.length) + l.length) % l.length = (k - l.length) % l.length := Nat.add_mod_right _ _
   rw [← e] at e2
   exact e2.symm
theorem zeros_rel (mm s : Nat) {z : Value} (hz1 : z.cells.size = s) (hz2 : z.cells.toList.all (fun v => v.oneCell') = true) :
  A1l E G w m n (List.flatten (List.replicate mm (zeroA z))) ((Array.range (mm * s)).map (z.cells[· % z.cells.size]!)) := by
 have hzl : (zeroA (E := E) z).length = s := by simp [zeroA, hz1]
 refine .of (by simp [hzl]) fun k c hk => ?_
 have hkl : k < mm * s := by
  have := (List.getElem?_eq_some_iff.1 hk).1
  simpa [hzl] using this
 rw [flat_get mm _ k (by rw [hzl]; exact hkl), hzl] at hk
 simp only [zeroA, List.getElem?_map] at hk
 obtain ⟨v, hv, rfl⟩ := Option.map_eq_some_iff.1 hk
 have h1 := List.all_eq_true.1 hz2 v (List.mem_of_getElem? hv)
 refine ⟨v, ?_, ⟨rfl, h1⟩, h1⟩
 have hlt : k % s < z.cells.size := by
  have := (List.getElem?_eq_some_iff.1 hv).1
  simpa using this
 have hv' : z.cells[k % s]? = some v := by rw [← Array.getElem?_toList]; exact hv
 have : z.cells[k % s]! = v := by
  rw [Array.getElem!_eq_getD, Array.getD_eq_getD_getElem?, hv']; rfl
 simp [hkl, hz1, this]
theorem buildSlice_sound (hE : EnvOK E P) (hM : Mr E w0 Φ I0 G m n w) (hT : Tr E G ts m n a w) {t e : TypeId} {i j : TI} (hi : E.info t = some i) (hd : i.desc = .slice e) (hj : E.info e = some j) {z : Value} (hz : j.zero = some z) {mm : Nat} (hmm : mm * j.size ≤ 16777216) (hmm' : mm ≤ 16777216)
  {parts : Array (Nat × Operand)} {ps : List (Nat × A2 E)} (hps : a2s ts parts.toList = some ps) (hjs : 0 < j.size) {cs : List (A1 E)} (hf : fillA (fun f => some (f * j.size, j.size)) (List.flatten (List.replicate mm (zeroA z))) ps = some cs)
  (h : (chunk E e j mm cs true fun xs d => .put n (.row d e xs) (ret1 (.row n))).run m K = some r) :
  ∃ v m' u w' G', K v m' = some r ∧ (Instr.buildSlice t mm (parts.map fun (i, x) => (i, a.eval x))).run P w = .ok u w' ∧ Mr E w0 Φ I0 G' m' (n + wide) w' ∧ Tr E G' ts m' (n + wide) a w' ∧ AVr E G' w' m' (n + wide) v u := by
 have hu : (underlying t).run P w = .ok (.slice e) w := by rw [hE.under w hi, hd]
 have hsz := hE.sizeOf w hj
 have hz0 := hE.zeroValue w hj hz
 obtain ⟨hz1, hz2, _⟩ := hE.zero e j z hj hz
 obtain ⟨q1, q2⟩ := a2s_sound hT hps
 obtain ⟨arr, f1, f2, f3⟩ := fill_sound (pb := fun i => some (i * j.size, j.size)) (fun i q hq => by cases hq; exact ⟨rfl, hjs⟩) (zeros_rel (E := E) (G := G) (w := w) (m := m) (n := n) mm j.size hz1 hz2) hf q1 q2
 have hlen : cs.length = mm * j.size := by rw [f3]; simp [zeroA, hz1]
 obtain ⟨xs, d, m', F, g1, g2, g3, g4, g5, g6, g7, g8⟩ := chunk_sound hE hj mm cs true hM f2 (by omega) h
 have g1' := run_put g1
 have hrun : (Instr.buildSlice t mm (parts.map fun (i, x) => (i, a.eval x))).run P w = .ok (.slice (some ⟨w.heap.size, 0, none⟩) mm mm) (w.alloc (.cells arr e)) := by
  have hpl : (parts.map fun (x : Nat × Operand) => (x.1, a.eval x.2)).toList = parts.toList.map fun x => (x.1, a.eval x.2) := by simp
  have hng : ¬ (16777216 < mm * j.size) := by omega
  by_cases h0 : mm * j.size = 0
  ·have e0 : ((Array.range (mm * j.size)).map (z.cells[· % z.cells.size]!)) = #[] := by rw [h0]; apply Array.ext' <;> simp [Array.range]
   rw [e0] at f1
   have e1 : ∀ f : Nat → Value, Array.map f (Array.range 0) = #[] := fun f => by apply Array.ext' <;> simp [Array.range]
   simp [Instr.buildSlice, hu, hsz, hng, h0, e1, f1, newRow]
  ·simp [Instr.buildSlice, hu, hsz, hng, h0, hz0, f1, newRow]
 subst g4
 obtain ⟨G', r1, r2, r3⟩ := lit_sound hM hT g2 g3 (e := e) (xs := xs) (d := d) (arr := arr) (F := F) xs.length (Nat.le_refl _) (by simp only [Go.maxLen]; omega) (by rw [f2.1, hlen, hE.szEq hj])
  (fun x y hx hy => by rw [hE.szEq hj] at hy ⊢; exact g6 x y hx hy) (fun x y k _ _ hk => g7 x y k hk) (fun x y x' y' k _ _ _ _ => g8 x y x' y' k)
 exact ⟨_, _, _, _, G', g1', hrun, r1, r2, r3⟩
theorem storeVar_run (hE : EnvOK E P) {t : TypeId} {i : TI} (hi : E.info t = some i) {u : Value} (hu : u.cells.size = i.size) (h1 : ∀ v ∈ u.cells.toList, v.oneCell' = true) {g o : Nat} {cur : Array Value} {ty : TypeId} {fz : Nat × Nat}
  (hg : w.heap[g]? = some (.cells cur ty fz)) (hfz : Loose (cur, fz)) (ho : o + i.size ≤ cur.size) :
  (Instr.storeAt t (.pointer (some ⟨g, o, none⟩)) u).run P w = .ok () (w.setRow g (setls cur.toList o u.cells.toList).toArray) := by
 have hs := run_storeCells_atL P g o ty fz u.cells.toList 0 cur w hg hfz (by simp [hu]; omega) h1
 have e1 : (cur.toList.take (o + 0) ++ u.cells.toList ++ cur.toList.drop (o + 0 + u.cells.toList.length)) = setls cur.toList o u.cells.toList := by
  apply List.ext_getElem?
  intro k
  rw [setls_get _ _ _ _ (by simp [hu]; omega)]
  simp only [Nat.add_zero, List.getElem?_append, List.length_append, List.length_take, Array.length_toList, List.getElem?_take, List.getElem?_drop, hu]
  by_cases h1 : k < o
  ·rw [if_pos (by omega), if_pos (by omega), if_pos h1, if_neg (by omega)]
  ·by_cases h2 : k < o + i.size
   ·rw [if_pos (by omega), if_neg (by omega), if_pos (by omega)]
    congr 1; omega
   ·rw [if_neg (by omega), if_neg (by omega)]
    congr 1; omega
 rw [e1] at hs
 simp [Instr.storeAt, Instr.sureAddr, storeVar, hE.sizeOf w hi, hu, hs]
theorem setRow_frame (w : World) (g : Nat) (cs : Array Value) : Frame (fun k => k = g) w (w.setRow g cs) := ⟨rfl, rfl, rfl, by simp, fun k _ hk => setRow_other w g k _ hk⟩
theorem ownsG_set {g cap nn s : Nat} {e : TypeId} {inner : List Value} (h : w.ownsRowG 0 e s (.slice (some ⟨g, 0, none⟩) nn cap) nn inner) {o : Nat} {vs : List Value} (ho : o + vs.length ≤ nn * s) :
  ∃ cur fz, w.heap[g]? = some (.cells cur e fz) ∧ Loose (cur, fz) ∧ o + vs.length ≤ cur.size ∧
   (w.setRow g (setls cur.toList o vs).toArray).ownsRowG 0 e s (.slice (some ⟨g, 0, none⟩) nn cap) nn (setls inner o vs) := by
 rcases h.2 with ⟨h', _⟩ | ⟨g', cap', cur, h', hb, hg, hnc, hcm, hcs, htake, hlo⟩
 ·simp at h'
 ·simp only [Value.slice.injEq, Option.some.injEq, Addr.mk.injEq, and_true, true_and] at h'
  obtain ⟨rfl, rfl⟩ := h'
  have hle : nn * s ≤ cur.1.size := by rw [hcs]; exact Nat.mul_le_mul_right _ hnc
  refine ⟨cur.1, cur.2, hg, hlo, by omega, by rw [setls_length]; exact h.1, .inr ⟨g, cap, ((setls cur.1.toList o vs).toArray, cur.2), rfl, hb, setRow_heap w g cur.1 _ e _ hg, hnc, hcm, by simp [setls_length, hcs], ?_, hlo.sized (by simp [setls_length]) rfl⟩⟩
  apply List.ext_getElem?
  intro k
  simp only [List.getElem?_take, List.toList_toArray]
  rw [setls_get _ _ _ _ (by simp; omega), setls_get _ _ _ _ (by rw [h.1]; exact ho), ← htake]
  simp only [List.getElem?_take]
  by_cases hk : k < nn * s
  ·rw [if_pos hk]
   split <;> first | rfl | rw [if_pos hk]
  ·rw [if_neg hk, if_neg (by omega), if_neg hk]
theorem cellsB_get (f : Nat → Bool) : ∀ (k i j : Nat), j < k → (cellsB (E := E) f i k)[j]? = some (.s (.bool (f (i + j))))
 | 0, _, _, h => absurd h (Nat.not_lt_zero _)
 | k + 1, i, 0, _ => rfl
 | k + 1, i, j + 1, h => by
  simp only [cellsB, List.getElem?_cons_succ]
  rw [cellsB_get f k (i + 1) j (by omega), Nat.add_assoc, Nat.add_comm 1 j]
theorem cellsB_length (f : Nat → Bool) : ∀ (k i : Nat), (cellsB (E := E) f i k).length = k
 | 0, _ => rfl
 | k + 1, i => by simp [cellsB, cellsB_length f k]
theorem store_ap {i : TI} {p : A1 E} {u : Value} {v : A2 E} (hp : A1r E G w m n p u) (h : (storeA i p v).run m K = some r) : ∃ p', A1r E G w m n p' u ∧ (storeA i p' v).run m K = some r ∧ ∀ id lo k x, p' ≠ .ap id lo k x := by
 by_cases hap : ∃ id lo k x, p = .ap id lo k x
 ·obtain ⟨id, lo, k, x, rfl⟩ := hap
  refine ⟨.bp id (lo + x), hp, ?_, by simp⟩
  unfold storeA at h ⊢
  split at h
  ·rename_i hsz
   rw [if_pos hsz]
   simp only at h ⊢
   split at h
   ·rename_i q
    have hsz1 : i.size = 1 := by rw [← hsz]; rfl
    obtain ⟨b, hb, h⟩ := run_get h
    simp only [Mp.run, hb]
    split at h
    ·rename_i cs
     split at h
     ·rename_i bs hbs
      obtain ⟨hx, h⟩ := run_need h
      obtain ⟨g1, g2⟩ := boolsL_sub hbs
      have hle := g1 (fun e => by rw [e] at hx; simp at hx)
      have he : setls cs lo (cellsB (fun i => (bs.set x q).getD i false) 0 bs.length) = setls cs (lo + x) (cellsOfA (.c (.s (.bool q)))) := by
       have e0 : (cellsOfA (.c (.s (.bool q))) : List (A1 E)) = [.s (.bool q)] := rfl
       rw [e0]
       have hcl := cellsB_length (E := E) (fun i => (bs.set x q).getD i false) bs.length 0
       apply List.ext_getElem?
       intro j
       rw [setls_get _ _ _ _ (by rw [hcl]; exact hle), setls_get [.s (.bool q)] cs (lo + x) j (by simp only [List.length_cons, List.length_nil]; omega)]
       have hl1 : ([.s (.bool q)] : List (A1 E)).length = 1 := rfl
       by_cases hj : j = lo + x
       ·subst hj
        rw [if_pos ⟨by omega, by omega⟩, if_pos (c := lo + x ≤ lo + x ∧ lo + x < lo + x + ([.s (.bool q)] : List (A1 E)).length) ⟨by omega, by omega⟩, cellsB_get _ _ _ _ (by omega)]
        simp [List.getD, hx]
       ·rw [if_neg (c := lo + x ≤ j ∧ j < lo + x + ([.s (.bool q)] : List (A1 E)).length) (by omega)]
        split
        ·rename_i hjj
         rw [cellsB_get _ _ _ _ (by omega)]
         have := g2 (j - lo) (by omega)
         rw [Nat.add_sub_cancel' hjj.1] at this
         rw [this]
         simp only [Nat.zero_add, List.getD_eq_getElem?_getD]
         rw [List.getElem?_set_ne (by omega)]
        ·rfl
      rw [if_pos (by omega)]
      simp only [Mp.run] at h ⊢
      rw [← he]
      exact h
     ·cases h
    ·cases h
   ·cases h
  ·cases h
 ·exact ⟨p, hp, h, fun id lo k x e => hap ⟨id, lo, k, x, e⟩⟩
theorem plainV_map : ∀ {as : List (A1 E)} {vs : List Value}, plainV as = some vs → as = vs.map .s
 | [], vs, h => by simp [plainV] at h; subst h; rfl
 | .s v :: as, vs, h => by
  simp only [plainV] at h
  split at h
  ·cases h; rename_i l hl; simp [plainV_map hl]
  ·cases h
 | .imm _ _ :: as, vs, h => by simp [plainV] at h
 | .row _ :: as, vs, h => by simp [plainV] at h
 | .win _ _ _ :: as, vs, h => by simp [plainV] at h
 | .bp _ _ :: as, vs, h => by simp [plainV] at h
 | .ip _ _ _ :: as, vs, h => by simp [plainV] at h
 | .rp _ _ _ :: as, vs, h => by simp [plainV] at h
 | .ap _ _ _ _ :: as, vs, h => by simp [plainV] at h
 | .rv _ :: as, vs, h => by simp [plainV] at h
 | .vp _ _ _ :: as, vs, h => by simp [plainV] at h
 | .hd _ _ _ :: as, vs, h => by simp [plainV] at h
 | .hp _ _ _ _ _ :: as, vs, h => by simp [plainV] at h
 | .fn _ _ :: as, vs, h => by simp [plainV] at h
 | .fnp _ _ :: as, vs, h => by simp [plainV] at h
 | .junk :: as, vs, h => by simp [plainV] at h
theorem rset_self {α : Type} {xs : List α} {j : Nat} {x d : α} (h : j < xs.length) : (xs.set j x).getD j d = x := by simp [List.getD_eq_getElem?_getD, List.getElem?_set, h]
theorem rset_ne {α : Type} {xs : List α} {i j : Nat} {x d : α} (h : i ≠ j) : (xs.set j x).getD i d = xs.getD i d := by simp only [List.getD_eq_getElem?_getD]; rw [List.getElem?_set_ne (Ne.symm h)]
theorem pair_eq {x j s y lo k : Nat} (hy : y < s) (h1 : j * s + lo ≤ x * s + y) (h2 : x * s + y < j * s + lo + k) (hk : lo + k ≤ s) : x = j := by
 rcases Nat.lt_trichotomy x j with h | h | h
 ·have : (x + 1) * s ≤ j * s := Nat.mul_le_mul_right _ h
  rw [Nat.add_mul, Nat.one_mul] at this
  omega
 ·exact h
 ·have : (j + 1) * s ≤ x * s := Nat.mul_le_mul_right _ h
  rw [Nat.add_mul, Nat.one_mul] at this
  omega
theorem cells_put {e : TypeId} {x y : E.T e} {off : Nat} {cs : List (Cell E.T)} (hE : EnvOK E P) (h : putCells e x off cs = some y) (hl : off + cs.length ≤ (E.cells e x).length) (j : Nat) :
  cellAt E e y j = if off ≤ j ∧ j < off + cs.length then cs.getD (j - off) (.s undef) else cellAt E e x j := by
 simp only [cellAt, hE.make _ _ _ h, List.getD_eq_getElem?_getD]
 rw [setls_get _ _ _ _ hl]
 split <;> rfl
theorem ow_store (hE : EnvOK E P) {t : TypeId} {i : TI} (hi : E.info t = some i) {fp : Nat → Prop} {v : Value} {e : TypeId} {ys : List (E.T e)} {l o g L cap : Nat} {vs : List Value} {x : Value} {y : E.T e} (how : Ow E w fp v (.sl e ys)) (hv : v = .slice (some ⟨g, 0, none⟩) L cap)
  (hl : l < ys.length) (hoff : o + i.size ≤ (E.cells e (ys.getD l (E.dflt e))).length) (hpos : 0 < i.size) (hxs : x.cells.size = i.size) (hvs : x.cells.toList = vs) (h1 : ∀ v ∈ x.cells.toList, v.oneCell' = true)
  (hy : putCells e (ys.getD l (E.dflt e)) o (vs.map .s) = some y) :
  fp g ∧ ∃ cs, (Instr.storeAt t (.pointer (some ⟨g, l * E.sz e + o, none⟩)) x).run P w = .ok () (w.setRow g cs) ∧ Ow E (w.setRow g cs) fp v (.sl e (ys.set l y)) := by
 cases how with
 | @sl _ _ _ _ inner F ho hb hf hd hr =>
 subst hv
 have hLL : L = ys.length := by
  obtain ⟨A, cap', hv', _⟩ := ownsG_form ho
  cases hv'; rfl
 subst hLL
 have hszl : (E.cells e (ys.getD l (E.dflt e))).length = E.sz e := by rcases hE.len e (ys.getD l (E.dflt e)) with h0 | h0 <;> omega
 have hvl : vs.length = i.size := by rw [← hvs]; simp [hxs]
 have hle : l * E.sz e + o + vs.length ≤ ys.length * E.sz e := by
  have : (l + 1) * E.sz e ≤ ys.length * E.sz e := Nat.mul_le_mul_right _ hl
  rw [Nat.add_mul, Nat.one_mul] at this
  omega
 obtain ⟨cur, fz, c1, c2, c3, c4⟩ := ownsG_set ho (o := l * E.sz e + o) (vs := vs) hle
 have hrun := storeVar_run (P := P) (w := w) hE hi hxs h1 c1 c2 (o := l * E.sz e + o) (by omega)
 rw [hvs] at hrun
 refine ⟨hb g rfl, _, hrun, ?_⟩
 have hset : (ys.set l y).length = ys.length := by simp
 refine .sl (inner := setls inner (l * E.sz e + o) vs) (F := F) (by rw [hset]; exact c4) hb (by rw [hset]; exact hf) (by rw [hset]; exact hd) fun x' y' hx' hy' => ?_
 rw [hset] at hx'
 have hk0 : ∀ k, F x' y' k → k ≠ g := fun k hk e => (hf x' y' k hx' hy' hk).2 (by rw [e]; rfl)
 have hc := cells_put hE hy (by simpa [hvl] using hoff) y'
 by_cases hat : x' = l ∧ o ≤ y' ∧ y' < o + i.size
 ·obtain ⟨rfl, q1, q2⟩ := hat
  rw [rset_self hx', hc, if_pos (by simp only [List.length_map]; omega)]
  have e2 : (setls inner (x' * E.sz e + o) vs).getD (x' * E.sz e + y') undef = vs.getD (y' - o) undef := by
   simp only [List.getD_eq_getElem?_getD]
   rw [setls_get _ _ _ _ (by rw [ho.1]; exact hle), if_pos (by omega)]
   congr 2; omega
  have e3 : (vs.map (Cell.s (T := E.T))).getD (y' - o) (.s undef) = .s (vs.getD (y' - o) undef) := by
   simp only [List.getD_eq_getElem?_getD, List.getElem?_map]
   rw [List.getElem?_eq_getElem (by omega)]; rfl
  rw [e2, e3]
  refine .s (h1 _ ?_)
  rw [hvs, List.getD_eq_getElem?_getD, List.getElem?_eq_getElem (by omega)]
  exact List.getElem_mem _
 ·have e2 : (setls inner (l * E.sz e + o) vs).getD (x' * E.sz e + y') undef = inner.getD (x' * E.sz e + y') undef := by
   simp only [List.getD_eq_getElem?_getD]
   rw [setls_get _ _ _ _ (by rw [ho.1]; exact hle), if_neg]
   rintro ⟨q1, q2⟩
   have := pair_eq hy' q1 (by rw [hvl] at q2; exact q2) (by omega)
   subst this
   exact hat ⟨rfl, by omega, by omega⟩
  have e3 : cellAt E e ((ys.set l y).getD x' (E.dflt e)) y' = cellAt E e (ys.getD x' (E.dflt e)) y' := by
   by_cases hxl : x' = l
   ·subst hxl
    rw [rset_self hx', hc, if_neg]
    intro hq
    simp only [List.length_map] at hq
    exact hat ⟨rfl, hq.1, by omega⟩
   ·rw [rset_ne hxl]
  rw [e2, e3]
  exact (hr x' y' hx' hy').keep fun k hk => ⟨hk, setRow_other w g k _ (hk0 k hk)⟩
theorem store_hp (hE : EnvOK E P) (hM : Mr E w0 Φ I0 G m n w) {t : TypeId} {i : TI} (hi : E.info t = some i) {id j off l o : Nat} {u : Value} (hp : A1r E G w m n (.hp id j off l o) u) {x : Value} {vs : List Value} {e : TypeId} {xs : List (E.T e)} (hb : look m id = some (.rowV e xs))
  {e' : TypeId} {ys : List (E.T e')} (hca : cellAt E e (xs.getD j (E.dflt e)) off = .sl e' ys) (hcl : off < (E.cells e (xs.getD j (E.dflt e))).length) (hl : l < ys.length) (hoff : o + i.size ≤ (E.cells e' (ys.getD l (E.dflt e'))).length) (hpos : 0 < i.size) (hxs : x.cells.size = i.size) (hvs : x.cells.toList = vs)
  (h1 : ∀ v ∈ x.cells.toList, v.oneCell' = true) {y : E.T e'} (hy : putCells e' (ys.getD l (E.dflt e')) o (vs.map .s) = some y) {z : E.T e} (hz : putCells e (xs.getD j (E.dflt e)) off [.sl e' (ys.set l y)] = some z) :
  ∃ w', (Instr.storeAt t u x).run P w = .ok () w' ∧ Mr E w0 Φ I0 G (setm m id (.rowV e (xs.set j z))) n w' ∧ Mle G m n G (setm m id (.rowV e (xs.set j z))) ∧ ∀ k, G.I k → G.I k ∧ w'.heap[k]? = w.heap[k]? := by
 obtain ⟨q1, q2, q3⟩ := hp.2.2 _ _ hb
 obtain ⟨g', L', cap', hih, rfl⟩ := q3 e' ys hca
 obtain ⟨htop, hds⟩ := hM.bl id _ hb
 have htop0 := htop
 obtain ⟨inner, F, ho, hbk, hf, hd, hin⟩ := htop
 obtain ⟨g, cap, hhd, _, hcell⟩ := ownsG_cell ho (j * E.sz e + off) (lt_of_pair q1 q2)
 rw [add_plain] at hcell
 have hin0 := hin j off q1 q2
 rw [hds j off e' ys g _ _ q1 q2 hca hhd] at hcell
 have hval : inner.getD (j * E.sz e + off) undef = G.ih id j off := (Option.some.inj hcell).symm
 rw [hca, hval] at hin0
 unfold In at hin0
 rw [if_pos rfl] at hin0
 obtain ⟨hfg, cs, hrun, how⟩ := ow_store (P := P) hE hi hin0 hih hl hoff hpos hxs hvs h1 hy
 obtain ⟨hgid, hgown⟩ := hf j off g' q1 q2 hfg
 have hlo := hM.lo id _ hb g' hgid
 have hkeep : ∀ k, k ≠ g' → (w.setRow g' cs).heap[k]? = w.heap[k]? := fun k hk => setRow_other w g' k _ hk
 have hI : ∀ k, G.I k → G.I k ∧ (w.setRow g' cs).heap[k]? = w.heap[k]? := fun k hk => ⟨hk, hkeep k fun e => by subst e; exact hlo.2.2 hk⟩
 have hset : (xs.set j z).length = xs.length := by simp
 have hzc := cells_put hE hz (by simp only [List.length_singleton]; omega)
 have hcx : ∀ j', cellAt E e z j' = if j' = off then .sl e' (ys.set l y) else cellAt E e (xs.getD j (E.dflt e)) j' := fun j' => by
  rw [hzc j']
  by_cases h : j' = off
  ·subst h; rw [if_pos (by simp), if_pos rfl]; simp
  ·rw [if_neg (by simp only [List.length_singleton]; omega), if_neg h]
 have hmle : Mle G m n G (setm m id (.rowV e (xs.set j z))) := fun k hk => by
  by_cases hki : k = id
  ·subst hki
   refine ⟨fun d e1 x1 hx => ?_, fun cs hx => ?_, fun e1 x1 hx => ?_⟩
   ·rw [look_set, if_pos rfl] at hx; cases hx
   ·rw [look_set, if_pos rfl] at hx; cases hx
   ·rw [look_set, if_pos rfl] at hx
    cases hx
    refine ⟨rfl, rfl, xs, hb, hset, fun i' j' e2 ys2 hi' hc => ?_⟩
    by_cases hij : i' = j
    ·subst hij
     rw [rset_self hi', hcx j'] at hc
     split at hc
     ·rename_i h; subst h; cases hc; exact ⟨ys, hca⟩
     ·exact ⟨_, hc⟩
    ·rw [rset_ne hij] at hc; exact ⟨_, hc⟩
  ·refine ⟨fun d e1 x1 hx => ?_, fun cs hx => ?_, fun e1 x1 hx => ?_⟩
   ·rw [look_set, if_neg (Ne.symm hki)] at hx; exact ⟨rfl, d, x1, hx, rfl⟩
   ·rw [look_set, if_neg (Ne.symm hki)] at hx; exact ⟨rfl, cs, hx⟩
   ·rw [look_set, if_neg (Ne.symm hki)] at hx; exact ⟨rfl, rfl, x1, hx, rfl, fun i' j' e2 ys2 _ h => ⟨ys2, h⟩⟩
 have hG : G.upd id (G.hd id) (G.bk id) (G.fp id) = G := by
  cases G
  simp only [Gh.upd, Gh.mk.injEq, and_true, true_and]
  refine ⟨funext fun k => ?_, funext fun k => ?_, funext fun k => ?_⟩ <;> (split <;> simp [*])
 have hM' := hM.put (Ψ := fun k => k = g') (id := id) (b := .rowV e (xs.set j z)) (v := G.hd id) (bk := G.bk id) (F := G.fp id) (hM.lt id _ hb) (Nat.le_refl _) (setRow_frame w g' cs)
  (by rintro k rfl; exact ⟨hlo.1, hlo.2.2, fun j' b hj' hne hk' => hM.dj id j' _ b hb hj' (Ne.symm hne) _ hgid hk'⟩)
  (by rw [hG]; exact hmle)
  (by
   rw [hG]
   refine ⟨⟨inner, F, by rw [hset]; exact ownsG_move ho fun k hk => hkeep k fun e => by subst e; exact hgown hk, hbk, by rw [hset]; exact hf, by rw [hset]; exact hd, fun i' j' hi' hj' => ?_⟩, fun i' j' e2 ys2 g2 L2 cap2 hi' hj' hc hv => ?_⟩
   ·rw [hset] at hi'
    by_cases hij : i' = j ∧ j' = off
    ·obtain ⟨rfl, rfl⟩ := hij
     rw [rset_self hi', hcx, if_pos rfl, hval]
     unfold In
     rw [if_pos rfl]
     exact how
    ·have hc : cellAt E e ((xs.set j z).getD i' (E.dflt e)) j' = cellAt E e (xs.getD i' (E.dflt e)) j' := by
      by_cases h : i' = j
      ·subst h
       rw [rset_self hi', hcx, if_neg fun h => hij ⟨rfl, h⟩]
      ·rw [rset_ne h]
     rw [hc]
     have := hin i' j' hi' hj'
     unfold In at this ⊢
     rw [if_pos rfl] at this ⊢
     exact this.keep fun k hk => ⟨hk, hkeep k fun e => by
      subst e
      obtain ⟨r1, r2⟩ := hd i' j' j off _ hi' hj' q1 q2 hk hfg
      exact hij ⟨r1, r2⟩⟩
   ·rw [hset] at hi'
    have hne : g2 ≠ g' := fun e => by subst e; exact hgown (by rw [hv]; rfl)
    rw [cell_keeps (w := w) (w' := w.setRow g' cs) (hkeep g2 hne)]
    have : ∃ ys0, cellAt E e (xs.getD i' (E.dflt e)) j' = .sl e2 ys0 := by
     by_cases h : i' = j
     ·subst h
      rw [rset_self hi', hcx j'] at hc
      split at hc
      ·rename_i h; subst h; cases hc; exact ⟨ys, hca⟩
      ·exact ⟨_, hc⟩
     ·rw [rset_ne h] at hc; exact ⟨_, hc⟩
    obtain ⟨ys0, h0⟩ := this
    exact hds i' j' e2 ys0 g2 L2 cap2 hi' hj' h0 hv)
  (fun k hk => ⟨(hM.lo id _ hb k hk).1, by simpa using (hM.lo id _ hb k hk).2.1, (hM.lo id _ hb k hk).2.2, fun j' b hj' hne hk' => hM.dj id j' _ b hb hj' (Ne.symm hne) _ hk hk'⟩)
 rw [hG] at hM'
 exact ⟨_, hrun, hM', hmle, hI⟩
theorem store_sound (hE : EnvOK E P) (hM : Mr E w0 Φ I0 G m n w) (hT : Tr E G ts m n a w) {t : TypeId} {i : TI} (hi : E.info t = some i) {p : A1 E} {u : Value} (hp : A1r E G w m n p u) {v : A2 E} {x : Value} (hv : A2r E G w m n v x)
  (h : (storeA i p v).run m K = some r) :
  ∃ m' w' G', K (.v (.c .junk)) m' = some r ∧ (Instr.storeAt t u x).run P w = .ok () w' ∧ Mr E w0 Φ I0 G' m' (n + wide) w' ∧ Tr E G' ts m' (n + wide) a w' := by
 have hnn : n ≤ n + wide := Nat.le_add_right _ _
 obtain ⟨p, hp, h, hnap⟩ := store_ap hp h
 unfold storeA at h
 split at h
 ·rename_i hlen
  have hpos := (hE.pos t i hi).1
  have hx := cellsOf_rel hv (.inl (by omega))
  have hxs : x.cells.size = i.size := by rw [hx.1, hlen]
  have hx1 : ∀ v ∈ x.cells.toList, v.oneCell' = true := fun y hy => by
   obtain ⟨k, hk⟩ := List.getElem?_of_mem hy
   have hkl : k < (cellsOfA v).length := by
    have := (List.getElem?_eq_some_iff.1 hk).1
    rw [← hx.1]; simpa using this
   obtain ⟨u', hu', _, h3⟩ := hx.get (List.getElem?_eq_getElem hkl)
   rw [hk] at hu'
   cases hu'
   exact h3
  split at h
  ·rename_i id off
   obtain ⟨b, hb, h⟩ := run_get h
   split at h
   ·rename_i cs
    split at h
    ·rename_i hoff
     have h' := run_put h
     obtain ⟨⟨arr, ty, h1, h2⟩, h4⟩ := hM.bl id _ hb
     obtain rfl := hp.2.2 _ hb
     have hrun := storeVar_run (P := P) (w := w) hE hi hxs hx1 h1 (Loose.of _) (by rw [h2.1]; exact hoff)
     have hmle := Mle.box (G := G) (n := n) hb (G.hd id) (fun k => k = G.bk id) (cs' := setls cs off (cellsOfA v))
     have hlo := hM.lo id _ hb _ h4
     have hi' : ∀ k, G.I k → G.I k ∧ (w.setRow (G.bk id) (setls arr.toList off x.cells.toList).toArray).heap[k]? = w.heap[k]? := fun k hk => ⟨hk, setRow_other w _ k _ fun e => by subst e; exact hlo.2.2 hk⟩
     refine ⟨_, _, G.upd id (G.hd id) (G.bk id) (fun k => k = G.bk id), h', hrun, hM.put (Ψ := fun k => k = G.bk id) (Nat.lt_of_lt_of_le (hM.lt id _ hb) hnn) hnn (setRow_frame w _ _) ?_ hmle ⟨⟨(setls arr.toList off x.cells.toList).toArray, ty, ?_, ?_⟩, ?_⟩ ?_, hT.keep hmle hnn hi'⟩
     ·rintro k rfl
      exact ⟨hlo.1, hlo.2.2, fun j b hj hne hk => hM.dj id j _ b hb hj (Ne.symm hne) _ h4 hk⟩
     ·simp only [Gh.upd, if_true]; exact setRow_heap w _ arr _ ty _ h1
     ·exact (h2.setls hx (by rw [hlen]; exact hoff)).keep hmle hnn hi'
     ·simp [Gh.upd]
     ·rintro k rfl
      exact ⟨hlo.1, by simpa using hlo.2.1, hlo.2.2, fun j b hj hne hk => hM.dj id j _ b hb hj (Ne.symm hne) _ h4 hk⟩
    ·cases h
   ·cases h
  ·rename_i id j off
   obtain ⟨cs, d', m', F1, g1, g2, g3, g4, g5, g6, g7, g8⟩ := toCells_sound i.ck (cellsOfA v) true hM hx h
   obtain ⟨b, hb, g1⟩ := run_get g1
   split at g1
   ·rename_i d e xs
    split at g1
    ·rename_i hoff
     split at g1
     ·rename_i y hy
      rw [putE_eq hy] at g1
      have h' := run_put g1
      obtain ⟨hjl, g, L, cap, hhd, rfl⟩ := hp.2.2 _ _ _ (g3 _ _ hb)
      obtain ⟨inner, F0, ho, hbk, hf, hdj, hin⟩ := g2.bl id _ hb
      have hLL : L = xs.length := by
       obtain ⟨A, cap', hv', _⟩ := ownsG_form ho
       rw [hhd] at hv'; cases hv'; rfl
      subst hLL
      have hfg : G.fp id g := hbk g (by rw [hhd]; rfl)
      have hszl : (E.cells e (xs.getD j (E.dflt e))).length = E.sz e := by
       rcases hE.len e (xs.getD j (E.dflt e)) with h0 | h0
       ·omega
       ·exact h0
      have hcl : cs.length = i.size := by rw [g4, hlen]
      have hxl : x.cells.toList.length = i.size := by simp [hxs]
      have hle : j * E.sz e + off + i.size ≤ xs.length * E.sz e := by
       have : (j + 1) * E.sz e ≤ xs.length * E.sz e := Nat.mul_le_mul_right _ hjl
       rw [Nat.add_mul, Nat.one_mul] at this
       omega
      rw [hhd] at ho
      obtain ⟨cur, fz, c1, c2, c3, c4⟩ := ownsG_set ho (o := j * E.sz e + off) (vs := x.cells.toList) (by rw [hxl]; exact hle)
      have hrun := storeVar_run (P := P) (w := w) hE hi hxs hx1 c1 c2 (o := j * E.sz e + off) (by rw [hxl] at c3; exact c3)
      have hyc := hE.make _ _ _ hy
      have hlo := g2.lo id _ hb g hfg
      have hfp : ∀ k, G.fp id k → (w0.heap.size ≤ k ∨ Φ k) ∧ k < w.heap.size ∧ ¬ G.I k ∧ ∀ j' b, look m' j' = some b → j' ≠ id → ¬ G.fp j' k := fun k hk =>
       ⟨(g2.lo id _ hb k hk).1, (g2.lo id _ hb k hk).2.1, (g2.lo id _ hb k hk).2.2, fun j' b hj' hne hk' => g2.dj id j' _ b hb hj' (Ne.symm hne) k hk hk'⟩
      have hg1 : ∀ y' k, F1 y' k → (w0.heap.size ≤ k ∨ Φ k) ∧ k < w.heap.size ∧ ¬ G.I k ∧ ∀ j' b, look m' j' = some b → ¬ G.fp j' k := fun y' k hk => (g7 y' k hk).facts hM g3
      let at_ : Nat → Nat → Prop := fun x' y' => x' = j ∧ off ≤ y' ∧ y' < off + i.size
      let F : Nat → Nat → Nat → Prop := fun x' y' k => (at_ x' y' ∧ F1 (y' - off) k) ∨ (¬ at_ x' y' ∧ F0 x' y' k)
      have hset : (xs.set j y).length = xs.length := by simp
      have hA : ∀ x' y', x' < (xs.set j y).length → y' < E.sz e → Give E (w.setRow g (setls cur.toList (j * E.sz e + off) x.cells.toList).toArray) G.I (F x' y') (d && d') ((setls inner (j * E.sz e + off) x.cells.toList).getD (x' * E.sz e + y') undef) (cellAt E e ((xs.set j y).getD x' (E.dflt e)) y') := fun x' y' hx' hy' => by
       rw [hset] at hx'
       have hkeepR : ∀ k, k < w.heap.size → k ≠ g → (w.setRow g (setls cur.toList (j * E.sz e + off) x.cells.toList).toArray).heap[k]? = w.heap[k]? := fun k _ hk => setRow_other w g k _ hk
       have hgI : ∀ k, G.I k → k ≠ g := fun k hk e => by subst e; exact hlo.2.2 hk
       by_cases hat : at_ x' y'
       ·obtain ⟨hxj, hy1, hy2⟩ := hat
        subst hxj
        have e1 : (xs.set x' y).getD x' (E.dflt e) = y := by simp [List.getD_eq_getElem?_getD, hx']
        have e2 : (setls inner (x' * E.sz e + off) x.cells.toList).getD (x' * E.sz e + y') undef = x.cells.toList.getD (y' - off) undef := by
         simp only [List.getD_eq_getElem?_getD]
         rw [setls_get _ _ _ _ (by rw [hxl, ho.1]; exact hle), if_pos (by rw [hxl]; omega)]
         congr 2; omega
        have e3 : cs[y' - off]? = some (cellAt E e y y') := by
         have hl : y' - off < cs.length := by omega
         simp only [cellAt, hyc, List.getD_eq_getElem?_getD]
         have hoff' : off + i.size ≤ (E.cells e (xs[x']?.getD (E.dflt e))).length := by rw [← List.getD_eq_getElem?_getD]; exact hoff
         rw [setls_get _ _ _ _ (by omega), if_pos (by omega), List.getElem?_eq_getElem hl]; rfl
        have e4 : x.cells.toList[y' - off]? = some (x.cells.toList.getD (y' - off) undef) := by
         have hl : y' - off < x.cells.toList.length := by omega
         simp [List.getD_eq_getElem?_getD, List.getElem?_eq_getElem hl]
        rw [e1, e2]
        have hgv := g6 (y' - off) _ _ e4 e3
        have hk1 : ∀ k, F1 (y' - off) k → k ≠ g := fun k hk e => by subst e; exact (hg1 _ _ hk).2.2.2 id _ hb hfg
        refine ⟨hgv.1.keep fun k hk => ⟨hk.imp _root_.id fun h => .inl ⟨⟨rfl, hy1, hy2⟩, h⟩, ?_⟩, fun hd => ?_⟩
        ·rcases hk with hk | hk
         ·exact hkeepR k (g2.il k hk) (hgI k hk)
         ·exact hkeepR k (hg1 _ _ hk).2.1 (hk1 k hk)
        ·have hd' : d' = true := by simp at hd; exact hd.2
         exact (hgv.2 hd').keep fun k hk => ⟨.inl ⟨⟨rfl, hy1, hy2⟩, hk⟩, hkeepR k (hg1 _ _ hk).2.1 (hk1 k hk)⟩
       ·have hin' := hin x' y' hx' hy'
        have e2 : (setls inner (j * E.sz e + off) x.cells.toList).getD (x' * E.sz e + y') undef = inner.getD (x' * E.sz e + y') undef := by
         simp only [List.getD_eq_getElem?_getD]
         rw [setls_get _ _ _ _ (by rw [hxl, ho.1]; exact hle), if_neg]
         rintro ⟨q1, q2⟩
         rw [hxl] at q2
         apply hat
         have hxj : x' = j := by
          rcases Nat.lt_trichotomy x' j with h1 | h1 | h1
          ·have : (x' + 1) * E.sz e ≤ j * E.sz e := Nat.mul_le_mul_right _ h1
           rw [Nat.add_mul, Nat.one_mul] at this
           omega
          ·exact h1
          ·have : (j + 1) * E.sz e ≤ x' * E.sz e := Nat.mul_le_mul_right _ h1
           rw [Nat.add_mul, Nat.one_mul] at this
           omega
         subst hxj
         exact ⟨rfl, by omega, by omega⟩
        have e3 : cellAt E e ((xs.set j y).getD x' (E.dflt e)) y' = cellAt E e (xs.getD x' (E.dflt e)) y' := by
         by_cases hxj : x' = j
         ·subst hxj
          have e1 : (xs.set x' y).getD x' (E.dflt e) = y := by simp [List.getD_eq_getElem?_getD, hx']
          rw [e1]
          simp only [cellAt, hyc, List.getD_eq_getElem?_getD]
          rw [setls_get _ _ _ _ (by rw [hcl, ← List.getD_eq_getElem?_getD]; exact hoff), if_neg (by rw [hcl]; exact fun hq => hat ⟨rfl, hq⟩)]
         ·congr 1
          simp only [List.getD_eq_getElem?_getD]
          rw [List.getElem?_set_ne (Ne.symm hxj)]
        rw [e2, e3]
        have hk0 : ∀ k, F0 x' y' k → k < w.heap.size ∧ k ≠ g := fun k hk => by
         obtain ⟨q1, q2⟩ := hf x' y' k hx' hy' hk
         refine ⟨(g2.lo id _ hb k q1).2.1, fun e => q2 ?_⟩
         rw [hhd, e]; rfl
        refine ⟨?_, fun hd => ?_⟩
        ·unfold In at hin'
         split at hin'
         ·exact (hin'.rd (I := fun k => G.I k ∨ F0 x' y' k) fun k hk => .inr hk).keep fun k hk => ⟨hk.imp _root_.id fun h => .inr ⟨hat, h⟩, hk.elim (fun h => hkeepR k (g2.il k h) (hgI k h)) fun h => hkeepR k (hk0 k h).1 (hk0 k h).2⟩
         ·exact hin'.keep fun k hk => ⟨.inl hk, hkeepR k (g2.il k hk) (hgI k hk)⟩
        ·have hd' : d = true := by simp at hd; exact hd.1
         unfold In at hin'
         rw [if_pos hd'] at hin'
         exact hin'.keep fun k hk => ⟨.inr ⟨hat, hk⟩, hkeepR k (hk0 k hk).1 (hk0 k hk).2⟩
      have hB : ∀ x' y' k, x' < (xs.set j y).length → y' < E.sz e → F x' y' k → (w0.heap.size ≤ k ∨ Φ k) ∧ k < w.heap.size ∧ ¬ G.I k ∧ ¬ k = g ∧ ∀ j' b, look m' j' = some b → j' ≠ id → ¬ G.fp j' k := fun x' y' k hx' hy' hk => by
       rw [hset] at hx'
       rcases hk with ⟨_, hk⟩ | ⟨_, hk⟩
       ·obtain ⟨q1, q2, q3, q4⟩ := hg1 _ _ hk
        exact ⟨q1, q2, q3, fun e => by subst e; exact q4 id _ hb hfg, fun j' b hj' _ => q4 j' b hj'⟩
       ·obtain ⟨q1, q2⟩ := hf x' y' k hx' hy' hk
        obtain ⟨p1, p2, p3, p4⟩ := hfp k q1
        exact ⟨p1, p2, p3, fun e => q2 (by rw [hhd, e]; rfl), p4⟩
      have hC : ∀ x1 y1 x2 y2 k, x1 < (xs.set j y).length → y1 < E.sz e → x2 < (xs.set j y).length → y2 < E.sz e → F x1 y1 k → F x2 y2 k → x1 = x2 ∧ y1 = y2 := fun x1 y1 x2 y2 k hx1 hy1 hx2 hy2 hk1 hk2 => by
       rw [hset] at hx1 hx2
       have cross : ∀ y' x'' y'' k, x'' < xs.length → y'' < E.sz e → F1 y' k → F0 x'' y'' k → False := fun y' x'' y'' k q1 q2 q3 q4 => (hg1 _ _ q3).2.2.2 id _ hb (hf x'' y'' k q1 q2 q4).1
       rcases hk1 with ⟨a1, hk1⟩ | ⟨a1, hk1⟩ <;> rcases hk2 with ⟨a2, hk2⟩ | ⟨a2, hk2⟩
       ·have := g8 _ _ k hk1 hk2
        obtain ⟨p1, p2, p3⟩ := a1
        obtain ⟨q1, q2, q3⟩ := a2
        exact ⟨by rw [p1, q1], by omega⟩
       ·exact (cross _ _ _ k hx2 hy2 hk1 hk2).elim
       ·exact (cross _ _ _ k hx1 hy1 hk2 hk1).elim
       ·exact hdj x1 y1 x2 y2 k hx1 hy1 hx2 hy2 hk1 hk2
      obtain ⟨G', r1, r2, r3, r4⟩ := row_core (id := id) (n' := n + wide) (d := d && d') (F := F) (Ψ := fun k => k = g) (xs := xs.set j y) (v := G.hd id) (inner := setls inner (j * E.sz e + off) x.cells.toList) (g2.x id) (Nat.lt_of_lt_of_le (g2.lt id _ hb) hnn) hnn (setRow_frame w g (setls cur.toList (j * E.sz e + off) x.cells.toList).toArray)
       (by rintro k rfl; exact ⟨hlo.1, hlo.2.2, (hfp _ hfg).2.2.2⟩) (by rw [hset, hhd]; exact c4) (fun k hk => by rw [hhd] at hk; simp [Value.ownBlock] at hk; exact .inr hk.symm) hA hB hC (fun I' Fp => Mle.row (G := { G with I := I' }) hb hset 0 Fp)
      refine ⟨_, _, G', h', hrun, r1, ?_⟩
      exact (hT.keep g3.mle (Nat.le_refl _) fun k hk => ⟨hk, rfl⟩).keep r2 hnn r4
     ·cases g1
    ·cases g1
   ·cases g1
  ·exact absurd rfl (hnap _ _ _ _)
  ·rename_i id j off l o
   split at h
   ·rename_i vs hvs
    obtain ⟨b, hb, h⟩ := run_get h
    split at h
    ·rename_i e xs
     split at h
     ·rename_i e' ys hc
      obtain ⟨hll, h⟩ := run_need h
      split at h
      ·rename_i hlo
       split at h
       ·rename_i y hy
        rw [putE_eq hy] at h
        split at h
        ·rename_i z hz
         rw [putE_eq hz] at h
         have h' := run_put h
         have hcs := plainV_map hvs
         have hxv : x.cells.toList = vs := by
          apply List.ext_getElem?
          intro k
          by_cases hk : k < vs.length
          ·obtain ⟨u', hu', h2, h3⟩ := hx.get (j := k) (c := .s vs[k]) (by rw [hcs, List.getElem?_map, List.getElem?_eq_getElem hk]; rfl)
           rw [hu', List.getElem?_eq_getElem hk]
           exact congrArg some h2.1
          ·have hl : x.cells.toList.length = vs.length := by rw [Array.length_toList, hx.1, hcs, List.length_map]
           rw [List.getElem?_eq_none (by omega), List.getElem?_eq_none (by omega)]
         obtain ⟨w', g1, g2, g3, g4⟩ := store_hp hE hM hi hp hb (cell_of hc) (by rw [geta_eq] at hc; exact (List.getElem?_eq_some_iff.1 hc).1) hll hlo hpos hxs hxv hx1 hy hz
         exact ⟨_, w', G, h', g1, g2.to hnn, hT.keep g3 hnn g4⟩
        ·cases h
       ·cases h
      ·cases h
     ·cases h
    ·cases h
   ·cases h
  ·cases h
 ·cases h
end
end Go.B

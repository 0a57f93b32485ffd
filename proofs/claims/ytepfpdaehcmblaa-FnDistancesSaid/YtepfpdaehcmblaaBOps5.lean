/- What the reckoner's plain operations say of the program's: variables and rows that are made. -/
import Derived.Test.YtepfpdaehcmblaaBOps4
namespace Go.B
open Go Go.RowKit
set_option linter.unusedVariables false
set_option linter.unusedSimpArgs false
variable {E : Env} {P : Program}
theorem setls_get {α : Type} : ∀ (ys xs : List α) (off j : Nat), off + ys.length ≤ xs.length → (setls xs off ys)[j]? = if off ≤ j ∧ j < off + ys.length then ys[j - off]? else xs[j]?
 | [], xs, off, j, _ => by
  simp only [setls, List.length_nil, Nat.add_zero]
  rw [if_neg (by omega)]
 | y :: ys, xs, off, j, h => by
  simp only [List.length_cons] at h
  simp only [setls, setl_eq]
  rw [setls_get ys (xs.set off y) (off + 1) j (by simp; omega)]
  simp only [List.length_cons, List.getElem?_set]
  by_cases h1 : off + 1 ≤ j ∧ j < off + 1 + ys.length
  ·rw [if_pos h1, if_pos (by omega)]
   have : j - off = (j - (off + 1)) + 1 := by omega
   rw [this, List.getElem?_cons_succ]
  ·rw [if_neg h1]
   by_cases h2 : off = j
   ·subst h2
    rw [if_pos rfl, if_pos (by omega), if_pos (by omega)]; simp
   ·rw [if_neg h2, if_neg (by omega)]
theorem setls_length {α : Type} : ∀ (ys xs : List α) (off : Nat), (setls xs off ys).length = xs.length
 | [], _, _ => rfl
 | y :: ys, xs, off => by simp [setls, setl_eq, setls_length ys]
theorem foldl_set : ∀ (l : List Value) (k off : Nat) (cs : Array Value), off + k + l.length ≤ cs.size →
  ((l.zipIdx k).foldl (fun cs (x : Value × Nat) => cs.setIfInBounds (off + x.2) x.1) cs).toList = setls cs.toList (off + k) l
 | [], k, off, cs, _ => by simp [setls]
 | v :: l, k, off, cs, h => by
  simp only [List.length_cons] at h
  simp only [List.zipIdx_cons, List.foldl_cons, setls, setl_eq]
  rw [foldl_set l (k + 1) off _ (by simp; omega)]
  simp [Array.toList_setIfInBounds, Nat.add_assoc]
section
variable {R : Type} {G : Gh} {w w0 : World} {m : Mem E} {n : Nat} {K : AV E → Mem E → Option R} {r : R} {Φ : Nat → Prop} {I0 : Ent} {ts : List (AV E)} {a : Act}
theorem A1l.get {cs : List (A1 E)} {arr : Array Value} (h : A1l E G w m n cs arr) {j : Nat} {c : A1 E} (hj : cs[j]? = some c) : ∃ u, arr.toList[j]? = some u ∧ A1r E G w m n c u ∧ u.oneCell' = true := by
 have hl : j < arr.size := by rw [h.1]; exact (List.getElem?_eq_some_iff.1 hj).1
 have := h.2 j c hj
 rw [Array.getD_eq_getD_getElem?, Array.getElem?_eq_getElem hl] at this
 exact ⟨arr[j], by simp [hl], this⟩
theorem A1l.of {cs : List (A1 E)} {arr : Array Value} (h1 : arr.size = cs.length) (h2 : ∀ (j : Nat) (c : A1 E), cs[j]? = some c → ∃ u, arr.toList[j]? = some u ∧ A1r E G w m n c u ∧ u.oneCell' = true) : A1l E G w m n cs arr := by
 refine ⟨h1, fun j c hj => ?_⟩
 obtain ⟨u, hu, h3⟩ := h2 j c hj
 have : arr.getD j undef = u := by rw [Array.getD_eq_getD_getElem?, ← Array.getElem?_toList, hu]; rfl
 rw [this]; exact h3
theorem cellsOf_rel {x : A2 E} {u : Value} (h : A2r E G w m n x u) (hx : 0 < (cellsOfA x).length ∨ ∃ cs, x = .g cs) : A1l E G w m n (cellsOfA x) u.cells := by
 cases x with
 | c a =>
  have ha : a ≠ .junk := by
   rintro rfl
   rcases hx with hx | ⟨cs, hx⟩
   ·simp [cellsOfA] at hx
   ·cases hx
  have h1 : u.oneCell' = true := A1r.one (a := a) h ha
  have hc : cellsOfA (.c a) = [a] := by cases a <;> first | rfl | exact absurd rfl ha
  have hu : u.cells = #[u] := by cases u <;> first | rfl | simp [Value.oneCell'] at h1
  rw [hc, hu]
  refine .of rfl fun j c hj => ?_
  cases j with
  | zero => simp at hj; subst hj; exact ⟨u, by simp, h, h1⟩
  | succ j => simp at hj
 | g cs =>
  obtain ⟨arr, rfl, h⟩ := h
  exact h
theorem A1l.setls {cs ds : List (A1 E)} {arr brr : Array Value} {off : Nat} (h : A1l E G w m n cs arr) (hd : A1l E G w m n ds brr) (ho : off + ds.length ≤ cs.length) :
  A1l E G w m n (setls cs off ds) (B.setls arr.toList off brr.toList).toArray := by
 have hb : brr.toList.length = ds.length := by simp [hd.1]
 have ha : arr.toList.length = cs.length := by simp [h.1]
 refine .of (by simp [setls_length, h.1]) fun j c hj => ?_
 rw [setls_get _ _ _ _ ho] at hj
 simp only [List.toList_toArray]
 rw [setls_get _ _ _ _ (by omega), hb]
 split at hj
 ·rename_i hjj
  rw [if_pos hjj]; exact hd.get hj
 ·rename_i hjj
  rw [if_neg hjj]; exact h.get hj
theorem fill_sound {pa : Nat → Option (Nat × Nat)} {pb : Nat → Option (Nat × Nat)} (hp : ∀ i q, pa i = some q → pb i = some q ∧ 0 < q.2) : ∀ {ps : List (Nat × A2 E)} {qs : List (Nat × Value)} {cs cs' : List (A1 E)} {arr : Array Value},
  A1l E G w m n cs arr → fillA pa cs ps = some cs' → ps.map (·.1) = qs.map (·.1) → (∀ (j : Nat) (p : Nat × A2 E) (q : Nat × Value), ps[j]? = some p → qs[j]? = some q → A2r E G w m n p.2 q.2) →
  ∃ arr', Instr.fill pb arr qs = some arr' ∧ A1l E G w m n cs' arr' ∧ cs'.length = cs.length
 | [], qs, cs, cs', arr, h, hf, hq, _ => by
  cases qs with
  | nil => simp only [fillA] at hf; cases hf; exact ⟨arr, rfl, h, rfl⟩
  | cons => simp at hq
 | (i, x) :: ps, qs, cs, cs', arr, h, hf, hq, hr => by
  cases qs with
  | nil => simp at hq
  | cons q qs =>
   obtain ⟨i', u⟩ := q
   simp only [List.map_cons, List.cons.injEq] at hq
   obtain ⟨hii, hq⟩ := hq
   have hii' : i = i' := hii
   subst hii'
   simp only [fillA] at hf
   split at hf
   ·cases hf
   ·rename_i off size hpa
    obtain ⟨hpb, hpos⟩ := hp _ _ hpa
    split at hf
    ·rename_i hs
     have hx : A1l E G w m n (cellsOfA x) u.cells := cellsOf_rel (hr 0 _ _ rfl rfl) (.inl (by simp only at hpos; omega))
     have hus : u.cells.size = size := by rw [hx.1]; exact hs.1
     have hl : off + u.cells.size ≤ arr.size := by rw [hus, h.1]; exact hs.2
     have hset := A1l.setls h hx (off := off) (by rw [hs.1]; exact hs.2)
     have hfold : (B.setls arr.toList off u.cells.toList).toArray = u.cells.zipIdx.foldl (fun cs (x : Value × Nat) => cs.setIfInBounds (off + x.2) x.1) arr := by
      apply Array.ext'
      have := foldl_set u.cells.toList 0 off arr (by simpa using hl)
      simp only [Nat.add_zero] at this
      rw [List.toList_toArray, ← this]
      congr 1
      rw [← Array.foldl_toList]
      simp
     rw [hfold] at hset
     obtain ⟨arr', h1, h2, h3⟩ := fill_sound hp hset hf hq (fun j p q hj hj' => hr (j + 1) p q (by simpa using hj) (by simpa using hj'))
     refine ⟨arr', ?_, h2, by rw [h3, setls_length]⟩
     unfold Instr.fill
     simp only [hpb]
     rw [if_neg (by simp [hus]; omega)]
     exact h1
    ·cases hf
theorem a2s_sound (hT : Tr E G ts m n a w) : ∀ {ps : List (Nat × Operand)} {qs : List (Nat × A2 E)}, a2s ts ps = some qs →
  qs.map (·.1) = (ps.map fun x => (x.1, a.eval x.2)).map (·.1) ∧ ∀ (j : Nat) (p : Nat × A2 E) (q : Nat × Value), qs[j]? = some p → (ps.map fun x => (x.1, a.eval x.2))[j]? = some q → A2r E G w m n p.2 q.2
 | [], qs, h => by simp only [a2s] at h; cases h; exact ⟨rfl, fun j p q hj => by simp at hj⟩
 | (i, x) :: ps, qs, h => by
  simp only [a2s] at h
  split at h
  ·rename_i y hy
   split at h
   ·rename_i l hl
    cases h
    obtain ⟨h1, h2⟩ := a2s_sound hT hl
    refine ⟨by simp only [List.map_cons, h1], fun j p q hj hj' => ?_⟩
    cases j with
    | zero =>
     simp at hj hj'; subst hj; subst hj'
     have := Aeval_rel hT x
     rw [hy] at this
     exact this
    | succ j => exact h2 j p q (by simpa using hj) (by simpa using hj')
   ·cases h
  ·cases h
theorem zeroA_rel {z : Value} (h : z.cells.toList.all (fun v => v.oneCell') = true) : A1l E G w m n (zeroA z) z.cells := by
 refine .of (by simp [zeroA]) fun j c hj => ?_
 simp only [zeroA, List.getElem?_map] at hj
 obtain ⟨v, hv, rfl⟩ := Option.map_eq_some_iff.1 hj
 have := List.all_eq_true.1 h v (List.mem_of_getElem? hv)
 exact ⟨v, hv, ⟨rfl, this⟩, this⟩
theorem box_sound (hM : Mr E w0 Φ I0 G m n w) (hT : Tr E G ts m n a w) {cs : List (A1 E)} {arr : Array Value} (hc : A1l E G w m n cs arr) (t : TypeId) (hn : n < n + wide) :
  ∃ G', Mr E w0 Φ I0 G' (setm m n (.box cs)) (n + wide) (w.alloc (.cells arr t)) ∧ Tr E G' ts (setm m n (.box cs)) (n + wide) a (w.alloc (.cells arr t)) ∧
   AVr E G' (w.alloc (.cells arr t)) (setm m n (.box cs)) (n + wide) (.v (.c (.bp n 0))) (.pointer (some ⟨w.heap.size, 0, none⟩)) := by
 have hf : Frame (fun _ => False) w (w.alloc (.cells arr t)) := ⟨rfl, rfl, rfl, by simp, fun k hk _ => Below.heap_alloc w _ k hk⟩
 have hm := Mle.new (G := G) (m := m) (n := n) (.box cs) (.bool false) w.heap.size (fun k => k = w.heap.size)
 have hi : ∀ k, G.I k → (G.upd n (.bool false) w.heap.size fun k => k = w.heap.size).I k ∧ (w.alloc (.cells arr t)).heap[k]? = w.heap[k]? := fun k hk => ⟨hk, Below.heap_alloc w _ k (hM.il k hk)⟩
 refine ⟨G.upd n (.bool false) w.heap.size (fun k => k = w.heap.size), hM.put (Ψ := fun _ => False) hn (Nat.le_of_lt hn) hf (fun _ h => h.elim) hm ⟨⟨arr, t, ?_, hc.keep hm (Nat.le_of_lt hn) hi⟩, ?_⟩ ?_, hT.keep hm (Nat.le_of_lt hn) hi, hn, ⟨_, rfl⟩, ?_⟩
 ·show (w.heap.push _)[(if n = n then w.heap.size else _)]? = _
  rw [if_pos rfl]; simp
 ·simp [Gh.upd]
 ·rintro k rfl
  refine ⟨.inl hM.fr.size, by simp, fun hI => ?_, fun j b hj _ hk => ?_⟩
  ·exact Nat.lt_irrefl _ (hM.il _ hI)
  ·exact Nat.lt_irrefl _ (hM.lo j b hj _ hk).2.1
 ·intro cs' _
  simp [Gh.upd]
end
end Go.B

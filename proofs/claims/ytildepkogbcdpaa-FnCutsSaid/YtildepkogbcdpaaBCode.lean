/- Regions, branches, loops: what the reckoner says of the program's code. -/
import Derived.Test.YtildepkogbcdpaaBOp
namespace Go.B
open Go Go.RowKit
set_option linter.unusedVariables false
set_option linter.unusedSimpArgs false
variable {E : Env} {P : Program}
section
variable {R : Type} {G : Gh} {w w0 w1 w' : World} {m m' m1 m2 : Mem E} {n : Nat} {r : R} {Φ Ψ : Nat → Prop} {I0 : Ent} {ts : List (AV E)} {a : Act} {Q : Exit → Act → World → Prop}
theorem Tr.setT (h : Tr E G ts m n a w) (t : Nat) {x : AV E} (hx : AVr E G w m n x (a.tmps.getD t undef)) : Tr E G (setl ts t x) m n a w := by
  refine ⟨h.df, by simp [setl_eq, h.sz], fun t' y hy => ?_⟩
  rw [setl_eq, List.getElem?_set] at hy
  split at hy
  · rename_i e; subst e
    split at hy
    · cases hy; exact hx
    · cases hy
  · exact h.tm t' y hy
theorem Tr.get (h : Tr E G ts m n a w) {t : Nat} {x : AV E} (hx : geta ts t = some x) : a.tmps[t]? = some (a.tmps.getD t undef) ∧ AVr E G w m n x (a.tmps.getD t undef) := by
  rw [geta_eq] at hx
  have hl : t < a.tmps.size := by rw [h.sz]; exact (List.getElem?_eq_some_iff.1 hx).1
  refine ⟨by rw [Array.getD_eq_getD_getElem?, Array.getElem?_eq_getElem hl]; rfl, h.tm t x hx⟩
theorem undef_rel : AVr E G w m n (.tup []) undef := ⟨#[], rfl, rfl, fun j b hj => by simp at hj⟩
/-- The operations of a region, one after the other. -/
theorem evOps_sound (hE : EnvOK E P) {C : FuncId → Option (Entry E)} (hC : CSound E P C) {ops : Array Oper} {K : List (AV E) → Mem E → Nat → Option R}
    (hK : ∀ ts m n G a w, K ts m n = some r → Mr E w0 Φ I0 G m n w → Tr E G ts m n a w → Q .normal a w) :
    ∀ (rest : List Oper) (i n : Nat) (ts : List (AV E)) (m : Mem E) (G : Gh) (a : Act) (w : World), rest = ops.toList.drop i → evOps C ops.toList rest n ts m K = some r → Mr E w0 Φ I0 G m n w → Tr E G ts m n a w →
      wpOps P ops Q (List.range' i rest.length) a w
  | [], i, n, ts, m, G, a, w, _, h, hM, hT => hK ts m n G a w h hM hT
  | o :: rest, i, n, ts, m, G, a, w, hr, h, hM, hT => by
    have ho : ops[i]? = some o := by
      have : (ops.toList.drop i)[0]? = some o := by rw [← hr]; rfl
      rw [List.getElem?_drop, Nat.add_zero] at this
      rw [← Array.getElem?_toList]; exact this
    have hrest : rest = ops.toList.drop (i + 1) := by rw [← List.drop_drop, ← hr]; rfl
    have hn1 : n ≤ n + wide := Nat.le_add_right _ _
    simp only [evOps, forceN_eq] at h
    simp only [List.length_cons, List.range'_succ, wpOps, ho]
    -- what follows
    have go : ∀ (ts' : List (AV E)) (m' : Mem E) (G' : Gh) (a' : Act) (w' : World), evOps C ops.toList rest (n + wide) ts' m' K = some r → Mr E w0 Φ I0 G' m' (n + wide) w' → Tr E G' ts' m' (n + wide) a' w' → wpOps P ops Q (List.range' (i + 1) rest.length) a' w' :=
      fun ts' m' G' a' w' h1 h2 h3 => evOps_sound hE hC hK rest (i + 1) (n + wide) ts' m' G' a' w' hrest h1 h2 h3
    have run : ∀ (ts1 : List (AV E)), Tr E G ts1 m n a w → ((evOp C n ts1 o.op).run m fun v m => putK ts1 o.dst v fun ts => evOps C ops.toList rest (n + wide) ts m K) = some r → o.wp P a w (wpOps P ops Q (List.range' (i + 1) rest.length)) Q := fun ts1 hT1 h1 =>
      evOp_sound hE hC hM hT1 h1 fun v m' G' u w' hk h2 h3 h4 => by
        rw [putK_eq] at hk
        exact go _ m' G' _ w' hk h2 (h3.put o.dst h4)
    have skip : ∀ (ts1 : List (AV E)), Tr E G ts1 m n a w → (putK ts1 o.dst (.tup []) fun ts => evOps C ops.toList rest (n + wide) ts m K) = some r → wpOps P ops Q (List.range' (i + 1) rest.length) (a.put o.dst undef) w := fun ts1 hT1 h1 => by
      rw [putK_eq] at h1
      exact go _ m G _ w h1 (hM.to hn1) ((hT1.to hn1).put o.dst undef_rel)
    unfold evOper at h
    split at h
    · rename_i hg
      have hw : Region.wanted o (yielded ops a.tmps) = true := by simp [Region.wanted, hg]
      rw [if_pos hw]
      exact .inl (run ts hT h)
    · rename_i j want hg
      split at h
      · rename_i oj hoj
        split at h
        · rename_i t ht
          have hoj' : ops[j]? = some oj := by rw [geta_eq] at hoj; rw [← Array.getElem?_toList]; exact hoj
          split at h
          · rename_i b hb
            obtain ⟨g1, g2⟩ := hT.get hb
            have hy : yielded ops a.tmps j = some b := by
              have hbv : a.tmps.getD t undef = .bool b := g2.1
              simp [yielded, hoj', ht, g1, hbv]
            have hbv : a.tmps.getD t undef = .bool b := g2.1
            split at h
            · rename_i hbw
              subst hbw
              have hw : Region.wanted o (yielded ops a.tmps) = true := by simp [Region.wanted, hg, hy]
              rw [if_pos hw]
              rw [setlK_eq] at h
              exact .inl (run _ (hT.setT t (x := .v (.c (.s (.bool b)))) ⟨hbv, rfl⟩) h)
            · rename_i hbw
              have hw : ¬ Region.wanted o (yielded ops a.tmps) = true := by simp [Region.wanted, hg, hy, hbw]
              rw [if_neg hw]
              rw [setlK_eq] at h
              have hb' : b = !want := by cases b <;> cases want <;> simp_all
              exact skip _ (hT.setT t (x := .v (.c (.s (.bool (!want))))) ⟨by rw [hbv, hb'], rfl⟩) h
          · rename_i hb
            obtain ⟨g1, arr, g2, g3, _⟩ := hT.get hb
            have hy : yielded ops a.tmps j = none := by simp [yielded, hoj', ht, g1, g2]
            have hw : ¬ Region.wanted o (yielded ops a.tmps) = true := by simp [Region.wanted, hg, hy]
            rw [if_neg hw]
            exact skip ts hT h
          · cases h
        · cases h
      · cases h

/-! ### a loop's head -/
theorem A1r.junk_or {f : A1 E → A1 E} (hf : ∀ b, f b = b ∨ f b = .junk) {b : A1 E} {u : Value} (h : A1r E G w m n b u) : A1r E G w m n (f b) u := by
  rcases hf b with e | e <;> rw [e]
  · exact h
  · trivial
theorem mapAV_rel {G' : Gh} {m' : Mem E} {n' : Nat} {f : A1 E → A1 E} (hf : ∀ b u, A1r E G w m n b u → A1r E G' w m' n' (f b) u) {b : AV E} {u : Value} (h : AVr E G w m n b u) : AVr E G' w m' n' (mapAV f b) u := by
  have h2 : ∀ (x : A2 E) (u : Value), A2r E G w m n x u → A2r E G' w m' n' (mapA2 f x) u := fun x u h => by
    cases x with
    | c b => exact hf b u h
    | g cs =>
      obtain ⟨arr, rfl, h1, h2⟩ := h
      refine ⟨arr, rfl, by simp [h1], fun j b hj => ?_⟩
      rw [List.getElem?_map] at hj
      obtain ⟨b', hb', rfl⟩ := Option.map_eq_some_iff.1 hj
      exact ⟨hf b' _ (h2 j b' hb').1, (h2 j b' hb').2⟩
  cases b with
  | v x => exact h2 x u h
  | tup vs =>
    obtain ⟨arr, rfl, h1, h3⟩ := h
    refine ⟨arr, rfl, by simp [h1], fun j b hj => ?_⟩
    rw [List.getElem?_map] at hj
    obtain ⟨b', hb', rfl⟩ := Option.map_eq_some_iff.1 hj
    exact h2 b' _ (h3 j b' hb')
theorem mapT_rel {G' : Gh} {m' : Mem E} {n' : Nat} {f : A1 E → A1 E} (hf : ∀ b u, A1r E G w m n b u → A1r E G' w m' n' (f b) u) (h : Tr E G ts m n a w) : Tr E G' (ts.map (mapAV f)) m' n' a w := by
  refine ⟨h.df, by simp [h.sz], fun t x hx => ?_⟩
  rw [List.getElem?_map] at hx
  obtain ⟨y, hy, rfl⟩ := Option.map_eq_some_iff.1 hx
  exact mapAV_rel hf (h.tm t y hy)
theorem look_map (f : A1 E → A1 E) : ∀ (m : Mem E) (j : Nat), look (mapM f m) j = (look m j).map (mapB f)
  | [], j => rfl
  | (i, b) :: m, j => by
    simp only [mapM, look]
    cases decEq i j with
    | isTrue _ => rfl
    | isFalse _ => exact look_map f m j
theorem look_low (n0 : Nat) : ∀ (m : Mem E) (j : Nat), look (lowM n0 m) j = if j < n0 then look m j else none
  | [], j => by simp [lowM, look]
  | (i, b) :: m, j => by
    simp only [lowM]
    cases Nat.decLt i n0 with
    | isTrue h =>
      simp only [look]
      cases decEq i j with
      | isTrue e => subst e; simp [h]
      | isFalse e => exact look_low n0 m j
    | isFalse h =>
      simp only [look]
      rw [look_low n0 m j]
      cases decEq i j with
      | isTrue e => subst e; simp [h]
      | isFalse e => rfl
theorem keepT_get (keep : List Tmp) : ∀ (i : Nat) (ts : List (AV E)) (t : Nat) (x : AV E), (keepT keep i ts)[t]? = some x → ∃ y, ts[t]? = some y ∧ (x = y ∨ x = .v (.c .junk))
  | i, [], t, x, h => by simp [keepT] at h
  | i, y :: ts, 0, x, h => by
    simp only [keepT, List.getElem?_cons_zero, Option.some.injEq] at h
    refine ⟨y, rfl, ?_⟩
    split at h
    · exact .inl h.symm
    · exact .inr h.symm
  | i, y :: ts, t + 1, x, h => by
    simp only [keepT, List.getElem?_cons_succ] at h
    simpa using keepT_get keep (i + 1) ts t x h
theorem keepT_length (keep : List Tmp) : ∀ (i : Nat) (ts : List (AV E)), (keepT keep i ts).length = ts.length
  | i, [] => rfl
  | i, y :: ts => by simp [keepT, keepT_length keep (i + 1) ts]
theorem keepT_rel (keep : List Tmp) (h : Tr E G ts m n a w) : Tr E G (keepT keep 0 ts) m n a w := by
  refine ⟨h.df, by rw [keepT_length]; exact h.sz, fun t x hx => ?_⟩
  obtain ⟨y, hy, e | e⟩ := keepT_get keep 0 ts t x hx
  · rw [e]; exact h.tm t y hy
  · rw [e]; trivial
end
end Go.B

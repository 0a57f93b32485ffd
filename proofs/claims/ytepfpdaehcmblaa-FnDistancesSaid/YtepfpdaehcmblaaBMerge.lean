/- One operation at a number of its own, where later numbers are taken already. -/
import Derived.Test.YtepfpdaehcmblaaBRen
import Derived.Test.YtepfpdaehcmblaaBOp
namespace Go.B
open Go Go.RowKit
set_option linter.unusedVariables false
set_option linter.unusedSimpArgs false
variable {E : Env} {P : Program}
section
variable {R : Type} {G : Gh} {w w0 w1 w' : World} {m m' m1 m2 : Mem E} {n : Nat} {r : R} {Φ Ψ : Nat → Prop} {I0 : Ent} {ts : List (AV E)} {a : Act} {Q : Exit → Act → World → Prop} {next : Act → World → Prop}
theorem refL_mem : ∀ {cs : List (A1 E)} {c : A1 E}, c ∈ cs → ∀ i ∈ refA c, i ∈ refL cs
 | c :: cs, d, h, i, hi => by
  rcases List.mem_cons.1 h with rfl | h
  ·exact List.mem_append_left _ hi
  ·exact List.mem_append_right _ (refL_mem h i hi)
theorem refL2_mem : ∀ {cs : List (A2 E)} {c : A2 E}, c ∈ cs → ∀ i ∈ refA2 c, i ∈ refL2 cs
 | c :: cs, d, h, i, hi => by
  rcases List.mem_cons.1 h with rfl | h
  ·exact List.mem_append_left _ hi
  ·exact List.mem_append_right _ (refL2_mem h i hi)
theorem minF_le : ∀ (ps : List (Nat × TypeId)) (a : Nat), minF a ps ≤ a ∧ ∀ p ∈ ps, minF a ps ≤ p.1
 | [], a => ⟨Nat.le_refl _, fun p hp => by cases hp⟩
 | q :: ps, a => by
  simp only [minF]
  cases hb : Nat.ble a q.1 with
  | true =>
   have h1 : a ≤ q.1 := Nat.le_of_ble_eq_true hb
   show minF a ps ≤ a ∧ ∀ p ∈ q :: ps, minF a ps ≤ p.1
   obtain ⟨h2, h3⟩ := minF_le ps a
   exact ⟨h2, fun p hp => by rcases List.mem_cons.1 hp with rfl | hp; omega; exact h3 p hp⟩
  | false =>
   have h1 : ¬ a ≤ q.1 := fun h => by rw [Nat.ble_eq_true_of_le h] at hb; cases hb
   show minF q.1 ps ≤ a ∧ ∀ p ∈ q :: ps, minF q.1 ps ≤ p.1
   obtain ⟨h2, h3⟩ := minF_le ps q.1
   exact ⟨by omega, fun p hp => by rcases List.mem_cons.1 hp with rfl | hp; exact h2; exact h3 p hp⟩
theorem le_maxF : ∀ (ps : List (Nat × TypeId)) (a : Nat), a ≤ maxF a ps ∧ ∀ p ∈ ps, p.1 ≤ maxF a ps
 | [], a => ⟨Nat.le_refl _, fun p hp => by cases hp⟩
 | q :: ps, a => by
  simp only [maxF]
  cases hb : Nat.ble q.1 a with
  | true =>
   have h1 : q.1 ≤ a := Nat.le_of_ble_eq_true hb
   show a ≤ maxF a ps ∧ ∀ p ∈ q :: ps, p.1 ≤ maxF a ps
   obtain ⟨h2, h3⟩ := le_maxF ps a
   exact ⟨h2, fun p hp => by rcases List.mem_cons.1 hp with rfl | hp; omega; exact h3 p hp⟩
  | false =>
   have h1 : ¬ q.1 ≤ a := fun h => by rw [Nat.ble_eq_true_of_le h] at hb; cases hb
   show a ≤ maxF q.1 ps ∧ ∀ p ∈ q :: ps, p.1 ≤ maxF q.1 ps
   obtain ⟨h2, h3⟩ := le_maxF ps q.1
   exact ⟨by omega, fun p hp => by rcases List.mem_cons.1 hp with rfl | hp; exact h2; exact h3 p hp⟩
theorem idsF_mem {ids : List (Nat × TypeId)} {p : Nat × TypeId} (hp : p ∈ ids) : p.1 ∈ idsF ids := by
 cases ids with
 | nil => cases hp
 | cons q ps =>
  obtain ⟨a1, a2⟩ := minF_le ps q.1
  obtain ⟨b1, b2⟩ := le_maxF ps q.1
  simp only [idsF, List.mem_range'_1]
  rcases List.mem_cons.1 hp with rfl | hp
  ·omega
  ·have := a2 p hp; have := b2 p hp; omega
theorem idsF_between {ids : List (Nat × TypeId)} {i j x : Nat} (hi : i ∈ idsF ids) (hj : j ∈ idsF ids) (h1 : i ≤ x) (h2 : x ≤ j) : x ∈ idsF ids := by
 cases ids with
 | nil => cases hi
 | cons q ps => simp only [idsF, List.mem_range'_1] at hi hj ⊢; omega
theorem maxF_lt {k : Nat} : ∀ (ps : List (Nat × TypeId)) (a : Nat), a < k → (∀ p ∈ ps, p.1 < k) → maxF a ps < k
 | [], a, h, _ => h
 | q :: ps, a, h, h' => by
  simp only [maxF]
  cases Nat.ble q.1 a with
  | true => exact maxF_lt ps a h fun p hp => h' p (List.mem_cons_of_mem _ hp)
  | false => exact maxF_lt ps q.1 (h' q List.mem_cons_self) fun p hp => h' p (List.mem_cons_of_mem _ hp)
theorem idsF_lt {k : Nat} {ids : List (Nat × TypeId)} (h : ∀ p ∈ ids, p.1 < k) {i : Nat} (hi : i ∈ idsF ids) : i < k := by
 cases ids with
 | nil => cases hi
 | cons q ps =>
  have h1 := maxF_lt ps q.1 (h q List.mem_cons_self) fun p hp => h p (List.mem_cons_of_mem _ hp)
  have h2 := minF_le ps q.1
  have h3 := le_maxF ps q.1
  simp only [idsF, List.mem_range'_1] at hi
  omega
theorem lowF_of {n0 : Nat} : ∀ {ids : List (Nat × TypeId)}, (∀ p ∈ ids, p.1 < n0) → lowF n0 ids = true
 | [], _ => rfl
 | q :: ids, h => by
  simp only [lowF, Bool.and_eq_true]
  exact ⟨by have := h q List.mem_cons_self; simp [Nat.blt]; omega, lowF_of fun p hp => h p (List.mem_cons_of_mem _ hp)⟩
theorem lowA_same {q : Nat} {c : A1 E} (h : ∀ i ∈ refA c, i < q) : lowA q c = c := by
 cases c with
 | fn g ids =>
  have : lowF q ids = true := lowF_of fun p hp => h p.1 (by simp only [refA]; exact idsF_mem hp)
  simp only [lowA, this]
 | _ => simp only [refA, List.mem_singleton, forall_eq] at h <;> simp [lowA, *]
theorem map_low_same {q : Nat} {cs : List (A1 E)} (h : ∀ i ∈ refL cs, i < q) : cs.map (lowA q) = cs := by
 conv => rhs; rw [← List.map_id cs]
 exact List.map_congr_left fun c hc => lowA_same fun i hi => h i (refL_mem hc i hi)
theorem lowV_same {q : Nat} {x : AV E} (h : ∀ i ∈ refV x, i < q) : mapAV (lowA q) x = x := by
 have h2 : ∀ {y : A2 E}, (∀ i ∈ refA2 y, i < q) → mapA2 (lowA q) y = y := fun {y} h => by
  cases y with
  | c c => simp only [mapA2]; rw [lowA_same h]
  | g cs => simp only [mapA2]; rw [map_low_same h]
 cases x with
 | v y => simp only [mapAV]; rw [h2 h]
 | tup vs =>
  simp only [mapAV]
  congr 1
  conv => rhs; rw [← List.map_id vs]
  exact List.map_congr_left fun c hc => h2 fun i hi => h i (refL2_mem hc i hi)
theorem Mr.rebase (hM : Mr E w0 Φ I0 G m n w) (hN : I0.N ≤ n) : Mr E w (fun k => ∃ id b, look m id = some b ∧ G.fp id k) { I := G.I, g := I0.g, N := I0.N, h := I0.h, M := I0.M, mn := I0.mn } G m n w :=
 {fr := Frame.refl _ _
  lt := hM.lt
  bl := hM.bl
  lo := fun id b hb k hk => ⟨.inr ⟨id, b, hb, hk⟩, (hM.lo id b hb k hk).2⟩
  dj := hM.dj
  il := hM.il
  ii := fun k hk => .inl hk
  ip := fun k hk => hk
  nn := hN
  an := hM.an
  ar := hM.ar }
theorem op_at [GlobOK E w0 Φ I0] (hE : EnvOK E P) {C : FuncId → Option (Entry E)} (hC : CSound E P C) {q N : Nat} (hqN : q + wide ≤ N) (hN0 : I0.N ≤ q) (hM : Mr E w0 Φ I0 G m N w) (hT : Tr E G ts m N a w)
  (hid : ∀ id b, look m id = some b → id < q ∨ q + wide ≤ id) (hts : ∀ (t : Nat) x, ts[t]? = some x → ∀ i ∈ refV x, i < q ∨ q + wide ≤ i)
  (hbx : ∀ id cs, look m id = some (.box cs) → ∀ i ∈ refL cs, (id < q → i < q) ∧ (q ≤ id → q + wide ≤ i)) {o : Oper} {v : AV E} {ws : List Nat}
  (hrun : ∀ {R : Type} (K : AV E → Mem E → Option R) (r : R), K v m1 = some r → (evOp C q (ts.map (mapAV (lowA q))) o.op).run (mapM (lowA q) (lowM q m)) K = some r)
  (hws : ∀ id ∈ ws, id < q + wide) (hm1 : ∀ id, id ∉ ws → look m1 id = look (mapM (lowA q) (lowM q m)) id) (hm' : ∀ id, look m' id = if id ∈ ws then look m1 id else look m id)
  (hfin : ∀ G' u w', Mr E w0 Φ I0 G' m' N w' → Tr E G' ts m' N a w' → AVr E G' w' m' N v u → next (a.put o.dst u) w') : o.upon P a next Q ((execOp a.eval o).run P w) := by
 classical
 obtain ⟨hMr, hTr⟩ := low_sound (n0 := q) hN0 hM hT
 have hlk : ∀ j, look (mapM (lowA q) (lowM q m)) j = if j < q then (look m j).map (mapB (lowA q)) else none := fun j => by
  rw [look_map, look_low]
  split <;> rfl
 have h1 := hrun (fun v' m'' => if v' = v ∧ m'' = m1 then some () else none) () (by simp)
 haveI : GlobOK E w (fun k => ∃ id b, look (mapM (lowA q) (lowM q m)) id = some b ∧ G.fp id k) { I := G.I, g := I0.g, N := I0.N, h := I0.h, M := I0.M, mn := I0.mn } := ⟨hM.glob hE fun k hk => hk, fun k hk => ⟨hM.il k hk, fun ⟨id, b, hb, hk'⟩ => (hMr.lo id b hb k hk').2.2 hk⟩⟩
 refine evOp_sound hE hC (hMr.rebase hN0) hTr h1 fun v' m'' G' u w' hk' g1 g2 g3 => ?_
 split at hk'
 case isFalse => cases hk'
 rename_i e
 obtain ⟨e1, e2⟩ := e
 rw [e2] at g1 g2 g3
 rw [e1] at g3
 have hΦ : ∀ k, (∃ id b, look (mapM (lowA q) (lowM q m)) id = some b ∧ G.fp id k) → ∃ id b, id < q ∧ look m id = some b ∧ G.fp id k := fun k ⟨id, b, h2, h3⟩ => by
  rw [hlk] at h2
  split at h2
  ·obtain ⟨b', hb', _⟩ := Option.map_eq_some_iff.1 h2
   exact ⟨id, b', ‹_›, hb', h3⟩
  ·cases h2
 have hhigh : ∀ id b k, q + wide ≤ id → look m id = some b → G.fp id k → w'.heap[k]? = w.heap[k]? := fun id b k hq hb hk =>
  g1.fr.block k (hM.lo id b hb k hk).2.1 fun h => by
   obtain ⟨id', b', h2, h3, h4⟩ := hΦ k h
   exact hM.dj id id' b b' hb h3 (by omega) k hk h4
 have hI : ∀ k, G.I k → G'.I k ∧ w'.heap[k]? = w.heap[k]? := fun k hk => ⟨g1.ip k hk, g1.fr.block k (hM.il k hk) fun h => by
  obtain ⟨id', b', h2, h3, h4⟩ := hΦ k h
  exact (hM.lo id' b' h3 k h4).2.2 hk⟩
 let G2 : Gh := { hd := fun i => if i < q + wide then G'.hd i else G.hd i, bk := fun i => if i < q + wide then G'.bk i else G.bk i, fp := fun i => if i < q + wide then G'.fp i else G.fp i, I := G'.I, ih := fun i => if i < q + wide then G'.ih i else G.ih i }
 have hlt1 : ∀ id b, look m' id = some b → id < q + wide → ∃ b1, look m1 id = some b1 ∧ (id ∈ ws → b1 = b) ∧ (id ∉ ws → id < q ∧ look m id = some b ∧ b1 = mapB (lowA q) b) := fun id b hb hq => by
  rw [hm'] at hb
  by_cases h2 : id ∈ ws
  ·rw [if_pos h2] at hb
   exact ⟨b, hb, fun _ => rfl, fun h => absurd h2 h⟩
  ·rw [if_neg h2] at hb
   have h3 : id < q := by rcases hid id b hb with h | h <;> omega
   refine ⟨mapB (lowA q) b, ?_, fun h => absurd h h2, fun _ => ⟨h3, hb, rfl⟩⟩
   rw [hm1 id h2, hlk, if_pos h3, hb]; rfl
 have hge : ∀ id b, look m' id = some b → q + wide ≤ id → look m id = some b := fun id b hb hq => by
  rw [hm', if_neg (fun h => absurd (hws id h) (by omega))] at hb
  exact hb
 have hmle : Mle G' m1 (q + wide) G2 m' := fun id hq => by
  refine ⟨fun d e xs hl => ?_, fun cs hl => ?_, fun e xs hl => ?_⟩
  ·obtain ⟨b1, h2, h3, h4⟩ := hlt1 id _ hl hq
   refine ⟨by simp [G2, hq], d, xs, ?_, rfl⟩
   by_cases h5 : id ∈ ws
   ·rw [h2, h3 h5]
   ·obtain ⟨_, _, h6⟩ := h4 h5; rw [h2, h6]; rfl
  ·obtain ⟨b1, h2, h3, h4⟩ := hlt1 id _ hl hq
   refine ⟨by simp [G2, hq], ?_⟩
   by_cases h5 : id ∈ ws
   ·exact ⟨cs, by rw [h2, h3 h5]⟩
   ·obtain ⟨_, _, h6⟩ := h4 h5; exact ⟨cs.map (lowA q), by rw [h2, h6]; rfl⟩
  ·obtain ⟨b1, h2, h3, h4⟩ := hlt1 id _ hl hq
   refine ⟨by simp [G2, hq], by simp [G2, hq], xs, ?_, rfl, fun i j e' ys' _ h => ⟨ys', h⟩⟩
   by_cases h5 : id ∈ ws
   ·rw [h2, h3 h5]
   ·obtain ⟨_, _, h6⟩ := h4 h5; rw [h2, h6]; rfl
 have low : ∀ {c : A1 E} {u : Value}, A1r E G' w' m1 (q + wide) c u → A1r E G2 w' m' N c u := fun {c u} h => h.keep hmle hqN fun k hk => ⟨hk, rfl⟩
 have high : ∀ {c : A1 E} {u : Value}, (∀ i ∈ refA c, q + wide ≤ i) → A1r E G w m N c u → A1r E G2 w' m' N c u := fun {c u} hr h => by
  cases c with
  | s v => exact h
  | imm e xs => exact Rd.keep (c := .sl e xs) h hI
  | ip e x off =>
   obtain ⟨ad, h1, h2⟩ := h
   exact ⟨ad, h1, h2.keep hI⟩
  | junk => trivial
  | fnp g xs => exact FnpR.keep (I := G.I) h hI
  | fn g ids =>
   refine FnR.keep' h (Nat.le_refl _) fun p cs hp hl => ?_
   have hq := hr p.1 (by simp only [refA]; exact idsF_mem hp)
   exact ⟨by simp only [G2, if_neg (Nat.not_lt.2 hq)], cs, hge _ _ hl hq⟩
  | row id =>
   have hq := hr id (by simp [refA])
   refine ⟨h.1, h.2.1, fun d e xs hl => ?_⟩
   simp only [G2, if_neg (Nat.not_lt.2 hq)]
   exact h.2.2 d e xs (hge _ _ hl hq)
  | win id lo k =>
   have hq := hr id (by simp [refA])
   refine ⟨h.1, h.2.1, fun d e xs hl => ?_⟩
   simp only [G2, if_neg (Nat.not_lt.2 hq)]
   exact h.2.2 d e xs (hge _ _ hl hq)
  | bp id off =>
   have hq := hr id (by simp [refA])
   refine ⟨h.1, h.2.1, fun cs hl => ?_⟩
   simp only [G2, if_neg (Nat.not_lt.2 hq)]
   exact h.2.2 cs (hge _ _ hl hq)
  | rp id i off =>
   have hq := hr id (by simp [refA])
   refine ⟨h.1, h.2.1, fun d e xs hl => ?_⟩
   simp only [G2, if_neg (Nat.not_lt.2 hq)]
   exact h.2.2 d e xs (hge _ _ hl hq)
  | ap id lo k x =>
   have hq := hr id (by simp [refA])
   refine ⟨h.1, h.2.1, fun cs hl => ?_⟩
   simp only [G2, if_neg (Nat.not_lt.2 hq)]
   exact h.2.2 cs (hge _ _ hl hq)
  | rv id =>
   have hq := hr id (by simp [refA])
   refine ⟨h.1, h.2.1, fun e xs hl => ?_⟩
   simp only [G2, if_neg (Nat.not_lt.2 hq)]
   exact h.2.2 e xs (hge _ _ hl hq)
  | vp id i off =>
   have hq := hr id (by simp [refA])
   refine ⟨h.1, h.2.1, fun e xs hl => ?_⟩
   simp only [G2, if_neg (Nat.not_lt.2 hq)]
   exact h.2.2 e xs (hge _ _ hl hq)
  | hd id i off =>
   have hq := hr id (by simp [refA])
   refine ⟨h.1, h.2.1, fun e xs hl => ?_⟩
   simp only [G2, if_neg (Nat.not_lt.2 hq)]
   exact h.2.2 e xs (hge _ _ hl hq)
  | hp id i off j o =>
   have hq := hr id (by simp [refA])
   refine ⟨h.1, h.2.1, fun e xs hl => ?_⟩
   simp only [G2, if_neg (Nat.not_lt.2 hq)]
   exact h.2.2 e xs (hge _ _ hl hq)
 have comb : ∀ {c : A1 E} {u : Value}, (∀ i ∈ refA c, i < q ∨ q + wide ≤ i) → A1r E G w m N c u → A1r E G' w' m1 (q + wide) (lowA q c) u → A1r E G2 w' m' N c u := fun {c u} hr h h' => by
  by_cases hl : ∀ i ∈ refA c, i < q
  ·rw [lowA_same hl] at h'; exact low h'
  ·refine high (fun i hi => ?_) h
   rcases hr i hi with h1 | h1
   ·exfalso
    apply hl
    intro j hj
    cases c with
    | fn g ids =>
     simp only [refA] at hi hj
     rcases hr j (by simp only [refA]; exact hj) with h2 | h2
     ·exact h2
     ·have hw : 0 < wide := by decide
      have h3 : q ∈ idsF ids := idsF_between hi hj (by omega) (by omega)
      rcases hr q (by simp only [refA]; exact h3) with h4 | h4
      ·omega
      ·have : 0 < wide := by decide
       omega
    | _ => simp only [refA, List.mem_singleton, List.not_mem_nil] at hi hj <;> omega
   ·exact h1
 have comb2 : ∀ {x : A2 E} {u : Value}, (∀ i ∈ refA2 x, i < q ∨ q + wide ≤ i) → A2r E G w m N x u → A2r E G' w' m1 (q + wide) (mapA2 (lowA q) x) u → A2r E G2 w' m' N x u := fun {x u} hr h h' => by
  cases x with
  | c c => exact comb hr h h'
  | g cs =>
   obtain ⟨arr, rfl, h2, h3⟩ := h
   obtain ⟨arr', he, h4, h5⟩ := h'
   cases he
   refine ⟨arr, rfl, h2, fun j c hj => ⟨comb (fun i hi => hr i (refL_mem (List.mem_of_getElem? hj) i hi)) (h3 j c hj).1 (h5 j _ (by rw [List.getElem?_map, hj]; rfl)).1, (h3 j c hj).2⟩⟩
 have hT2 : Tr E G2 ts m' N a w' := ⟨hT.df, hT.sz, fun t x hx => by
  have h2 := hT.tm t x hx
  have h3 := g2.tm t _ (by rw [List.getElem?_map, hx]; rfl)
  cases x with
  | v x => exact comb2 (hts t _ hx) h2 h3
  | tup vs =>
   obtain ⟨arr, e1, h4, h5⟩ := h2
   obtain ⟨arr', e2, h6, h7⟩ := h3
   rw [e1] at e2
   cases e2
   exact ⟨arr, e1, h4, fun j x hj => comb2 (fun i hi => hts t _ hx i (refL2_mem (List.mem_of_getElem? hj) i hi)) (h5 j x hj) (h7 j _ (by rw [List.getElem?_map, hj]; rfl))⟩⟩
 have hM2 : Mr E w0 Φ I0 G2 m' N w' := by
  have hfpL : ∀ id k, id < q + wide → G2.fp id k = G'.fp id k := fun id k h => by simp [G2, h]
  have hfpH : ∀ id k, q + wide ≤ id → G2.fp id k = G.fp id k := fun id k h => by simp [G2, Nat.not_lt.2 h]
  have newI : ∀ k, G'.I k → G.I k ∨ w.heap.size ≤ k ∨ ∃ id b, id < q ∧ look m id = some b ∧ G.fp id k := fun k hk => by
   rcases g1.ii k hk with h | h | h
   ·exact .inl h
   ·exact .inr (.inl h)
   ·exact .inr (.inr (hΦ k h))
  have loL : ∀ id b, look m' id = some b → id < q + wide → ∀ k, G'.fp id k → (w.heap.size ≤ k ∨ ∃ id b, id < q ∧ look m id = some b ∧ G.fp id k) ∧ k < w'.heap.size ∧ ¬ G'.I k := fun id b hb hq k hk => by
   obtain ⟨b1, h2, _, _⟩ := hlt1 id b hb hq
   obtain ⟨h3, h4, h5⟩ := g1.lo id b1 h2 k hk
   exact ⟨h3.imp_right (hΦ k), h4, h5⟩
  refine ⟨hM.fr.step g1.fr (fun k hk => ?_), fun id b hb => ?_, fun id b hb => ?_, fun id b hb k hk => ?_, fun id id' b b' hb hb' hne k hk hk' => ?_, g1.il, fun k hk => ?_, fun k hk => g1.ip k (hM.ip k hk), hM.nn, fun j cs hj hl => ?_, fun j d e xs hj hl => ?_⟩
  ·obtain ⟨id, b, _, h3, h4⟩ := hΦ k hk
   exact (hM.lo id b h3 k h4).1
  ·rcases Nat.lt_or_ge id (q + wide) with h | h
   ·omega
   ·exact hM.lt id b (hge id b hb h)
  ·rcases Nat.lt_or_ge id (q + wide) with hq | hq
   ·obtain ⟨b1, h2, h3, h4⟩ := hlt1 id b hb hq
    have hbl := g1.bl id b1 h2
    have h5 : b1 = b := by
     by_cases h5 : id ∈ ws
     ·exact h3 h5
     ·obtain ⟨h6, h7, h8⟩ := h4 h5
      rw [h8]
      cases b with
      | row d e xs => rfl
      | rowV e xs => rfl
      | box cs => simp only [mapB]; rw [map_low_same fun i hi => (hbx id cs h7 i hi).1 h6]
    rw [h5] at hbl
    cases b with
    | row d e xs =>
     have e1 : G2.hd id = G'.hd id := by simp [G2, hq]
     have e2 : G2.fp id = G'.fp id := by simp [G2, hq]
     show Top E w' G2.I d (G2.fp id) (G2.hd id) e xs
     rw [e1, e2]
     exact hbl
    | rowV e xs =>
     have e1 : G2.hd id = G'.hd id := by simp [G2, hq]
     have e2 : G2.fp id = G'.fp id := by simp [G2, hq]
     have e3 : G2.ih id = G'.ih id := by simp [G2, hq]
     show Top E w' G2.I true (G2.fp id) (G2.hd id) e xs ∧ Hds E w' (G2.hd id) (G2.ih id) e xs
     rw [e1, e2, e3]
     exact hbl
    | box cs =>
     obtain ⟨⟨arr, ty, h6, h7⟩, h8⟩ := hbl
     have e1 : G2.bk id = G'.bk id := by simp [G2, hq]
     have e2 : G2.fp id = G'.fp id := by simp [G2, hq]
     exact ⟨⟨arr, ty, by rw [e1]; exact h6, h7.1, fun j c hj => ⟨low (h7.2 j c hj).1, (h7.2 j c hj).2⟩⟩, by rw [e1, e2]; exact h8⟩
   ·have hb0 := hge id b hb hq
    have hbl := hM.bl id b hb0
    have e2 : G2.fp id = G.fp id := by simp [G2, Nat.not_lt.2 hq]
    cases b with
    | row d e xs =>
     have e1 : G2.hd id = G.hd id := by simp [G2, Nat.not_lt.2 hq]
     show Top E w' G2.I d (G2.fp id) (G2.hd id) e xs
     rw [e1, e2]
     exact Top.keep hbl hI fun k hk => ⟨hk, hhigh id _ k hq hb0 hk⟩
    | rowV e xs =>
     have e1 : G2.hd id = G.hd id := by simp [G2, Nat.not_lt.2 hq]
     have e3 : G2.ih id = G.ih id := by simp [G2, Nat.not_lt.2 hq]
     show Top E w' G2.I true (G2.fp id) (G2.hd id) e xs ∧ Hds E w' (G2.hd id) (G2.ih id) e xs
     rw [e1, e2, e3]
     exact ⟨Top.keep hbl.1 hI fun k hk => ⟨hk, hhigh id _ k hq hb0 hk⟩, Hds.keep hbl.2 hbl.1 fun k hk => hhigh id _ k hq hb0 hk⟩
    | box cs =>
     obtain ⟨⟨arr, ty, h6, h7⟩, h8⟩ := hbl
     have e1 : G2.bk id = G.bk id := by simp [G2, Nat.not_lt.2 hq]
     exact ⟨⟨arr, ty, by rw [e1, hhigh id _ _ hq hb0 h8]; exact h6, h7.1, fun j c hj => ⟨high (fun i hi => (hbx id cs hb0 i (refL_mem (List.mem_of_getElem? hj) i hi)).2 (by omega)) (h7.2 j c hj).1, (h7.2 j c hj).2⟩⟩, by rw [e1, e2]; exact h8⟩
  ·rcases Nat.lt_or_ge id (q + wide) with hq | hq
   ·rw [hfpL id k hq] at hk
    obtain ⟨h2, h3, h4⟩ := loL id b hb hq k hk
    refine ⟨?_, h3, h4⟩
    rcases h2 with h2 | ⟨id', b', _, h5, h6⟩
    ·exact .inl (Nat.le_trans hM.fr.size h2)
    ·exact (hM.lo id' b' h5 k h6).1
   ·rw [hfpH id k hq] at hk
    have hb0 := hge id b hb hq
    obtain ⟨h2, h3, h4⟩ := hM.lo id b hb0 k hk
    refine ⟨h2, Nat.lt_of_lt_of_le h3 g1.fr.size, fun h => ?_⟩
    rcases newI k h with h5 | h5 | ⟨id', b', h6, h7, h8⟩
    ·exact h4 h5
    ·omega
    ·exact hM.dj id id' b b' hb0 h7 (by omega) k hk h8
  ·have mixed : ∀ id id' b b', look m' id = some b → look m' id' = some b' → id < q + wide → q + wide ≤ id' → G'.fp id k → G.fp id' k → False := fun id id' b b' hb hb' hq hq' hk hk' => by
    have hb0 := hge id' b' hb' hq'
    have h3 := (hM.lo id' b' hb0 k hk').2.1
    rcases (loL id b hb hq k hk).1 with h2 | ⟨id2, b2, h6, h7, h8⟩
    ·omega
    ·exact hM.dj id' id2 b' b2 hb0 h7 (by omega) k hk' h8
   rcases Nat.lt_or_ge id (q + wide) with hq | hq <;> rcases Nat.lt_or_ge id' (q + wide) with hq' | hq'
   ·rw [hfpL _ _ hq] at hk; rw [hfpL _ _ hq'] at hk'
    obtain ⟨b1, h2, _, _⟩ := hlt1 id b hb hq
    obtain ⟨b2, h3, _, _⟩ := hlt1 id' b' hb' hq'
    exact g1.dj id id' b1 b2 h2 h3 hne k hk hk'
   ·rw [hfpL _ _ hq] at hk; rw [hfpH _ _ hq'] at hk'
    exact mixed id id' b b' hb hb' hq hq' hk hk'
   ·rw [hfpH _ _ hq] at hk; rw [hfpL _ _ hq'] at hk'
    exact mixed id' id b' b hb' hb hq' hq hk' hk
   ·rw [hfpH _ _ hq] at hk; rw [hfpH _ _ hq'] at hk'
    exact hM.dj id id' b b' (hge _ _ hb hq) (hge _ _ hb' hq') hne k hk hk'
  ·rcases newI k hk with h | h | ⟨id, b, _, h3, h4⟩
   ·exact hM.ii k h
   ·exact .inr (.inl (Nat.le_trans hM.fr.size h))
   ·exact .inr (hM.lo id b h3 k h4).1
  ·have hq : j < q + wide := by omega
   obtain ⟨b1, h2, h3, h4⟩ := hlt1 j _ hl hq
   have h5 : ∃ cs', look m1 j = some (.box cs') := by
    by_cases h5 : j ∈ ws
    ·exact ⟨cs, by rw [h2, h3 h5]⟩
    ·obtain ⟨_, _, h6⟩ := h4 h5; exact ⟨cs.map (lowA q), by rw [h2, h6]; rfl⟩
   obtain ⟨cs', h5⟩ := h5
   have := g1.an j cs' hj h5
   simp only [G2, if_pos hq]
   exact this
  ·have hq : j < q + wide := by have := I0.mn; omega
   obtain ⟨b1, h2, h3, h4⟩ := hlt1 j _ hl hq
   have h5 : look m1 j = some (.row d e xs) := by
    by_cases h5 : j ∈ ws
    ·rw [h2, h3 h5]
    ·obtain ⟨_, _, h6⟩ := h4 h5; rw [h2, h6]; rfl
   have := g1.ar j d e xs hj h5
   simp only [G2, if_pos hq]
   exact this
 have hv : AVr E G2 w' m' N v u := by
  cases v with
  | v x =>
   cases x with
   | c c => exact low (c := c) g3
   | g cs =>
    obtain ⟨arr, h2, h3, h4⟩ := g3
    exact ⟨arr, h2, h3, fun j c hj => ⟨low (h4 j c hj).1, (h4 j c hj).2⟩⟩
  | tup vs =>
   obtain ⟨arr, h2, h3, h4⟩ := g3
   refine ⟨arr, h2, h3, fun j x hj => ?_⟩
   have h5 := h4 j x hj
   cases x with
   | c c => exact low (c := c) h5
   | g cs =>
    obtain ⟨arr, h2, h3, h4⟩ := h5
    exact ⟨arr, h2, h3, fun j c hj => ⟨low (h4 j c hj).1, (h4 j c hj).2⟩⟩
 exact hfin G2 u w' hM2 hT2 hv
end
end Go.B

/- Calls that write rows of the caller's own: what the reckoner says of them. -/
import Derived.Test.YtepfpdaehcmblaaBCallA
namespace Go.B
open Go Go.RowKit
set_option linter.unusedVariables false
set_option linter.unusedSimpArgs false
variable {E : Env} {P : Program}
theorem onceI_app : ∀ {xs ys : List Nat}, onceI (xs ++ ys) = true → onceI xs = true ∧ onceI ys = true ∧ ∀ i, i ∈ xs → i ∉ ys := by
 have memI_iff : ∀ (i : Nat) (l : List Nat), memI i l = true ↔ i ∈ l := by
  intro i l
  induction l with
  | nil => simp [memI]
  | cons j js ih => simp only [memI, Bool.or_eq_true, ih, List.mem_cons, Nat.beq_eq]; exact or_congr_left eq_comm
 intro xs
 induction xs with
 | nil => intro ys h; exact ⟨rfl, by simpa using h, fun i hi => by simp at hi⟩
 | cons x xs ih =>
  intro ys h
  simp only [List.cons_append, onceI, Bool.and_eq_true, Bool.not_eq_true'] at h
  obtain ⟨h1, h2, h3⟩ := ih h.2
  have hx : x ∉ xs ++ ys := fun hm => by have := (memI_iff x (xs ++ ys)).2 hm; rw [this] at h; simp at h
  refine ⟨?_, h2, fun i hi => ?_⟩
  ·simp only [onceI, Bool.and_eq_true, Bool.not_eq_true']
   refine ⟨?_, h1⟩
   cases hm : memI x xs with
   | false => rfl
   | true => exact absurd (List.mem_append_left ys ((memI_iff x xs).1 hm)) hx
  ·rcases List.mem_cons.1 hi with rfl | hi
   ·exact fun hy => hx (List.mem_append_right xs hy)
   ·exact h3 i hi
theorem apartI_iff : ∀ {xs ys : List Nat}, apartI xs ys = true → ∀ i, i ∈ xs → i ∉ ys := by
 have memI_iff : ∀ (i : Nat) (l : List Nat), memI i l = true ↔ i ∈ l := by
  intro i l
  induction l with
  | nil => simp [memI]
  | cons j js ih => simp only [memI, Bool.or_eq_true, ih, List.mem_cons, Nat.beq_eq]; exact or_congr_left eq_comm
 intro xs
 induction xs with
 | nil => intro ys h i hi; simp at hi
 | cons x xs ih =>
  intro ys h i hi
  simp only [apartI, Bool.and_eq_true, Bool.not_eq_true'] at h
  rcases List.mem_cons.1 hi with rfl | hi
  ·exact fun hy => by have := (memI_iff i ys).2 hy; rw [this] at h; simp at h
  ·exact ih h.2 i hi
section
variable {R : Type} {G : Gh} {w w0 w1 w' : World} {m m' m1 m2 : Mem E} {n : Nat} {K : AV E → Mem E → Option R} {r : R} {Φ Ψ : Nat → Prop} {I0 : Ent} {ts : List (AV E)} {a : Act} {W : List (Nat × Nat)}
theorem rdIdsL_mem {j : Nat} : ∀ {as : List (A1 E)} {l0 l : Nat} {b : A1 E}, as[l]? = some b → memP j (l0 + l) W = false → ∀ i ∈ seenA b, i ∈ rdIdsL W j l0 as
 | [], l0, l, b, h, _, i, hi => by simp at h
 | x :: as, l0, 0, b, h, hm, i, hi => by
  simp at h; subst h
  simp only [Nat.add_zero] at hm
  simp only [rdIdsL, hm]
  exact List.mem_append_left _ hi
 | x :: as, l0, l + 1, b, h, hm, i, hi => by
  have := rdIdsL_mem (as := as) (l0 := l0 + 1) (l := l) (by simpa using h) (by rw [Nat.add_assoc, Nat.add_comm 1 l]; exact hm) i hi
  simp only [rdIdsL]
  split
  ·exact this
  ·exact List.mem_append_right _ this
theorem rdIds_mem : ∀ {as : List (AV E)} {j0 j : Nat} {b : A2 E} {i : Nat}, as[j]? = some (.v b) → i ∈ rdIdsL W (j0 + j) 0 (cellsA2 b) → i ∈ rdIds W j0 as
 | [], j0, j, b, i, h, hi => by simp at h
 | x :: as, j0, 0, b, i, h, hi => by
  simp at h; subst h
  simp only [rdIds]
  exact List.mem_append_left _ hi
 | x :: as, j0, j + 1, b, i, h, hi => by
  have := rdIds_mem (as := as) (j0 := j0 + 1) (j := j) (by simpa using h) (by rw [Nat.add_assoc, Nat.add_comm 1 j]; exact hi)
  cases x with
  | v a => simp only [rdIds]; exact List.mem_append_right _ this
  | tup vs => simpa only [rdIds] using this
theorem wrIdsL_mem {j : Nat} : ∀ {as : List (A1 E)} {l0 l id : Nat}, as[l]? = some (.row id) → memP j (l0 + l) W = true → id ∈ wrIdsL W j l0 as
 | [], l0, l, id, h, _ => by simp at h
 | x :: as, l0, 0, id, h, hm => by
  simp at h; subst h
  simp only [Nat.add_zero] at hm
  simp only [wrIdsL, hm, seenA]
  simp
 | x :: as, l0, l + 1, id, h, hm => by
  have := wrIdsL_mem (as := as) (l0 := l0 + 1) (l := l) (id := id) (by simpa using h) (by rw [Nat.add_assoc, Nat.add_comm 1 l]; exact hm)
  simp only [wrIdsL]
  split
  ·exact List.mem_append_right _ this
  ·exact this
theorem wrIds_mem : ∀ {as : List (AV E)} {j0 j l id : Nat} {b : A2 E}, as[j]? = some (.v b) → (cellsA2 b)[l]? = some (.row id) → memP (j0 + j) l W = true → id ∈ wrIds W j0 as
 | [], j0, j, l, id, b, h, _, _ => by simp at h
 | x :: as, j0, 0, l, id, b, h, h2, h3 => by
  simp at h; subst h
  simp only [wrIds]
  exact List.mem_append_left _ (wrIdsL_mem (l0 := 0) h2 (by simpa using h3))
 | x :: as, j0, j + 1, l, id, b, h, h2, h3 => by
  have := wrIds_mem (as := as) (j0 := j0 + 1) (j := j) (by simpa using h) h2 (by rw [Nat.add_assoc, Nat.add_comm 1 j]; exact h3)
  cases x with
  | v a => simp only [wrIds]; exact List.mem_append_right _ this
  | tup vs => simpa only [wrIds] using this
theorem wrIdsL_one {j : Nat} : ∀ {as : List (A1 E)} {l0 l l' id : Nat}, onceI (wrIdsL W j l0 as) = true → as[l]? = some (.row id) → memP j (l0 + l) W = true → as[l']? = some (.row id) → memP j (l0 + l') W = true → l = l'
 | [], l0, l, l', id, _, h, _, _, _ => by simp at h
 | x :: as, l0, 0, 0, id, _, _, _, _, _ => rfl
 | x :: as, l0, 0, l' + 1, id, ho, h, hm, h', hm' => by
  simp at h; subst h
  simp only [Nat.add_zero] at hm
  simp only [wrIdsL, hm, seenA] at ho
  exact absurd (wrIdsL_mem (l0 := l0 + 1) (by simpa using h') (by rw [Nat.add_assoc, Nat.add_comm 1 l']; exact hm')) ((onceI_app ho).2.2 id (by simp))
 | x :: as, l0, l + 1, 0, id, ho, h', hm', h, hm => by
  simp at h; subst h
  simp only [Nat.add_zero] at hm
  simp only [wrIdsL, hm, seenA] at ho
  exact absurd (wrIdsL_mem (l0 := l0 + 1) (by simpa using h') (by rw [Nat.add_assoc, Nat.add_comm 1 l]; exact hm')) ((onceI_app ho).2.2 id (by simp))
 | x :: as, l0, l + 1, l' + 1, id, ho, h, hm, h', hm' => by
  have ho' : onceI (wrIdsL W j (l0 + 1) as) = true := by
   simp only [wrIdsL] at ho
   split at ho
   ·exact (onceI_app ho).2.1
   ·exact ho
  have := wrIdsL_one ho' (l := l) (l' := l') (by simpa using h) (by rw [Nat.add_assoc, Nat.add_comm 1 l]; exact hm) (by simpa using h') (by rw [Nat.add_assoc, Nat.add_comm 1 l']; exact hm')
  rw [this]
theorem wrIds_one : ∀ {as : List (AV E)} {j0 j j' l l' id : Nat} {b b' : A2 E}, onceI (wrIds W j0 as) = true → as[j]? = some (.v b) → (cellsA2 b)[l]? = some (.row id) → memP (j0 + j) l W = true →
  as[j']? = some (.v b') → (cellsA2 b')[l']? = some (.row id) → memP (j0 + j') l' W = true → j = j' ∧ l = l'
 | [], j0, j, j', l, l', id, b, b', _, h, _, _, _, _, _ => by simp at h
 | x :: as, j0, 0, 0, l, l', id, b, b', ho, h, h2, h3, h', h2', h3' => by
  simp at h h'; subst h; cases h'
  simp only [wrIds] at ho
  exact ⟨rfl, wrIdsL_one (l0 := 0) (onceI_app ho).1 h2 (by simpa using h3) h2' (by simpa using h3')⟩
 | x :: as, j0, 0, j' + 1, l, l', id, b, b', ho, h, h2, h3, h', h2', h3' => by
  simp at h; subst h
  simp only [wrIds] at ho
  exact absurd (wrIds_mem (j0 := j0 + 1) (by simpa using h') h2' (by rw [Nat.add_assoc, Nat.add_comm 1 j']; exact h3')) ((onceI_app ho).2.2 id (wrIdsL_mem (l0 := 0) h2 (by simpa using h3)))
 | x :: as, j0, j + 1, 0, l, l', id, b, b', ho, h', h2', h3', h, h2, h3 => by
  simp at h; subst h
  simp only [wrIds] at ho
  exact absurd (wrIds_mem (j0 := j0 + 1) (by simpa using h') h2' (by rw [Nat.add_assoc, Nat.add_comm 1 j]; exact h3')) ((onceI_app ho).2.2 id (wrIdsL_mem (l0 := 0) h2 (by simpa using h3)))
 | x :: as, j0, j + 1, j' + 1, l, l', id, b, b', ho, h, h2, h3, h', h2', h3' => by
  have ho' : onceI (wrIds W (j0 + 1) as) = true := by
   cases x with
   | v a => simp only [wrIds] at ho; exact (onceI_app ho).2.1
   | tup vs => simpa only [wrIds] using ho
  obtain ⟨e1, e2⟩ := wrIds_one ho' (by simpa using h) h2 (by rw [Nat.add_assoc, Nat.add_comm 1 j]; exact h3) (by simpa using h') h2' (by rw [Nat.add_assoc, Nat.add_comm 1 j']; exact h3')
  exact ⟨by rw [e1], e2⟩
def HandC (E : Env) (G : Gh) (w : World) (m : Mem E) (n : Nat) (b : Bool) (I : Nat → Prop) (x : A1 E) (c : Cell E.T) : Prop :=
 (b = true ∧ ∃ id e xs, x = .row id ∧ c = .wr e xs ∧ look m id = some (.row true e xs)) ∨ ((∀ id, x = .row id → b = false) ∧ ∀ u, A1r E G w m n x u → Rd E w I u c)
theorem HandC.more {b : Bool} {I I' : Nat → Prop} {x : A1 E} {c : Cell E.T} (h : HandC E G w m n b I x c) (hi : ∀ k, I k → I' k) : HandC E G w m n b I' x c :=
 h.imp _root_.id fun ⟨h2, h3⟩ => ⟨h2, fun u hu => (h3 u hu).more hi⟩
theorem handWL_sound (hM : Mr E w0 Φ I0 G m n w) {j : Nat} : ∀ {as : List (A1 E)} {l0 : Nat} {k : List (Cell E.T) → Mp E}, (handWL W j l0 as k).run m K = some r →
  ∃ cs, (k cs).run m K = some r ∧ cs.length = as.length ∧ ∀ (l : Nat) (x : A1 E) (c : Cell E.T), as[l]? = some x → cs[l]? = some c → HandC E G w m n (memP j (l0 + l) W) (SeenI G m (rdIdsL W j l0 as)) x c
 | [], l0, k, h => ⟨[], h, rfl, fun l x c hl => by simp at hl⟩
 | x :: as, l0, k, h => by
  have rest : ∀ (c : Cell E.T), HandC E G w m n (memP j l0 W) (SeenI G m (rdIdsL W j l0 (x :: as))) x c → (handWL W j (l0 + 1) as fun cs => k (c :: cs)).run m K = some r →
    ∃ cs, (k cs).run m K = some r ∧ cs.length = (x :: as).length ∧ ∀ (l : Nat) (y : A1 E) (c : Cell E.T), (x :: as)[l]? = some y → cs[l]? = some c → HandC E G w m n (memP j (l0 + l) W) (SeenI G m (rdIdsL W j l0 (x :: as))) y c := fun c hc h => by
   obtain ⟨cs, h1, h2, h3⟩ := handWL_sound hM (as := as) h
   refine ⟨c :: cs, h1, by simp [h2], fun l y c' hl hl' => ?_⟩
   cases l with
   | zero => simp at hl hl'; subst hl; subst hl'; exact hc
   | succ l =>
    have := h3 l y c' (by simpa using hl) (by simpa using hl')
    rw [Nat.add_assoc, Nat.add_comm 1 l] at this
    refine this.more fun k hk => hk.mono fun i hi => ?_
    simp only [rdIdsL]
    split
    ·exact hi
    ·exact List.mem_append_right _ hi
  cases hm : memP j l0 W with
  | true =>
   cases x with
   | row id =>
    simp only [handWL, hm] at h
    obtain ⟨b, hb, h⟩ := run_get h
    split at h
    ·exact rest _ (.inl ⟨hm, _, _, _, rfl, rfl, hb⟩) h
    ·cases h
   | s v =>
    simp only [handWL, hm] at h
    exact rest _ (.inr ⟨fun _ e => (by cases e), fun u hu => by obtain ⟨rfl, h1⟩ := hu; exact .s h1⟩) h
   | _ => simp only [handWL, hm] at h; cases h
  | false =>
   simp only [handWL, hm] at h
   obtain ⟨c, h, hc, _⟩ := seeCell_sound hM h
   have hrd : ∀ u, A1r E G w m n x u → Rd E w (SeenI G m (rdIdsL W j l0 (x :: as))) u c := fun u hu => (hc u hu).more fun k hk => hk.mono fun i hi => by
    simp only [rdIdsL, hm]; exact List.mem_append_left _ hi
   exact rest c (.inr ⟨fun _ _ => hm, hrd⟩) h
def HandP (E : Env) (G : Gh) (w : World) (m : Mem E) (n : Nat) (W : List (Nat × Nat)) (I : Nat → Prop) (j0 : Nat) (as : List (AV E)) (ps : List (P2 E)) : Prop :=
 ∀ (j : Nat) (x : AV E) (p : P2 E), as[j]? = some x → ps[j]? = some p → ∃ b, x = .v b ∧ ((∃ y c, b = .c y ∧ p = .v (.c c)) ∨ ∃ ys cs, b = .g ys ∧ p = .g cs) ∧ (pcells p).length = (cellsA2 b).length ∧
   ∀ (l : Nat) (y : A1 E) (c : Cell E.T), (cellsA2 b)[l]? = some y → (pcells p)[l]? = some c → HandC E G w m n (memP (j0 + j) l W) I y c
theorem handWs_sound (hM : Mr E w0 Φ I0 G m n w) : ∀ {as : List (AV E)} {j0 : Nat} {k : List (P2 E) → Mp E}, (handWs W j0 as k).run m K = some r →
  ∃ ps, (k ps).run m K = some r ∧ ps.length = as.length ∧ HandP E G w m n W (SeenI G m (rdIds W j0 as)) j0 as ps
 | [], j0, k, h => ⟨[], h, rfl, fun j x p hj => by simp at hj⟩
 | .tup _ :: as, j0, k, h => by simp only [handWs] at h; cases h
 | .v b :: as, j0, k, h => by
  simp only [handWs] at h
  have rest : ∀ (p : P2 E), ((∃ y c, b = .c y ∧ p = .v (.c c)) ∨ ∃ ys cs, b = .g ys ∧ p = .g cs) → (pcells p).length = (cellsA2 b).length →
    (∀ (l : Nat) (y : A1 E) (c : Cell E.T), (cellsA2 b)[l]? = some y → (pcells p)[l]? = some c → HandC E G w m n (memP j0 l W) (SeenI G m (rdIdsL W j0 0 (cellsA2 b))) y c) →
    (handWs W (j0 + 1) as fun ps => k (p :: ps)).run m K = some r → ∃ ps, (k ps).run m K = some r ∧ ps.length = (AV.v b :: as).length ∧ HandP E G w m n W (SeenI G m (rdIds W j0 (.v b :: as))) j0 (.v b :: as) ps := fun p hsh hl hc h => by
   obtain ⟨ps, h1, h2, h3⟩ := handWs_sound hM (as := as) h
   refine ⟨p :: ps, h1, by simp [h2], fun j x p' hj hj' => ?_⟩
   cases j with
   | zero =>
    simp at hj hj'; subst hj; subst hj'
    refine ⟨b, rfl, hsh, hl, fun l y c g1 g2 => (hc l y c g1 g2).more fun k hk => hk.mono fun i hi => ?_⟩
    simp only [rdIds]; exact List.mem_append_left _ hi
   | succ j =>
    obtain ⟨b', e1, e2, e3, e4⟩ := h3 j x p' (by simpa using hj) (by simpa using hj')
    refine ⟨b', e1, e2, e3, fun l y c g1 g2 => ?_⟩
    have := e4 l y c g1 g2
    rw [Nat.add_assoc, Nat.add_comm 1 j] at this
    refine this.more fun k hk => hk.mono fun i hi => ?_
    simp only [rdIds]; exact List.mem_append_right _ hi
  cases b with
  | c y =>
   simp only [handW] at h
   obtain ⟨cs, h, h1, h2⟩ := handWL_sound hM h
   split at h
   ·rename_i c
    exact rest _ (.inl ⟨_, _, rfl, rfl⟩) rfl (fun l y c g1 g2 => by have := h2 l y c g1 g2; rwa [Nat.zero_add] at this) h
   ·cases h
  | g ys =>
   simp only [handW] at h
   obtain ⟨cs, h, h1, h2⟩ := handWL_sound hM h
   exact rest _ (.inr ⟨_, _, rfl, rfl⟩) h1 (fun l y c g1 g2 => by have := h2 l y c g1 g2; rwa [Nat.zero_add] at this) h
def putsM (m : Mem E) : List (Nat × Option (Blk E)) → Mem E
 | [] => m
 | (i, some b) :: L => putsM (setm m i b) L
 | (i, none) :: L => putsM (delm m i) L
theorem look_puts : ∀ (L : List (Nat × Option (Blk E))) (m : Mem E) (id : Nat) (b : Blk E), look (putsM m L) id = some b → (id, some b) ∈ L ∨ (look m id = some b ∧ ∀ q ∈ L, q.1 ≠ id)
 | [], m, id, b, h => .inr ⟨h, fun q hq => by simp at hq⟩
 | (i, some c) :: L, m, id, b, h => by
  rcases look_puts L (setm m i c) id b h with h | ⟨h1, h2⟩
  ·exact .inl (List.mem_cons_of_mem _ h)
  ·rw [look_set] at h1
   split at h1
   ·rename_i e; cases h1; subst e; exact .inl (by simp)
   ·rename_i e; exact .inr ⟨h1, fun q' hq' => by rcases List.mem_cons.1 hq' with rfl | hq'; exact e; exact h2 q' hq'⟩
 | (i, none) :: L, m, id, b, h => by
  rcases look_puts L (delm m i) id b h with h | ⟨h1, h2⟩
  ·exact .inl (List.mem_cons_of_mem _ h)
  ·rw [look_del] at h1
   split at h1
   ·cases h1
   ·rename_i e; exact .inr ⟨h1, fun q' hq' => by rcases List.mem_cons.1 hq' with rfl | hq'; exact e; exact h2 q' hq'⟩
theorem putsM_app (m : Mem E) : ∀ (L L' : List (Nat × Option (Blk E))), putsM m (L ++ L') = putsM (putsM m L) L'
 | [], L' => rfl
 | (i, some c) :: L, L' => putsM_app (setm m i c) L L'
 | (i, none) :: L, L' => putsM_app (delm m i) L L'
def Same (m : Mem E) (L : List (Nat × Option (Blk E))) : Prop := ∀ q ∈ L, ∀ c, q.2 = some c → ∃ e xs d0 xs0, c = .row true e xs ∧ look m q.1 = some (.row d0 e xs0)
theorem Same.back {m : Mem E} {L L' : List (Nat × Option (Blk E))} (h : Same m L) (h' : Same (putsM m L) L') : Same m (L ++ L') := by
 intro q hq c hc
 rcases List.mem_append.1 hq with hq | hq
 ·exact h q hq c hc
 ·obtain ⟨e, xs, d0, xs0, h1, h2⟩ := h' q hq c hc
  rcases look_puts L m q.1 _ h2 with h3 | ⟨h3, _⟩
  ·obtain ⟨e', xs', d1, xs1, g1, g2⟩ := h _ h3 _ rfl
   cases g1
   exact ⟨_, xs, d1, xs1, h1, g2⟩
  ·exact ⟨e, xs, d0, xs0, h1, h3⟩
theorem takeWL_sound {j : Nat} : ∀ {as : List (A1 E)} {l0 : Nat} {us : List (Cell E.T)} {k : Mp E} {m : Mem E}, (takeWL W j l0 as us k).run m K = some r →
  ∃ L, k.run (putsM m L) K = some r ∧ Same m L ∧ (∀ q ∈ L, ∀ c, q.2 = some c → ∃ l e xs, as[l]? = some (.row q.1) ∧ memP j (l0 + l) W = true ∧ us[l]? = some (.sl e xs) ∧ c = .row true e xs) ∧
   ∀ (l id : Nat) (c : Cell E.T), as[l]? = some (.row id) → memP j (l0 + l) W = true → us[l]? = some c → ∃ b, (id, b) ∈ L
 | [], l0, us, k, m, h => ⟨[], by simpa only [takeWL, putsM] using h, fun q hq => by simp at hq, fun q hq => by simp at hq, fun l id c hl => by simp at hl⟩
 | x :: as, l0, [], k, m, h => by
  have h' : k.run m K = some r := by cases x <;> exact h
  exact ⟨[], h', fun q hq => by simp at hq, fun q hq => by simp at hq, fun l id c _ _ hc => by simp at hc⟩
 | x :: as, l0, u :: us, k, m, h => by
  have skip : (∀ id, x = .row id → memP j l0 W = false) → (takeWL W j (l0 + 1) as us k).run m K = some r → ∃ L, k.run (putsM m L) K = some r ∧ Same m L ∧ (∀ q ∈ L, ∀ c, q.2 = some c → ∃ l e xs, (x :: as)[l]? = some (.row q.1) ∧ memP j (l0 + l) W = true ∧ (u :: us)[l]? = some (.sl e xs) ∧ c = .row true e xs) ∧
    ∀ (l id : Nat) (c : Cell E.T), (x :: as)[l]? = some (.row id) → memP j (l0 + l) W = true → (u :: us)[l]? = some c → ∃ b, (id, b) ∈ L := fun hx h => by
   obtain ⟨L, h1, h2, h3, h4⟩ := takeWL_sound h
   refine ⟨L, h1, h2, fun q hq c hc => ?_, fun l id c g1 g2 g3 => ?_⟩
   ·obtain ⟨l, e, xs, g1, g2, g3, g4⟩ := h3 q hq c hc
    exact ⟨l + 1, e, xs, by simpa using g1, by rw [Nat.add_assoc, Nat.add_comm 1 l] at g2; exact g2, by simpa using g3, g4⟩
   ·cases l with
    | zero => simp at g1; rw [Nat.add_zero, hx id g1] at g2; cases g2
    | succ l => exact h4 l id c (by simpa using g1) (by rw [Nat.add_assoc, Nat.add_comm 1 l]; exact g2) (by simpa using g3)
  cases x with
  | row id =>
   cases hm : memP j l0 W with
   | false =>
    simp only [takeWL, hm] at h
    exact skip (fun _ _ => hm) h
   | true =>
    cases u with
    | sl e xs =>
     simp only [takeWL, hm] at h
     obtain ⟨b, hb, h⟩ := run_get h
     split at h
     ·rename_i d0 e0 xs0
      split at h
      ·rename_i he _
       subst he
       have h := run_put h
       obtain ⟨L, h1, h2, h3, h4⟩ := takeWL_sound h
       have hs : Same m ([(id, some (.row true e xs))] ++ L) := Same.back (m := m) (L := [(id, some (.row true e xs))]) (fun q hq c hc => by simp at hq; subst hq; cases hc; exact ⟨_, _, _, _, rfl, hb⟩) h2
       refine ⟨(id, some (.row true e xs)) :: L, h1, hs, fun q hq c hc => ?_, fun l id' c g1 g2 g3 => ?_⟩
       ·rcases List.mem_cons.1 hq with rfl | hq
        ·cases hc; exact ⟨0, e, xs, rfl, by simpa using hm, rfl, rfl⟩
        ·obtain ⟨l, e, xs, g1, g2, g3, g4⟩ := h3 q hq c hc
         exact ⟨l + 1, e, xs, by simpa using g1, by rw [Nat.add_assoc, Nat.add_comm 1 l] at g2; exact g2, by simpa using g3, g4⟩
       ·cases l with
        | zero => simp at g1; subst g1; exact ⟨some (.row true e xs), List.mem_cons_self⟩
        | succ l =>
         obtain ⟨b, hb⟩ := h4 l id' c (by simpa using g1) (by rw [Nat.add_assoc, Nat.add_comm 1 l]; exact g2) (by simpa using g3)
         exact ⟨b, List.mem_cons_of_mem _ hb⟩
      ·cases h
     ·cases h
    | s v =>
     simp only [takeWL, hm] at h
     have h := run_del h
     obtain ⟨L, h1, h2, h3, h4⟩ := takeWL_sound h
     have hs : Same m ([(id, none)] ++ L) := Same.back (m := m) (L := [(id, none)]) (fun q hq c hc => by simp at hq; subst hq; cases hc) h2
     refine ⟨(id, none) :: L, h1, hs, fun q hq c hc => ?_, fun l id' c g1 g2 g3 => ?_⟩
     ·rcases List.mem_cons.1 hq with rfl | hq
      ·cases hc
      ·obtain ⟨l, e, xs, g1, g2, g3, g4⟩ := h3 q hq c hc
       exact ⟨l + 1, e, xs, by simpa using g1, by rw [Nat.add_assoc, Nat.add_comm 1 l] at g2; exact g2, by simpa using g3, g4⟩
     ·cases l with
      | zero => simp at g1; subst g1; exact ⟨none, List.mem_cons_self⟩
      | succ l =>
       obtain ⟨b, hb⟩ := h4 l id' c (by simpa using g1) (by rw [Nat.add_assoc, Nat.add_comm 1 l]; exact g2) (by simpa using g3)
       exact ⟨b, List.mem_cons_of_mem _ hb⟩
    | wr e xs => simp only [takeWL, hm] at h; cases h
  | _ => exact skip (fun _ e => by cases e) h
theorem takeW_sound : ∀ {as : List (AV E)} {j0 : Nat} {us : List (List (Cell E.T))} {k : Mp E} {m : Mem E}, (takeW W j0 as us k).run m K = some r →
  ∃ L, k.run (putsM m L) K = some r ∧ Same m L ∧ (∀ q ∈ L, ∀ c, q.2 = some c → ∃ j l b u e xs, as[j]? = some (.v b) ∧ (cellsA2 b)[l]? = some (.row q.1) ∧ memP (j0 + j) l W = true ∧ us[j]? = some u ∧ u[l]? = some (.sl e xs) ∧ c = .row true e xs) ∧
   ∀ (j l id : Nat) (b : A2 E) (u : List (Cell E.T)) (c : Cell E.T), as[j]? = some (.v b) → (cellsA2 b)[l]? = some (.row id) → memP (j0 + j) l W = true → us[j]? = some u → u[l]? = some c → ∃ b, (id, b) ∈ L
 | [], j0, us, k, m, h => ⟨[], by simpa only [takeW, putsM] using h, fun q hq => by simp at hq, fun q hq => by simp at hq, fun j l id b u c hl => by simp at hl⟩
 | x :: as, j0, [], k, m, h => by
  have h' : k.run m K = some r := by cases x <;> exact h
  exact ⟨[], h', fun q hq => by simp at hq, fun q hq => by simp at hq, fun j l id b u c _ _ _ hc => by simp at hc⟩
 | .tup vs :: as, j0, u :: us, k, m, h => by
  simp only [takeW] at h
  obtain ⟨L, h1, h2, h3, h4⟩ := takeW_sound h
  refine ⟨L, h1, h2, fun q hq c hc => ?_, fun j l id b u c g1 g2 g3 g4 g5 => ?_⟩
  ·obtain ⟨j, l, b, u, e, xs, g1, g2, g3, g4, g5⟩ := h3 q hq c hc
   exact ⟨j + 1, l, b, u, e, xs, by simpa using g1, g2, by rw [Nat.add_assoc, Nat.add_comm 1 j] at g3; exact g3, by simpa using g4, g5⟩
  ·cases j with
   | zero => simp at g1
   | succ j => exact h4 j l id b u c (by simpa using g1) g2 (by rw [Nat.add_assoc, Nat.add_comm 1 j]; exact g3) (by simpa using g4) g5
 | .v a :: as, j0, u :: us, k, m, h => by
  simp only [takeW] at h
  obtain ⟨L1, h, s1, t1, c1⟩ := takeWL_sound h
  obtain ⟨L, h1, h2, h3, h4⟩ := takeW_sound h
  refine ⟨L1 ++ L, by rw [putsM_app]; exact h1, s1.back h2, fun q hq c hc => ?_, fun j l id b u' c g1 g2 g3 g4 g5 => ?_⟩
  ·rcases List.mem_append.1 hq with hq | hq
   ·obtain ⟨l, e, xs, g1, g2, g3, g4⟩ := t1 q hq c hc
    exact ⟨0, l, a, u, e, xs, rfl, g1, by simpa using g2, rfl, g3, g4⟩
   ·obtain ⟨j, l, b, u, e, xs, g1, g2, g3, g4, g5⟩ := h3 q hq c hc
    exact ⟨j + 1, l, b, u, e, xs, by simpa using g1, g2, by rw [Nat.add_assoc, Nat.add_comm 1 j] at g3; exact g3, by simpa using g4, g5⟩
  ·cases j with
   | zero =>
    simp at g1 g4; subst g1; subst g4
    obtain ⟨b, hb⟩ := c1 l id c g2 (by simpa using g3) g5
    exact ⟨b, List.mem_append_left _ hb⟩
   | succ j =>
    obtain ⟨b, hb⟩ := h4 j l id b u' c (by simpa using g1) g2 (by rw [Nat.add_assoc, Nat.add_comm 1 j]; exact g3) (by simpa using g4) g5
    exact ⟨b, List.mem_append_right _ hb⟩
theorem Top.len {I fp : Nat → Prop} {d : Bool} {v : Value} {e : TypeId} {xs : List (E.T e)} (h : Top E w I d fp v e xs) : ∃ A cap, v = .slice A xs.length cap := by
 obtain ⟨inner, F, ho, _⟩ := h
 obtain ⟨A, cap, h, _⟩ := ownsG_form ho
 exact ⟨A, cap, h⟩
theorem cellV_rel {b : A2 E} {p : P2 E} {u : Value} (hsh : (∃ y c, b = .c y ∧ p = .v (.c c)) ∨ ∃ ys cs, b = .g ys ∧ p = .g cs) (h : A2r E G w m n b u) {l : Nat} {y : A1 E} (hy : (cellsA2 b)[l]? = some y) : A1r E G w m n y (cellV p u l) := by
 rcases hsh with ⟨y', c, rfl, rfl⟩ | ⟨ys, cs, rfl, rfl⟩
 ·cases l with
  | zero => simp [cellsA2] at hy; subst hy; exact h
  | succ l => simp [cellsA2] at hy
 ·obtain ⟨arr, rfl, h2⟩ := h
  exact (h2.2 l y hy).1
theorem callW0_sound [GlobOK E w0 Φ I0] (hE : EnvOK E P) {f : FuncId} {en : Entry E} (hC : SoundC E P f en.F) {G : Gh} {m : Mem E} {n : Nat} (hM : Mr E w0 Φ I0 G m n w) (hT : Tr E G ts m n a w) {as : List (AV E)} {vals : Array Value} (hlen : vals.size = as.length)
  (has : ∀ (j : Nat) (b : AV E), as[j]? = some b → AVr E G w m n b (vals.getD j undef)) (h : (callW0 n en as).run m K = some r) {fin : Value → World → Prop}
  (hfin : ∀ v m' G' u w', K v m' = some r → Mr E w0 Φ I0 G' m' (n + wide) w' → Tr E G' ts m' (n + wide) a w' → AVr E G' w' m' (n + wide) v u → fin u w') :
  Calls P f vals w fun e w' => ∃ u, e = .returned u ∧ fin u w' := by
 unfold callW0 at h
 split at h
 case h_2 => cases h
 rename_i hon hap
 obtain ⟨ps, h, hpl, hps⟩ := handWs_sound hM h
 obtain ⟨ans, hans, h⟩ := run_call h
 obtain ⟨res, hw, hC⟩ := hC ps ans hans
 rw [hw] at h
 split at h
 case h_2 => cases h
 rename_i hfr
 let Ic : Nat → Prop := SeenI G m (rdIds en.wr 0 as)
 let Pos : Nat → Nat → Nat → Prop := fun j l id => ∃ b, as[j]? = some (.v b) ∧ (cellsA2 b)[l]? = some (.row id) ∧ memP j l en.wr = true
 let F : Nat → Nat → Nat → Prop := fun j l k => ∃ id b, Pos j l id ∧ look m id = some b ∧ G.fp id k
 let Φc : Nat → Prop := fun k => ∃ j l, F j l k
 have wrm : ∀ {j l id}, Pos j l id → id ∈ wrIds en.wr 0 as := fun ⟨b, h1, h2, h3⟩ => wrIds_mem (j0 := 0) h1 h2 (by simpa using h3)
 have one : ∀ {j l j' l' id}, Pos j l id → Pos j' l' id → j = j' ∧ l = l' := fun ⟨b, h1, h2, h3⟩ ⟨b', h1', h2', h3'⟩ => wrIds_one (j0 := 0) hon h1 h2 (by simpa using h3) h1' h2' (by simpa using h3')
 have hIc : ∀ k, Ic k → k < w.heap.size ∧ ¬ Φc k := fun k hk => by
  rcases hk with hk | ⟨id, hid, ⟨b, hb⟩, hk⟩
  ·exact ⟨hM.il k hk, fun ⟨j, l, id, b, h1, h2, h3⟩ => (hM.lo id b h2 k h3).2.2 hk⟩
  ·refine ⟨(hM.lo id b hb k hk).2.1, fun ⟨j, l, id', b', h1, h2, h3⟩ => ?_⟩
   have hne : id' ≠ id := fun e => by subst e; exact apartI_iff hap _ (wrm h1) hid
   exact hM.dj id' id b' b h2 hb hne k h3 hk
 have arg : ∀ (j : Nat) (p : P2 E), ps[j]? = some p → ∃ b, as[j]? = some (.v b) ∧ ((∃ y c, b = .c y ∧ p = .v (.c c)) ∨ ∃ ys cs, b = .g ys ∧ p = .g cs) ∧ (pcells p).length = (cellsA2 b).length ∧ A2r E G w m n b (vals.getD j undef) ∧
   ∀ (l : Nat) (y : A1 E) (c : Cell E.T), (cellsA2 b)[l]? = some y → (pcells p)[l]? = some c → HandC E G w m n (memP j l en.wr) Ic y c := fun j p hj => by
  have hjl : j < as.length := by rw [← hpl]; exact (List.getElem?_eq_some_iff.1 hj).1
  have hx := List.getElem?_eq_getElem hjl
  obtain ⟨b, e1, e2, e3, e4⟩ := hps j _ p hx hj
  rw [e1] at hx
  refine ⟨b, hx, e2, e3, has j _ hx, fun l y c g1 g2 => ?_⟩
  have := e4 l y c g1 g2
  rwa [Nat.zero_add] at this
 have pos : ∀ {j l id}, Pos j l id → ∃ p e xs, ps[j]? = some p ∧ (pcells p)[l]? = some (.wr e xs) ∧ look m id = some (.row true e xs) ∧ cellV p (vals.getD j undef) l = G.hd id := fun {j l id} ⟨b, h1, h2, h3⟩ => by
  have hjl : j < ps.length := by rw [hpl]; exact (List.getElem?_eq_some_iff.1 h1).1
  have hp := List.getElem?_eq_getElem hjl
  obtain ⟨b', g1, g2, g3, g4, g5⟩ := arg j _ hp
  rw [h1] at g1; cases g1
  have hl : l < (pcells ps[j]).length := by rw [g3]; exact (List.getElem?_eq_some_iff.1 h2).1
  have hc := List.getElem?_eq_getElem hl
  rcases g5 l _ _ h2 hc with ⟨_, id', e, xs, e1, e2, e3⟩ | ⟨e1, _⟩
  ·cases e1
   rw [e2] at hc
   have := cellV_rel g2 g4 h2
   exact ⟨_, e, xs, hp, hc, e3, this.2.2 _ _ _ e3⟩
  ·have := e1 id rfl; rw [h3] at this; cases this
 have cellrel : ∀ {j l : Nat} {p : P2 E} {c : Cell E.T}, ps[j]? = some p → (pcells p)[l]? = some c → CellR E w Ic (F j l) c (cellV p (vals.getD j undef) l) := fun {j l p c} hp hc => by
  obtain ⟨b, g1, g2, g3, g4, g5⟩ := arg j p hp
  have hl : l < (cellsA2 b).length := by rw [← g3]; exact (List.getElem?_eq_some_iff.1 hc).1
  have hy := List.getElem?_eq_getElem hl
  have hv := cellV_rel g2 g4 hy
  rcases g5 l _ _ hy hc with ⟨e0, id, e, xs, e1, e2, e3⟩ | ⟨_, e2⟩
  ·rw [e1] at hv hy
   rw [hv.2.2 _ _ _ e3, e2]
   have htop : Top E w G.I true (G.fp id) (G.hd id) e xs := hM.bl id _ e3
   exact (Top.ow htop).keep fun k hk => ⟨⟨id, _, ⟨b, g1, hy, e0⟩, e3, hk⟩, rfl⟩
  ·exact CellR.of (e2 _ hv)
 have hΦc : ∀ k, Φc k → k < w.heap.size ∧ ((∃ (j : Nat) (cs : List (Cell E.T)), ps[j]? = some (.v (.ptr cs)) ∧ k = (fun _ => 0 : Nat → Nat) j) ∨ ∃ j l e xs, WrAt ps j l e xs ∧ F j l k) := fun k ⟨j, l, id, b, h1, h2, h3⟩ => by
  obtain ⟨p, e, xs, g1, g2, g3, g4⟩ := pos h1
  exact ⟨(hM.lo id b h2 k h3).2.1, .inr ⟨j, l, e, xs, ⟨p, g1, g2⟩, id, b, h1, h2, h3⟩⟩
 have noptr : ∀ {j : Nat} {cs : List (Cell E.T)}, ps[j]? = some (.v (.ptr cs)) → False := fun {j cs} hj => by
  obtain ⟨b, _, g2, _⟩ := arg j _ hj
  rcases g2 with ⟨y, c, _, e⟩ | ⟨ys, cs, _, e⟩ <;> cases e
 have noro : ∀ {j : Nat} {e : TypeId} {x : E.T e}, ps[j]? = some (.v (.ro e x)) → False := fun {j e x} hj => by
  obtain ⟨b, _, g2, _⟩ := arg j _ hj
  rcases g2 with ⟨y, c, _, e⟩ | ⟨ys, cs, _, e⟩ <;> cases e
 have nofn : ∀ {j : Nat} {f : FuncId} {xs : List (Sigma E.T)}, ps[j]? = some (.v (.fn f xs)) → False := fun {j f xs} hj => by
  obtain ⟨b, _, g2, _⟩ := arg j _ hj
  rcases g2 with ⟨y, c, _, e⟩ | ⟨ys, cs, _, e⟩ <;> cases e
 have hA : ArgsR E w Ic Φc (fun _ => 0) F ps vals := by
  refine ⟨by rw [hlen, hpl], fun j c hj => cellrel (l := 0) hj rfl, fun j cs hj => (noptr hj).elim, fun j cs hj => ?_, fun j e x hj => (noro hj).elim, fun j f xs hj => (nofn hj).elim, fun j j' cs cs' hj => (noptr hj).elim, fun j l k hk => ⟨j, l, hk⟩, fun j l j' l' k ⟨id, b, h1, h2, h3⟩ ⟨id', b', h1', h2', h3'⟩ => ?_, fun j cs hj => (noptr hj).elim⟩
  ·obtain ⟨b, g1, g2, g3, g4, _⟩ := arg j _ hj
   rcases g2 with ⟨y, c, _, e⟩ | ⟨ys, cs', rfl, e⟩
   ·cases e
   ·cases e
    obtain ⟨arr, e1, e2⟩ := g4
    refine ⟨arr, e1, by rw [e2.1]; exact g3.symm, fun l c hl => ?_⟩
    have := cellrel (l := l) hj hl
    simp only [cellV, e1] at this
    exact this
  ·by_cases hne : id = id'
   ·subst hne; exact one h1 h1'
   ·exact (hM.dj id id' b b' h2 h2' hne k h3 h3').elim
 refine (hC vals w Ic Φc _ F hIc (hM.glob hE fun k hk => .inl hk) hΦc hA).mono fun e w' he => ?_
 obtain ⟨v, I', fp, F', rfl, hP⟩ := he
 refine ⟨v, rfl, ?_⟩
 obtain ⟨L, h, hs, ht, hcov⟩ := takeW_sound h
 have posH : ∀ {j l id}, Pos j l id → ∃ b, (id, b) ∈ L := fun {j l id} hp => by
  obtain ⟨p, e, xs, g1, g2, g3, g4⟩ := pos hp
  obtain ⟨u, g5, g6⟩ := hP.wu j p l e xs g1 g2
  obtain ⟨c, g6⟩ : ∃ c, u[l]? = some c := g6.elim (fun ⟨e', xs', g6, _⟩ => ⟨_, g6⟩) fun ⟨v, g6⟩ => ⟨_, g6⟩
  obtain ⟨b, h1, h2, h3⟩ := hp
  exact hcov j l id b u c h1 h2 (by simpa using h3) g5 g6
 have rowH : ∀ {id b}, (id, some b) ∈ L → ∃ j l e xs' d0 xs0, Pos j l id ∧ b = .row true e xs' ∧ look m id = some (.row d0 e xs0) ∧ Ow E w' (F' j l) (G.hd id) (.sl e xs') ∧ xs'.length = xs0.length := fun {id b} hb => by
  obtain ⟨j, l, b', u, e, xs', h1, h2, h3, h4, h5, h6⟩ := ht _ hb _ rfl
  have hp : Pos j l id := ⟨b', h1, h2, by simpa using h3⟩
  obtain ⟨p, e0, xs, g1, g2, g3, g4⟩ := pos hp
  obtain ⟨u', g5, g6 | ⟨v, g6⟩⟩ := hP.wu j p l e0 xs g1 g2
  case inr => rw [h4] at g5; cases g5; rw [h5] at g6; cases g6
  obtain ⟨e', xs'', g6, g7⟩ := g6
  rw [h4] at g5; cases g5
  rw [h5] at g6; cases g6
  obtain ⟨e2, ys, d0, xs0, q1, q2⟩ := hs _ hb _ rfl
  simp only at h6 q1 q2
  rw [h6] at q1; cases q1
  rw [g4] at g7
  refine ⟨j, l, e, xs', d0, xs0, hp, h6, q2, g7, ?_⟩
  obtain ⟨A, cap, e1⟩ := Top.len (hM.bl id _ q2)
  obtain ⟨A', cap', e2⟩ := Top.len (Ow.top (I := fun _ => False) g7)
  rw [e1] at e2
  injection e2 with _ h2 _
  exact h2.symm
 classical
 let fp' : Nat → Nat → Prop := fun id k => if (∃ b, (id, some b) ∈ L) then ∃ j l, Pos j l id ∧ F' j l k else G.fp id k
 let G' : Gh := { hd := G.hd, bk := G.bk, fp := fp', I := G.I, ih := G.ih }
 have hi : ∀ k, G.I k → G.I k ∧ w'.heap[k]? = w.heap[k]? := fun k hk => ⟨hk, hP.fr.block k (hM.il k hk) (hIc k (.inl hk)).2⟩
 have hkp : ∀ {id b}, look m id = some b → (∀ b, (id, b) ∉ L) → ∀ k, G.fp id k → w'.heap[k]? = w.heap[k]? := fun {id b} hb hn k hk => hP.fr.block k (hM.lo id b hb k hk).2.1 fun ⟨j, l, id', b', h1, h2, h3⟩ => by
  obtain ⟨b2, hb2⟩ := posH h1
  exact hM.dj id id' b b' hb h2 (fun e => by subst e; exact hn _ hb2) k hk h3
 have fpH : ∀ {id b}, (id, some b) ∈ L → ∀ k, fp' id k → ∃ j l, Pos j l id ∧ F' j l k := fun {id b} hb k hk => by
  simp only [fp'] at hk; rwa [if_pos ⟨b, hb⟩] at hk
 have fpN : ∀ {id}, (∀ b, (id, b) ∉ L) → fp' id = G.fp id := fun {id} hn => by
  funext k; simp only [fp']; rw [if_neg fun ⟨b, hb⟩ => hn (some b) hb]
 have lk : ∀ {id b}, look (putsM m L) id = some b → (id, some b) ∈ L ∨ (look m id = some b ∧ ∀ b, (id, b) ∉ L) := fun {id b} hl => by
  rcases look_puts L m id b hl with h1 | ⟨h1, h2⟩
  ·exact .inl h1
  ·exact .inr ⟨h1, fun b hb => h2 _ hb rfl⟩
 have hm : Mle G m n G' (putsM m L) := fun id _ => by
  refine ⟨fun d e xs hx => ?_, fun cs hx => ?_, fun e xs hx => ?_⟩
  ·rcases lk hx with h1 | ⟨h1, _⟩
   ·obtain ⟨j, l, e', xs', d0, xs0, _, e2, e3, _, e5⟩ := rowH h1
    cases e2
    exact ⟨rfl, d0, xs0, e3, e5⟩
   ·exact ⟨rfl, d, xs, h1, rfl⟩
  ·rcases lk hx with h1 | ⟨h1, _⟩
   ·obtain ⟨j, l, e', xs', d0, xs0, _, e2, _⟩ := rowH h1
    cases e2
   ·exact ⟨rfl, cs, h1⟩
  ·rcases lk hx with h1 | ⟨h1, _⟩
   ·obtain ⟨j, l, e', xs', d0, xs0, _, e2, _⟩ := rowH h1
    cases e2
   ·exact ⟨rfl, rfl, xs, h1, rfl, fun i j e' ys' _ h => ⟨ys', h⟩⟩
 have Fl : ∀ {j l k}, F j l k → (w0.heap.size ≤ k ∨ Φ k) ∧ k < w.heap.size ∧ ¬ G.I k := fun ⟨id, b, _, h2, h3⟩ => hM.lo id b h2 _ h3
 have F'l : ∀ {j l k}, F' j l k → (w0.heap.size ≤ k ∨ Φ k) ∧ k < w'.heap.size ∧ ¬ G.I k := fun {j l k} hk => by
  obtain ⟨h1, h2, _⟩ := hP.wf j l k hk
  rcases h1 with ⟨j', l', h1⟩ | h1
  ·exact ⟨(Fl h1).1, h2, (Fl h1).2.2⟩
  ·exact ⟨.inl (Nat.le_trans hM.fr.size h1), h2, fun hI => absurd (hM.il k hI) (Nat.not_lt.2 h1)⟩
 have F'd : ∀ {j l k id b}, F' j l k → look m id = some b → (∀ b, (id, b) ∉ L) → ¬ G.fp id k := fun {j l k id b} hk hb hn hfp => by
  obtain ⟨h1, _⟩ := hP.wf j l k hk
  rcases h1 with ⟨j', l', id', b', h1, h2, h3⟩ | h1
  ·obtain ⟨b2, hb2⟩ := posH h1
   exact hM.dj id id' b b' hb h2 (fun e => by subst e; exact hn _ hb2) k hfp h3
  ·exact absurd (hM.lo id b hb k hfp).2.1 (Nat.not_lt.2 h1)
 have hM' : Mr E w0 Φ I0 G' (putsM m L) n w' := by
  refine ⟨hM.fr.step hP.fr fun k ⟨j, l, hk⟩ => (Fl hk).1, fun id b hb => ?_, fun id b hb => ?_, fun id b hb k hk => ?_, fun id id' b b' hb hb' hne k hk hk' => ?_, fun k hk => Nat.lt_of_lt_of_le (hM.il k hk) hP.fr.size, hM.ii, hM.ip, hM.nn, fun j cs hj hc => ?_, fun j d e xs hj hc => ?_⟩
  ·rcases lk hb with h1 | ⟨h1, _⟩
   ·obtain ⟨j, l, e', xs', d0, xs0, _, _, e3, _⟩ := rowH h1
    exact hM.lt id _ e3
   ·exact hM.lt id b h1
  ·rcases lk hb with h1 | ⟨h1, h2⟩
   ·obtain ⟨j, l, e', xs', d0, xs0, hp, e2, e3, e4, _⟩ := rowH h1
    subst e2
    show Top E w' G.I true (fp' id) (G.hd id) e' xs'
    exact Ow.top (e4.keep fun k hk => ⟨by simp only [fp']; rw [if_pos ⟨_, h1⟩]; exact ⟨j, l, hp, hk⟩, rfl⟩)
   ·have hb' := hM.bl id b h1
    have hk' := hkp h1 h2
    cases b with
    | box cs =>
     obtain ⟨⟨arr, ty, q1, q2⟩, q3⟩ := hb'
     refine ⟨⟨arr, ty, (hk' _ q3).trans q1, q2.keep hm (Nat.le_refl _) hi⟩, ?_⟩
     show fp' id (G.bk id)
     rw [fpN h2]; exact q3
    | row d e xs =>
     show Top E w' G.I d (fp' id) (G.hd id) e xs
     rw [fpN h2]
     exact Top.keep hb' hi fun k hk => ⟨hk, hk' k hk⟩
    | rowV e xs =>
     show Top E w' G.I true (fp' id) (G.hd id) e xs ∧ Hds E w' (G.hd id) (G.ih id) e xs
     rw [fpN h2]
     exact ⟨Top.keep hb'.1 hi fun k hk => ⟨hk, hk' k hk⟩, Hds.keep hb'.2 hb'.1 hk'⟩
  ·rcases lk hb with h1 | ⟨h1, h2⟩
   ·obtain ⟨j, l, _, hk⟩ := fpH h1 k hk
    exact F'l hk
   ·have hk : G.fp id k := by rw [← fpN h2]; exact hk
    have := hM.lo id b h1 k hk
    exact ⟨this.1, Nat.lt_of_lt_of_le this.2.1 hP.fr.size, this.2.2⟩
  ·rcases lk hb with h1 | ⟨h1, h2⟩
   ·obtain ⟨j, l, hp, hk⟩ := fpH h1 k hk
    rcases lk hb' with h1' | ⟨h1', h2'⟩
    ·obtain ⟨j', l', hp', hk'⟩ := fpH h1' k hk'
     obtain ⟨rfl, rfl⟩ := hP.wd' _ _ _ _ _ hk hk'
     obtain ⟨c, p1, p2, _⟩ := hp
     obtain ⟨c', p1', p2', _⟩ := hp'
     rw [p1] at p1'; cases p1'
     rw [p2] at p2'; cases p2'
     exact hne rfl
    ·have hk' : G.fp id' k := by rw [← fpN h2']; exact hk'
     exact F'd hk h1' h2' hk'
   ·have hk : G.fp id k := by rw [← fpN h2]; exact hk
    rcases lk hb' with h1' | ⟨h1', h2'⟩
    ·obtain ⟨j', l', hp', hk'⟩ := fpH h1' k hk'
     exact F'd hk' h1 h2 hk
    ·have hk' : G.fp id' k := by rw [← fpN h2']; exact hk'
     exact hM.dj id id' b b' h1 h1' hne k hk hk'
  ·rcases lk hc with h1 | ⟨h1, _⟩
   ·obtain ⟨_, _, _, _, _, _, _, e2, _⟩ := rowH h1
    cases e2
   ·exact hM.an j cs hj h1
  ·rcases lk hc with h1 | ⟨h1, _⟩
   ·obtain ⟨_, _, e', _, d0, xs0, _, _, e3, _⟩ := rowH h1
    exact hM.ar j d0 e' xs0 hj e3
   ·exact hM.ar j d e xs hj h1
 obtain ⟨b, m3, G3, h3, hM3, hmle3, hI3, hrel⟩ := getRV_sound (G := G') hM' hP.rv (.inl hfr) (fun i j k hk => by
  obtain ⟨q1, q2, q3⟩ := hP.fps i j k hk
  refine ⟨?_, q2, fun hI => q3 (hP.hI k (.inl hI)), fun id b hb hfp => ?_⟩
  ·rcases q1 with q1 | ⟨j', l', q1⟩
   ·exact .inl (Nat.le_trans hM.fr.size q1)
   ·exact (Fl q1).1
  ·rcases lk hb with h1 | ⟨h1, h2⟩
   ·obtain ⟨j', l', _, hk'⟩ := fpH h1 k hfp
    exact (hP.wf j' l' k hk').2.2.2 i j hk
   ·have hfp : G.fp id k := by rw [← fpN h2]; exact hfp
    rcases q1 with q1 | ⟨j', l', id', b', p1, p2, p3⟩
    ·exact absurd (hM.lo id b h1 k hfp).2.1 (Nat.not_lt.2 q1)
    ·obtain ⟨b2, hb2⟩ := posH p1
     exact hM.dj id id' b b' h1 p2 (fun e => by subst e; exact h2 _ hb2) k hfp p3) hP.dis h
 exact hfin b m3 G3 v w' h3 hM3 (hT.keep (hm.trans hmle3) (Nat.le_add_right _ _) fun k hk => ⟨hI3 k (hi k hk).1, (hi k hk).2⟩) hrel
end
end Go.B

/- Regions whose order is drawn: operations that change nothing. -/
import Derived.Test.YtepfpdaehcmblaaBCode
namespace Go.B
open Go Go.RowKit
set_option linter.unusedVariables false
set_option linter.unusedSimpArgs false
variable {E : Env} {P : Program}
section
variable {R : Type} {G : Gh} {w w0 w1 w' : World} {m m' m1 m2 : Mem E} {n : Nat} {r : R} {Φ Ψ : Nat → Prop} {I0 : Ent} {ts : List (AV E)} {a : Act} {Q : Exit → Act → World → Prop}
theorem runD_nat : ∀ (p : Mp E) (m : Mem E) {R : Type} (K : AV E → Option R) (r : R), p.runD m K = some r → ∃ v, K v = some r ∧ ∀ {R' : Type} (K' : AV E → Option R') (r' : R'), K' v = some r' → p.runD m K' = some r'
 | .ret v, m, R, K, r, h => ⟨v, h, fun K' r' h => h⟩
 | .fail, m, R, K, r, h => by simp [Mp.runD] at h
 | .guard c d k, m, R, K, r, h => by
  simp only [Mp.runD] at h
  by_cases hc : c
  ·rw [if_pos hc] at h
   obtain ⟨v, h1, h2⟩ := runD_nat k m K r h
   exact ⟨v, h1, fun K' r' h' => by simp only [Mp.runD]; rw [if_pos hc]; exact h2 K' r' h'⟩
  ·rw [if_neg hc] at h; cases h
 | .cond b k k', m, R, K, r, h => by
  simp only [Mp.runD] at h
  cases b with
  | true =>
   obtain ⟨v, h1, h2⟩ := runD_nat k m K r (by simpa using h)
   exact ⟨v, h1, fun K' r' h' => by simpa [Mp.runD] using h2 K' r' h'⟩
  | false =>
   obtain ⟨v, h1, h2⟩ := runD_nat k' m K r (by simpa using h)
   exact ⟨v, h1, fun K' r' h' => by simpa [Mp.runD] using h2 K' r' h'⟩
 | .get id k, m, R, K, r, h => by
  simp only [Mp.runD] at h
  cases hl : look m id with
  | none => rw [hl] at h; cases h
  | some b =>
   rw [hl] at h
   obtain ⟨v, h1, h2⟩ := runD_nat (k b) m K r h
   exact ⟨v, h1, fun K' r' h' => by simp only [Mp.runD, hl]; exact h2 K' r' h'⟩
 | .put _ _ _, m, R, K, r, h => by simp [Mp.runD] at h
 | .del _ _, m, R, K, r, h => by simp [Mp.runD] at h
 | .call x k, m, R, K, r, h => by
  simp only [Mp.runD] at h
  obtain ⟨y, h1, h2⟩ := Option.bind_eq_some_iff.1 h
  obtain ⟨res, hw⟩ := x.nat y h1
  rw [hw] at h2
  obtain ⟨v, h3, h4⟩ := runD_nat (k res) m K r h2
  exact ⟨v, h3, fun K' r' h' => by simp only [Mp.runD, h1, Option.bind_some]; rw [hw]; exact h4 K' r' h'⟩
 | .mem k, m, R, K, r, h => by
  simp only [Mp.runD] at h
  obtain ⟨v, h1, h2⟩ := runD_nat (k m) m K r h
  exact ⟨v, h1, fun K' r' h' => by simp only [Mp.runD]; exact h2 K' r' h'⟩
theorem run_of_runD : ∀ (p : Mp E) (m : Mem E) {R : Type} (K : AV E → Option R) (K' : AV E → Mem E → Option R) (r : R), (∀ v, K v = some r → K' v m = some r) → p.runD m K = some r → p.run m K' = some r
 | .ret v, m, R, K, K', r, hk, h => hk v h
 | .fail, m, R, K, K', r, hk, h => by simp [Mp.runD] at h
 | .guard c d k, m, R, K, K', r, hk, h => by
  simp only [Mp.runD] at h
  by_cases hc : c
  ·rw [if_pos hc] at h; simp only [Mp.run]; rw [if_pos hc]; exact run_of_runD k m K K' r hk h
  ·rw [if_neg hc] at h; cases h
 | .cond b k k', m, R, K, K', r, hk, h => by
  cases b with
  | true => simpa [Mp.run] using run_of_runD k m K K' r hk (by simpa [Mp.runD] using h)
  | false => simpa [Mp.run] using run_of_runD k' m K K' r hk (by simpa [Mp.runD] using h)
 | .get id k, m, R, K, K', r, hk, h => by
  simp only [Mp.runD] at h
  cases hl : look m id with
  | none => rw [hl] at h; cases h
  | some b => rw [hl] at h; simp only [Mp.run, hl]; exact run_of_runD (k b) m K K' r hk h
 | .put _ _ _, m, R, K, K', r, hk, h => by simp [Mp.runD] at h
 | .del _ _, m, R, K, K', r, hk, h => by simp [Mp.runD] at h
 | .call x k, m, R, K, K', r, hk, h => by
  simp only [Mp.runD] at h
  obtain ⟨y, h1, h2⟩ := Option.bind_eq_some_iff.1 h
  obtain ⟨res, hw⟩ := x.nat y h1
  rw [hw] at h2
  simp only [Mp.run, h1, Option.bind_some]
  rw [hw]
  exact run_of_runD (k res) m K K' r hk h2
 | .mem k, m, R, K, K', r, hk, h => by
  simp only [Mp.runD] at h
  simp only [Mp.run]
  exact run_of_runD (k m) m K K' r hk h
theorem getR1_n {R : Type} {m : Mem E} {K : AV E → Option R} (n n' : Nat) (q : R1 E) (k k' : A1 E → Nat → Mp E) (h : ∀ b, (k b n).runD m K = (k' b n').runD m K) : (getR1 n q k).runD m K = (getR1 n' q k').runD m K := by
 cases q with
 | s v => exact h _
 | own d e xs => cases d <;> rfl
 | imm e xs => exact h _
 | ptr cs =>
  simp only [getR1]
  split <;> rfl
theorem getR1s_n {R : Type} {m : Mem E} {K : AV E → Option R} (n n' : Nat) : ∀ (qs : List (R1 E)) (k k' : List (A1 E) → Nat → Mp E), (∀ b, (k b n).runD m K = (k' b n').runD m K) → (getR1s n qs k).runD m K = (getR1s n' qs k').runD m K
 | [], k, k', h => h _
 | q :: qs, k, k', h => by
  simp only [getR1s]
  exact getR1_n n n' q _ _ fun b => getR1s_n n n' qs _ _ fun bs => h _
theorem getR2_n {R : Type} {m : Mem E} {K : AV E → Option R} (n n' : Nat) (q : R2 E) (k k' : A2 E → Nat → Mp E) (h : ∀ b, (k b n).runD m K = (k' b n').runD m K) : (getR2 n q k).runD m K = (getR2 n' q k').runD m K := by
 cases q with
 | c q => exact getR1_n n n' q _ _ fun b => h _
 | g qs => exact getR1s_n n n' qs _ _ fun b => h _
theorem getR2s_n {R : Type} {m : Mem E} {K : AV E → Option R} (n n' : Nat) : ∀ (qs : List (R2 E)) (k k' : List (A2 E) → Nat → Mp E), (∀ b, (k b n).runD m K = (k' b n').runD m K) → (getR2s n qs k).runD m K = (getR2s n' qs k').runD m K
 | [], k, k', h => h _
 | q :: qs, k, k', h => by
  simp only [getR2s]
  exact getR2_n n n' q _ _ fun b => getR2s_n n n' qs _ _ fun bs => h _
theorem getRV_n {R : Type} {m : Mem E} {K : AV E → Option R} (n n' : Nat) (q : RV E) (k : AV E → Mp E) : (getRV n q k).runD m K = (getRV n' q k).runD m K := by
 have he : ∀ (l l' : Nat) (p : Mp E), (need (l ≤ l + wide) p).runD m K = (need (l' ≤ l' + wide) p).runD m K := fun l l' p => by
  simp only [need, Mp.runD]
  rw [if_pos (Nat.le_add_right _ _), if_pos (Nat.le_add_right _ _)]
 cases q with
 | v q => exact getR2_n n n' q _ _ fun b => he _ _ _
 | tup qs => exact getR2s_n n n' qs _ _ fun b => he _ _ _
theorem takeBack_n {R : Type} {m : Mem E} {K : AV E → Option R} : ∀ (as : List (AV E)) (us : List (List (Cell E.T))) (p p' : Mp E), p.runD m K = p'.runD m K → (takeBack as us p).runD m K = (takeBack as us p').runD m K
 | [], [], p, p', h => h
 | [], _ :: _, p, p', h => rfl
 | x :: as, [], p, p', h => by
  cases x with
  | tup vs => rfl
  | v x => cases x with
   | g cs => rfl
   | c x => cases x with
    | bp id off => cases off <;> rfl
    | _ => rfl
 | x :: as, u :: us, p, p', h => by
  have ih := takeBack_n as us p p' h
  cases x with
  | tup vs => exact ih
  | v x => cases x with
   | g cs => exact ih
   | c x => cases x with
    | bp id off => cases off with
     | zero => simp only [takeBack]; cases cellsA true u <;> rfl
     | succ off => exact ih
    | _ => exact ih
theorem dels_n {R : Type} {m : Mem E} {K : AV E → Option R} (is : List Nat) (p p' : Mp E) (h : p.runD m K = p'.runD m K) : (dels is p).runD m K = (dels is p').runD m K := by
 cases is with
 | nil => exact h
 | cons i is => rfl
theorem seeCell_n {R : Type} {m : Mem E} {K : AV E → Option R} (b : A1 E) (k k' : Cell E.T → Mp E) (h : ∀ c, (k c).runD m K = (k' c).runD m K) : (seeCell b k).runD m K = (seeCell b k').runD m K := by
 cases b with
 | s v => exact h _
 | imm e xs => exact h _
 | row id =>
  simp only [seeCell, Mp.runD]
  cases look m id with
  | none => rfl
  | some b => cases b <;> first | rfl | exact h _
 | win id lo n =>
  simp only [seeCell, Mp.runD]
  cases look m id with
  | none => rfl
  | some b => cases b <;> first | rfl | exact h _
 | _ => rfl
theorem seeCells_n {R : Type} {m : Mem E} {K : AV E → Option R} : ∀ (as : List (A1 E)) (k k' : List (Cell E.T) → Mp E), (∀ c, (k c).runD m K = (k' c).runD m K) → (seeCells as k).runD m K = (seeCells as k').runD m K
 | [], k, k', h => h _
 | b :: as, k, k', h => by
  simp only [seeCells]
  exact seeCell_n b _ _ fun c => seeCells_n as _ _ fun cs => h _
theorem handIn_n {R : Type} {m : Mem E} {K : AV E → Option R} (b : A2 E) (k k' : P2 E → Mp E) (h : ∀ c, (k c).runD m K = (k' c).runD m K) : (handIn b k).runD m K = (handIn b k').runD m K := by
 cases b with
 | g cs => exact seeCells_n cs _ _ fun c => h _
 | c b =>
  cases b with
  | bp id off =>
   cases off with
   | zero =>
    simp only [handIn, Mp.runD]
    cases look m id with
    | none => rfl
    | some b => cases b with
     | box cs => exact seeCells_n cs _ _ fun c => h _
     | row d e xs => rfl
     | rowV e xs => rfl
   | succ off => simp only [handIn]; exact seeCell_n _ _ _ fun c => h _
  | ip e x off =>
   cases off with
   | zero => exact h _
   | succ off => simp only [handIn]; exact seeCell_n _ _ _ fun c => h _
  | fnp g xs => exact h _
  | _ => simp only [handIn]; exact seeCell_n _ _ _ fun c => h _
theorem handIns_n {R : Type} {m : Mem E} {K : AV E → Option R} : ∀ (as : List (AV E)) (k k' : List (P2 E) → Mp E), (∀ c, (k c).runD m K = (k' c).runD m K) → (handIns as k).runD m K = (handIns as k').runD m K
 | [], k, k', h => h _
 | .tup vs :: as, k, k', h => rfl
 | .v b :: as, k, k', h => by
  simp only [handIns]
  exact handIn_n b _ _ fun c => handIns_n as _ _ fun cs => h _
theorem seenK_n {R : Type} {m : Mem E} {K : AV E → Option R} : ∀ (as : List (AV E)) (k k' : List Nat → Mp E), (∀ is, (k is).runD m K = (k' is).runD m K) → (seenK as k).runD m K = (seenK as k').runD m K
 | [], k, k', h => h _
 | .tup vs :: as, k, k', h => seenK_n as k k' h
 | .v (.g cs) :: as, k, k', h => seenK_n as _ _ fun is => h _
 | .v (.c b) :: as, k, k', h => by
  have plain : ∀ c : A1 E, (seenK as fun is => k (seenA c ++ is)).runD m K = (seenK as fun is => k' (seenA c ++ is)).runD m K := fun c => seenK_n as _ _ fun is => h _
  cases b with
  | bp id off =>
   cases off with
   | zero =>
    simp only [seenK, Mp.runD]
    cases look m id with
    | none => rfl
    | some b => cases b with
     | box cs => exact seenK_n as _ _ fun is => h _
     | row d e xs => exact seenK_n as _ _ h
     | rowV e xs => exact seenK_n as _ _ h
   | succ off => exact plain _
  | _ => exact plain _
theorem callA_n {R : Type} {m : Mem E} {K : AV E → Option R} (n n' : Nat) (en : Entry E) (as : List (AV E)) : (callA n en as).runD m K = (callA n' en as).runD m K := by
 unfold callA
 refine handIns_n as _ _ fun ps => ?_
 simp only [need, Mp.runD]
 refine congrArg (fun z => ite _ z none) (congrArg _ (funext fun y => congrArg _ (funext fun q => ?_)))
 by_cases hc : (freshRV q.rv && plainU q.upd) = true
 ·rw [if_pos hc, if_pos hc]; exact takeBack_n _ _ _ _ (getRV_n n n' _ _)
 ·rw [if_neg hc, if_neg hc]; exact seenK_n _ _ _ fun is => dels_n _ _ _ (takeBack_n _ _ _ _ (getRV_n n n' _ _))
theorem handWL_n {R : Type} {m : Mem E} {K : AV E → Option R} (W : List (Nat × Nat)) (j : Nat) : ∀ (as : List (A1 E)) (l : Nat) (k k' : List (Cell E.T) → Mp E), (∀ c, (k c).runD m K = (k' c).runD m K) → (handWL W j l as k).runD m K = (handWL W j l as k').runD m K
 | [], l, k, k', h => h _
 | b :: as, l, k, k', h => by
  unfold handWL
  split
  ·simp only [Mp.runD]
   split
   ·split
    ·exact handWL_n W j as _ _ _ fun c => h _
    ·rfl
   ·rfl
  ·exact handWL_n W j as _ _ _ fun c => h _
  ·rfl
  ·exact seeCell_n _ _ _ fun c => handWL_n W j as _ _ _ fun c => h _
theorem handWs_n {R : Type} {m : Mem E} {K : AV E → Option R} (W : List (Nat × Nat)) : ∀ (as : List (AV E)) (j : Nat) (k k' : List (P2 E) → Mp E), (∀ c, (k c).runD m K = (k' c).runD m K) → (handWs W j as k).runD m K = (handWs W j as k').runD m K
 | [], j, k, k', h => h _
 | .tup _ :: as, j, k, k', h => rfl
 | .v b :: as, j, k, k', h => by
  have h1 : ∀ p, (handWs W (j + 1) as fun ps => k (p :: ps)).runD m K = (handWs W (j + 1) as fun ps => k' (p :: ps)).runD m K := fun p => handWs_n W as _ _ _ fun c => h _
  simp only [handWs, handW]
  cases b with
  | c x =>
   refine handWL_n W j _ _ _ _ fun c => ?_
   split
   ·exact h1 _
   ·rfl
  | g xs => exact handWL_n W j _ _ _ _ fun c => h1 _
theorem takeWL_n {R : Type} {m : Mem E} {K : AV E → Option R} (W : List (Nat × Nat)) (j : Nat) : ∀ (as : List (A1 E)) (l : Nat) (us : List (Cell E.T)) (p p' : Mp E), p.runD m K = p'.runD m K → (takeWL W j l as us p).runD m K = (takeWL W j l as us p').runD m K
 | [], l, us, p, p', h => by simpa [takeWL] using h
 | b :: as, l, [], p, p', h => by
  have : ∀ q : Mp E, takeWL W j l (b :: as) [] q = q := fun q => by cases b <;> rfl
  rw [this, this]; exact h
 | b :: as, l, c :: cs, p, p', h => by
  have ih := takeWL_n W j as (l + 1) cs p p' h
  by_cases hb : ∃ id, b = .row id
  ·obtain ⟨id, rfl⟩ := hb
   unfold takeWL
   split
   ·simp only [Mp.runD]
    split
    ·split
     ·split
      ·rfl
      ·rfl
     ·rfl
    ·rfl
   ·simp only [Mp.runD]
   ·rfl
   ·exact ih
  ·have : ∀ q : Mp E, takeWL W j l (b :: as) (c :: cs) q = takeWL W j (l + 1) as cs q := fun q => by cases b <;> first | rfl | exact absurd ⟨_, rfl⟩ hb
   rw [this, this]; exact ih
theorem takeW_n {R : Type} {m : Mem E} {K : AV E → Option R} (W : List (Nat × Nat)) : ∀ (as : List (AV E)) (j : Nat) (us : List (List (Cell E.T))) (p p' : Mp E), p.runD m K = p'.runD m K → (takeW W j as us p).runD m K = (takeW W j as us p').runD m K
 | [], j, us, p, p', h => by simpa [takeW] using h
 | .v b :: as, j, [], p, p', h => by simpa [takeW] using h
 | .tup b :: as, j, [], p, p', h => by simpa [takeW] using h
 | .v b :: as, j, u :: us, p, p', h => by simp only [takeW]; exact takeWL_n W j _ _ _ _ _ (takeW_n W as _ us p p' h)
 | .tup b :: as, j, u :: us, p, p', h => by simp only [takeW]; exact takeW_n W as _ us p p' h
theorem callW0_n {R : Type} {m : Mem E} {K : AV E → Option R} (n n' : Nat) (en : Entry E) (as : List (AV E)) : (callW0 n en as).runD m K = (callW0 n' en as).runD m K := by
 unfold callW0
 split
 ·refine handWs_n _ as _ _ _ fun ps => ?_
  simp only [Mp.runD]
  refine congrArg _ (funext fun y => congrArg _ (funext fun q => ?_))
  split
  ·exact takeW_n _ _ _ _ _ _ (getRV_n n n' _ _)
  ·rfl
 ·rfl
theorem handHs_n {R : Type} {m : Mem E} {K : AV E → Option R} (p : Nat) (c : Cell E.T) : ∀ (as : List (AV E)) (j : Nat) (k k' : List (P2 E) → Mp E), (∀ c, (k c).runD m K = (k' c).runD m K) → (handHs p c j as k).runD m K = (handHs p c j as k').runD m K
 | [], j, k, k', h => h _
 | b :: as, j, k, k', h => by
  unfold handHs
  split
  ·exact handHs_n p c as _ _ _ fun c => h _
  ·exact seeCell_n _ _ _ fun c' => handHs_n p c as _ _ _ fun c => h _
  ·rfl
theorem callH_n {R : Type} {m : Mem E} {K : AV E → Option R} (n n' : Nat) (en : Entry E) (as : List (AV E)) (p id i off : Nat) : (callH n en as p id i off).runD m K = (callH n' en as p id i off).runD m K := by
 unfold callH
 split
 ·simp only [Mp.runD]
  split
  ·split
   ·split
    ·refine handHs_n _ _ _ _ _ _ fun ps => ?_
     simp only [Mp.runD]
     refine congrArg _ (funext fun y => congrArg _ (funext fun q => ?_))
     split
     ·split
      ·split
       ·simp only [Mp.runD]
       ·rfl
      ·rfl
     ·rfl
    ·rfl
   ·rfl
  ·rfl
 ·rfl
theorem callW_n {R : Type} {m : Mem E} {K : AV E → Option R} (n n' : Nat) (en : Entry E) (as : List (AV E)) : (callW n en as).runD m K = (callW n' en as).runD m K := by
 unfold callW
 split
 ·split
  ·exact callH_n _ _ _ _ _ _ _ _
  ·exact callW0_n _ _ _ _
 ·exact callW0_n _ _ _ _
theorem capV_n {R : Type} {m : Mem E} {K : AV E → Option R} : ∀ (ids : List (Nat × TypeId)) (k k' : List (Sigma E.T) → Mp E), (∀ c, (k c).runD m K = (k' c).runD m K) → (capV ids k).runD m K = (capV ids k').runD m K
 | [], k, k', h => h _
 | p :: ids, k, k', h => by
  simp only [capV, Mp.runD]
  cases look m p.1 with
  | none => rfl
  | some b =>
   cases b with
   | row d e xs => rfl
   | rowV e xs => rfl
   | box as =>
    simp only [info]
    cases E.info p.2 with
    | none => rfl
    | some i =>
     simp only
     cases capQ i.ck as with
     | none => rfl
     | some cs =>
      simp only
      cases E.make p.2 cs with
      | none => rfl
      | some x =>
       simp only
       cases Nat.beq cs.length i.size with
       | false => rfl
       | true => exact capV_n ids _ _ fun c => h _
theorem handKs_n {R : Type} {m : Mem E} {K : AV E → Option R} : ∀ (as : List (AV E)) (k k' : List (P2 E) → Mp E), (∀ c, (k c).runD m K = (k' c).runD m K) → (handKs as k).runD m K = (handKs as k').runD m K
 | [], k, k', h => h _
 | b :: as, k, k', h => by
  have ih : ∀ p, (handKs as fun ps => k (p :: ps)).runD m K = (handKs as fun ps => k' (p :: ps)).runD m K := fun p => handKs_n as _ _ fun c => h _
  simp only [handKs]
  cases b with
  | tup vs => rfl
  | v b =>
   cases b with
   | g cs => simp only [handK]; exact handIn_n _ _ _ ih
   | c b =>
    cases b with
    | fn g ids => exact capV_n ids _ _ fun c => ih _
    | bp id off => rfl
    | _ => simp only [handK]; exact handIn_n _ _ _ ih
theorem callK_n {R : Type} {m : Mem E} {K : AV E → Option R} (n n' : Nat) (en : Entry E) (as : List (AV E)) : (callK n en as).runD m K = (callK n' en as).runD m K := by
 unfold callK
 refine handKs_n as _ _ fun ps => ?_
 simp only [Mp.runD]
 refine congrArg _ (funext fun y => congrArg _ (funext fun q => ?_))
 cases freshRV q.rv with
 | true => exact getRV_n n n' _ _
 | false => rfl
theorem evB_n (n n' : Nat) (ts : List (AV E)) (b : Builtin) (args : List Operand) (tys : List TypeId) (hb : b ≠ .append) : evBuiltin n ts b args tys = evBuiltin n' ts b args tys := by
 cases b <;> first | exact absurd rfl hb | (rcases args with _ | ⟨x, _ | ⟨y, _ | ⟨z, r⟩⟩⟩ <;> rcases tys with _ | ⟨t, _ | ⟨t', _ | ⟨t'', r'⟩⟩⟩ <;> rfl)
theorem evB_congr {n : Nat} {ts ts' : List (AV E)} (b : Builtin) (args : List Operand) (tys : List TypeId) (h : ∀ x ∈ args, Aeval ts x = Aeval ts' x) : evBuiltin n ts b args tys = evBuiltin n ts' b args tys := by
 rcases args with _ | ⟨x, _ | ⟨y, _ | ⟨z, r⟩⟩⟩
 ·cases b <;> rcases tys with _ | ⟨t, _ | ⟨t', _ | ⟨t'', r'⟩⟩⟩ <;> rfl
 ·have e := h x (by simp)
  cases b <;> rcases tys with _ | ⟨t, _ | ⟨t', _ | ⟨t'', r'⟩⟩⟩ <;> first | rfl | (simp only [evBuiltin, e])
 ·have e := h x (by simp)
  have e' := h y (by simp)
  cases b <;> rcases tys with _ | ⟨t, _ | ⟨t', _ | ⟨t'', r'⟩⟩⟩ <;> first | rfl | (simp only [evBuiltin, e, e'])
 ·cases b <;> rcases tys with _ | ⟨t, _ | ⟨t', _ | ⟨t'', r'⟩⟩⟩ <;> rfl
theorem convA_n {R : Type} {m : Mem E} {K : AV E → Option R} (n n' : Nat) (i j : TI) (b : A1 E) : (convA n i j b).runD m K = (convA n' i j b).runD m K := by
 have hB : ∀ e s, (convB n i e s : Mp E).runD m K = (convB n' i e s : Mp E).runD m K := fun e s => by
  unfold convB info
  cases E.info e with
  | none => rfl
  | some q =>
   simp only
   split
   ·simp only [need, Mp.runD]
   ·rfl
 unfold convA
 split
 ·rfl
 ·rfl
 ·split
  ·exact hB _ _
  ·rfl
 ·rfl
theorem conv_n {R : Type} {m : Mem E} {K : AV E → Option R} (n n' : Nat) (src dst : TypeId) (y : AV E) : (info E src fun i => info E dst fun j => a1 y fun a => convA n i j a).runD m K = (info E src fun i => info E dst fun j => a1 y fun a => convA n' i j a).runD m K := by
 unfold info a1
 cases E.info src with
 | none => rfl
 | some i =>
  cases E.info dst with
  | none => rfl
  | some j =>
   simp only
   split
   ·exact convA_n n n' i j _
   ·rfl
theorem evOp_n {R : Type} {m : Mem E} {K : AV E → Option R} {C : FuncId → Option (Entry E)} (n n' : Nat) (ts : List (AV E)) (o : Op) (ho : pureOp o = true) : (evOp C n ts o).runD m K = (evOp C n' ts o).runD m K := by
 cases o with
 | call c =>
  simp only [pureOp] at ho
  simp only [evOp]
  split
  ·rename_i b hb
   rw [hb] at ho
   rw [evB_n n n' ts b _ _ (by intro e; subst e; cases ho)]
  ·rename_i f hf
   split
   ·split
    ·split
     ·exact callK_n n n' _ _
     ·exact callA_n n n' _ _
    ·exact callW_n n n' _ _
   ·rfl
  ·split
   ·split
    ·exact callA_n n n' _ _
    ·rfl
   ·rfl
  ·rfl
 | slice t x lo hi mx => cases mx <;> rfl
 | convert src dst x => exact conv_n n n' src dst _
 | alloc _ => cases ho
 | box _ _ => cases ho
 | buildSlice _ _ _ => cases ho
 | makeSlice _ _ _ => cases ho
 | makeFunc fn first caps => cases fn <;> rfl
 | _ => rfl
theorem Aeval_congr_list {ts ts' : List (AV E)} : ∀ (xs : List Operand), (∀ x ∈ xs, Aeval ts x = Aeval ts' x) → xs.map (Aeval ts) = xs.map (Aeval ts')
 | [], _ => rfl
 | x :: xs, h => by
  simp only [List.map_cons]
  rw [h x List.mem_cons_self, Aeval_congr_list xs fun y hy => h y (List.mem_cons_of_mem _ hy)]
theorem a2s_congr {ts ts' : List (AV E)} : ∀ (l : List (Nat × Operand)), (∀ q ∈ l, Aeval ts q.2 = Aeval ts' q.2) → a2s ts l = a2s ts' l
 | [], _ => rfl
 | (i, x) :: l, h => by
  simp only [a2s]
  rw [h (i, x) List.mem_cons_self, a2s_congr l fun q hq => h q (List.mem_cons_of_mem _ hq)]
theorem evOp_congr {C : FuncId → Option (Entry E)} {n : Nat} {ts ts' : List (AV E)} {o : Op} (ho : pureOp o = true) (h : ∀ x ∈ o.operands, Aeval ts x = Aeval ts' x) : evOp C n ts o = evOp C n ts' o := by
 cases o with
 | call c =>
  simp only [pureOp] at ho
  simp only [evOp]
  split
  ·rename_i b hb
   rw [hb] at ho
   exact evB_congr _ _ _ fun x hx => h x (by simp only [Op.operands, Call.operands, Array.mem_append]; exact .inr (by simpa using hx))
  ·rename_i f hf
   split
   ·rename_i en _
    rw [Aeval_congr_list c.args.toList fun x hx => h x (by simp only [Op.operands, Call.operands, Array.mem_append]; exact .inr (by simpa using hx))]
   ·rfl
  ·rename_i y hnf hy
   rw [Aeval_congr_list c.args.toList fun x hx => h x (by simp only [Op.operands, Call.operands, Array.mem_append]; exact .inr (by simpa using hx)), h y (by simp only [Op.operands, Call.operands, Array.mem_append, hy]; exact .inl (by simp))]
  ·rfl
 | slice t x lo hi mx =>
  cases mx with
  | some q => cases ho
  | none =>
   have hx := h x (by simp [Op.operands])
   have ho : ∀ (q : Option Operand) (d : Int) (k : Int → Mp E), (∀ y, q = some y → Aeval ts y = Aeval ts' y) → optInt ts q d k = optInt ts' q d k := fun q d k hq => by
    cases q with
    | none => rfl
    | some y => simp only [optInt]; rw [hq y rfl]
   have hb : ∀ (l : Nat) (k : Nat → Nat → Mp E), bounds ts lo hi l k = bounds ts' lo hi l k := fun l k => by
    unfold bounds
    rw [ho lo _ _ fun y hy => h y (by simp [Op.operands, hy])]
    congr 1
    funext v
    exact ho hi _ _ fun y hy => h y (by simp [Op.operands, hy])
   have hs : ∀ i a, sliceA ts i a lo hi = sliceA ts' i a lo hi := fun i a => by
    unfold sliceA
    simp only [hb]
   simp only [evOp]
   rw [hx]
   simp only [hs]
 | alloc _ => cases ho
 | box _ _ => cases ho
 | build t parts =>
  simp only [evOp]
  rw [a2s_congr parts.toList fun q hq => h q.2 (by simp [Op.operands]; exact ⟨q.1, by simpa using hq⟩)]
 | buildSlice _ _ _ => cases ho
 | makeSlice _ _ _ => cases ho
 | move x => simp only [evOp]; rw [h x (by simp [Op.operands])]
 | assign x => simp only [evOp]; rw [h x (by simp [Op.operands])]
 | pick a b c => simp only [evOp]; rw [h a (by simp [Op.operands]), h b (by simp [Op.operands]), h c (by simp [Op.operands])]
 | load t x => simp only [evOp]; rw [h x (by simp [Op.operands])]
 | nilCheck x => simp only [evOp]; rw [h x (by simp [Op.operands])]
 | binOp q t x y u => simp only [evOp]; rw [h x (by simp [Op.operands]), h y (by simp [Op.operands])]
 | unOp q t x => simp only [evOp]; rw [h x (by simp [Op.operands])]
 | convert s d x => simp only [evOp]; rw [h x (by simp [Op.operands])]
 | fieldAddr t x f => simp only [evOp]; rw [h x (by simp [Op.operands])]
 | field t x f => simp only [evOp]; rw [h x (by simp [Op.operands])]
 | indexAddr t x y => simp only [evOp]; rw [h x (by simp [Op.operands]), h y (by simp [Op.operands])]
 | index t x y => simp only [evOp]; rw [h x (by simp [Op.operands]), h y (by simp [Op.operands])]
 | extract x j => simp only [evOp]; rw [h x (by simp [Op.operands])]
 | makeFunc fn first caps =>
  cases fn with
  | func g =>
   simp only [evOp]
   rw [Aeval_congr_list caps.toList fun x hx => h x (by simp only [Op.operands, Array.mem_append]; exact .inr (by simpa using hx))]
  | _ => rfl
 | _ => cases ho
theorem Aeval_put {ts : List (AV E)} {d : Option Tmp} {v : AV E} {x : Operand} (h : ∀ t, d = some t → x ≠ .tmp t) : Aeval (putT ts d v) x = Aeval ts x := by
 cases x with
 | tmp t =>
  cases d with
  | none => rfl
  | some t' =>
   have hne : t' ≠ t := fun e => h t' rfl (by rw [e])
   simp only [Aeval, putT]
   rw [geta_eq, geta_eq, setl_eq, List.getElem?_set_ne hne]
 | _ => rfl
theorem geta_put {ts : List (AV E)} {d : Option Tmp} {v : AV E} {t : Nat} (h : d ≠ some t) : geta (putT ts d v) t = geta ts t := by
 cases d with
 | none => rfl
 | some t' =>
  have hne : t' ≠ t := fun e => h (by rw [e])
  simp only [putT]
  rw [geta_eq, geta_eq, setl_eq, List.getElem?_set_ne hne]
theorem put_comm {ts : List (AV E)} {d d' : Option Tmp} {v u : AV E} (h : ∀ t, d = some t → d' ≠ some t) : putT (putT ts d v) d' u = putT (putT ts d' u) d v := by
 cases d with
 | none => rfl
 | some t =>
  cases d' with
  | none => rfl
  | some t' =>
   have hne : t ≠ t' := fun e => h t rfl (by rw [e])
   simp only [putT, setl_eq]
   exact List.set_comm _ _ hne
def EvD (C : FuncId → Option (Entry E)) (m : Mem E) (ts : List (AV E)) (o : Op) (v : AV E) : Prop := pureOp o = true ∧ ∀ (n : Nat) {R : Type} (K : AV E → Option R) (r : R), K v = some r → (evOp C n ts o).runD m K = some r
def YlD (C : FuncId → Option (Entry E)) (ops : Array Oper) (m : Mem E) (o : Oper) (v : AV E) (ts : List (AV E)) : Prop := match o.guard with
 | none => EvD C m ts o.op v
 | some (j, want) => ∃ oj t, ops[j]? = some oj ∧ oj.dst = some t ∧ ((∃ b : Bool, geta ts t = some (.v (.c (.s (.bool b)))) ∧ ((b = want ∧ EvD C m ts o.op v) ∨ (b ≠ want ∧ v = .tup []))) ∨ (geta ts t = some (.tup []) ∧ v = .tup []))
theorem EvD.congr {C : FuncId → Option (Entry E)} {m : Mem E} {ts ts' : List (AV E)} {o : Op} {v : AV E} (h : ∀ x ∈ o.operands, Aeval ts x = Aeval ts' x) (hy : EvD C m ts o v) : EvD C m ts' o v :=
 ⟨hy.1, fun n R K r hk => by rw [← evOp_congr hy.1 h]; exact hy.2 n K r hk⟩
theorem YlD.put {C : FuncId → Option (Entry E)} {ops : Array Oper} {m : Mem E} {o : Oper} {v : AV E} {ts : List (AV E)} {d : Option Tmp} {u : AV E} (h : ∀ t, d = some t → t ∉ o.looksAt ops) : YlD C ops m o v (putT ts d u) ↔ YlD C ops m o v ts := by
 have h1 : ∀ x ∈ o.op.operands, Aeval (putT ts d u) x = Aeval ts x := fun x hx => Aeval_put fun t ht e => h t ht (by
  subst e
  exact List.mem_append_left _ (List.mem_filterMap.2 ⟨_, by simpa using hx, rfl⟩))
 have hE : EvD C m (putT ts d u) o.op v ↔ EvD C m ts o.op v := ⟨fun h => h.congr h1, fun h => h.congr fun x hx => (h1 x hx).symm⟩
 unfold YlD
 split
 ·exact hE
 ·rename_i j want hg
  have hgt : ∀ oj t, ops[j]? = some oj → oj.dst = some t → geta (putT ts d u) t = geta ts t := fun oj t h2 h3 => geta_put fun e => h t e (List.mem_append_right _ (by
   rw [hg]; simp [h2, h3]))
  constructor
  ·rintro ⟨oj, t, h2, h3, h4⟩
   rw [hgt oj t h2 h3] at h4
   exact ⟨oj, t, h2, h3, h4.imp_left fun ⟨b, h5, h6⟩ => ⟨b, h5, h6.imp_left fun ⟨h7, h8⟩ => ⟨h7, hE.1 h8⟩⟩⟩
  ·rintro ⟨oj, t, h2, h3, h4⟩
   refine ⟨oj, t, h2, h3, ?_⟩
   rw [hgt oj t h2 h3]
   exact h4.imp_left fun ⟨b, h5, h6⟩ => ⟨b, h5, h6.imp_left fun ⟨h7, h8⟩ => ⟨h7, hE.2 h8⟩⟩
theorem setl_same {ts : List (AV E)} {t : Nat} {x : AV E} (h : geta ts t = some x) : setl ts t x = ts := by
 rw [setl_eq]
 rw [geta_eq] at h
 obtain ⟨hl, rfl⟩ := List.getElem?_eq_some_iff.1 h
 exact List.set_getElem_self hl
theorem YlD_of {C : FuncId → Option (Entry E)} {ops : Array Oper} {o : Oper} {K : List (AV E) → Option R} (h : evOperD C ops.toList o n m ts K = some r) : ∃ v, YlD C ops m o v ts ∧ K (putT ts o.dst v) = some r := by
 have ev : ∀ {K : List (AV E) → Option R}, pureOp o.op = true → ((evOp C n ts o.op).runD m fun v => putK ts o.dst v K) = some r → ∃ v, EvD C m ts o.op v ∧ K (putT ts o.dst v) = some r := fun {K} hp h => by
  obtain ⟨v, h1, h2⟩ := runD_nat _ m _ r h
  rw [putK_eq] at h1
  exact ⟨v, ⟨hp, fun n' R' K' r' hk => by rw [evOp_n n' n ts o.op hp]; exact h2 K' r' hk⟩, h1⟩
 unfold evOperD at h
 split at h
 ·cases h
 ·rename_i hp
  split at h
  ·rename_i hg
   obtain ⟨v, h1, h2⟩ := ev hp h
   exact ⟨v, by unfold YlD; rw [hg]; exact h1, h2⟩
  ·rename_i j want hg
   split at h
   ·rename_i oj hoj
    have hoj' : ops[j]? = some oj := by rw [geta_eq] at hoj; rw [← Array.getElem?_toList]; exact hoj
    split at h
    ·rename_i t ht
     split at h
     ·rename_i b hb
      split at h
      ·rename_i hbw
       subst hbw
       rw [setlK_eq, setl_same hb] at h
       obtain ⟨v, h1, h2⟩ := ev hp h
       exact ⟨v, by unfold YlD; rw [hg]; exact ⟨oj, t, hoj', ht, .inl ⟨b, hb, .inl ⟨rfl, h1⟩⟩⟩, h2⟩
      ·rename_i hbw
       have hb' : b = !want := by cases b <;> cases want <;> simp_all
       subst hb'
       rw [setlK_eq, setl_same hb, putK_eq] at h
       exact ⟨_, by unfold YlD; rw [hg]; exact ⟨oj, t, hoj', ht, .inl ⟨_, hb, .inr ⟨hbw, rfl⟩⟩⟩, h⟩
     ·rename_i hb
      rw [putK_eq] at h
      exact ⟨_, by unfold YlD; rw [hg]; exact ⟨oj, t, hoj', ht, .inr ⟨hb, rfl⟩⟩, h⟩
     ·cases h
    ·cases h
   ·cases h
def stD (C : FuncId → Option (Entry E)) (ops : Array Oper) (m : Mem E) (i : Nat) (K : List (AV E) → Prop) (ts : List (AV E)) : Prop := match ops[i]? with
 | none => K ts
 | some o => ∃ v, YlD C ops m o v ts ∧ K (putT ts o.dst v)
def anyD (C : FuncId → Option (Entry E)) (ops : Array Oper) (m : Mem E) (Q : List (AV E) → Prop) : Nat → Array Bool → List (AV E) → Prop
 | 0, listed, ts => Region.ready .any ops listed = [] ∧ Q ts
 | fuel + 1, listed, ts => (Region.ready .any ops listed = [] → Q ts) ∧ ∀ i ∈ Region.ready .any ops listed, stD C ops m i (anyD C ops m Q fuel (listed.setIfInBounds i true)) ts
theorem stD_put {C : FuncId → Option (Entry E)} {ops : Array Oper} {j : Nat} {oi oj : Oper} {v : AV E} (hj : ops[j]? = some oj) (hap : oi.apart ops oj = true) {K : List (AV E) → Prop} {ts : List (AV E)}
  (hy : YlD C ops m oi v ts) (h : stD C ops m j K (putT ts oi.dst v)) : stD C ops m j (fun ts' => YlD C ops m oi v ts' ∧ K (putT ts' oi.dst v)) ts := by
 obtain ⟨h1, h2, h3⟩ := Oper.apart_spec hap
 unfold stD at *
 simp only [hj] at *
 obtain ⟨u, hu, hk⟩ := h
 exact ⟨u, (YlD.put h1).1 hu, (YlD.put h3).2 hy, by rw [put_comm fun t ht ht' => h2 t ht' ht]; exact hk⟩
theorem stD_mono {C : FuncId → Option (Entry E)} {ops : Array Oper} {i : Nat} {K K' : List (AV E) → Prop} {ts : List (AV E)} (h : ∀ ts, K ts → K' ts) (hh : stD C ops m i K ts) : stD C ops m i K' ts := by
 unfold stD at *
 split
 ·rename_i hi; simp only [hi] at hh; exact h _ hh
 ·rename_i o hi; simp only [hi] at hh; obtain ⟨v, h1, h2⟩ := hh; exact ⟨v, h1, h _ h2⟩
theorem anyD_first {C : FuncId → Option (Entry E)} {ops : Array Oper} {Q : List (AV E) → Prop} {i : Nat} {oi : Oper} {v : AV E} (hi : ops[i]? = some oi) :
  ∀ (fuel : Nat) (listed : Array Bool) (ts : List (AV E)),
   (∀ j oj, ops[j]? = some oj → j ≠ i → listed.getD j true = false → (∀ e ∈ oj.after, Region.binds .any e = true → e.on ≠ i) → oi.apart ops oj = true) →
   i ∈ Region.ready .any ops listed → YlD C ops m oi v ts →
   anyD C ops m Q fuel (listed.setIfInBounds i true) (putT ts oi.dst v) → anyD C ops m Q (fuel + 1) listed ts := by
 intro fuel
 induction fuel with
 | zero =>
  intro listed ts _ hr hy H
  refine ⟨fun h => (by rw [h] at hr; cases hr), fun j hj => ?_⟩
  by_cases hji : j = i
  ·subst hji; unfold stD; simp only [hi]; exact ⟨v, hy, H⟩
  ·have := ready_mono hj hji
   rw [H.1] at this
   cases this
 | succ fuel ih =>
  intro listed ts hfree hr hy H
  refine ⟨fun h => (by rw [h] at hr; cases hr), fun j hj => ?_⟩
  by_cases hji : j = i
  ·subst hji; unfold stD; simp only [hi]; exact ⟨v, hy, H⟩
  ·have h1 := H.2 j (ready_mono hj hji)
   obtain ⟨hjun, oj, hoj, hall⟩ := mem_ready.1 hj
   have hnot : ∀ e ∈ oj.after, Region.binds .any e = true → e.on ≠ i := fun e he hb heq => by
    have h1 := hall e he hb
    have h0 := (mem_ready.1 hr).1
    rw [heq] at h1
    rcases Nat.lt_or_ge i listed.size with h' | h'
    ·simp [h'] at h0 h1; rw [h0] at h1; cases h1
    ·simp [Array.getElem?_eq_none h'] at h1
   have h2 := stD_put hoj (hfree j oj hoj hji hjun hnot) hy h1
   have hfree' : ∀ k ok, ops[k]? = some ok → k ≠ i → (listed.setIfInBounds j true).getD k true = false →
     (∀ e ∈ ok.after, Region.binds .any e = true → e.on ≠ i) → oi.apart ops ok = true := fun k ok hk hki hun hno => by
    refine hfree k ok hk hki ?_ hno
    by_cases hjk : j = k
    ·subst hjk; exact hjun
    ·rw [getD_set_ne true hjk] at hun; exact hun
   refine stD_mono (fun ts' h3 => ih (listed.setIfInBounds j true) ts' hfree' (ready_mono hr (Ne.symm hji)) h3.1 ?_) h2
   rw [Array.setIfInBounds_comm _ _ hji]
   exact h3.2
theorem anyD_lex {C : FuncId → Option (Entry E)} {ops : Array Oper} {K : List (AV E) → Option R} : ∀ (l : List Oper) (k : Nat) (listed : Array Bool) (ts : List (AV E)), (∀ j, l[j]? = ops[k + j]?) →
  Region.lexFrom .any ops l.length k listed = true → evOpsD C ops.toList n m l ts K = some r → anyD C ops m (fun ts => K ts = some r) l.length listed ts
 | [], _, _, _, _, hB, h => ⟨by simpa [Region.lexFrom] using hB, h⟩
 | o :: l, k, listed, ts, hl, hB, h => by
  have h0 : ops[k]? = some o := by simpa using (hl 0).symm
  simp only [List.length_cons, Region.lexFrom, Bool.and_eq_true] at hB
  obtain ⟨⟨hr, hf⟩, hB'⟩ := hB
  simp only [evOpsD] at h
  obtain ⟨v, hy, hK⟩ := YlD_of h
  exact anyD_first h0 l.length listed ts (Region.free_spec h0 hf) (by simpa using hr) hy
   (anyD_lex l (k + 1) _ _ (fun j => by have := hl (j + 1); simpa [Nat.add_assoc, Nat.add_comm 1 j] using this) hB' hK)
theorem anyD_sound [GlobOK E w0 Φ I0] (hE : EnvOK E P) {C : FuncId → Option (Entry E)} (hC : CSound E P C) {ops : Array Oper} {K : List (AV E) → Option R} :
  ∀ (fuel : Nat) (listed : Array Bool) (ts : List (AV E)) (n : Nat) (G : Gh) (a : Act) (w : World), anyD C ops m (fun ts => K ts = some r) fuel listed ts → Mr E w0 Φ I0 G m n w → Tr E G ts m n a w →
   (∀ ts n' G a w, n' ≤ n + wide * fuel → K ts = some r → Mr E w0 Φ I0 G m n' w → Tr E G ts m n' a w → Q .normal a w) → wpAny P .any ops Q fuel listed a w
 | 0, listed, ts, n, G, a, w, h, hM, hT, hK => ⟨h.1, hK ts n G a w (Nat.le_refl _) h.2 hM hT⟩
 | fuel + 1, listed, ts, n, G, a, w, h, hM, hT, hK => by
  have hn1 : n ≤ n + wide := Nat.le_add_right _ _
  have hn2 : n + wide * (fuel + 1) = n + wide + wide * fuel := by rw [Nat.mul_succ]; omega
  refine ⟨fun h0 => hK ts n G a w (Nat.le_add_right _ _) (h.1 h0) hM hT, fun i hi => ?_⟩
  have hs := h.2 i hi
  have go : ∀ (ts' : List (AV E)) (G' : Gh) (a' : Act) (w' : World), anyD C ops m (fun ts => K ts = some r) fuel (listed.setIfInBounds i true) ts' → Mr E w0 Φ I0 G' m (n + wide) w' → Tr E G' ts' m (n + wide) a' w' → wpAny P .any ops Q fuel (listed.setIfInBounds i true) a' w' :=
   fun ts' G' a' w' h1 h2 h3 => anyD_sound hE hC fuel _ ts' (n + wide) G' a' w' h1 h2 h3 fun ts n' G a w hn => hK ts n' G a w (by rw [hn2]; exact hn)
  unfold stD at hs
  unfold wpOp
  split at hs
  ·rename_i ho
   simp only [ho]
   exact go ts G a w hs (hM.to hn1) (hT.to hn1)
  ·rename_i o ho
   simp only [ho]
   obtain ⟨v, hy, hk⟩ := hs
   have run : EvD C m ts o.op v → o.wp P a w (wpAny P .any ops Q fuel (listed.setIfInBounds i true)) Q := fun hv => by
    classical
    have h1 : (evOp C n ts o.op).run m (fun v' m' => if v' = v ∧ m' = m then some () else none) = some () :=
     run_of_runD _ m (fun v' => if v' = v then some () else none) _ () (fun v' hv' => by
      split at hv'
      ·rename_i e; simp [e]
      ·cases hv') (hv.2 n _ () (by simp))
    exact evOp_sound hE hC hM hT h1 fun v' m' G' u w' hk' h2 h3 h4 => by
     split at hk'
     ·rename_i e
      obtain ⟨rfl, rfl⟩ := e
      exact go _ G' _ w' hk h2 (h3.put o.dst h4)
     ·cases hk'
   have skip : v = .tup [] → wpAny P .any ops Q fuel (listed.setIfInBounds i true) (a.put o.dst undef) w := fun e => by
    subst e
    exact go _ G _ w hk (hM.to hn1) ((hT.to hn1).put o.dst undef_rel)
   unfold YlD at hy
   split at hy
   ·rename_i hg
    have hw : Region.wanted o (yielded ops a.tmps) = true := by simp [Region.wanted, hg]
    rw [if_pos hw]
    exact .inl (run hy)
   ·rename_i j want hg
    obtain ⟨oj, t, hoj, ht, h4⟩ := hy
    rcases h4 with ⟨b, hb, h5⟩ | ⟨hb, h5⟩
    ·obtain ⟨g1, g2⟩ := hT.get hb
     have hbv : a.tmps.getD t undef = .bool b := g2.1
     have hyb : yielded ops a.tmps j = some b := by simp [yielded, hoj, ht, g1, hbv]
     rcases h5 with ⟨h6, h7⟩ | ⟨h6, h7⟩
     ·subst h6
      have hw : Region.wanted o (yielded ops a.tmps) = true := by simp [Region.wanted, hg, hyb]
      rw [if_pos hw]
      exact .inl (run h7)
     ·have hw : ¬ Region.wanted o (yielded ops a.tmps) = true := by simp [Region.wanted, hg, hyb, h6]
      rw [if_neg hw]
      exact skip h7
    ·obtain ⟨g1, arr, g2, g3, _⟩ := hT.get hb
     have hyb : yielded ops a.tmps j = none := by simp [yielded, hoj, ht, g1, g2]
     have hw : ¬ Region.wanted o (yielded ops a.tmps) = true := by simp [Region.wanted, hg, hyb]
     rw [if_neg hw]
     exact skip h5
theorem region_draw [GlobOK E w0 Φ I0] (hE : EnvOK E P) {C : FuncId → Option (Entry E)} (hC : CSound E P C) {id : Nat} {ops : Array Oper} (hB : Region.lexB .any ops = true) {K : List (AV E) → Option R} (h : evOpsD C ops.toList n m ops.toList ts K = some r)
  (hM : Mr E w0 Φ I0 G m n w) (hT : Tr E G ts m n a w) (hK : ∀ ts G a w, K ts = some r → Mr E w0 Φ I0 G m (n + wide * ops.size) w → Tr E G ts m (n + wide * ops.size) a w → Q .normal a w) : (Code.region id ops true).wp P Q a w := by
 simp only [Region.lexB, Bool.and_eq_true] at hB
 refine wp_region_any hE.mixed ?_
 have hf : Frame (fun _ => False) w { w with drawn := w.drawn + 1 } := ⟨rfl, rfl, rfl, Nat.le_refl _, fun _ _ _ => rfl⟩
 have h1 := anyD_lex ops.toList 0 (Array.replicate ops.size false) ts (by simp) (by simpa using hB.2) h
 rw [Array.length_toList] at h1
 exact anyD_sound hE hC ops.size _ ts n G a _ h1 (hM.grow hf fun k hk => hk.elim) (hT.keep (Mle.refl _ _ _) (Nat.le_refl _) fun k hk => ⟨hk, rfl⟩) fun ts n' G a w hn hk h2 h3 => hK ts G a w hk (h2.to hn) (h3.to hn)
end
end Go.B

/- One operation: what the reckoner says of the program's. -/
import Derived.Laws.BytesArg
import Derived.Test.YtepfpdaehcmblaaBFn
import Derived.Test.YtepfpdaehcmblaaBWr2
import Derived.Laws.Tables
namespace Go.B
open Go Go.RowKit
set_option linter.unusedVariables false
set_option linter.unusedSimpArgs false
variable {E : Env} {P : Program}
def FnOK (P : Program) (f : FuncId) : Prop := ∃ fn, P.funcs[f]? = some fn ∧ (fn.name == "runtime.NumGoroutine") = false ∧ fn.body.isNone = false
def CSound (E : Env) (P : Program) (C : FuncId → Option (Entry E)) : Prop := ∀ f en, C f = some en → SoundC E P f en.F ∧ FnOK P f
section
variable {R : Type} {G : Gh} {w w0 w1 w' : World} {m m' m1 m2 : Mem E} {n : Nat} {K : AV E → Mem E → Option R} {r : R} {Φ Ψ : Nat → Prop} {I0 : Ent} {ts : List (AV E)} {a : Act} {next : Act → World → Prop} {Q : Exit → Act → World → Prop}
theorem list_one {α : Type} {xs : Array α} {x : α} (h : xs.toList = [x]) : xs = #[x] := by cases xs; simp_all
theorem list_two {α : Type} {xs : Array α} {x y : α} (h : xs.toList = [x, y]) : xs = #[x, y] := by cases xs; simp_all
theorem builtin_sound (hE : EnvOK E P) (hM : Mr E w0 Φ I0 G m n w) (hT : Tr E G ts m n a w) {b : Builtin} {xs : Array Operand} {tys : Array TypeId} {ty : TypeId} {cs : Array Bool} (h : (evBuiltin n ts b xs.toList tys.toList).run m K = some r) :
  ∃ v m' G' u w', K v m' = some r ∧ (builtin b tys ty cs (xs.map a.eval)).run P w = .ok (.value u) w' ∧ Mr E w0 Φ I0 G' m' (n + wide) w' ∧ Tr E G' ts m' (n + wide) a w' ∧ AVr E G' w' m' (n + wide) v u := by
 have hnn : n ≤ n + wide := Nat.le_add_right _ _
 unfold evBuiltin at h
 split at h
 ·rename_i x t rest hx ht
  obtain ⟨i, hi, h⟩ := run_info h
  obtain ⟨p, hp, h⟩ := run_a1 h
  have hpr := Aeval_rel hT x
  rw [hp] at hpr
  obtain ⟨l, h, hl⟩ := lenA_sound hE hM hi hpr h
  obtain rfl := list_one hx
  have ht0 : tys[0]? = some t := by rw [← Array.getElem?_toList, ht]; rfl
  refine ⟨_, m, G, _, w, h, ?_, hM.to hnn, hT.to hnn, rfl, rfl⟩
  show (do pure (.value (← Builtin.len_ tys ty _)) : Sem Next).run P w = _
  rw [Sem.run_bind]
  have := hl tys ty ht0
  simp only [List.map_toArray, List.map_cons, List.map_nil] at this ⊢
  rw [this]; rfl
 ·rename_i x y t t' hx ht
  obtain ⟨i, hi, h⟩ := run_info h
  split at h
  ·rename_i e hd
   obtain ⟨j, hj, h⟩ := run_info h
   obtain ⟨i', hi', h⟩ := run_info h
   obtain ⟨p, hp, h⟩ := run_a1 h
   obtain ⟨q, hq, h⟩ := run_a1 h
   have hpr := Aeval_rel hT x
   rw [hp] at hpr
   have hqr := Aeval_rel hT y
   rw [hq] at hqr
   obtain rfl := list_two hx
   obtain rfl := list_two ht
   have key : ∀ (q : A1 E) (hqr : A1r E G w m n q (a.eval y)) (hty : (t' = t ∧ (∀ s, q ≠ .s (.string s)) ∧ ∀ k l, q ≠ .s (.int k l)) ∨ (i'.desc = .string ∧ ∃ s, q = .s (.string s)) ∨ (∃ k, i'.desc = .int k) ∧ ∃ k l, q = .s (.int k l)), (appendV n j e p q).run m K = some r →
     ∃ v m' G' u w', K v m' = some r ∧ (builtin .append #[t, t'] ty cs (#[x, y].map a.eval)).run P w = .ok (.value u) w' ∧ Mr E w0 Φ I0 G' m' (n + wide) w' ∧ Tr E G' ts m' (n + wide) a w' ∧ AVr E G' w' m' (n + wide) v u := fun q hqr hty h => by
    obtain ⟨v', m', u', w', G', f1, f2, f3, f4, f5⟩ := appendV_sound hE hM hT hi hd hj hi' hpr hqr hty h ty
    refine ⟨v', m', G', u', w', f1, ?_, f3, f4, f5⟩
    show (do pure (.value (← Builtin.append_ #[t, t'] ty _)) : Sem Next).run P w = _
    rw [Sem.run_bind]
    simp only [List.map_toArray, List.map_cons, List.map_nil]
    rw [f2]; rfl
   split at h
   ·rename_i htt
    split at h
    ·cases h
    ·cases h
    ·refine key (.imm e []) ?_ (.inl ⟨htt.symm, ⟨fun s e => (nomatch e), fun k l e => (nomatch e)⟩⟩) h
     have hqv : a.eval y = .slice none 0 0 := hqr.1
     rw [hqv]
     exact Rd.sl (val := fun _ _ => undef) rfl (Nat.le_refl _) (Nat.zero_le _) (fun h => absurd h (Nat.lt_irrefl _)) (fun i j h => absurd h (Nat.not_lt_zero _)) (fun i j h => absurd h (Nat.not_lt_zero _))
    ·rename_i hns hni _
     exact key _ hqr (.inl ⟨htt.symm, fun s e => hns s e, fun k l e => hni k l e⟩) h
   ·split at h
    ·rename_i hs
     exact key (.s (.string _)) hqr (.inr (.inl ⟨hs, _, rfl⟩)) h
    ·rename_i hs
     exact key (.s (.int _ _)) hqr (.inr (.inr ⟨⟨_, hs⟩, _, _, rfl⟩)) h
    ·cases h
  ·cases h
 ·rename_i _ x y hx
  obtain ⟨v, hv, h⟩ := run_scal h
  obtain ⟨u, hu, h⟩ := run_scal h
  have hvr := Aeval_rel hT x
  rw [hv] at hvr
  have hur := Aeval_rel hT y
  rw [hu] at hur
  obtain ⟨z, h, hz, hrun⟩ := minV_sound h tys ty
  obtain rfl := list_two hx
  refine ⟨_, m, G, z, w, h, ?_, hM.to hnn, hT.to hnn, rfl, hz⟩
  show (do pure (.value (← Builtin.min_ tys ty _)) : Sem Next).run P w = _
  rw [Sem.run_bind]
  simp only [List.map_toArray, List.map_cons, List.map_nil, hvr.1, hur.1]
  rw [hrun]; rfl
 ·rename_i _ x y hx
  obtain ⟨v, hv, h⟩ := run_scal h
  obtain ⟨u, hu, h⟩ := run_scal h
  have hvr := Aeval_rel hT x
  rw [hv] at hvr
  have hur := Aeval_rel hT y
  rw [hu] at hur
  obtain ⟨z, h, hz, hrun⟩ := maxV_sound h tys ty
  obtain rfl := list_two hx
  refine ⟨_, m, G, z, w, h, ?_, hM.to hnn, hT.to hnn, rfl, hz⟩
  show (do pure (.value (← Builtin.max_ tys ty _)) : Sem Next).run P w = _
  rw [Sem.run_bind]
  simp only [List.map_toArray, List.map_cons, List.map_nil, hvr.1, hur.1]
  rw [hrun]; rfl
 ·rename_i x y t _ hx ht
  obtain ⟨i, hi, h⟩ := run_info h
  split at h
  ·rename_i e hd
   obtain ⟨j, hj, h⟩ := run_info h
   obtain ⟨p, hp, h⟩ := run_a1 h
   obtain ⟨q, hq, h⟩ := run_a1 h
   have hpr := Aeval_rel hT x
   rw [hp] at hpr
   have hqr := Aeval_rel hT y
   rw [hq] at hqr
   obtain rfl := list_two hx
   obtain rfl := list_two ht
   obtain ⟨v', m', u', w', G', f1, f2, f3, f4, f5⟩ := copyR_sound hE hM hT hi hd hj hpr hqr h ty
   refine ⟨v', m', G', u', w', f1, ?_, f3, f4, f5⟩
   show (do pure (.value (← Builtin.copy_ _ ty _)) : Sem Next).run P w = _
   rw [Sem.run_bind]
   simp only [List.map_toArray, List.map_cons, List.map_nil]
   rw [f2]; rfl
  ·cases h
 ·cases h
theorem map_get (xs : List Operand) (j : Nat) (b : AV E) (hj : (xs.map (Aeval ts))[j]? = some b) : ∃ x, xs[j]? = some x ∧ b = Aeval ts x := by
 rw [List.getElem?_map] at hj
 obtain ⟨x, h1, h2⟩ := Option.map_eq_some_iff.1 hj
 exact ⟨x, h1, h2.symm⟩
theorem places_sound (hE : EnvOK E P) : ∀ {fs : List Field}, (∀ (k : Nat) (fd : Field), fs[k]? = some fd → ∃ j, E.info fd.type = some j) →
  ∃ places, fs.mapM (fun f => (P.info? f.type).map fun i => (f.offset, i.size)) = some places ∧ ∀ (k : Nat) (fd : Field) j, fs[k]? = some fd → E.info fd.type = some j → places[k]? = some (fd.offset, j.size)
 | [], _ => ⟨[], by simp, fun k fd j h => by simp at h⟩
 | f :: fs, h => by
  obtain ⟨places, h1, h2⟩ := places_sound hE (fs := fs) fun k fd hk => h (k + 1) fd (by simpa using hk)
  obtain ⟨j, hj⟩ := h 0 f rfl
  obtain ⟨_, ⟨i, hi, hs, _⟩, _⟩ := hE.info _ j hj
  refine ⟨(f.offset, i.size) :: places, by simp [List.mapM_cons, hi, h1], fun k fd j' hk hj' => ?_⟩
  cases k with
  | zero => simp at hk; subst hk; rw [hj] at hj'; cases hj'; simp [hs]
  | succ k => simpa using h2 k fd j' (by simpa using hk) hj'
theorem strOf_nums (xs : List Int) : xs.foldl (fun r n => r.push (UInt8.ofNat n.toNat)) ByteArray.empty = strOf xs := by
 rw [foldl_push_bytes]
 simp [strOf, ByteArray.empty, ByteArray.emptyWithCapacity]
 rfl
theorem conv_bytes (hE : EnvOK E P) {src dst e : TypeId} {j : TI} (hs : P.underlying src = some (.slice e)) (he : P.underlying e = some (.int .u8)) (hd : P.underlying dst = some .string) (hj : E.info e = some j) (h1 : j.size = 1)
  {I : Nat → Prop} {u : Value} {ys : List (E.T e)} {ns : List Int} (hi : E.ints e ys = some ns) (hr : Rd E w I u (.sl e ys)) : (convert src dst u).run P w = .ok (.string (strOf ns)) w := by
 obtain ⟨q1, q2⟩ := hE.intsOK e ys ns hi
 cases hr with
 | @sl A nn cap _ _ val hn hc hm ha hw hr =>
  subst hn
  have hsz : E.sz e = 1 := by rw [hE.szEq hj, h1]
  by_cases h0 : ys.length = 0
  ·have hns : ns = [] := List.length_eq_zero_iff.1 (by rw [← q1]; exact h0)
   subst hns
   cases A with
   | none => rw [run_convert_bytes_nil w src e hs he _ _ dst hd]; rfl
   | some ad =>
    rw [run_convert_bytes_string w src dst e _ _ cap hs he hd, run_bytesToString w ad _ cap [] (by
     rw [h0]; exact run_loadCells_list w ad [] (fun j v hj => by simp at hj)), strOf_nums]
  ·obtain ⟨ad, rfl⟩ := Option.isSome_iff_exists.1 (ha (by omega))
   have hcell : ∀ k, k < ys.length → w.cell? (ad.add k) = some (.int .u8 (ns.getD k 0)) := fun k hk => by
    obtain ⟨_, h2⟩ := hw k 0 hk (by omega)
    have h3 := hr k 0 hk (by omega)
    have e3 : cellAt E e (ys.getD k (E.dflt e)) 0 = .s (.int .u8 (ns.getD k 0)) := by simp only [cellAt, q2 k (by omega)]; rfl
    rw [e3] at h3
    rw [hsz, Nat.mul_one, Nat.add_zero] at h2
    have h4 : ∀ {z : Value}, Rd E w I z (.s (.int .u8 (ns.getD k 0))) → z = .int .u8 (ns.getD k 0) := fun {z} hz => by cases hz; rfl
    rw [← h4 h3]; exact h2
   have hl := run_loadCells_list (P := P) w ad (ns.map (Value.int .u8)) (fun k v hk => by
    have hkl : k < ns.length := by
     have := (List.getElem?_eq_some_iff.1 hk).1
     simpa using this
    rw [hcell k (by omega)]
    simp [List.getElem?_eq_getElem hkl] at hk
    subst hk
    simp [List.getD, List.getElem?_eq_getElem hkl])
   rw [List.length_map, ← q1] at hl
   rw [run_convert_bytes_string w src dst e _ _ cap hs he hd, run_bytesToString w ad _ cap ns hl, strOf_nums]
theorem ownsG_zero {b : Nat} {e : TypeId} {s nn : Nat} {v : Value} {xs : List Value} (h : w.ownsRowG b e s v nn xs) : w.ownsRowG 0 e s v nn xs :=
 ⟨h.1, h.2.imp _root_.id fun ⟨g, cap, cur, h1, h2, h3⟩ => ⟨g, cap, cur, h1, Nat.zero_le _, h3⟩⟩
theorem conv_sound (hE : EnvOK E P) (hM : Mr E w0 Φ I0 G m n w) (hT : Tr E G ts m n a w) {src dst : TypeId} {i j : TI} (hi : E.info src = some i) (hj : E.info dst = some j) {b : A1 E} {x : Value} (hx : A1r E G w m n b x)
  (h : (convA n i j b).run m K = some r) : ∃ v m' G' u w', K v m' = some r ∧ (convert src dst x).run P w = .ok u w' ∧ Mr E w0 Φ I0 G' m' (n + wide) w' ∧ Tr E G' ts m' (n + wide) a w' ∧ AVr E G' w' m' (n + wide) v u := by
 have hnn : n ≤ n + wide := Nat.le_add_right _ _
 have pure_ : ∀ {v : AV E} {u : Value}, K v m = some r → (convert src dst x).run P w = .ok u w → AVr E G w m n v u → ∃ v m' G' u w', K v m' = some r ∧ (convert src dst x).run P w = .ok u w' ∧ Mr E w0 Φ I0 G' m' (n + wide) w' ∧ Tr E G' ts m' (n + wide) a w' ∧ AVr E G' w' m' (n + wide) v u := fun {v u} hk hr hv =>
  ⟨v, m, G, u, w, hk, hr, hM.to hnn, hT.to hnn, hv.keep (Mle.refl _ _ _) hnn fun k hk => ⟨hk, rfl⟩⟩
 have hu := hE.under w hi
 have hv := hE.under w hj
 have hui : P.underlying src = some i.desc := (hE.info src i hi).1
 have huj : P.underlying dst = some j.desc := (hE.info dst j hj).1
 unfold convA at h
 split at h
 ·rename_i k hd
  split at h
  ·rename_i q mm
   have hx' : x = .int q mm := hx.1
   refine pure_ h ?_ ⟨rfl, rfl⟩
   rw [hd] at hv
   simp [convert, hu, hv, hx', Conv.intToInt]
  ·cases h
 ·rename_i hd
  split at h
  ·rename_i s
   have hx' : x = .string s := hx.1
   refine pure_ h ?_ ⟨rfl, rfl⟩
   rw [hd] at hv
   simp [convert, hu, hv, hx']
  ·rename_i q mm
   have hx' : x = .int q mm := hx.1
   refine pure_ h ?_ ⟨rfl, rfl⟩
   rw [hd] at hv
   simp [convert, hu, hv, hx', Conv.intToString]
  ·unfold convS at h
   split at h
   ·rename_i e he
    obtain ⟨q, hq, h⟩ := run_info h
    split at h
    ·rename_i hq8
     have hue : P.underlying e = some (.int .u8) := by rw [(hE.info e q hq).1, hq8]
     have hsz : q.size = 1 := (hE.info e q hq).2.2.2 (by rw [(hE.info e q hq).2.2.1, hq8])
     rw [he] at hui
     rw [hd] at huj
     split at h
     ·have hx' : x = .slice none 0 0 := hx.1
      subst hx'
      exact pure_ h (run_convert_bytes_nil w src e hui hue 0 0 dst huj) ⟨rfl, rfl⟩
     ·obtain ⟨c, h, hc, _⟩ := seeCell_sound hM h
      split at h
      ·rename_i e' ys
       obtain ⟨he', h'⟩ := run_need h
       clear h
       subst he'
       split at h'
       ·rename_i ns hns
        exact pure_ h' (conv_bytes hE hui hue huj hq hsz hns (hc x hx)) ⟨rfl, rfl⟩
       ·cases h'
      ·cases h
    ·cases h
   ·cases h
 ·rename_i e hd
  split at h
  ·rename_i s
   unfold convB at h
   obtain ⟨q, hq, h⟩ := run_info h
   split at h
   ·rename_i ys hi8 hq8 hys
    obtain ⟨hs, h⟩ := run_need h
    have h' := run_put h
    have hx' : x = .string s := hx.1
    subst hx'
    have hue : P.underlying e = some (.int .u8) := by rw [(hE.info e q hq).1, hq8]
    rw [hi8] at hui
    rw [hd] at huj
    obtain ⟨⟨q1, q2, q3⟩, q4, q5⟩ := hE.bytesOK e _ _ q hys hq
    have hsze : E.sz e = 1 := by rw [hE.szEq hq, q1]
    have hbl : (bytesOf s).length = s.size := by simp [bytesOf]
    have hr := Lib.run_convert_string_bytes (P := P) w src dst e s hui huj hue
    obtain ⟨ho, hg⟩ := Lib.bytesWorld_ownsG w e s (by simp only [maxN] at hs; simp only [Go.maxLen]; omega)
    have hf : Frame (fun _ => False) w (Lib.bytesWorld w e s) := ⟨hg.os, hg.tape, hg.output, hg.size, fun k hk _ => hg.block k hk (by simp)⟩
    have hyl : ys.length = s.size := by rw [q4, hbl]
    obtain ⟨G', g1, g2, g3⟩ := row_put (Ψ := fun _ => False) (F := fun _ _ _ => False) (d := true) (xs := ys) (e := e) (inner := Lib.strCells s) (v := .slice (some ⟨w.heap.size, 0, none⟩) s.size (grownCap w s.size 0 e)) hM hT hf (fun _ h => h.elim)
     (by rw [hsze, hyl]; exact ownsG_zero ho) (fun k hk => .inl (by simp [Value.ownBlock] at hk; omega)) (fun x y hx hy => by
      rw [hsze] at hy
      have hy0 : y = 0 := by omega
      subst hy0
      have e1 := q5 x (by omega)
      have e2 : (Lib.strCells s).getD (x * E.sz e + 0) undef = .int .u8 ((bytesOf s).getD x 0) := by
       have hxl : x < s.data.toList.length := by rw [q4, hbl] at hx; simpa using hx
       rw [hsze]
       simp only [Nat.mul_one, Nat.add_zero, Lib.strCells, bytesOf, List.getD_eq_getElem?_getD, List.getElem?_map, List.getElem?_eq_getElem hxl, Option.map_some, Option.getD_some]
      have e3 : cellAt E e (ys.getD x (E.dflt e)) 0 = .s (.int .u8 ((bytesOf s).getD x 0)) := by simp only [cellAt, e1]; rfl
      rw [e2, e3]
      exact give_s rfl) (fun _ _ _ _ _ h => h.elim) (fun _ _ _ _ _ _ _ _ _ h => h.elim)
    exact ⟨_, _, G', _, _, h', hr, g1, g2, g3⟩
   ·cases h
  ·cases h
 ·cases h
theorem evOp_sound [GlobOK E w0 Φ I0] (hE : EnvOK E P) {C : FuncId → Option (Entry E)} (hC : CSound E P C) (hM : Mr E w0 Φ I0 G m n w) (hT : Tr E G ts m n a w) {o : Oper} (h : (evOp C n ts o.op).run m K = some r)
  (hfin : ∀ v m' G' u w', K v m' = some r → Mr E w0 Φ I0 G' m' (n + wide) w' → Tr E G' ts m' (n + wide) a w' → AVr E G' w' m' (n + wide) v u → next (a.put o.dst u) w') :
  o.upon P a next Q ((execOp a.eval o).run P w) := by
 have hnn : n ≤ n + wide := Nat.le_add_right _ _
 have hn1 : n < n + wide := by simp [wide]
 have pure_ : ∀ {v : AV E} {u : Value}, K v m = some r → (execOp a.eval o).run P w = .ok (.value u) w → AVr E G w m n v u → o.upon P a next Q ((execOp a.eval o).run P w) := fun {v u} hk hr hv => by
  rw [hr]
  exact hfin v m G u w hk (hM.to hnn) (hT.to hnn) (hv.keep (Mle.refl _ _ _) hnn fun k hk => ⟨hk, rfl⟩)
 have made : ∀ {v : AV E} {m' : Mem E} {G' : Gh} {u : Value} {w' : World}, K v m' = some r → (execOp a.eval o).run P w = .ok (.value u) w' → Mr E w0 Φ I0 G' m' (n + wide) w' → Tr E G' ts m' (n + wide) a w' → AVr E G' w' m' (n + wide) v u → o.upon P a next Q ((execOp a.eval o).run P w) := fun {v m' G' u w'} hk hr h1 h2 h3 => by
  rw [hr]
  exact hfin v m' G' u w' hk h1 h2 h3
 cases hop : o.op with
 | move x => rw [hop] at h; exact pure_ h (by simp [execOp, hop]) (Aeval_rel hT x)
 | assign x => rw [hop] at h; exact pure_ h (by simp [execOp, hop]) (Aeval_rel hT x)
 | pick c x y =>
  rw [hop] at h
  simp only [evOp] at h
  obtain ⟨v, hv, h⟩ := run_scal h
  have hcr := Aeval_rel hT c
  rw [hv] at hcr
  split at h
  ·rename_i q
   have hc : a.eval c = .bool q := hcr.1
   simp only [Mp.run] at h
   split at h
   ·rename_i hq; exact pure_ h (by simp [execOp, hop, hc, asBool, hq]) (Aeval_rel hT x)
   ·rename_i hq
    have hq' : q = false := by simpa using hq
    exact pure_ h (by simp [execOp, hop, hc, asBool, hq']) (Aeval_rel hT y)
  ·cases h
 | alloc t =>
  rw [hop] at h
  simp only [evOp] at h
  obtain ⟨i, hi, h⟩ := run_info h
  split at h
  ·rename_i z hz
   have h' := run_put h
   obtain ⟨hz1, hz2, _⟩ := hE.zero t i z hi hz
   obtain ⟨G', g1, g2, g3⟩ := box_sound hM hT (zeroA_rel (E := E) (G := G) (w := w) (m := m) (n := n) hz2) t hn1
   refine made h' ?_ g1 g2 g3
   simp [execOp, hop, Instr.alloc, hE.zeroValue w hi hz, newVar, newRow]
  ·cases h
 | box t x =>
  rw [hop] at h
  simp only [evOp] at h
  have hx := Aeval_rel hT x
  split at h
  ·cases h
  ·rename_i b hnj hb
   rw [hb] at hx
   have h' := run_put h
   have hc := cellsOf_rel (x := b) hx (by
    cases b with
    | c b => left; cases b <;> first | (simp [cellsOfA]; done) | exact (hnj rfl).elim
    | g cs => exact .inr ⟨cs, rfl⟩)
   obtain ⟨G', g1, g2, g3⟩ := box_sound hM hT hc t hn1
   refine made h' ?_ g1 g2 g3
   simp [execOp, hop, Instr.box, newVar, newRow]
  ·cases h
 | build t parts =>
  rw [hop] at h
  simp only [evOp] at h
  obtain ⟨i, hi, h⟩ := run_info h
  split at h
  ·rename_i fs z ps hd hz hps
   split at h
   ·rename_i cs hcs
    obtain ⟨hz1, hz2, _⟩ := hE.zero t i z hi hz
    obtain ⟨q1, q2⟩ := a2s_sound hT hps
    obtain ⟨places, hpl, hpg⟩ := places_sound (P := P) hE (fs := fs.toList) (fun k fd hk => by obtain ⟨j, h1, _⟩ := hE.field t i fs k fd hi hd (by rw [geta_eq]; exact hk); exact ⟨j, h1⟩)
    obtain ⟨arr, f1, f2, f3⟩ := fill_sound (pb := fun x => places.toArray[x]?) (fun f q hq => by
     rw [hd] at hq
     simp only at hq
     split at hq
     ·rename_i fd hfd
      split at hq
      ·rename_i j hj
       cases hq
       obtain ⟨j', h1, h2, h3⟩ := hE.field t i fs f fd hi hd hfd
       rw [hj] at h1; cases h1
       rw [geta_eq] at hfd
       exact ⟨by simpa using hpg f fd j hfd hj, h3⟩
      ·cases hq
     ·cases hq) (zeroA_rel (E := E) (G := G) (w := w) (m := m) (n := n) hz2) hcs q1 q2
    refine pure_ h ?_ ⟨arr, rfl, f2⟩
    obtain ⟨hu, ⟨it, hit, _, _, hzt⟩, _⟩ := hE.info t i hi
    have hb : P.built t (parts.map fun (x : Nat × Operand) => (x.1, a.eval x.2)).toList = some arr := by
     unfold Program.built
     rw [hit, hu, hd]
     simp only [hzt, hz, hpl]
     simpa using f1
    have := run_build w t _ arr hb
    simp [execOp, hop, this]
   ·cases h
  ·cases h
 | buildSlice t mm parts =>
  rw [hop] at h
  simp only [evOp] at h
  obtain ⟨i, hi, h⟩ := run_info h
  split at h
  ·rename_i e ps hd hps
   obtain ⟨j, hj, h⟩ := run_info h
   split at h
   ·rename_i z hz
    split at h
    ·rename_i hmm
     split at h
     ·rename_i cs hcs
      have hjs := (hE.pos e j hj).1
      obtain ⟨v, m', u, w', G', f1, f2, f3, f4, f5⟩ := buildSlice_sound hE hM hT hi hd hj hz hmm (Nat.le_trans (Nat.le_mul_of_pos_right _ hjs) hmm) hps hjs hcs h
      refine made f1 ?_ f3 f4 f5
      simp [execOp, hop, f2]
     ·cases h
    ·cases h
   ·cases h
  ·cases h
 | load t x =>
  rw [hop] at h
  simp only [evOp] at h
  obtain ⟨i, hi, h⟩ := run_info h
  obtain ⟨p, hp, h⟩ := run_a1 h
  have hx := Aeval_rel hT x
  rw [hp] at hx
  obtain ⟨v, m', G', u, f1, f2, f3, f4, f5, _⟩ := load_sound hE hM hT hi hx h
  exact made f1 (by simp [execOp, hop, f2]) (f3.to hnn) (f4.to hnn) (f5.keep (Mle.refl _ _ _) hnn fun k hk => ⟨hk, rfl⟩)
 | store t x y =>
  rw [hop] at h
  simp only [evOp] at h
  obtain ⟨i, hi, h⟩ := run_info h
  obtain ⟨p, hp, h⟩ := run_a1 h
  have hx := Aeval_rel hT x
  rw [hp] at hx
  have hy := Aeval_rel hT y
  split at h
  ·rename_i b hb
   rw [hb] at hy
   obtain ⟨m', w', G', f1, f2, f3, f4⟩ := store_sound hE hM hT hi hx hy h
   have : (execOp a.eval o).run P w = .ok .skip w' := by simp [execOp, hop, f2]
   rw [this]
   exact hfin _ m' G' undef w' f1 f3 f4 trivial
  ·cases h
 | nilCheck x =>
  rw [hop] at h
  simp only [evOp] at h
  obtain ⟨p, hp, h⟩ := run_a1 h
  have hx := Aeval_rel hT x
  rw [hp] at hx
  obtain ⟨v, ad, f1, f2, f3⟩ := addA_sound hM hx h
  have e0 : ad.add 0 = ad := by simp [Addr.add]
  rw [e0, ← f2] at f3
  refine pure_ f1 ?_ f3
  simp [execOp, hop, f2]
 | binOp op t x y t' =>
  rw [hop] at h
  simp only [evOp] at h
  have hxr := Aeval_rel hT x
  have hyr := Aeval_rel hT y
  split at h
  ·rename_i as bs hx hy
   rw [hx] at hxr
   rw [hy] at hyr
   obtain ⟨ax, ex, hax⟩ := hxr
   obtain ⟨ay, ey, hay⟩ := hyr
   obtain ⟨z, h, hz, hrun⟩ := eqA_sound hE hax hay h x y
   refine pure_ h ?_ ⟨rfl, hz⟩
   simp only [execOp, hop, ex, ey]
   rw [Sem.run_bind, hrun]; rfl
  ·obtain ⟨v, hv, h⟩ := run_scal h
   obtain ⟨u, hu, h⟩ := run_scal h
   have hvr := Aeval_rel hT x
   rw [hv] at hvr
   have hur := Aeval_rel hT y
   rw [hu] at hur
   obtain ⟨z, h, hz, hrun⟩ := binV_sound hE h x y
   refine pure_ h ?_ ⟨rfl, hz⟩
   have := hrun w
   rw [← hvr.1, ← hur.1] at this
   simp only [execOp, hop]
   rw [Sem.run_bind, this]; rfl
 | unOp op t x =>
  rw [hop] at h
  simp only [evOp] at h
  obtain ⟨v, hv, h⟩ := run_scal h
  have hvr := Aeval_rel hT x
  rw [hv] at hvr
  obtain ⟨z, h, hz, hrun⟩ := unV_sound (P := P) h
  refine pure_ h ?_ ⟨rfl, hz⟩
  have := hrun w
  rw [← hvr.1] at this
  simp only [execOp, hop]
  rw [Sem.run_bind, this]; rfl
 | convert src dst x =>
  rw [hop] at h
  simp only [evOp] at h
  obtain ⟨i, hi, h⟩ := run_info h
  obtain ⟨j, hj, h⟩ := run_info h
  obtain ⟨p, hp, h⟩ := run_a1 h
  have hx := Aeval_rel hT x
  rw [hp] at hx
  obtain ⟨v, m', G', u, w', f1, f2, f3, f4, f5⟩ := conv_sound hE hM hT hi hj hx h
  exact made f1 (by simp [execOp, hop, f2]) f3 f4 f5
 | makeSlice t x y =>
  rw [hop] at h
  simp only [evOp] at h
  obtain ⟨i, hi, h⟩ := run_info h
  split at h
  ·rename_i e hd
   obtain ⟨j, hj, h⟩ := run_info h
   obtain ⟨q, l, hl, h⟩ := run_intA h
   obtain ⟨q', c, hc, h⟩ := run_intA h
   have hlr := Aeval_rel hT x
   rw [hl] at hlr
   have hcr := Aeval_rel hT y
   rw [hc] at hcr
   split at h
   ·rename_i z hz
    obtain ⟨h0, h⟩ := run_need h
    have hlc : l ≤ c ∧ (need (c.toNat * j.bytes ≤ maxN) (.put n (.row true e (List.replicate l.toNat z)) (ret1 (.row n)) : Mp E)).run m K = some r := by
     split at h
     ·rename_i hs
      refine ⟨?_, h⟩
      have : a.eval x = a.eval y := by
       unfold sameOp at hs
       split at hs
       ·have := beq_iff_eq.1 hs; rw [this]
       ·simp only [Bool.and_eq_true, beq_iff_eq] at hs; rw [hs.1, hs.2]
       ·cases hs
      rw [hlr.1, hcr.1] at this
      injection this with _ e
      omega
     ·obtain ⟨h1, h⟩ := run_need h
      exact ⟨h1, h⟩
    obtain ⟨hlc, h⟩ := hlc
    obtain ⟨hb, h⟩ := run_need h
    have h' := run_put h
    obtain ⟨u, w', G', f2, f3, f4, f5⟩ := makeSlice_sound hE hM hT hi hd hj hz h0 hlc hb (hE.pos e j hj).2.1 q q' (hE.pos e j hj).2.2
    refine made h' ?_ f3 f4 f5
    simp [execOp, hop, hlr.1, hcr.1, f2]
   ·cases h
  ·cases h
 | slice t x lo hi' mx =>
  rw [hop] at h
  cases mx with
  | none =>
   simp only [evOp] at h
   obtain ⟨i, hi, h⟩ := run_info h
   obtain ⟨p, hp, h⟩ := run_a1 h
   have hx := Aeval_rel hT x
   rw [hp] at hx
   obtain ⟨v, u, f1, f2, f3⟩ := sliceA_sound hE hM hT hi hx h
   exact pure_ f1 (by simp [execOp, hop, f2]) f3
  | some _ => simp only [evOp] at h; cases h
 | fieldAddr t x f =>
  rw [hop] at h
  simp only [evOp] at h
  obtain ⟨i, hi, h⟩ := run_info h
  obtain ⟨fd, j, h, hj, hrun, _⟩ := fieldAddr_sound (w := w) hE hi h
  obtain ⟨p, hp, h⟩ := run_a1 h
  have hx := Aeval_rel hT x
  rw [hp] at hx
  obtain ⟨v, ad, f1, f2, f3⟩ := addA_sound hM hx h
  refine pure_ f1 ?_ f3
  simp [execOp, hop, f2, hrun]
 | field t x f =>
  rw [hop] at h
  simp only [evOp] at h
  obtain ⟨i, hi, h⟩ := run_info h
  obtain ⟨fd, j, h, hj, _, hrun⟩ := fieldAddr_sound (w := w) hE hi h
  have hx := Aeval_rel hT x
  split at h
  ·rename_i cs hcs
   rw [hcs] at hx
   obtain ⟨arr, harr, hx⟩ := hx
   obtain ⟨v, u, f1, f2, f3⟩ := field_sound hE hj hx h
   refine pure_ f1 ?_ f3
   have := hrun arr
   rw [f2, ← harr] at this
   simp [execOp, hop, this]
  ·cases h
 | indexAddr t x y =>
  rw [hop] at h
  simp only [evOp] at h
  obtain ⟨i, hi, h⟩ := run_info h
  split at h
  ·rename_i e0 hd
   obtain ⟨i0, h0, h⟩ := run_info h
   obtain ⟨p, hp, h⟩ := run_a1 h
   obtain ⟨q, j, hj, h⟩ := run_intA h
   have hx := Aeval_rel hT x
   rw [hp] at hx
   have hy := Aeval_rel hT y
   rw [hj] at hy
   obtain ⟨v, u, f1, f2, f3⟩ := indexA_sound (q := q) hE hM hi hd h0 hx h
   refine pure_ f1 ?_ f3
   simp [execOp, hop, hy.1, f2]
  ·rename_i l e0 hd
   obtain ⟨i0, h0, h⟩ := run_info h
   obtain ⟨p, hp, h⟩ := run_a1 h
   obtain ⟨q, j, hj, h⟩ := run_intA h
   obtain ⟨hj0, h⟩ := run_need h
   obtain ⟨hj1, h⟩ := run_need h
   have hx := Aeval_rel hT x
   rw [hp] at hx
   have hy := Aeval_rel hT y
   rw [hj] at hy
   obtain ⟨v, u, f1, f2, f3⟩ := indexAp_sound (q := q) hE hM hi hd h0 hx hj0 hj1 h
   refine pure_ f1 ?_ f3
   simp [execOp, hop, hy.1, f2]
  ·cases h
 | index t x y =>
  rw [hop] at h
  simp only [evOp] at h
  obtain ⟨i, hi, h⟩ := run_info h
  split at h
  ·rename_i hd
   obtain ⟨p, hp, h⟩ := run_a1 h
   obtain ⟨q, j, hj, h⟩ := run_intA h
   have hx := Aeval_rel hT x
   rw [hp] at hx
   have hy := Aeval_rel hT y
   rw [hj] at hy
   split at h
   ·rename_i s
    obtain ⟨h0, h⟩ := run_need h
    obtain ⟨h1, h⟩ := run_need h
    refine pure_ h ?_ ⟨rfl, rfl⟩
    simp [execOp, hop, hy.1, hx.1, index_sound hE hi hd q h0 h1]
   ·cases h
  ·cases h
 | extract x j =>
  rw [hop] at h
  simp only [evOp] at h
  have hx := Aeval_rel hT x
  split at h
  ·rename_i vs hvs
   rw [hvs] at hx
   obtain ⟨arr, harr, hsz, hx⟩ := hx
   split at h
   ·rename_i b hb
    rw [geta_eq] at hb
    have hl : j < arr.size := by rw [hsz]; exact (List.getElem?_eq_some_iff.1 hb).1
    refine pure_ h ?_ (hx j b hb)
    simp [execOp, hop, Instr.extract, harr, hl, Array.getD_eq_getD_getElem?]
   ·cases h
  ·cases h
 | call c =>
  rw [hop] at h
  simp only [evOp] at h
  split at h
  ·rename_i b hb
   obtain ⟨v, m', G', u, w', f1, f2, f3, f4, f5⟩ := builtin_sound (ty := o.type) (cs := c.args.map fun | .const _ => true | _ => false) hE hM hT h
   refine made f1 ?_ f3 f4 f5
   simp only [execOp, hop, resolve, hb]
   rw [Sem.run_bind, Sem.run_pure, Result.andThen_ok]
   exact f2
  ·rename_i f hf
   split at h
   ·rename_i en hen
    obtain ⟨hs, fn, hfn, hname, hbody⟩ := hC f en hen
    have hrun : (execOp a.eval o).run P w = .ok (.enter f (c.args.map a.eval)) w := by
     have h1 : ¬ fn.name = "runtime.NumGoroutine" := by simpa using hname
     have h2 : ¬ fn.body = none := by cases hb : fn.body <;> simp_all
     simp [execOp, hop, resolve, hf, Act.eval, Deferred.ofValue, invoke, callFunc, hfn, h1, h2]
    rw [hrun]
    show Calls P f (c.args.map a.eval) w _
    have hargs : ∀ (j : Nat) (b : AV E), (c.args.toList.map (Aeval ts))[j]? = some b → AVr E G w m n b ((c.args.map a.eval).getD j undef) := fun j b hj => by
     obtain ⟨x, hx, rfl⟩ := map_get _ _ _ hj
     have : (c.args.map a.eval).getD j undef = a.eval x := by
      have hx' : c.args[j]? = some x := by rw [← Array.getElem?_toList]; exact hx
      rw [Array.getD_eq_getD_getElem?, Array.getElem?_map, hx']; rfl
     rw [this]
     exact Aeval_rel hT x
    split at h
    case h_2 =>
     refine (callW_sound hE (vals := c.args.map a.eval) hs hM hT (by simp) hargs h (fin := fun u w' => next (a.put o.dst u) w') fun v m' G' u w' => hfin v m' G' u w').mono fun e w' he => ?_
     obtain ⟨u, rfl, hu⟩ := he
     exact hu
    split at h
    ·refine (callK_sound (vals := c.args.map a.eval) hE hs hM hT (by simp) hargs h (fin := fun u w' => next (a.put o.dst u) w') fun v m' G' u w' => hfin v m' G' u w').mono fun e w' he => ?_
     obtain ⟨u, rfl, hu⟩ := he
     exact hu
    ·refine (callA_sound hE (vals := c.args.map a.eval) hs hM hT (by simp) hargs h (fin := fun u w' => next (a.put o.dst u) w') fun v m' G' u w' => hfin v m' G' u w').mono fun e w' he => ?_
     obtain ⟨u, rfl, hu⟩ := he
     exact hu
   ·cases h
  ·rename_i x hnf hx
   have hxr := Aeval_rel hT x
   split at h
   ·rename_i g xs hax
    rw [hax] at hxr
    obtain ⟨lb, e1, e2, e3⟩ := hxr
    split at h
    ·rename_i en hen
     obtain ⟨hs, fn, hfn, hname, hbody⟩ := hC g en hen
     have hrun : (execOp a.eval o).run P w = .ok (.enter g (c.args.map a.eval ++ lb)) w := by
      have h1 : ¬ fn.name = "runtime.NumGoroutine" := by simpa using hname
      have h2 : ¬ fn.body = none := by cases hb : fn.body <;> simp_all
      simp [execOp, hop, resolve, hx, e1, Deferred.ofValue, invoke, callFunc, hfn, h1, h2]
     rw [hrun]
     show Calls P g (c.args.map a.eval ++ lb) w _
     have hargs : ∀ (j : Nat) (b : AV E), (c.args.toList.map (Aeval ts) ++ roL xs)[j]? = some b → AVr E G w m n b ((c.args.map a.eval ++ lb).getD j undef) := fun j b hj => by
      have hsz : (c.args.toList.map (Aeval ts)).length = (c.args.map a.eval).size := by simp
      by_cases hjl : j < (c.args.map a.eval).size
      ·rw [List.getElem?_append_left (by omega)] at hj
       obtain ⟨y, hy, rfl⟩ := map_get _ _ _ hj
       have : (c.args.map a.eval ++ lb).getD j undef = a.eval y := by
        have hy' : c.args[j]? = some y := by rw [← Array.getElem?_toList]; exact hy
        rw [Array.getD_eq_getD_getElem?, Array.getElem?_append_left hjl, Array.getElem?_map, hy']; rfl
       rw [this]
       exact Aeval_rel hT y
      ·rw [List.getElem?_append_right (by omega)] at hj
       obtain ⟨q, hq, rfl⟩ := roL_get _ _ _ hj
       rw [hsz] at hq
       obtain ⟨ad, h3, h4⟩ := e3 _ q hq
       have : (c.args.map a.eval ++ lb).getD j undef = lb.getD (j - (c.args.map a.eval).size) undef := by
        rw [Array.getD_eq_getD_getElem?, Array.getElem?_append_right (by omega), ← Array.getD_eq_getD_getElem?]
       rw [this]
       exact ⟨ad, h3, h4⟩
     refine (callA_sound hE (vals := c.args.map a.eval ++ lb) hs hM hT (by simp [roL_len, e2]) hargs h (fin := fun u w' => next (a.put o.dst u) w') fun v m' G' u w' => hfin v m' G' u w').mono fun e w' he => ?_
     obtain ⟨u, rfl, hu⟩ := he
     exact hu
    ·cases h
   ·cases h
  ·cases h
 | makeFunc fn first caps =>
  cases fn with
  | func g =>
   rw [hop] at h
   simp only [evOp] at h
   split at h
   ·rename_i en hf hen
    split at h
    ·rename_i ids hids
     obtain ⟨c1, c2⟩ := capL_get hids
     have hfirst : first = #[] := by cases first; simp_all
     subst hfirst
     have hcap : ∀ (j : Nat) (p : Nat × TypeId), ids[j]? = some p → A1r E G w m n (.bp p.1 0) ((caps.map a.eval).getD j undef) := fun j p hj => by
      have hj' := c2 j p hj
      obtain ⟨x, hx, e⟩ := map_get _ _ _ hj'
      have : (caps.map a.eval).getD j undef = a.eval x := by
       have hx' : caps[j]? = some x := by rw [← Array.getElem?_toList]; exact hx
       rw [Array.getD_eq_getD_getElem?, Array.getElem?_map, hx']; rfl
      rw [this]
      have hr := Aeval_rel hT x
      rw [← e] at hr
      exact hr
     refine pure_ (u := .func (.func g) #[] (caps.map a.eval)) h (by simp [execOp, hop, Instr.makeFunc]) ?_
     refine ⟨rfl, fun p hp => ?_, caps.map a.eval, rfl, by rw [c1]; simp, fun j p cs hj hl => (hcap j p hj).2.2 cs hl⟩
     obtain ⟨j, hj⟩ := List.getElem?_of_mem hp
     exact (hcap j p hj).1
    ·cases h
   ·cases h
  | _ => rw [hop] at h; simp only [evOp] at h; cases h
 | _ => rw [hop] at h; simp only [evOp] at h; cases h
end
end Go.B
